/- Filters of the call's own; what a sentence's nodes are as filters. The closures of ShelfOrder, and cuts and joins of rows of versions. -/
import Derived.Test.YtgkgdedhicnohaaGreatMFilter4
import Derived.Test.YtgkgdedhicnohaaGreatMShelf13
import Derived.Test.YtgkgdedhicnohaaGreatMShelf7
import Derived.Test.YtgkgdedhicnohaaGreatChecked
import Derived.Laws.Bits64b
import Derived.Deep.QuietTactic
import Derived.BigQuiet
import Derived.Lib.AppendZeros
namespace Go.Proofs.YtgkgdedhicnohaaGreat
set_option maxRecDepth 100000
set_option maxHeartbeats 40000000
open Go.RowKit
def FO (w:World) (base:Nat) (v:Value) (p:Nat→Nat→Bool):Prop:= ∃l,BxsOwn w base 124 119 v l∧fChk l=0∧ ∀k n:Nat,k < 16→n < 32→inF l k n=p k n
theorem FO.below {w w':World} {base:Nat} {v:Value} {p:Nat→Nat→Bool} (h:FO w base v p) (hb:Below w.heap.size w w'):FO w' base v p:=by
 obtain⟨l,h1,h2,h3⟩:=h;exact ⟨l,h1.below hb,h2,h3⟩
theorem FO.mono {w:World} {base base':Nat} {v:Value} {p:Nat→Nat→Bool} (h:FO w base v p) (hb:base'≤base):FO w base' v p:=by
 obtain⟨l,h1,h2,h3⟩:=h;exact ⟨l,h1.mono hb,h2,h3⟩
theorem boxOwn {w:World} {base g h:Nat} {y n:Int} {s:Int×Int} (hg:base≤g) (hh:base≤h) (h1:w.heap[g]? =some (.cells #[.int .i64 s.1, .int .i64 s.2] 119 (0,0)))
  (h2:w.heap[h]? =some (.cells #[.int .i64 y, .int .i64 n, .slice (some ⟨g,0,none⟩) 1 1] 124 (0,0))):
  BxsOwn w base 124 119 (.slice (some ⟨h,0,none⟩) 1 1) [⟨y,n,[s]⟩]:=by
 refine⟨[.slice (some ⟨g,0,none⟩) 1 1],rfl,⟨rfl, .inr ⟨h,1,_,rfl,hh,h2,Nat.le_refl _,by decide,rfl,rfl⟩⟩,fun i hi hi'=> ?_⟩
 obtain rfl:i=0:=by simp at hi;omega
 exact⟨rfl, .inr ⟨g,1,_,rfl,hg,h1,Nat.le_refl _,by decide,rfl,rfl⟩⟩
theorem everyO (w:World):Calls Tryz.prog 15 #[] w fun e w'=>e= .returned (.slice (some ⟨w.heap.size+1,0,none⟩) 1 1)∧
  w'=(w.alloc (.cells #[.int .i64 0, .int .i64 32] 119)).alloc (.cells #[.int .i64 0, .int .i64 0, .slice (some ⟨w.heap.size,0,none⟩) 1 1] 124):=by
 go_enter Tryz.func15,Tryz.ntmps15
 go_wp2
 go_ret
 exact⟨rfl,rfl⟩
theorem all_pts: ∀t:Nat,t < 16→cubeIn 0 0 (t:Int)=true:=by decide+kernel
def EveryPost (w:World) (e:Ending) (w':World):Prop:= ∃g h:Nat,e= .returned (.slice (some ⟨h,0,none⟩) 1 1)∧w.heap.size≤g∧w.heap.size≤h∧g≠h∧w'.heap[g]? =some (.cells #[.int .i64 0, .int .i64 32] 119 (0,0))∧
 w'.heap[h]? =some (.cells #[.int .i64 0, .int .i64 0, .slice (some ⟨g,0,none⟩) 1 1] 124 (0,0))∧Below w.heap.size w w'
theorem everyX (w:World):Calls Tryz.prog 15 #[] w (EveryPost w):=by
 refine(everyO w).mono ?_
 rintro e w' ⟨rfl,rfl⟩
 refine⟨w.heap.size,w.heap.size+1,rfl,Nat.le_refl _,by omega,by omega,(heap_alloc_old _ _ (by simp)).trans (heap_alloc_new _ _), ?_,(bal _).alloc (by simp) _⟩
 have h:=fun (o1 o2:Obj)=>heap_alloc_new (w.alloc o1) o2
 simp only[World.size_alloc] at h
 exact h _ _
theorem VOwn.shape {w:World} {base:Nat} {v:Value} {l:List Ver} (h:VOwn w base v l): ∃a c,v=Value.slice a l.length c:=by
 obtain⟨css, -,h2⟩:=h
 exact owns_slice h2
end Go.Proofs.YtgkgdedhicnohaaGreat
