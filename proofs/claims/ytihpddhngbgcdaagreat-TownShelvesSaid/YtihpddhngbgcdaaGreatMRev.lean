/- Filters of the call's own; what a sentence's nodes are as filters. What the reference's SameVersion and SameShelf do. The closures of ShelfOrder, and cuts and joins of rows of versions. -/
import Derived.Test.YtihpddhngbgcdaaGreatMFilter4
import Derived.Test.YtihpddhngbgcdaaGreatMForm
import Derived.Test.YtihpddhngbgcdaaGreatMShelf1
import Derived.Test.YtihpddhngbgcdaaGreatMKnow5
import Derived.Test.YtihpddhngbgcdaaGreatShelf13
import Derived.Test.YtihpddhngbgcdaaGreatMShelfP
import Derived.Test.YtihpddhngbgcdaaGreatMDots4
import Derived.Test.YtihpddhngbgcdaaGreatMShelf11
import Derived.Test.YtihpddhngbgcdaaGreatMClaims
import Derived.Test.YtihpddhngbgcdaaGreatRowOps
import Derived.Test.YtihpddhngbgcdaaGreatMDots
import Derived.Test.YtihpddhngbgcdaaGreatMClone
import Derived.Test.YtihpddhngbgcdaaGreatChecked
import Derived.Lib.AppendZeros
namespace Go.Proofs.YtihpddhngbgcdaaGreat
open Go.RowKit
def FO (w:World) (base:Nat) (v:Value) (p:Nat→Nat→Bool):Prop:= ∃l,BxsOwn w base 134 129 v l∧fChk l=0∧ ∀k n:Nat,k < 16→n < 32→inF l k n=p k n
theorem FO.below {w w':World} {base:Nat} {v:Value} {p:Nat→Nat→Bool} (h:FO w base v p) (hb:Below w.heap.size w w'):FO w' base v p:=by
 obtain⟨l,h1,h2,h3⟩:=h;exact ⟨l,h1.below hb,h2,h3⟩
theorem FO.mono {w:World} {base base':Nat} {v:Value} {p:Nat→Nat→Bool} (h:FO w base v p) (hb:base'≤base):FO w base' v p:=by
 obtain⟨l,h1,h2,h3⟩:=h;exact ⟨l,h1.mono hb,h2,h3⟩
theorem boxOwn {w:World} {base g h:Nat} {y n:Int} {s:Int×Int} (hg:base≤g) (hh:base≤h) (h1:w.heap[g]? =some (.cells #[.int .i64 s.1, .int .i64 s.2] 129 (0,0)))
  (h2:w.heap[h]? =some (.cells #[.int .i64 y, .int .i64 n, .slice (some ⟨g,0,none⟩) 1 1] 134 (0,0))):
  BxsOwn w base 134 129 (.slice (some ⟨h,0,none⟩) 1 1) [⟨y,n,[s]⟩]:=by
 refine⟨[.slice (some ⟨g,0,none⟩) 1 1],rfl,⟨rfl, .inr ⟨h,1,_,rfl,hh,h2,Nat.le_refl _,by decide,rfl,rfl⟩⟩,fun i hi hi'=> ?_⟩
 obtain rfl:i=0:=by simp at hi;omega
 exact⟨rfl, .inr ⟨g,1,_,rfl,hg,h1,Nat.le_refl _,by decide,rfl,rfl⟩⟩
set_option maxRecDepth 100000 in
theorem everyO (w:World):Calls Tryz.prog 20 #[] w fun e w'=>e= .returned (.slice (some ⟨w.heap.size+1,0,none⟩) 1 1)∧
  w'=(w.alloc (.cells #[.int .i64 0, .int .i64 32] 129)).alloc (.cells #[.int .i64 0, .int .i64 0, .slice (some ⟨w.heap.size,0,none⟩) 1 1] 134):=by
 go_enter Tryz.func20,Tryz.ntmps20
 go_wp2
 go_ret
 exact⟨rfl,rfl⟩
theorem all_pts: ∀t:Nat,t < 16→cubeIn 0 0 (t:Int)=true:=by decide+kernel
def EveryPost (w:World) (e:Ending) (w':World):Prop:= ∃g h:Nat,e= .returned (.slice (some ⟨h,0,none⟩) 1 1)∧w.heap.size≤g∧w.heap.size≤h∧g≠h∧w'.heap[g]? =some (.cells #[.int .i64 0, .int .i64 32] 129 (0,0))∧
 w'.heap[h]? =some (.cells #[.int .i64 0, .int .i64 0, .slice (some ⟨g,0,none⟩) 1 1] 134 (0,0))∧Below w.heap.size w w'
set_option maxRecDepth 100000 in
theorem everyX (w:World):Calls Tryz.prog 20 #[] w (EveryPost w):=by
 refine(everyO w).mono ?_
 rintro e w' ⟨rfl,rfl⟩
 refine⟨w.heap.size,w.heap.size+1,rfl,Nat.le_refl _,by omega,by omega,(heap_alloc_old _ _ (by simp)).trans (heap_alloc_new _ _), ?_,(bal _).alloc (by simp) _⟩
 have h:=fun (o1 o2:Obj)=>heap_alloc_new (w.alloc o1) o2
 simp only[World.size_alloc] at h
 exact h _ _
end Go.Proofs.YtihpddhngbgcdaaGreat
namespace Go.Proofs.YtihpddhngbgcdaaGreat
open Go.RowKit
set_option maxRecDepth 100000 in
theorem eqPoint (a b c d:Int) (w:World):(Op.equalIn 10000 39 (.agg #[.int .i64 a, .int .i64 b]) (.agg #[.int .i64 c, .int .i64 d])).run Tryz.prog w= .ok (a==c&&b==d) w:=by
 have u3:=Tryz.underlying3
 have a3:=Tryz.isAgg3
 have z3:=Tryz.sizeOf3
 rw[show(10000:Nat)=9999+1 from rfl,run_equalIn_agg w 9999 39 _ _ (by kernel_rfl) (by kernel_rfl)]
 simp only[Program.fieldsOf,Tryz.underlying39]
 go_simp
 by_cases h1:a=c <;> by_cases h2:b=d <;> simp[h1,h2]
def sameVB (a b:Ver):Bool:=decide (a.id=b.id)&&(a.ds==b.ds&&a.dc==b.dc)&&(a.tg==b.tg&&a.nm==b.nm)&&(a.bd==b.bd)&&decide (a.past=b.past)
theorem sameVB_iff (a b:Ver):sameVB a b=true↔a=b:=by
 obtain⟨i,d,c,t,n,o,p⟩:=a
 obtain⟨i',d',c',t',n',o',p'⟩:=b
 simp only[sameVB,Bool.and_eq_true,decide_eq_true_eq,beq_iff_eq,Ver.mk.injEq]
 constructor
 ·rintro⟨⟨⟨⟨h1,h2,h3⟩,h4,h5⟩,h6⟩,h7⟩;exact ⟨h1,h2,h3,h4,h5,h6,h7⟩
 ·rintro⟨h1,h2,h3,h4,h5,h6,h7⟩;exact ⟨⟨⟨⟨h1,h2,h3⟩,h4,h5⟩,h6⟩,h7⟩
set_option maxRecDepth 100000 in
set_option maxHeartbeats 2000000 in
theorem sameV_c (a b:Ver) (u x y z:Value) (w:World) (ha:KnAt w u x a.past) (hb:KnAt w y z b.past):
  Calls Tryz.prog 39 #[.agg (verC a u x), .agg (verC b y z)] w fun e w'=>e= .returned (.bool (sameVB a b))∧Below w.heap.size w w':=by
 obtain⟨xa,ca,rfl⟩:=ha.vec.shape
 obtain⟨ya,da,rfl⟩:=ha.more.shape
 obtain⟨xb,cb,rfl⟩:=hb.vec.shape
 obtain⟨yb,db,rfl⟩:=hb.more.shape
 obtain⟨W,hW⟩: ∃W,W=(w.alloc (.cells (verC a (.slice xa a.past.vec.length ca) (.slice ya a.past.more.length da)) 75)).alloc (.cells (verC b (.slice xb b.past.vec.length cb) (.slice yb b.past.more.length db)) 75):=⟨_,rfl⟩
 have hbel:Below w.heap.size w W:=by rw[hW];exact (bal _).alloc (by simp) _
 have hA:=ha.below hbel
 have hB:=hb.below hbel
 have HO:=Lib.hid (show sameVB a b=(decide (a.id=b.id)&&(a.ds==b.ds&&a.dc==b.dc)&&(a.tg==b.tg&&a.nm==b.nm)&&(a.bd==b.bd)&&decide (a.past=b.past)) from rfl)
 have hids:=ids_eq a.id b.id
 have hqd:=fun w=>eqDot a.ds a.dc b.ds b.dc w
 have hqp:=fun w=>eqPoint a.tg a.nm b.tg b.nm w
 clear ha hb
 unfold verC at hW ⊢
 generalize h0:decide (a.id=b.id)=q0 at*
 generalize h1:(a.ds==b.ds&&a.dc==b.dc)=q1 at*
 generalize h2:(a.tg==b.tg&&a.nm==b.nm)=q2 at*
 generalize h3:(a.bd==b.bd)=q3 at*
 clear h0 h1 h2
 cases hq:(q0&&q1&&q2&&q3)
 ·have H:=Lib.hid (show sameVB a b=false by rw[HO.out,hq];rfl)
  rw[hW] at hbel
  clear hA hB hW HO
  have HQ:=Lib.hid hq
  clear hq
  cases q0
  ·go_enter Tryz.func39,Tryz.ntmps39
   go_wp2
   go_ret
   exact⟨by rw[H.out];rfl,hbel⟩
  cases q1
  ·go_enter Tryz.func39,Tryz.ntmps39
   go_wp2
   go_ret
   exact⟨by rw[H.out];rfl,hbel⟩
  cases q2
  ·go_enter Tryz.func39,Tryz.ntmps39
   go_wp2
   go_ret
   exact⟨by rw[H.out];rfl,hbel⟩
  cases q3
  ·go_enter Tryz.func39,Tryz.ntmps39
   go_wp2
   go_ret
   exact⟨by rw[H.out];rfl,hbel⟩
  exact absurd HQ.out (by decide)
 ·have H:=Lib.hid (show sameVB a b=decide (a.past=b.past) by rw[HO.out,hq];rfl)
  simp only[Bool.and_eq_true] at hq
  obtain⟨⟨⟨rfl,rfl⟩,rfl⟩,rfl⟩:=hq
  clear HO
  go_enter Tryz.func39,Tryz.ntmps39
  go_wp2_with fail
  rw[←hW]
  clear hW
  (with_reducible refine(sameK_c _ _ _ _ a.past b.past _ hA hB).mono ?_)
  rintro e w4 ⟨rfl,hb⟩
  replace hbel:=bstep hbel hb
  clear hb
  go_wp2
  go_ret
  exact⟨by rw[H.out];rfl,hbel⟩
end Go.Proofs.YtihpddhngbgcdaaGreat
namespace Go.Proofs.YtihpddhngbgcdaaGreat
open Go.RowKit
theorem VOwn.shape {w:World} {base:Nat} {v:Value} {l:List Ver} (h:VOwn w base v l): ∃a c,v=Value.slice a l.length c:=by
 obtain⟨css, -,h2⟩:=h
 exact owns_slice h2
end Go.Proofs.YtihpddhngbgcdaaGreat
