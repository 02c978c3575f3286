/- Towards what desk.Run answers. -/
import Derived.Test.YtajgndoiddmbmaaGreatDoorMFilter4
import Derived.Test.YtajgndoiddmbmaaGreatDoorMTxB
import Derived.Test.YtajgndoiddmbmaaGreatDoorMShelf13
namespace Go.Proofs.YtajgndoiddmbmaaGreatDoor
set_option maxRecDepth 100000
set_option maxHeartbeats 40000000
open Go.RowKit
def FO (w:World) (base:Nat) (v:Value) (p:Nat→Nat→Bool):Prop:= ∃l,cB w base 177 179 v l∧bP l=0∧ ∀k n:Nat,k < 16→n < 32→cE l k n=p k n
theorem FO.below {w w':World} {base:Nat} {v:Value} {p:Nat→Nat→Bool} (h:FO w base v p) (hb:Below w.heap.size w w'):FO w' base v p:=by
 obtain⟨l,h1,h2,h3⟩:=h;exact ⟨l,h1.below hb,h2,h3⟩
theorem FO.low {w:World} {base g j:Nat} {v u:Value} {p:Nat→Nat→Bool} (h:FO w base v p) (hg:g < base):FO (w.setCell ⟨g,j,none⟩ u) base v p:=by
 obtain⟨l,h1,h2,h3⟩:=h;exact ⟨l,h1.low hg,h2,h3⟩
theorem FO.mono {w:World} {base base':Nat} {v:Value} {p:Nat→Nat→Bool} (h:FO w base v p) (hb:base'≤base):FO w base' v p:=by
 obtain⟨l,h1,h2,h3⟩:=h;exact ⟨l,h1.mono hb,h2,h3⟩
theorem FO.congr {w:World} {base:Nat} {v:Value} {p q:Nat→Nat→Bool} (h:FO w base v p) (hpq: ∀k n:Nat,k < 16→n < 32→p k n=q k n):FO w base v q:=by
 obtain⟨l,h1,h2,h3⟩:=h;exact ⟨l,h1,h2,fun k n hk hn=>(h3 k n hk hn).trans (hpq k n hk hn)⟩
theorem FO.fv {w:World} {base:Nat} {v:Value} {p:Nat→Nat→Bool} (h:FO w base v p):FV w v p:=by
 obtain⟨l,h1,h2,h3⟩:=h;obtain⟨k1,k2⟩:=gj.1 h2;exact⟨l,h1.at_ (by omega) k2,h2,h3⟩
theorem FO.shape {w:World} {base:Nat} {v:Value} {p:Nat→Nat→Bool} (h:FO w base v p): ∃a n c,v= .slice a n c:=h.fv.shape
theorem FO.I6 {base:Nat} {w:World} {v:Value} {p q:Nat→Nat→Bool} (h:CA base w v 0 p) (hpq: ∀k n:Nat,k < 16→n < 32→p k n=q k n):FO w base v q:=by
 obtain⟨l,h1,h2⟩:=h.1 rfl;exact⟨l,h1,h2.GK,fun k n hk hn=>(h2.pts k n hk hn).trans (hpq k n hk hn)⟩
theorem ab9 (va vb:Value) (p q:Nat→Nat→Bool) (w:World) (ha:FV w va p) (hb:FV w vb q):
  Calls Tryz.prog 117 #[va,vb] w fun e w'=> ∃v,e= .returned (.tuple #[v, .int .i64 0])∧FO w' w.heap.size v (fun k n=>p k n || q k n)∧Below w.heap.size w w':=by
 obtain⟨f,f1,f2,f3⟩:=ha;obtain ⟨g,g1,g2,g3⟩:=hb;have h0:dI f g=0:=by simp[dI,f2,g2]
 refine(Xu va vb f g w f1 g1).mono ?_;rintro e w' ⟨v,rfl,ho,hb⟩;rw[h0] at ho ⊢;exact⟨v,rfl,FO.I6 ho fun k n hk hn=>by rw[f3 k n hk hn,g3 k n hk hn],hb⟩
theorem ab6 (va vb:Value) (p q:Nat→Nat→Bool) (w:World) (ha:FV w va p) (hb:FV w vb q):
  Calls Tryz.prog 116 #[va,vb] w fun e w'=> ∃v,e= .returned (.tuple #[v, .int .i64 0])∧FO w' w.heap.size v (fun k n=>p k n&&q k n)∧Below w.heap.size w w':=by
 obtain⟨f,f1,f2,f3⟩:=ha;obtain ⟨g,g1,g2,g3⟩:=hb;have h0:dI f g=0:=by simp[dI,f2,g2]
 refine(L4 va vb f g w f1 g1).mono ?_;rintro e w' ⟨v,rfl,ho,hb⟩;rw[h0] at ho ⊢;exact⟨v,rfl,FO.I6 ho fun k n hk hn=>by rw[f3 k n hk hn,g3 k n hk hn],hb⟩
theorem ab7 (va vb:Value) (p q:Nat→Nat→Bool) (w:World) (ha:FV w va p) (hb:FV w vb q):
  Calls Tryz.prog 115 #[va,vb] w fun e w'=> ∃v,e= .returned (.tuple #[v, .int .i64 0])∧FO w' w.heap.size v (fun k n=>p k n&& !q k n)∧Below w.heap.size w w':=by
 obtain⟨f,f1,f2,f3⟩:=ha;obtain ⟨g,g1,g2,g3⟩:=hb;have h0:dI f g=0:=by simp[dI,f2,g2]
 refine(L5 va vb f g w f1 g1).mono ?_;rintro e w' ⟨v,rfl,ho,hb⟩;rw[h0] at ho ⊢;exact⟨v,rfl,FO.I6 ho fun k n hk hn=>by rw[f3 k n hk hn,g3 k n hk hn],hb⟩
theorem zM {w:World} {base g h:Nat} {y n:Int} {s:Int×Int} (hg:base≤g) (hh:base≤h) (h1:w.heap[g]? =some (.cells #[.int .i64 s.1, .int .i64 s.2] 179 (0,0)))
  (h2:w.heap[h]? =some (.cells #[.int .i64 y, .int .i64 n, .slice (some ⟨g,0,none⟩) 1 1] 177 (0,0))):
  cB w base 177 179 (.slice (some ⟨h,0,none⟩) 1 1) [⟨y,n,[s]⟩]:=by
 refine⟨[.slice (some ⟨g,0,none⟩) 1 1],rfl,⟨rfl, .inr ⟨h,1,_,rfl,hh,h2,Nat.le_refl _,by decide,rfl,rfl⟩⟩,fun i hi hi'=> ?_⟩;obtain rfl:i=0:=by simp at hi;omega
 exact⟨rfl, .inr ⟨g,1,_,rfl,hg,h1,Nat.le_refl _,by decide,rfl,rfl⟩⟩
theorem ZU (w:World):Calls Tryz.prog 114 #[] w fun e w'=>e= .returned (.slice (some ⟨w.heap.size+1,0,none⟩) 1 1)∧
  w'=(w.alloc (.cells #[.int .i64 0, .int .i64 32] 179)).alloc (.cells #[.int .i64 0, .int .i64 0, .slice (some ⟨w.heap.size,0,none⟩) 1 1] 177):=by
 go_enter Tryz.func114,Tryz.ntmps114;go_wp2;go_ret;exact⟨rfl,rfl⟩
theorem WI: ∀t:Nat,t < 16→ ∀a:Nat,a < 4→dK ((2:Int)^a) 0 (t:Int)=(bits .and .i64 ((t:Int) / 2^a) 1==1):=by decide+kernel
theorem Fl: ∀t:Nat,t < 16→dK 0 0 (t:Int)=true:=by decide+kernel
theorem WK: ∀a:Nat,a < 4→eo ((2:Int)^a) 0=0:=by decide+kernel
def cD (l:cH) (j:Nat):Nat→Nat→Bool:=fun t n=>(valsK l (t:Int) (n:Int) (j+1)).getD j false
theorem Ta (l:cH) (j:Nat) (t n:Nat):cD l j t n=tK (valsK l (t:Int) (n:Int) j) (t:Int) (n:Int) (l.getD j ⟨0,0,0⟩):=Na l _ _ j
theorem pY (l:cH) (i j:Nat) (h:i < j) (t n:Nat):(valsK l (t:Int) (n:Int) j).getD i false=cD l i t n:=Pd l _ _ i j h
def R6 (w:World) (e:Ending) (w':World):Prop:= ∃g h:Nat,e= .returned (.slice (some ⟨h,0,none⟩) 1 1)∧w.heap.size≤g∧w.heap.size≤h∧g≠h∧w'.heap[g]? =some (.cells #[.int .i64 0, .int .i64 32] 179 (0,0))∧
 w'.heap[h]? =some (.cells #[.int .i64 0, .int .i64 0, .slice (some ⟨g,0,none⟩) 1 1] 177 (0,0))∧Below w.heap.size w w'
theorem zF (w:World):Calls Tryz.prog 114 #[] w (R6 w):=by
 refine(ZU w).mono ?_;rintro e w' ⟨rfl,rfl⟩;refine⟨w.heap.size,w.heap.size+1,rfl,Nat.le_refl _,by omega,by omega,(heap_alloc_old _ _ (by simp)).trans (heap_alloc_new _ _), ?_,(aG _).alloc (by simp) _⟩;have h:=fun (o1 o2:Obj)=>heap_alloc_new (w.alloc o1) o2;simp only[World.size_alloc] at h;exact h _ _
theorem JT {w:World} {base g h:Nat} (hg:base≤g) (hh:base≤h) (h1:w.heap[g]? =some (.cells #[.int .i64 0, .int .i64 32] 179 (0,0)))
  (h2:w.heap[h]? =some (.cells #[.int .i64 0, .int .i64 0, .slice (some ⟨g,0,none⟩) 1 1] 177 (0,0))):FO w base (.slice (some ⟨h,0,none⟩) 1 1) (fun _ _=>true):=
 ⟨_,zM (s:=(0,32)) hg hh h1 h2,by decide,fun k n hk hn=>by simp[cE,Fl k hk,jM];omega⟩
theorem Yj {w:World} {base g h a:Nat} (ha:a < 4) (hg:base≤g) (hh:base≤h) (h1:w.heap[g]? =some (.cells #[.int .i64 0, .int .i64 32] 179 (0,0)))
  (h2:w.heap[h]? =some (.cells #[.int .i64 ((2:Int)^a), .int .i64 0, .slice (some ⟨g,0,none⟩) 1 1] 177 (0,0))):FO w base (.slice (some ⟨h,0,none⟩) 1 1) (fun t _=>bits .and .i64 ((t:Int) / 2^a) 1==1):=by
 refine⟨_,zM (s:=(0,32)) hg hh h1 h2, ?_,fun k n hk hn=> ?_⟩
 ·exact gj.2 ⟨by simp,fun b hb=>by simp at hb;subst hb;exact lY.2 ⟨WK a ha,show dH [(0,32)]=0 by decide⟩⟩
 ·have hin:(decide (0≤(n:Int))&&decide ((n:Int) < 32))=true:=by simp;omega
  show cE _ _ _=(bits .and .i64 ((k:Int) / 2^a) 1==1);rw[←WI k hk a ha];simp only[cE,jM,List.any_cons,List.any_nil,Bool.or_false,hin,Bool.and_true]
theorem ace {w:World} {base g h:Nat} {a b:Int} (ha:0≤a) (hab:a < b) (hb:b≤32) (hg:base≤g) (hh:base≤h) (h1:w.heap[g]? =some (.cells #[.int .i64 a, .int .i64 b] 179 (0,0)))
  (h2:w.heap[h]? =some (.cells #[.int .i64 0, .int .i64 0, .slice (some ⟨g,0,none⟩) 1 1] 177 (0,0))):FO w base (.slice (some ⟨h,0,none⟩) 1 1) (fun _ n=>decide (a≤n)&&decide ((n:Int) < b)):=by
 refine⟨_,zM (s:=(a,b)) hg hh h1 h2, ?_,fun k n hk hn=> ?_⟩
 ·refine gj.2 ⟨by simp,fun x hx=> ?_⟩;simp at hx;subst hx;refine lY.2 ⟨show eo 0 0=0 by decide+kernel, ?_⟩;simp only[dH,List.length_singleton,chkFrom];rw[if_neg (by omega),if_neg (by omega),if_neg (by omega)]
 ·simp only[cE,jM,List.any_cons,List.any_nil,Bool.or_false,Fl k hk,Bool.true_and]
theorem bA.shape {w:World} {base:Nat} {v:Value} {l:List aA} (h:bA w base v l): ∃a c,v=Value.slice a l.length c:=by
 obtain⟨css, -,h2⟩:=h;exact ay h2
end Go.Proofs.YtajgndoiddmbmaaGreatDoor
