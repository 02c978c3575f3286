/- Towards what desk.Run answers. -/
import Derived.Test.YtajgndoiddmbmaaGreatDoorMPart5
import Derived.Test.YtajgndoiddmbmaaGreatDoorMGath
namespace Go.Proofs.YtajgndoiddmbmaaGreatDoor
set_option maxRecDepth 100000
set_option maxHeartbeats 40000000
open Go.RowKit
theorem FX {l:List Pt} {t n:Nat} (ht:t < 16) (hn:n < 32) (s c:Int):uZ l t n s c=De (l.map sem) t n s c:=by
 unfold uZ De;rw[List.any_map];congr 1;funext x;simp only[Function.comp_apply,yY,sem,fS ht hn]
theorem DU.GK {l:List Pt} (hok: ∀x∈l,eG x) (hl:(l.map sem).length≤30):bE l=0:=fo.2 ⟨by rw[List.length_map] at hl;exact hl,hok⟩
theorem Ja {A:List SP} {p q:Nat→Nat→Bool} (hA: ∀x∈A,ql x) (h: ∀t n,t < 16→n < 32→p t n=q t n):cN A p=cN A q:=by
 unfold cN;congr 1;refine List.map_congr_left fun x hx=> ?_;congr 1;funext t n;by_cases hr:t < 16∧n < 32
 ·rw[h t n hr.1 hr.2]
 ·rw[(hA x hx).p t n hr];rfl
def zw (A:List SP) (t n s c:Int):Bool:=eP t n&&bX (s,c)&&De A t.toNat n.toNat s c
def rM (t n s c:Int):Int:=if (eP t n&&bX (s,c))=true then 0 else 1
theorem yX {t n:Int} (h:eP t n=true):0≤t∧t≤15∧0≤n∧n < 32:=by
 simp only[eP,rG,Bool.and_eq_true,decide_eq_true_eq] at h;omega
theorem Yx (va:Value) (A:List SP) (t n s c:Int) (w:World) (ha:DU w va A) (la:A.length≤30):
  Calls Tryz.prog 101 #[va, .agg #[.int .i64 t, .int .i64 n], .agg #[.int .i64 s, .int .i64 c]] w fun e w'=>e= .returned (.tuple #[.bool (zw A t n s c), .int .i64 (rM t n s c)])∧Below w.heap.size w w':=by
 obtain⟨a,h1,h2,rfl⟩:=ha;have h0:=DU.GK h2 la;refine(SR va a t n s c w h1).mono ?_;rintro e w' ⟨rfl,hb⟩;have e1:rR a t n s c=zw (a.map sem) t n s c:=by
  unfold rR zw;rw[h0,decide_eq_true rfl,Bool.true_and];cases hp:eP t n
  ·rfl
  ·obtain⟨h3,h4,h5,h6⟩:=yX hp;have:=FX (l:=a) (t:=t.toNat) (n:=n.toNat) (by omega) (by omega) s c;rw[Int.toNat_of_nonneg h3,Int.toNat_of_nonneg h5] at this;rw[this]
 have e2:pg a t n s c=rM t n s c:=by unfold pg rM;rw [if_pos h0]
 rw[e1,e2];exact⟨rfl,hb⟩
end Go.Proofs.YtajgndoiddmbmaaGreatDoor
