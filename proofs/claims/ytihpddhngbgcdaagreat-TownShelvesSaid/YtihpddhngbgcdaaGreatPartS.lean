/- Package part, told by what parts say. -/
import Derived.Test.YtihpddhngbgcdaaGreatMPart5
import Derived.Test.YtihpddhngbgcdaaGreatMGath
import Derived.Test.YtihpddhngbgcdaaGreatMPart1
import Derived.Test.YtihpddhngbgcdaaGreatMClone
import Derived.Test.YtihpddhngbgcdaaGreatMKnow5
import Derived.Test.YtihpddhngbgcdaaGreatMClaims
import Derived.Test.YtihpddhngbgcdaaGreatMFilterP
namespace Go.Proofs.YtihpddhngbgcdaaGreat
open Go.RowKit
theorem pts_knows {l:List Pt} {t n:Nat} (ht:t < 16) (hn:n < 32) (s c:Int):ptsIn l t n s c=knowsS (l.map sem) t n s c:=by
 unfold ptsIn knowsS
 rw[List.any_map]
 congr 1
 funext x
 simp only[Function.comp_apply,ptIn,sem,ptsOf_in ht hn]
theorem PtsSem.chk {l:List Pt} (hok: ∀x∈l,PtOk x) (hl:(l.map sem).length≤30):ptsChk l=0:=ptsChk_zero.2 ⟨by rw[List.length_map] at hl;exact hl,hok⟩
theorem narrow_congr {A:List SP} {p q:Nat→Nat→Bool} (hA: ∀x∈A,SPOk x) (h: ∀t n,t < 16→n < 32→p t n=q t n):narrowS A p=narrowS A q:=by
 unfold narrowS
 congr 1
 refine List.map_congr_left fun x hx=> ?_
 congr 1
 funext t n
 by_cases hr:t < 16∧n < 32
 ·rw[h t n hr.1 hr.2]
 ·rw[(hA x hx).p t n hr];rfl
def hasS (A:List SP) (t n s c:Int):Bool:=ptOk t n&&dotOk (s,c)&&knowsS A t.toNat n.toNat s c
def hasSE (t n s c:Int):Int:=if (ptOk t n&&dotOk (s,c))=true then 0 else 1
theorem pt_rng {t n:Int} (h:ptOk t n=true):0≤t∧t≤15∧0≤n∧n < 32:=by
 simp only[ptOk,tagsB,Bool.and_eq_true,decide_eq_true_eq] at h;omega
set_option maxRecDepth 100000 in
theorem phas_s (va:Value) (A:List SP) (t n s c:Int) (w:World) (ha:PtsSem w va A) (la:A.length≤30):
  Calls Tryz.prog 131 #[va, .agg #[.int .i64 t, .int .i64 n], .agg #[.int .i64 s, .int .i64 c]] w fun e w'=>e= .returned (.tuple #[.bool (hasS A t n s c), .int .i64 (hasSE t n s c)])∧Below w.heap.size w w':=by
 obtain⟨a,h1,h2,rfl⟩:=ha
 have h0:=PtsSem.chk h2 la
 refine(ptsHas_c va a t n s c w h1).mono ?_
 rintro e w' ⟨rfl,hb⟩
 have e1:ptsHas a t n s c=hasS (a.map sem) t n s c:=by
  unfold ptsHas hasS
  rw[h0,decide_eq_true rfl,Bool.true_and]
  cases hp:ptOk t n
  ·rfl
  ·obtain⟨h3,h4,h5,h6⟩:=pt_rng hp
   have:=pts_knows (l:=a) (t:=t.toNat) (n:=n.toNat) (by omega) (by omega) s c
   rw[Int.toNat_of_nonneg h3,Int.toNat_of_nonneg h5] at this
   rw[this]
 have e2:ptsHasE a t n s c=hasSE t n s c:=by unfold ptsHasE hasSE;rw [if_pos h0]
 rw[e1,e2]
 exact⟨rfl,hb⟩
end Go.Proofs.YtihpddhngbgcdaaGreat
