/- Package part, told by what parts say. -/
import Derived.Test.YtgkgdedhicnohaaGreatMPart5
import Derived.Test.YtgkgdedhicnohaaGreatMGath
namespace Go.Proofs.YtgkgdedhicnohaaGreat
open Go.RowKit
theorem pts_knows {l:List Pt} {t n:Nat} (ht:t < 16) (hn:n < 32) (s c:Int):ptsIn l t n s c=knowsS (l.map sem) t n s c:=by
 unfold ptsIn knowsS
 rw[List.any_map]
 congr 1
 funext x
 simp only[Function.comp_apply,ptIn,sem,ptsOf_in ht hn]
theorem narrow_congr {A:List SP} {p q:Nat→Nat→Bool} (hA: ∀x∈A,SPOk x) (h: ∀t n,t < 16→n < 32→p t n=q t n):narrowS A p=narrowS A q:=by
 unfold narrowS
 congr 1
 refine List.map_congr_left fun x hx=> ?_
 congr 1
 funext t n
 by_cases hr:t < 16∧n < 32
 ·rw[h t n hr.1 hr.2]
 ·rw[(hA x hx).p t n hr];rfl
theorem pt_rng {t n:Int} (h:ptOk t n=true):0≤t∧t≤15∧0≤n∧n < 32:=by
 simp only[ptOk,tagsB,Bool.and_eq_true,decide_eq_true_eq] at h;omega
end Go.Proofs.YtgkgdedhicnohaaGreat
