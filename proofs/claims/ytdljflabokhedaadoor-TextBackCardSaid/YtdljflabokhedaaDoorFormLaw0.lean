/- Sentences: what a node more, or fewer nodes, mean. No program in sight. -/
import Derived.Test.YtdljflabokhedaaDoorMForm
namespace Go.Proofs.YtdljflabokhedaaDoor
open Go.RowKit
theorem ndsFrom_of (l:Nds) (i:Nat) (h: ∀k (hk:k < l.length),ndChk (i+k) l[k]=0):ndsFrom i l=0:=by
 induction l generalizing i with
 | nil=>rfl
 | cons n l ih=>
  have h0:=h 0 (by simp)
  simp only[Nat.add_zero,List.getElem_cons_zero] at h0
  simp only[ndsFrom,h0,if_true]
  refine ih (i+1) fun k hk=> ?_
  have:=h (k+1) (by simpa using hk)
  rw[show i+1+k=i+(k+1) from by omega];simpa using this
theorem formChk_of {l:Nds} (h0:0 < l.length) (h1:l.length≤30) (h: ∀k (hk:k < l.length),ndChk k l[k]=0):formChk l=0:=by
 unfold formChk
 rw[if_neg (by omega)]
 exact ndsFrom_of l 0 fun k hk=>by simpa using h k hk
theorem valsK_congr (l m:Nds) (t n:Int) (k:Nat) (h: ∀j,j < k→l.getD j ⟨0,0,0⟩=m.getD j ⟨0,0,0⟩):valsK l t n k=valsK m t n k:=by
 induction k with
 | zero=>rfl
 | succ k ih=>simp only[valsK];rw [ih fun j hj=>h j (by omega),h k (by omega)]
theorem valsK_app (l m:Nds) (t n:Int) (k:Nat) (h:k≤l.length):valsK (l++m) t n k=valsK l t n k:=
 valsK_congr _ _ _ _ _ fun j hj=>by simp[List.getD,List.getElem?_append_left (show j < l.length by omega)]
theorem valsK_get (l:Nds) (t n:Int) (j k:Nat) (h:j < k):(valsK l t n k).getD j false=(valsK l t n (j+1)).getD j false:=by
 induction k with
 | zero=>omega
 | succ k ih=>
  by_cases e:j=k
  ·subst e;rfl
  ·rw[←ih (by omega)]
   simp only[valsK,List.getD,List.getElem?_append_left (show j < (valsK l t n k).length by rw[valsK_length];omega)]
theorem valsK_last (l:Nds) (t n:Int) (k:Nat):(valsK l t n (k+1)).getD k false=ndVal (valsK l t n k) t n (l.getD k ⟨0,0,0⟩):=by
 simp[valsK,List.getD,valsK_length]
theorem formVal_snoc (l:Nds) (x:Nd) (t n:Int):formVal (l++[x]) t n=ndVal (valsK l t n l.length) t n x:=by
 unfold formVal
 rw[List.length_append,List.length_singleton,Nat.add_sub_cancel,valsK_last,valsK_app _ _ _ _ _ (Nat.le_refl _)]
 simp[List.getD]
end Go.Proofs.YtdljflabokhedaaDoor
