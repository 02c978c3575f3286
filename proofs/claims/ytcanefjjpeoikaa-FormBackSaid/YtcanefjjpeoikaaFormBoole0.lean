/- Sentences of FormBoole: a sentence with nodes behind it. No program in sight. -/
import Derived.Test.YtcanefjjpeoikaaFormLaw0
namespace Go.Proofs.Ytcanefjjpeoikaa
open Go.RowKit
theorem vals_snoc (l : Nds) (x : Nd) (t n : Int) : valsK (l ++ [x]) t n (l ++ [x]).length = valsK l t n l.length ++ [ndVal (valsK l t n l.length) t n x] := by
  rw [List.length_append, List.length_singleton]
  simp only [valsK]
  rw [valsK_app _ _ _ _ _ (Nat.le_refl _)]
  simp [List.getD]
theorem bl_chk {l : Nds} (h : formChk l = 0) : 0 < l.length := (formChk_all h).1
theorem getD_app_lt {V W : List Bool} {i : Nat} (h : i < V.length) : (V ++ W).getD i false = V.getD i false := by simp [List.getD, List.getElem?_append_left h]
theorem getD_app_last {V : List Bool} {b : Bool} {i : Nat} (h : i = V.length) : (V ++ [b]).getD i false = b := by subst h; simp [List.getD]
/-- not: three nodes. -/
theorem boole_not {l : Nds} {N : Int} (h : formChk l = 0) (hl : l.length + 4 ≤ 30) (hN : N = (l.length : Int) - 1) :
    formChk (l ++ [⟨4, N, 0⟩, ⟨4, 0, 0⟩, ⟨6, N + 1, N + 2⟩]) = 0 ∧ ∀ t n : Int, formVal (l ++ [⟨4, N, 0⟩, ⟨4, 0, 0⟩, ⟨6, N + 1, N + 2⟩]) t n = (!(valsK l t n l.length).getD (l.length - 1) false || !(valsK l t n l.length).getD 0 false) := by
  have hp := bl_chk h
  have hne : l ≠ [] := by rintro rfl; simp at hp
  have e : l ++ [⟨4, N, 0⟩, ⟨4, 0, 0⟩, ⟨6, N + 1, N + 2⟩] = ((l ++ [(⟨4, N, 0⟩ : Nd)]) ++ [(⟨4, 0, 0⟩ : Nd)]) ++ [(⟨6, N + 1, N + 2⟩ : Nd)] := by simp
  rw [e]
  have h1 := formChk_snoc (x := ⟨4, N, 0⟩) h (by omega) (by simp [ndChk] <;> omega)
  have h2 := formChk_snoc (x := ⟨4, 0, 0⟩) h1 (by simp; omega) (by simp [ndChk] <;> omega)
  have h3 := formChk_snoc (x := ⟨6, N + 1, N + 2⟩) h2 (by simp; omega) (by simp [ndChk] <;> omega)
  refine ⟨h3, fun t n => ?_⟩
  rw [formVal_snoc, vals_snoc, vals_snoc]
  have hV : (valsK l t n l.length).length = l.length := valsK_length _ _ _ _
  generalize valsK l t n l.length = V at *
  have e1 : (N + 1).toNat = l.length := by omega
  have e2 : (N + 2).toNat = l.length + 1 := by omega
  have e3 : N.toNat = l.length - 1 := by omega
  have a1 : ∀ vs, ndVal vs t n ⟨4, N, 0⟩ = !vs.getD (l.length - 1) false := fun vs => by simp [ndVal, e3]
  have a2 : ∀ vs, ndVal vs t n ⟨4, 0, 0⟩ = !vs.getD 0 false := fun vs => by simp [ndVal]
  have a3 : ∀ vs, ndVal vs t n ⟨6, N + 1, N + 2⟩ = (vs.getD l.length false || vs.getD (l.length + 1) false) := fun vs => by simp [ndVal, e1, e2]
  have q1 : ∀ x y : Bool, (V ++ [x] ++ [y]).getD l.length false = x := fun x y => by rw [getD_app_lt (by simp [hV]), getD_app_last hV.symm]
  have q2 : ∀ x y : Bool, (V ++ [x] ++ [y]).getD (l.length + 1) false = y := fun x y => getD_app_last (by simp [hV])
  have q3 : ∀ x : Bool, (V ++ [x]).getD 0 false = V.getD 0 false := fun x => getD_app_lt (by omega)
  rw [a1, a2, a3, q1, q2, q3]
theorem boole_both {l : Nds} {N : Int} (h : formChk l = 0) (hl : l.length + 4 ≤ 30) (hN : N = (l.length : Int) - 1) :
    formChk (l ++ [⟨5, N, 0⟩, ⟨4, N + 1, 0⟩]) = 0 ∧ ∀ t n : Int, formVal (l ++ [⟨5, N, 0⟩, ⟨4, N + 1, 0⟩]) t n = (!(valsK l t n l.length).getD (l.length - 1) false || !(valsK l t n l.length).getD 0 false) := by
  have hp := bl_chk h
  have hne : l ≠ [] := by rintro rfl; simp at hp
  have e : l ++ [⟨5, N, 0⟩, ⟨4, N + 1, 0⟩] = (l ++ [(⟨5, N, 0⟩ : Nd)]) ++ [(⟨4, N + 1, 0⟩ : Nd)] := by simp
  rw [e]
  have h1 := formChk_snoc (x := ⟨5, N, 0⟩) h (by omega) (by simp [ndChk, hN, hne] <;> omega)
  have h2 := formChk_snoc (x := ⟨4, N + 1, 0⟩) h1 (by simp; omega) (by simp [ndChk] <;> omega)
  refine ⟨h2, fun t n => ?_⟩
  rw [formVal_snoc, vals_snoc]
  have hV : (valsK l t n l.length).length = l.length := valsK_length _ _ _ _
  generalize valsK l t n l.length = V at *
  have e1 : (N + 1).toNat = l.length := by omega
  have e3 : N.toNat = l.length - 1 := by omega
  have a1 : ∀ vs, ndVal vs t n ⟨5, N, 0⟩ = (vs.getD (l.length - 1) false && vs.getD 0 false) := fun vs => by simp [ndVal, e3]
  have a2 : ∀ vs, ndVal vs t n ⟨4, N + 1, 0⟩ = !vs.getD l.length false := fun vs => by simp [ndVal, e1]
  rw [a1, a2, getD_app_last hV.symm, Bool.not_and]
end Go.Proofs.Ytcanefjjpeoikaa
