/- The walk of FormBack: it returns true, whatever the arguments are. -/
import Derived.Test.YtcanefjjpeoikaaFormOf
import Derived.Test.YtcanefjjpeoikaaForm4
import Derived.Test.YtcanefjjpeoikaaFilter6
import Derived.Test.YtcanefjjpeoikaaFormBoole0
import Derived.Test.YtcanefjjpeoikaaCube2
namespace Go.Proofs.Ytcanefjjpeoikaa
open Go.RowKit
theorem back_begun : ofE [⟨0, 1, [(0, 4)]⟩] = 0 ∧ (ofL [⟨0, 1, [(0, 4)]⟩]).length = 9 := by decide +kernel
theorem back_is {f : Bxs} {t n : Int} (h : ofE f = 0) : formIs (ofL f) t n = hasB f t n ∧ formIsE (ofL f) t n = hasEr f t n := by
  obtain ⟨h1, h2, h3⟩ := ofL_ok h
  unfold formIs formIsE hasB hasEr
  rw [if_pos h2, if_pos h2, if_pos h1, if_pos h1]
  refine ⟨?_, rfl⟩
  by_cases hp : ptOk t n = true
  · rw [if_pos hp, if_pos hp]
    simp only [ptOk, tagsB, Bool.and_eq_true, decide_eq_true_eq] at hp
    obtain ⟨k, rfl⟩ := Int.eq_ofNat_of_zero_le hp.1.1.1
    exact h3 k n (by omega)
  · rw [if_neg hp, if_neg hp]
set_option maxRecDepth 100000 in
set_option maxHeartbeats 4000000 in
theorem FormBack_walk (v : Value) (f : Bxs) (t n : Int) (w : World) (hs : BxsAt w v f) :
    Calls Try.prog 14 #[v, .agg #[.int .i64 t, .int .i64 n]] w fun e w' => e = .returned (.bool true) ∧ Below w.heap.size w w' := by
  have hcell : ∀ w1, Below (w.alloc (.cells #[.int .i64 t, .int .i64 n] 24)).heap.size (w.alloc (.cells #[.int .i64 t, .int .i64 n] 24)) w1 →
      w1.cell? ⟨w.heap.size, 0, none⟩ = some (.int .i64 t) ∧ w1.cell? ⟨w.heap.size, 1, none⟩ = some (.int .i64 n) ∧ Below w.heap.size w w1 := fun w1 h =>
    ⟨ckeep h (cat _ _ _ 0 _ rfl _ rfl), ckeep h (cat _ _ _ 1 _ rfl _ rfl), ba1 h⟩
  have HC := Lib.hid hcell
  clear hcell
  obtain ⟨va, vc, rfl⟩ := hs.shape
  go_enter Try.func14, Try.ntmps14
  go_wp2_with fail
  (with_reducible refine (formOf_c _ [⟨0, 1, [(0, 4)]⟩] _ (boxLit (w.alloc (.cells #[.int .i64 t, .int .i64 n] 24)) 0 1 0 4 (w.heap.size + 1) (by simp) (w.heap.size + 1 + 1) (by simp))).mono ?_)
  rintro e w1 ⟨u, rfl, hu, -, hb⟩
  obtain ⟨c0, c1, hbel⟩ := HC.out _ (ba2 hb)
  have hu1 := hu back_begun.1
  rw [back_begun.2] at hu1
  obtain ⟨ua, uc, rfl⟩ := owns_slice hu1
  rw [back_begun.1]
  clear HC hb hu hu1
  replace hs := hs.below hbel
  go_wp2_with fail
  (with_reducible refine (formOf_c _ f _ hs).mono ?_)
  rintro e w2 ⟨u, rfl, hu, hun, hb⟩
  replace c0 := ckeep hb c0
  replace c1 := ckeep hb c1
  replace hs := hs.below hb
  replace hbel := bstep hbel hb
  clear hb
  by_cases h0 : ofE f = 0
  rotate_left
  · obtain rfl := hun h0
    have h' : (ofE f != 0) = true := by simp [bne, h0]
    clear hu hun h0 hs
    go_wp2
    go_ret
    exact ⟨rfl, hbel⟩
  obtain ⟨k1, k2, k3⟩ := ofL_ok h0
  have hown := hu h0
  have hl := (formChk_all k2).2.1
  have hnd : NdsAt w2 u (ofL f) := CellsAt.of_owns hown (by omega)
  obtain ⟨ua, uc, rfl⟩ := owns_slice hown
  have H0 := Lib.hid h0
  have K1 := Lib.hid k1
  have K2 := Lib.hid k2
  have K3 := Lib.hid k3
  have hmx : (ofL f).length ≤ 30 := hl
  rw [h0]
  clear hu hun h0 k1 k2 k3 hown hl
  go_wp2_with fail
  (with_reducible refine (formFilter_c _ (ofL f) _ hnd).mono ?_)
  rintro e w3 ⟨g, rfl, hg, -, hb⟩
  have hf2 := ((hg K2.out).congr (q := fun k n => inF f k n) (fun k n hk _ => K3.out k n hk)).fv
  obtain ⟨ga, gn, gc, rfl⟩ := hf2.shape
  rw [K2.out]
  replace c0 := ckeep hb c0
  replace c1 := ckeep hb c1
  replace hs := hs.below hb
  replace hnd := hnd.below hb
  replace hbel := bstep hbel hb
  have HF2 := Lib.hid hf2
  clear hb hg hf2
  go_wp2_with fail
  (with_reducible refine (sameT _ _ _ _ _ (FV.mk hs K1.out) HF2.out (fun _ _ => rfl)).mono ?_)
  rintro e w4 ⟨rfl, hb⟩
  replace c0 := ckeep hb c0
  replace c1 := ckeep hb c1
  replace hs := hs.below hb
  replace hnd := hnd.below hb
  replace hbel := bstep hbel hb
  clear hb HF2
  go_wp2_with fail
  (with_reducible refine (formIs_c _ (ofL f) t n _ hnd).mono ?_)
  rintro e w5 ⟨rfl, hb⟩
  rw [(back_is H0.out).1, (back_is H0.out).2]
  replace c0 := ckeep hb c0
  replace c1 := ckeep hb c1
  replace hs := hs.below hb
  replace hbel := bstep hbel hb
  clear hb hnd
  go_wp2_with fail
  (with_reducible refine (hasf_c _ f t n _ hs).mono ?_)
  rintro e w6 ⟨rfl, hb⟩
  replace hbel := bstep hbel hb
  clear hb hs c0 c1
  go_wp2
  go_ret
  exact ⟨by simp, hbel⟩
end Go.Proofs.Ytcanefjjpeoikaa
