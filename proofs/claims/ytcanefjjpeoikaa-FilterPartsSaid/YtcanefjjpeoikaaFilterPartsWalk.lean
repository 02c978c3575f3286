/- The walk of FilterParts: it returns true, whatever the arguments are. Written by a small program (gen/filter_laws.py). -/
import Derived.Test.YtcanefjjpeoikaaFilter5
namespace Go.Proofs.Ytcanefjjpeoikaa
open Go.RowKit
set_option maxRecDepth 100000 in
set_option maxHeartbeats 4000000 in
theorem FilterParts_walk (vf vg : Value) (f g : Bxs) (w : World) (hf : BxsAt w vf f) (hg : BxsAt w vg g) :
    Calls Try.prog 5 #[vf, vg] w fun e w' => e = .returned (.bool true) ∧ Below w.heap.size w w' := by
  obtain ⟨fa, fc, rfl⟩ := hf.shape
  obtain ⟨ga, gc, rfl⟩ := hg.shape
  have hbel := Below.refl w.heap.size w
  go_enter Try.func5, Try.ntmps5
  go_wp2_with fail
  (with_reducible refine (filterBegun_c _).mono ?_)
  rintro e w1 ⟨rfl, hb⟩
  replace hf := hf.below hb
  replace hg := hg.below hb
  replace hbel := bstep hbel hb
  clear hb
  go_wp2_with fail
  (with_reducible refine (meetf_c _ _ f g _ hf hg).mono ?_)
  rintro e w2 ⟨vm, rfl, ho, hb⟩
  replace hf := hf.below hb
  replace hg := hg.below hb
  replace hbel := bstep hbel hb
  clear hb
  obtain ⟨ja, jn, jc, hv⟩ := ho.nil_or
  subst hv
  by_cases h2 : fTwo f g = 0
  rotate_left
  · have hE := h2
    have hv := ho.2 hE
    simp only [Value.slice.injEq] at hv
    obtain ⟨rfl, rfl, rfl⟩ := hv
    have he : (fTwo f g == 0) = false := by simpa using hE
    have he2 : (fTwo f g != 0) = true := by simp [bne, he]
    clear hE ho
    go_wp2
    go_ret
    exact ⟨rfl, hbel⟩
  have Hf := Lib.hid (fTwo_zero h2).1
  have Hg := Lib.hid (fTwo_zero h2).2
  rw [h2] at ho ⊢
  clear h2
  have fm := FV.of_out ho (fun _ _ _ _ => rfl)
  clear ho
  have xf := FV.mk hf Hf.out
  have xg := FV.mk hg Hg.out
  clear hf hg
  go_wp2_with fail
  (with_reducible refine (lessF _ _ _ _ _ xf xg).mono ?_)
  rintro e w3 ⟨v3, rfl, fl, hb⟩
  replace xf := xf.below hb
  replace xg := xg.below hb
  replace fm := fm.below hb
  replace hbel := bstep hbel hb
  clear hb
  go_wp2_with fail
  (with_reducible refine (lessF _ _ _ _ _ xg xf).mono ?_)
  rintro e w4 ⟨v4, rfl, fk, hb⟩
  replace xf := xf.below hb
  replace xg := xg.below hb
  replace fm := fm.below hb
  replace fl := fl.below hb
  replace hbel := bstep hbel hb
  clear hb
  go_wp2_with fail
  (with_reducible refine (joinF _ _ _ _ _ fm fl).mono ?_)
  rintro e w5 ⟨v5, rfl, fj, hb⟩
  replace xf := xf.below hb
  replace xg := xg.below hb
  replace fm := fm.below hb
  replace fl := fl.below hb
  replace fk := fk.below hb
  replace hbel := bstep hbel hb
  clear hb
  go_wp2_with fail
  (with_reducible refine (meetF _ _ _ _ _ fm fl).mono ?_)
  rintro e w6 ⟨v6, rfl, fn, hb⟩
  replace xf := xf.below hb
  replace xg := xg.below hb
  replace fm := fm.below hb
  replace fl := fl.below hb
  replace fk := fk.below hb
  replace fj := fj.below hb
  replace hbel := bstep hbel hb
  clear hb
  go_wp2_with fail
  (with_reducible refine (countF _ _ _ fn).mono ?_)
  rintro e w7 ⟨rfl, hb⟩
  replace xf := xf.below hb
  replace xg := xg.below hb
  replace fm := fm.below hb
  replace fl := fl.below hb
  replace fk := fk.below hb
  replace fj := fj.below hb
  replace fn := fn.below hb
  replace hbel := bstep hbel hb
  clear hb
  go_wp2_with fail
  (with_reducible refine (countF _ _ _ fl).mono ?_)
  rintro e w8 ⟨rfl, hb⟩
  replace xf := xf.below hb
  replace xg := xg.below hb
  replace fm := fm.below hb
  replace fl := fl.below hb
  replace fk := fk.below hb
  replace fj := fj.below hb
  replace fn := fn.below hb
  replace hbel := bstep hbel hb
  clear hb
  go_wp2_with fail
  (with_reducible refine (countF _ _ _ fk).mono ?_)
  rintro e w9 ⟨rfl, hb⟩
  replace xf := xf.below hb
  replace xg := xg.below hb
  replace fm := fm.below hb
  replace fl := fl.below hb
  replace fk := fk.below hb
  replace fj := fj.below hb
  replace fn := fn.below hb
  replace hbel := bstep hbel hb
  clear hb
  have hn : cntF (fun k n => inF f k n && inF g k n && (inF f k n && !inF g k n)) = 0 := (cntF_zero _).2 ((allF_iff _).2 fun k n _ _ => by cases inF f k n <;> cases inF g k n <;> rfl)
  rw [hn]
  clear hn
  have ha := cntF_zero (fun k n => inF f k n && !inF g k n)
  have hb := cntF_zero (fun k n => inF g k n && !inF f k n)
  have h1 := cntT_bd (fun k n => inF f k n && !inF g k n) 16
  have h2 := cntT_bd (fun k n => inF g k n && !inF f k n) 16
  have hs : allF (fun k n => inF f k n == inF g k n) = (allF (fun k n => !(inF f k n && !inF g k n)) && allF (fun k n => !(inF g k n && !inF f k n))) := by rw [Bool.eq_iff_iff, Bool.and_eq_true, allF_iff, allF_iff, allF_iff]; exact ⟨fun h => ⟨fun t n ht hn => by have := h t n ht hn; revert this; cases inF f t n <;> cases inF g t n <;> simp, fun t n ht hn => by have := h t n ht hn; revert this; cases inF f t n <;> cases inF g t n <;> simp⟩, fun h t n ht hn => by have h1 := h.1 t n ht hn; have h2 := h.2 t n ht hn; revert h1 h2; cases inF f t n <;> cases inF g t n <;> simp⟩
  have HS := Lib.hid hs
  clear hs
  have HA := Lib.hid (show (cntF (fun k n => inF f k n && !inF g k n) == 0) = allF (fun k n => !(inF f k n && !inF g k n)) by rw [Bool.eq_iff_iff, beq_iff_eq]; exact ha)
  have HB := Lib.hid (show (cntF (fun k n => inF g k n && !inF f k n) == 0) = allF (fun k n => !(inF g k n && !inF f k n)) by rw [Bool.eq_iff_iff, beq_iff_eq]; exact hb)
  clear ha hb h1 h2
  generalize cntF (fun k n => inF f k n && !inF g k n) = A at *
  generalize cntF (fun k n => inF g k n && !inF f k n) = B at *
  go_wp2_with fail
  refine wp_loop_rounds 8 ?_
  iterate 7 (rw [rounds_succ]; go_wp2_with fail)
  rw [rounds_succ]
  go_wp2_with fail
  (with_reducible refine (sameT _ _ _ _ _ (fj.below (bal _)) (xf.below (bal _)) (fun k n => by cases inF f k n <;> cases inF g k n <;> simp)).mono ?_)
  rintro e w10 ⟨rfl, hb⟩
  replace hb := ba1 hb
  replace xf := xf.below hb
  replace xg := xg.below hb
  replace fm := fm.below hb
  replace fl := fl.below hb
  replace fk := fk.below hb
  replace fj := fj.below hb
  replace fn := fn.below hb
  replace hbel := bstep hbel hb
  clear hb
  go_wp2_with fail
  (with_reducible refine (sameF _ _ _ _ _ xf xg).mono ?_)
  rintro e w11 ⟨rfl, hb⟩
  replace xf := xf.below hb
  replace xg := xg.below hb
  replace fm := fm.below hb
  replace fl := fl.below hb
  replace fk := fk.below hb
  replace fj := fj.below hb
  replace fn := fn.below hb
  replace hbel := bstep hbel hb
  clear hb
  rw [HS.out, ← HA.out, ← HB.out]
  clear HS HA HB xf xg fm fl fk fj fn
  cases hA : (A == 0)
  all_goals cases hB : (B == 0)
  all_goals go_wp2
  all_goals go_ret
  all_goals exact ⟨rfl, hbel⟩
end Go.Proofs.Ytcanefjjpeoikaa
