/- The walk of FilterPoints: it returns true, whatever the arguments are. Written by a small program (gen/filter_laws.py). -/
import Derived.Test.YtcanefjjpeoikaaFilter6
namespace Go.Proofs.Ytcanefjjpeoikaa
open Go.RowKit
set_option maxRecDepth 100000 in
set_option maxHeartbeats 4000000 in
theorem FilterPoints_walk (vf vg : Value) (f g : Bxs) (t n : Int) (w : World) (hf : BxsAt w vf f) (hg : BxsAt w vg g) :
    Calls Try.prog 9 #[vf, vg, .agg #[.int .i64 t, .int .i64 n]] w fun e w' => e = .returned (.bool true) ∧ Below w.heap.size w w' := by
  obtain ⟨fa, fc, rfl⟩ := hf.shape
  obtain ⟨ga, gc, rfl⟩ := hg.shape
  have hbel := Below.refl w.heap.size w
  go_enter Try.func9, Try.ntmps9
  have hcell : ∀ w1, Below (w.alloc (.cells #[.int .i64 t, .int .i64 n] 24)).heap.size (w.alloc (.cells #[.int .i64 t, .int .i64 n] 24)) w1 → w1.cell? ⟨w.heap.size, 0, none⟩ = some (.int .i64 t) ∧ w1.cell? ⟨w.heap.size, 1, none⟩ = some (.int .i64 n) ∧ Below w.heap.size w w1 := fun w1 h => ⟨ckeep h (cat _ _ _ 0 _ rfl _ rfl), ckeep h (cat _ _ _ 1 _ rfl _ rfl), ba1 h⟩
  have HC := Lib.hid hcell
  clear hcell
  go_wp2_with fail
  (with_reducible refine (filterBegun_c _).mono ?_)
  rintro e w1 ⟨rfl, hb⟩
  obtain ⟨c_0, c_1, hb⟩ := HC.out _ hb
  replace hf := hf.below hb
  replace hg := hg.below hb
  replace hbel := bstep hbel hb
  clear HC hb
  go_wp2_with fail
  (with_reducible refine (joinf_c _ _ f g _ hf hg).mono ?_)
  rintro e w2 ⟨vj, rfl, ho, hb⟩
  replace hf := hf.below hb
  replace hg := hg.below hb
  replace c_0 := ckeep hb c_0
  replace c_1 := ckeep hb c_1
  replace hbel := bstep hbel hb
  clear hb
  obtain ⟨ja, jn, jc, hv⟩ := ho.nil_or
  subst hv
  by_cases h2 : fTwo f g = 0
  rotate_left
  · have hE := h2
    have hv := ho.2 hE
    simp only [Value.slice.injEq] at hv
    obtain ⟨rfl, rfl, rfl⟩ := hv
    have he : (fTwo f g == 0) = false := by simpa using hE
    have he2 : (fTwo f g != 0) = true := by simp [bne, he]
    clear hE ho
    go_wp2
    go_ret
    exact ⟨rfl, hbel⟩
  have Hf := Lib.hid (fTwo_zero h2).1
  have Hg := Lib.hid (fTwo_zero h2).2
  rw [h2] at ho ⊢
  clear h2
  have fj := FV.of_out ho (fun _ _ _ _ => rfl)
  clear ho
  have xf := FV.mk hf Hf.out
  have xg := FV.mk hg Hg.out
  clear hf hg
  go_wp2_with fail
  (with_reducible refine (meetF _ _ _ _ _ xf xg).mono ?_)
  rintro e w3 ⟨v3, rfl, fm, hb⟩
  replace xf := xf.below hb
  replace xg := xg.below hb
  replace fj := fj.below hb
  replace c_0 := ckeep hb c_0
  replace c_1 := ckeep hb c_1
  replace hbel := bstep hbel hb
  clear hb
  go_wp2_with fail
  (with_reducible refine (lessF _ _ _ _ _ xf xg).mono ?_)
  rintro e w4 ⟨v4, rfl, fl, hb⟩
  replace xf := xf.below hb
  replace xg := xg.below hb
  replace fj := fj.below hb
  replace c_0 := ckeep hb c_0
  replace c_1 := ckeep hb c_1
  replace fm := fm.below hb
  replace hbel := bstep hbel hb
  clear hb
  cases hp : ptOk t n
  · have HP := Lib.hid hp
    clear hp
    go_wp2_with fail
    (with_reducible refine (hasF _ _ t n _ xf).mono ?_)
    rintro e w5 ⟨rfl, hb⟩
    replace xf := xf.below hb
    replace xg := xg.below hb
    replace fj := fj.below hb
    replace c_0 := ckeep hb c_0
    replace c_1 := ckeep hb c_1
    replace fm := fm.below hb
    replace fl := fl.below hb
    replace hbel := bstep hbel hb
    clear hb
    rw [HP.out]
    first | rw [atP_less (fun k n => inF f k n) (fun k n => inF g k n)] | rw [atP_and (fun k n => inF f k n) (fun k n => inF g k n)] | rw [atP_or (fun k n => inF f k n) (fun k n => inF g k n)] | skip
    simp only [atP_no HP.out, Bool.false_eq_true, if_false, Bool.or_self, Bool.and_self, Bool.false_and]
    go_wp2_with fail
    (with_reducible refine (hasF _ _ t n _ xg).mono ?_)
    rintro e w6 ⟨rfl, hb⟩
    replace xf := xf.below hb
    replace xg := xg.below hb
    replace fj := fj.below hb
    replace c_0 := ckeep hb c_0
    replace c_1 := ckeep hb c_1
    replace fm := fm.below hb
    replace fl := fl.below hb
    replace hbel := bstep hbel hb
    clear hb
    rw [HP.out]
    first | rw [atP_less (fun k n => inF f k n) (fun k n => inF g k n)] | rw [atP_and (fun k n => inF f k n) (fun k n => inF g k n)] | rw [atP_or (fun k n => inF f k n) (fun k n => inF g k n)] | skip
    simp only [atP_no HP.out, Bool.false_eq_true, if_false, Bool.or_self, Bool.and_self, Bool.false_and]
    go_wp2_with fail
    (with_reducible refine (hasF _ _ t n _ fj).mono ?_)
    rintro e w7 ⟨rfl, hb⟩
    replace xf := xf.below hb
    replace xg := xg.below hb
    replace fj := fj.below hb
    replace c_0 := ckeep hb c_0
    replace c_1 := ckeep hb c_1
    replace fm := fm.below hb
    replace fl := fl.below hb
    replace hbel := bstep hbel hb
    clear hb
    rw [HP.out]
    first | rw [atP_less (fun k n => inF f k n) (fun k n => inF g k n)] | rw [atP_and (fun k n => inF f k n) (fun k n => inF g k n)] | rw [atP_or (fun k n => inF f k n) (fun k n => inF g k n)] | skip
    simp only [atP_no HP.out, Bool.false_eq_true, if_false, Bool.or_self, Bool.and_self, Bool.false_and]
    go_wp2_with fail
    (with_reducible refine (hasF _ _ t n _ fm).mono ?_)
    rintro e w8 ⟨rfl, hb⟩
    replace xf := xf.below hb
    replace xg := xg.below hb
    replace fj := fj.below hb
    replace c_0 := ckeep hb c_0
    replace c_1 := ckeep hb c_1
    replace fm := fm.below hb
    replace fl := fl.below hb
    replace hbel := bstep hbel hb
    clear hb
    rw [HP.out]
    first | rw [atP_less (fun k n => inF f k n) (fun k n => inF g k n)] | rw [atP_and (fun k n => inF f k n) (fun k n => inF g k n)] | rw [atP_or (fun k n => inF f k n) (fun k n => inF g k n)] | skip
    simp only [atP_no HP.out, Bool.false_eq_true, if_false, Bool.or_self, Bool.and_self, Bool.false_and]
    go_wp2_with fail
    (with_reducible refine (hasF _ _ t n _ fl).mono ?_)
    rintro e w9 ⟨rfl, hb⟩
    replace xf := xf.below hb
    replace xg := xg.below hb
    replace fj := fj.below hb
    replace c_0 := ckeep hb c_0
    replace c_1 := ckeep hb c_1
    replace fm := fm.below hb
    replace fl := fl.below hb
    replace hbel := bstep hbel hb
    clear hb
    rw [HP.out]
    first | rw [atP_less (fun k n => inF f k n) (fun k n => inF g k n)] | rw [atP_and (fun k n => inF f k n) (fun k n => inF g k n)] | rw [atP_or (fun k n => inF f k n) (fun k n => inF g k n)] | skip
    simp only [atP_no HP.out, Bool.false_eq_true, if_false, Bool.or_self, Bool.and_self, Bool.false_and]
    clear xf xg fj fm fl
    go_wp2_with fail
    refine (point_c _ _ _).mono ?_
    rintro e w60 ⟨rfl, hb⟩
    rw [HP.out]
    replace hbel := bstep hbel hb
    clear hb
    go_wp2
    go_ret
    exact ⟨rfl, hbel⟩
  · have HP := Lib.hid hp
    clear hp
    go_wp2_with fail
    (with_reducible refine (hasF _ _ t n _ xf).mono ?_)
    rintro e w5 ⟨rfl, hb⟩
    replace xf := xf.below hb
    replace xg := xg.below hb
    replace fj := fj.below hb
    replace c_0 := ckeep hb c_0
    replace c_1 := ckeep hb c_1
    replace fm := fm.below hb
    replace fl := fl.below hb
    replace hbel := bstep hbel hb
    clear hb
    rw [HP.out]
    first | rw [atP_less (fun k n => inF f k n) (fun k n => inF g k n)] | rw [atP_and (fun k n => inF f k n) (fun k n => inF g k n)] | rw [atP_or (fun k n => inF f k n) (fun k n => inF g k n)] | skip
    try rw [if_pos rfl]
    go_wp2_with fail
    (with_reducible refine (hasF _ _ t n _ xg).mono ?_)
    rintro e w6 ⟨rfl, hb⟩
    replace xf := xf.below hb
    replace xg := xg.below hb
    replace fj := fj.below hb
    replace c_0 := ckeep hb c_0
    replace c_1 := ckeep hb c_1
    replace fm := fm.below hb
    replace fl := fl.below hb
    replace hbel := bstep hbel hb
    clear hb
    rw [HP.out]
    first | rw [atP_less (fun k n => inF f k n) (fun k n => inF g k n)] | rw [atP_and (fun k n => inF f k n) (fun k n => inF g k n)] | rw [atP_or (fun k n => inF f k n) (fun k n => inF g k n)] | skip
    try rw [if_pos rfl]
    go_wp2_with fail
    (with_reducible refine (hasF _ _ t n _ fj).mono ?_)
    rintro e w7 ⟨rfl, hb⟩
    replace xf := xf.below hb
    replace xg := xg.below hb
    replace fj := fj.below hb
    replace c_0 := ckeep hb c_0
    replace c_1 := ckeep hb c_1
    replace fm := fm.below hb
    replace fl := fl.below hb
    replace hbel := bstep hbel hb
    clear hb
    rw [HP.out]
    first | rw [atP_less (fun k n => inF f k n) (fun k n => inF g k n)] | rw [atP_and (fun k n => inF f k n) (fun k n => inF g k n)] | rw [atP_or (fun k n => inF f k n) (fun k n => inF g k n)] | skip
    try rw [if_pos rfl]
    go_wp2_with fail
    (with_reducible refine (hasF _ _ t n _ fm).mono ?_)
    rintro e w8 ⟨rfl, hb⟩
    replace xf := xf.below hb
    replace xg := xg.below hb
    replace fj := fj.below hb
    replace c_0 := ckeep hb c_0
    replace c_1 := ckeep hb c_1
    replace fm := fm.below hb
    replace fl := fl.below hb
    replace hbel := bstep hbel hb
    clear hb
    rw [HP.out]
    first | rw [atP_less (fun k n => inF f k n) (fun k n => inF g k n)] | rw [atP_and (fun k n => inF f k n) (fun k n => inF g k n)] | rw [atP_or (fun k n => inF f k n) (fun k n => inF g k n)] | skip
    try rw [if_pos rfl]
    go_wp2_with fail
    (with_reducible refine (hasF _ _ t n _ fl).mono ?_)
    rintro e w9 ⟨rfl, hb⟩
    replace xf := xf.below hb
    replace xg := xg.below hb
    replace fj := fj.below hb
    replace c_0 := ckeep hb c_0
    replace c_1 := ckeep hb c_1
    replace fm := fm.below hb
    replace fl := fl.below hb
    replace hbel := bstep hbel hb
    clear hb
    rw [HP.out]
    first | rw [atP_less (fun k n => inF f k n) (fun k n => inF g k n)] | rw [atP_and (fun k n => inF f k n) (fun k n => inF g k n)] | rw [atP_or (fun k n => inF f k n) (fun k n => inF g k n)] | skip
    try rw [if_pos rfl]
    clear xf xg fj fm fl
    generalize atP (fun k n => inF f k n) t n = A
    generalize atP (fun k n => inF g k n) t n = B
    cases A
    all_goals cases B
    all_goals go_wp2_with fail
    all_goals refine (point_c _ _ _).mono ?_
    all_goals rintro e w60 ⟨rfl, hb⟩
    all_goals rw [HP.out]
    all_goals replace hbel := bstep hbel hb
    all_goals clear hb
    all_goals go_wp2
    all_goals go_ret
    all_goals exact ⟨rfl, hbel⟩
end Go.Proofs.Ytcanefjjpeoikaa
