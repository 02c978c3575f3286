/- The walk of FilterWithin: it returns true, whatever the arguments are. Written by a small program (gen/filter_laws.py). -/
import Derived.Test.YtcanefjjpeoikaaFilter6
namespace Go.Proofs.Ytcanefjjpeoikaa
open Go.RowKit
set_option maxRecDepth 100000 in
set_option maxHeartbeats 4000000 in
theorem FilterWithin_walk (vf vg vh : Value) (f g h : Bxs) (t n : Int) (w : World) (hf : BxsAt w vf f) (hg : BxsAt w vg g) (hh : BxsAt w vh h) :
    Calls Try.prog 10 #[vf, vg, vh, .agg #[.int .i64 t, .int .i64 n]] w fun e w' => e = .returned (.bool true) ∧ Below w.heap.size w w' := by
  obtain ⟨fa, fc, rfl⟩ := hf.shape
  obtain ⟨ga, gc, rfl⟩ := hg.shape
  obtain ⟨ha, hc, rfl⟩ := hh.shape
  have hbel := Below.refl w.heap.size w
  go_enter Try.func10, Try.ntmps10
  have hcell : ∀ w1, Below (w.alloc (.cells #[.int .i64 t, .int .i64 n] 24)).heap.size (w.alloc (.cells #[.int .i64 t, .int .i64 n] 24)) w1 → w1.cell? ⟨w.heap.size, 0, none⟩ = some (.int .i64 t) ∧ w1.cell? ⟨w.heap.size, 1, none⟩ = some (.int .i64 n) ∧ Below w.heap.size w w1 := fun w1 h => ⟨ckeep h (cat _ _ _ 0 _ rfl _ rfl), ckeep h (cat _ _ _ 1 _ rfl _ rfl), ba1 h⟩
  have HC := Lib.hid hcell
  clear hcell
  go_wp2_with fail
  (with_reducible refine (filterBegun_c _).mono ?_)
  rintro e w1 ⟨rfl, hb⟩
  obtain ⟨c_0, c_1, hb⟩ := HC.out _ hb
  replace hf := hf.below hb
  replace hg := hg.below hb
  replace hh := hh.below hb
  replace hbel := bstep hbel hb
  clear HC hb
  go_wp2_with fail
  (with_reducible refine (withinf_c _ _ f g _ hf hg).mono ?_)
  rintro e w2 ⟨rfl, hb⟩
  replace hf := hf.below hb
  replace hg := hg.below hb
  replace hh := hh.below hb
  replace c_0 := ckeep hb c_0
  replace c_1 := ckeep hb c_1
  replace hbel := bstep hbel hb
  clear hb
  go_wp2_with fail
  (with_reducible refine (fChk_c _ f _ hf).mono ?_)
  rintro e w3 ⟨rfl, hb⟩
  replace hf := hf.below hb
  replace hg := hg.below hb
  replace hh := hh.below hb
  replace c_0 := ckeep hb c_0
  replace c_1 := ckeep hb c_1
  replace hbel := bstep hbel hb
  clear hb
  cases hx : (fChk f == 0)
  · have h' : (fChk f != 0) = true := by simp [bne, hx]
    have hne : fChk f ≠ 0 := by simpa using hx
    clear hx
    have hE : fTwo f g ≠ 0 := by simp [fTwo, hne]
    rw [show withinE f g = false from by simp only [withinE, if_neg hE]]
    have he : (fTwo f g == 0) = false := by simpa using hE
    clear hE
    go_wp2
    go_ret
    exact ⟨rfl, hbel⟩
  have h0f : fChk f = 0 := by simpa using hx
  have Hf := Lib.hid h0f
  rw [h0f]
  clear h0f hx
  go_wp2_with fail
  (with_reducible refine (fChk_c _ g _ hg).mono ?_)
  rintro e w4 ⟨rfl, hb⟩
  replace hf := hf.below hb
  replace hg := hg.below hb
  replace hh := hh.below hb
  replace c_0 := ckeep hb c_0
  replace c_1 := ckeep hb c_1
  replace hbel := bstep hbel hb
  clear hb
  cases hx : (fChk g == 0)
  · have h' : (fChk g != 0) = true := by simp [bne, hx]
    have hne : fChk g ≠ 0 := by simpa using hx
    clear hx
    have hE : fTwo f g ≠ 0 := by simp [fTwo, Hf.out, hne]
    rw [show withinE f g = false from by simp only [withinE, if_neg hE]]
    have he : (fTwo f g == 0) = false := by simpa using hE
    clear hE
    go_wp2
    go_ret
    exact ⟨rfl, hbel⟩
  have h0g : fChk g = 0 := by simpa using hx
  have Hg := Lib.hid h0g
  rw [h0g]
  clear h0g hx
  have h2 : fTwo f g = 0 := by simp [fTwo, Hf.out, Hg.out]
  rw [show withinE f g = allF (fun k n => !inF f k n || inF g k n) from by simp only [withinE, if_pos h2]; exact allF_congr fun k n _ _ => by cases inF f k n <;> cases inF g k n <;> rfl]
  rw [h2]
  clear h2
  go_wp2_with fail
  (with_reducible refine (fChk_c _ h _ hh).mono ?_)
  rintro e w5 ⟨rfl, hb⟩
  replace hf := hf.below hb
  replace hg := hg.below hb
  replace hh := hh.below hb
  replace c_0 := ckeep hb c_0
  replace c_1 := ckeep hb c_1
  replace hbel := bstep hbel hb
  clear hb
  cases hx : (fChk h == 0)
  · have h' : (fChk h != 0) = true := by simp [bne, hx]
    have hne : fChk h ≠ 0 := by simpa using hx
    clear hx
    clear hne
    go_wp2
    go_ret
    exact ⟨rfl, hbel⟩
  have h0h : fChk h = 0 := by simpa using hx
  have Hh := Lib.hid h0h
  rw [h0h]
  clear h0h hx
  go_wp2_with fail
  (with_reducible refine (point_c _ _ _).mono ?_)
  rintro e w6 ⟨rfl, hb⟩
  replace hf := hf.below hb
  replace hg := hg.below hb
  replace hh := hh.below hb
  replace c_0 := ckeep hb c_0
  replace c_1 := ckeep hb c_1
  replace hbel := bstep hbel hb
  clear hb
  cases hp : ptOk t n
  · clear hp
    go_wp2
    go_ret
    exact ⟨rfl, hbel⟩
  have HP := Lib.hid hp
  clear hp
  have xf := FV.mk hf Hf.out
  have xg := FV.mk hg Hg.out
  have xh := FV.mk hh Hh.out
  clear hf hg hh
  go_wp2_with fail
  (with_reducible refine (withinF _ _ _ _ _ xg xf).mono ?_)
  rintro e w7 ⟨rfl, hb⟩
  replace xf := xf.below hb
  replace xg := xg.below hb
  replace xh := xh.below hb
  replace c_0 := ckeep hb c_0
  replace c_1 := ckeep hb c_1
  replace hbel := bstep hbel hb
  clear hb
  go_wp2_with fail
  (with_reducible refine (withinF _ _ _ _ _ xg xh).mono ?_)
  rintro e w8 ⟨rfl, hb⟩
  replace xf := xf.below hb
  replace xg := xg.below hb
  replace xh := xh.below hb
  replace c_0 := ckeep hb c_0
  replace c_1 := ckeep hb c_1
  replace hbel := bstep hbel hb
  clear hb
  go_wp2_with fail
  (with_reducible refine (withinF _ _ _ _ _ xf xh).mono ?_)
  rintro e w9 ⟨rfl, hb⟩
  replace xf := xf.below hb
  replace xg := xg.below hb
  replace xh := xh.below hb
  replace c_0 := ckeep hb c_0
  replace c_1 := ckeep hb c_1
  replace hbel := bstep hbel hb
  clear hb
  go_wp2_with fail
  (with_reducible refine (hasF _ _ t n _ xf).mono ?_)
  rintro e w10 ⟨rfl, hb⟩
  replace xf := xf.below hb
  replace xg := xg.below hb
  replace xh := xh.below hb
  replace c_0 := ckeep hb c_0
  replace c_1 := ckeep hb c_1
  replace hbel := bstep hbel hb
  clear hb
  rw [HP.out, if_pos rfl]
  go_wp2_with fail
  (with_reducible refine (hasF _ _ t n _ xg).mono ?_)
  rintro e w11 ⟨rfl, hb⟩
  replace xf := xf.below hb
  replace xg := xg.below hb
  replace xh := xh.below hb
  replace c_0 := ckeep hb c_0
  replace c_1 := ckeep hb c_1
  replace hbel := bstep hbel hb
  clear hb
  rw [HP.out, if_pos rfl]
  go_wp2_with fail
  (with_reducible refine (countF _ _ _ xf).mono ?_)
  rintro e w12 ⟨rfl, hb⟩
  replace xf := xf.below hb
  replace xg := xg.below hb
  replace xh := xh.below hb
  replace c_0 := ckeep hb c_0
  replace c_1 := ckeep hb c_1
  replace hbel := bstep hbel hb
  clear hb
  go_wp2_with fail
  (with_reducible refine (countF _ _ _ xg).mono ?_)
  rintro e w13 ⟨rfl, hb⟩
  replace xf := xf.below hb
  replace xg := xg.below hb
  replace xh := xh.below hb
  replace c_0 := ckeep hb c_0
  replace c_1 := ckeep hb c_1
  replace hbel := bstep hbel hb
  clear hb
  obtain ⟨k1, k2, k3, k4⟩ := within_keys (fun k n => inF f k n) (fun k n => inF g k n) (fun k n => inF h k n) t n
  have K1 := Lib.hid k1
  clear k1
  generalize (allF fun k n => !inF f k n || inF g k n) = B1 at *
  generalize (allF fun k n => !inF g k n || inF f k n) = B2 at *
  generalize (allF fun k n => !inF g k n || inF h k n) = B3 at *
  generalize (allF fun k n => !inF f k n || inF h k n) = B4 at *
  generalize (atP (fun k n => inF f k n) t n) = A1 at *
  generalize (atP (fun k n => inF g k n) t n) = A2 at *
  generalize (cntF (fun k n => inF f k n)) = N at *
  generalize (cntF (fun k n => inF g k n)) = M at *
  cases B1
  · skip
    clear k2 k3 k4
    go_wp2_with fail
    refine wp_loop_rounds 9 ?_
    iterate 8 (rw [rounds_succ]; go_wp2_with fail)
    rw [rounds_succ]
    go_wp2_with fail
    (with_reducible refine (sameF _ _ _ _ _ (xf.below (bal _)) (xg.below (bal _))).mono ?_)
    rintro e w14 ⟨rfl, hb⟩
    replace hb := ba1 hb
    replace xf := xf.below hb
    replace xg := xg.below hb
    replace xh := xh.below hb
    replace c_0 := ckeep hb c_0
    replace c_1 := ckeep hb c_1
    replace hbel := bstep hbel hb
    clear hb
    rw [K1.out]
    clear xf xg xh c_0 c_1 K1
    go_wp2
    all_goals go_ret
    all_goals exact ⟨rfl, hbel⟩
  · skip
    obtain ⟨k6, k7⟩ := k4 rfl
    clear k4
    have e3 : B3 = false ∨ (B3 = true ∧ B4 = true) := by have := k2 rfl; cases B3 <;> simp_all
    have e4 : A1 = false ∨ (A1 = true ∧ A2 = true) := by have := k3 rfl; cases A1 <;> simp_all
    have E3 := Lib.hid e3
    have E4 := Lib.hid e4
    have K7 := Lib.hid k7
    clear k2 k3 e3 e4 k7
    go_wp2_with fail
    refine wp_loop_rounds 9 ?_
    iterate 8 (rw [rounds_succ]; go_wp2_with fail)
    rw [rounds_succ]
    go_wp2_with fail
    (with_reducible refine (sameF _ _ _ _ _ (xf.below (bal _)) (xg.below (bal _))).mono ?_)
    rintro e w14 ⟨rfl, hb⟩
    replace hb := ba1 hb
    replace xf := xf.below hb
    replace xg := xg.below hb
    replace xh := xh.below hb
    replace c_0 := ckeep hb c_0
    replace c_1 := ckeep hb c_1
    replace hbel := bstep hbel hb
    clear hb
    rw [K1.out]
    clear xf xg xh c_0 c_1 K1
    have e3 := E3.out
    have e4 := E4.out
    have k7 := K7.out
    clear E3 E4 K7
    rcases e3 with rfl | ⟨rfl, rfl⟩ <;> rcases e4 with rfl | ⟨rfl, rfl⟩ <;> cases B2
    all_goals simp only [Bool.not_true, Bool.not_false] at k7
    all_goals go_wp2
    all_goals go_ret
    all_goals exact ⟨rfl, hbel⟩
end Go.Proofs.Ytcanefjjpeoikaa
