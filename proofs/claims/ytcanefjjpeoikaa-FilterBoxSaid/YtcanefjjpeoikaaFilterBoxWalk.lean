/- The walk of FilterBox: it returns true, whatever the arguments are. Written by a small program (gen/boxlaw.py). -/
import Derived.Test.YtcanefjjpeoikaaFilterBox0
namespace Go.Proofs.Ytcanefjjpeoikaa
open Go.RowKit
set_option maxRecDepth 100000 in
set_option maxHeartbeats 4000000 in
theorem FilterBox_walk (a b u t : Int) (hu : 0 ≤ u ∧ u < 4294967296) (ht : 0 ≤ t ∧ t < 4294967296) (w : World) :
    Calls Try.prog 11 #[.int .i64 a, .int .i64 b, .int .u32 u, .int .u32 t] w fun e w' => e = .returned (.bool true) ∧ Below w.heap.size w w' := by
  have hbel := Below.refl w.heap.size w
  have HU := Lib.hid hu
  have HT := Lib.hid ht
  clear hu ht
  go_enter Try.func11, Try.ntmps11
  go_wp2_with fail
  (with_reducible refine (countf_c _ [⟨0, 3, [(0, 5)]⟩] _ (boxLit _ _ _ _ _ _ rfl _ rfl)).mono ?_)
  rintro e w1 ⟨rfl, hb⟩
  replace hb := ba2 hb
  replace hbel := bstep hbel hb
  clear hb
  rw [box_lit.1, box_lit.2]
  go_wp2_with fail
  (with_reducible refine (oneM a _).mono ?_)
  rintro e w2 ⟨rfl, hb⟩
  replace hbel := bstep hbel hb
  clear hb
  go_wp2_with fail
  (with_reducible refine (spansM u HU.out _).mono ?_)
  rintro e w3 ⟨x, rfl, sx, hb⟩
  replace hbel := bstep hbel hb
  clear hb
  obtain ⟨xa, xc, hv⟩ := sx.shape
  generalize hxl : (make (bitOf u)).length = xl at hv
  clear hxl
  subst hv
  go_wp2_with fail
  (with_reducible refine (oneM b _).mono ?_)
  rintro e w4 ⟨rfl, hb⟩
  replace sx := sx.below hb
  replace hbel := bstep hbel hb
  clear hb
  go_wp2_with fail
  (with_reducible refine (spansM t HT.out _).mono ?_)
  rintro e w5 ⟨y, rfl, sy, hb⟩
  replace sx := sx.below hb
  replace hbel := bstep hbel hb
  clear hb
  obtain ⟨ya, yc, hv⟩ := sy.shape
  generalize hyl : (make (bitOf t)).length = yl at hv
  clear hyl
  subst hv
  have AX := Lib.hid (d_apart a)
  have AY := Lib.hid (d_apart b)
  have CX := Lib.hid (cubeCount_enc (d_apart a))
  have CE := Lib.hid (count_enc (d_apart a))
  generalize hYX : dY a = YX at *
  generalize hNX : dN a = NX at *
  generalize hYY : dY b = YY at *
  generalize hNY : dN b = NY at *
  clear hYX hNX hYY hNY
  have B2 : Below w5.heap.size w5 ((w5.alloc (.cells #[.int .i64 (encF YX), .int .i64 (encF NX), .slice xa xl xc] 52)).alloc (.cells #[.int .i64 (encF YY), .int .i64 (encF NY), .slice ya yl yc] 52)) := (bal _).alloc (by simp) _
  have x1 := boxFV (p := bitOf u) AX.out (boxRow ((w5.alloc (.cells #[.int .i64 (encF YX), .int .i64 (encF NX), .slice xa xl xc] 52)).alloc (.cells #[.int .i64 (encF YY), .int .i64 (encF NY), .slice ya yl yc] 52)) (encF YX) (encF NX) _ _ (sx.below B2) (w5.heap.size + 1 + 1) (by simp))
  have hcell : ∀ w1, Below (((w5.alloc (.cells #[.int .i64 (encF YX), .int .i64 (encF NX), .slice xa xl xc] 52)).alloc (.cells #[.int .i64 (encF YY), .int .i64 (encF NY), .slice ya yl yc] 52)).alloc (.cells #[.int .i64 (encF YX), .int .i64 (encF NX), .slice xa xl xc] 52)).heap.size (((w5.alloc (.cells #[.int .i64 (encF YX), .int .i64 (encF NX), .slice xa xl xc] 52)).alloc (.cells #[.int .i64 (encF YY), .int .i64 (encF NY), .slice ya yl yc] 52)).alloc (.cells #[.int .i64 (encF YX), .int .i64 (encF NX), .slice xa xl xc] 52)) w1 → w1.cell? ⟨w5.heap.size, 0, none⟩ = some (.int .i64 (encF YX)) ∧ w1.cell? ⟨w5.heap.size, 1, none⟩ = some (.int .i64 (encF NX)) ∧ w1.cell? ⟨w5.heap.size, 2, none⟩ = some (.slice xa xl xc) ∧ w1.cell? ⟨w5.heap.size + 1, 0, none⟩ = some (.int .i64 (encF YY)) ∧ w1.cell? ⟨w5.heap.size + 1, 1, none⟩ = some (.int .i64 (encF NY)) ∧ w1.cell? ⟨w5.heap.size + 1, 2, none⟩ = some (.slice ya yl yc) ∧ Below w5.heap.size w5 w1 := fun w1 h =>
    ⟨ckeep h (cpast _ (cpast _ (cat _ _ _ 0 _ rfl _ rfl))), ckeep h (cpast _ (cpast _ (cat _ _ _ 1 _ rfl _ rfl))), ckeep h (cpast _ (cpast _ (cat _ _ _ 2 _ rfl _ rfl))), ckeep h (cpast _ (cat _ _ _ 0 _ rfl _ (by simp))), ckeep h (cpast _ (cat _ _ _ 1 _ rfl _ (by simp))), ckeep h (cpast _ (cat _ _ _ 2 _ rfl _ (by simp))), ba3 h⟩
  have HC := Lib.hid hcell
  clear hcell B2
  have X1 := Lib.hid x1
  clear x1
  go_wp2_with fail
  (with_reducible refine (countF _ _ _ X1.out).mono ?_)
  rintro e w6 ⟨rfl, hb⟩
  obtain ⟨c_x0, c_x1, c_x2, c_y0, c_y1, c_y2, hb⟩ := HC.out _ hb
  clear HC X1
  replace sx := sx.below hb
  replace sy := sy.below hb
  replace hbel := bstep hbel hb
  clear hb
  rw [show cntF (fun k m => cubeIn (encF YX) (encF NX) (k : Int) && bitOf u m) = 2 ^ open4 YX NX * cnt (bitOf u) 32 from (cntT_box _ _ 16).trans (by rw [← CX.out, CE.out])]
  have hK0 : (1 : Int) ≤ 2 ^ open4 YX NX ∧ (2 : Int) ^ open4 YX NX ≤ 16 := pow_open YX NX
  have hL0 := cnt_bd (bitOf u) 32
  have hP0 : 0 ≤ (2 : Int) ^ open4 YX NX * cnt (bitOf u) 32 ∧ (2 : Int) ^ open4 YX NX * cnt (bitOf u) 32 ≤ 512 := ⟨Int.mul_nonneg (by omega) hL0.1, Int.le_trans (Int.mul_le_mul hK0.2 hL0.2 hL0.1 (by decide)) (by decide)⟩
  go_wp2_with fail
  (with_reducible refine (countM' AX.out _).mono ?_)
  rintro e w7 ⟨rfl, hb⟩
  replace sx := sx.below hb
  replace sy := sy.below hb
  replace c_x0 := ckeep hb c_x0
  replace c_x1 := ckeep hb c_x1
  replace c_x2 := ckeep hb c_x2
  replace c_y0 := ckeep hb c_y0
  replace c_y1 := ckeep hb c_y1
  replace c_y2 := ckeep hb c_y2
  replace hbel := bstep hbel hb
  clear hb
  go_wp2_with fail
  (with_reducible refine (countM _ _ _ sx).mono ?_)
  rintro e w8 ⟨rfl, hb⟩
  replace sx := sx.below hb
  replace sy := sy.below hb
  replace c_x0 := ckeep hb c_x0
  replace c_x1 := ckeep hb c_x1
  replace c_x2 := ckeep hb c_x2
  replace c_y0 := ckeep hb c_y0
  replace c_y1 := ckeep hb c_y1
  replace c_y2 := ckeep hb c_y2
  replace hbel := bstep hbel hb
  clear hb
  generalize (2 : Int) ^ open4 YX NX = K at *
  generalize cnt (bitOf u) 32 = LL at *
  generalize hP : K * LL = P at *
  obtain ⟨hP1, hP2⟩ := hP0
  obtain ⟨hK1, hK2⟩ := hK0
  obtain ⟨hL1, hL2⟩ := hL0
  have lx := blt c_x0
  have ly := blt c_y0
  go_wp2_with fail
  clear lx ly
  obtain ⟨wa, hwa⟩ : ∃ wa, wa = w8 := ⟨_, rfl⟩
  subst hwa
  have x2 := (boxFV (p := bitOf u) AX.out (boxRow wa (encF YX) (encF NX) _ _ sx wa.heap.size rfl)).below (bal (.cells #[.int .i64 (encF YY), .int .i64 (encF NY), .slice ya yl yc] 52))
  have y2 := boxFV (p := bitOf t) AY.out (boxRow (wa.alloc (.cells #[.int .i64 (encF YX), .int .i64 (encF NX), .slice xa xl xc] 52)) (encF YY) (encF NY) _ _ (sy.below (bal _)) (wa.heap.size + 1) (by simp))
  (with_reducible refine (meetF _ _ _ _ _ x2 y2).mono ?_)
  rintro e w9 ⟨vm, rfl, fm, hb⟩
  replace hb := ba2 hb
  replace sx := sx.below hb
  replace sy := sy.below hb
  replace c_x0 := ckeep hb c_x0
  replace c_x1 := ckeep hb c_x1
  replace c_x2 := ckeep hb c_x2
  replace c_y0 := ckeep hb c_y0
  replace c_y1 := ckeep hb c_y1
  replace c_y2 := ckeep hb c_y2
  replace hbel := bstep hbel hb
  clear hb
  clear x2 y2
  obtain ⟨ma, mn, mc, hv⟩ := fm.shape
  subst hv
  go_wp2_with fail
  (with_reducible refine (meetM _ _ _ _ _ sx sy).mono ?_)
  rintro e w10 ⟨vs, rfl, ss, hb⟩
  replace sx := sx.below hb
  replace sy := sy.below hb
  replace c_x0 := ckeep hb c_x0
  replace c_x1 := ckeep hb c_x1
  replace c_x2 := ckeep hb c_x2
  replace c_y0 := ckeep hb c_y0
  replace c_y1 := ckeep hb c_y1
  replace c_y2 := ckeep hb c_y2
  replace fm := fm.below hb
  replace hbel := bstep hbel hb
  clear hb
  obtain ⟨sa, sc, hv⟩ := ss.shape
  generalize hsl : (make fun n => bitOf u n && bitOf t n).length = sl at hv
  clear hsl
  subst hv
  cases hm : meets YX NX YY NY
  · have HM := Lib.hid hm
    clear hm
    go_wp2_with fail
    (with_reducible refine (meetN AX.out AY.out HM.out _).mono ?_)
    rintro e w11 ⟨rfl, hb⟩
    replace sx := sx.below hb
    replace sy := sy.below hb
    replace c_x0 := ckeep hb c_x0
    replace c_x1 := ckeep hb c_x1
    replace c_x2 := ckeep hb c_x2
    replace c_y0 := ckeep hb c_y0
    replace c_y1 := ckeep hb c_y1
    replace c_y2 := ckeep hb c_y2
    replace fm := fm.below hb
    replace ss := ss.below hb
    replace hbel := bstep hbel hb
    clear hb
    clear c_x0 c_x1 c_x2 c_y0 c_y1 c_y2 sx sy ss
    go_wp2_with fail
    have hbx := bal (W := w11) (.cells #[.int .i64 0, .int .i64 0] 49)
    have fm2 := fm.below hbx
    (with_reducible refine (countF _ _ _ fm2).mono ?_)
    rintro e w12 ⟨rfl, hb⟩
    replace hb := ba1 hb
    replace fm := fm.below hb
    replace hbel := bstep hbel hb
    clear hb
    clear fm2 hbx
    rw [show cntF (fun k n => (cubeIn (encF YX) (encF NX) (k : Int) && bitOf u n) && (cubeIn (encF YY) (encF NY) (k : Int) && bitOf t n)) = 0 from (cntF_zero _).2 ((allPt_iff _).2 fun k n hk _ => by have h := in_none YX NX YY NY HM.out k hk; revert h; cases cubeIn (encF YX) (encF NX) (k : Int) <;> cases cubeIn (encF YY) (encF NY) (k : Int) <;> simp)]
    clear fm
    go_wp2
    go_ret
    exact ⟨rfl, hbel⟩
  · have HM := Lib.hid hm
    clear hm
    go_wp2_with fail
    (with_reducible refine (meetY AX.out AY.out HM.out _).mono ?_)
    rintro e w11 ⟨rfl, hb⟩
    replace sx := sx.below hb
    replace sy := sy.below hb
    replace c_x0 := ckeep hb c_x0
    replace c_x1 := ckeep hb c_x1
    replace c_x2 := ckeep hb c_x2
    replace c_y0 := ckeep hb c_y0
    replace c_y1 := ckeep hb c_y1
    replace c_y2 := ckeep hb c_y2
    replace fm := fm.below hb
    replace ss := ss.below hb
    replace hbel := bstep hbel hb
    clear hb
    clear c_x0 c_x1 c_x2 c_y0 c_y1 c_y2 sx sy
    go_wp2_with fail
    have hbx := bal (W := w11) (.cells #[.int .i64 (encF fun i => YX i || YY i), .int .i64 (encF fun i => NX i || NY i)] 49)
    have fm2 := (fm.below hbx).below (bal (.cells #[.int .i64 (encF fun i => YX i || YY i), .int .i64 (encF fun i => NX i || NY i), .slice sa sl sc] 52))
    have fs2 := boxFV (p := fun n => bitOf u n && bitOf t n) (apart_meet HM.out) (boxRow _ (encF fun i => YX i || YY i) (encF fun i => NX i || NY i) _ _ (ss.below hbx) (w11.heap.size + 1) (by simp))
    (with_reducible refine (sameF _ _ _ _ _ fm2 fs2).mono ?_)
    rintro e w12 ⟨rfl, hb⟩
    replace hb := ba2 hb
    replace fm := fm.below hb
    replace ss := ss.below hb
    replace hbel := bstep hbel hb
    clear hb
    clear fm2 fs2 hbx
    rw [show (allPt fun k n => ((cubeIn (encF YX) (encF NX) (k : Int) && bitOf u n) && (cubeIn (encF YY) (encF NY) (k : Int) && bitOf t n)) == (cubeIn (encF fun i => YX i || YY i) (encF fun i => NX i || NY i) (k : Int) && (bitOf u n && bitOf t n))) = true from (allPt_iff _).2 fun k n hk _ => by rw [in_meet YX NX YY NY k hk]; cases cubeIn (encF YX) (encF NX) (k : Int) <;> cases cubeIn (encF YY) (encF NY) (k : Int) <;> cases bitOf u n <;> cases bitOf t n <;> rfl]
    clear fm ss
    go_wp2
    go_ret
    exact ⟨rfl, hbel⟩
end Go.Proofs.Ytcanefjjpeoikaa
