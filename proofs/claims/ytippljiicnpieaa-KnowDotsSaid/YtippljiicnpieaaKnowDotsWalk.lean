/- The walk of KnowDots: it returns true, whatever the arguments are. Written by a small program (gen/know_laws.py). -/
import Derived.Test.YtippljiicnpieaaKnowLaw1
namespace Go.Proofs.Ytippljiicnpieaa
open Go.RowKit
set_option maxRecDepth 100000 in
set_option maxHeartbeats 4000000 in
theorem KnowDots_walk (va vb : Value) (la lb : List (List Int)) (ds dc : Int) (w : World) (ha : RowAt vecE w va la) (hb0 : RowAt vecE w vb lb) :
    Calls Try.prog 11 #[va, vb, .agg #[.int .i64 ds, .int .i64 dc]] w fun e w' => e = .returned (.bool true) ∧ Below w.heap.size w w' := by
  obtain ⟨aa, ac, rfl⟩ := ha.shape
  obtain ⟨ba, bc, rfl⟩ := hb0.shape
  have hbel := Below.refl w.heap.size w
  go_enter Try.func11, Try.ntmps11
  have hal := bal (W := w) (.cells #[.int .i64 ds, .int .i64 dc] 24)
  replace ha := ha.below hal
  replace hb0 := hb0.below hal
  replace hbel := bstep hbel hal
  clear hal
  have c_d0 := cat w #[.int .i64 ds, .int .i64 dc] 24 0 _ rfl _ rfl
  have c_d1 := cat w #[.int .i64 ds, .int .i64 dc] 24 1 _ rfl _ rfl
  have hal := bal (W := (w).alloc (.cells #[.int .i64 ds, .int .i64 dc] 24)) (.cells #[.int .i64 0, .int .i64 3] 3)
  replace ha := ha.below hal
  replace hb0 := hb0.below hal
  replace c_d0 := ckeep hal c_d0
  replace c_d1 := ckeep hal c_d1
  replace hbel := bstep hbel hal
  clear hal
  have kp : KV (((w).alloc (.cells #[.int .i64 ds, .int .i64 dc] 24)).alloc (.cells #[.int .i64 0, .int .i64 3] 3)) (.slice (some ⟨w.heap.size + 1, 0, none⟩) 2 2) (.slice none 0 0) (knIn ⟨[0, 3], []⟩) := KV.of_at ⟨ints1 (l := [0, 3]) (alloc_new _ _ _ _ (by simp)) (by decide), CellsAt.nil _⟩ (vecKn_ok (by decide) (by simp) (by simp)) (vec_sm (by simp))
  go_wp2_with fail
  (with_reducible refine (has_s _ _ _ 1 3 _ kp).mono ?_)
  rintro e w1 ⟨rfl, hb⟩
  replace ha := ha.below hb
  replace hb0 := hb0.below hb
  replace c_d0 := ckeep hb c_d0
  replace c_d1 := ckeep hb c_d1
  replace hbel := bstep hbel hb
  clear hb
  rw [show hasP (knIn ⟨[0, 3], []⟩) 1 3 = true by decide, show dotE 1 3 = 0 by decide]
  clear kp
  go_wp2_with fail
  (with_reducible refine (set_s _ _ _ ha).mono ?_)
  rintro e w2 ⟨xa, xn, xc, xb, xm, xd, rfl, kx, hb⟩
  replace ha := ha.below hb
  replace hb0 := hb0.below hb
  replace c_d0 := ckeep hb c_d0
  replace c_d1 := ckeep hb c_d1
  replace hbel := bstep hbel hb
  clear hb
  go_wp2_with fail
  (with_reducible refine (set_s _ _ _ hb0).mono ?_)
  rintro e w3 ⟨ya, yn, yc, yb, ym, yd, rfl, ky, hb⟩
  replace ha := ha.below hb
  replace hb0 := hb0.below hb
  replace c_d0 := ckeep hb c_d0
  replace c_d1 := ckeep hb c_d1
  replace kx := kx.below hb
  replace hbel := bstep hbel hb
  clear hb
  clear ha hb0
  have hal := bal (W := w3) (.cells #[(.slice xa xn xc), (.slice xb xm xd)] 30)
  replace c_d0 := ckeep hal c_d0
  replace c_d1 := ckeep hal c_d1
  replace kx := kx.below hal
  replace ky := ky.below hal
  replace hbel := bstep hbel hal
  have c_x0 := cat (w3) #[(.slice xa xn xc), (.slice xb xm xd)] 30 0 _ rfl (w3.heap.size) (by simp)
  have c_x1 := cat (w3) #[(.slice xa xn xc), (.slice xb xm xd)] 30 1 _ rfl (w3.heap.size) (by simp)
  clear hal
  have hal := bal (W := (w3).alloc (.cells #[(.slice xa xn xc), (.slice xb xm xd)] 30)) (.cells #[(.slice ya yn yc), (.slice yb ym yd)] 30)
  replace c_d0 := ckeep hal c_d0
  replace c_d1 := ckeep hal c_d1
  replace kx := kx.below hal
  replace ky := ky.below hal
  replace c_x0 := ckeep hal c_x0
  replace c_x1 := ckeep hal c_x1
  replace hbel := bstep hbel hal
  have c_y0 := cat ((w3).alloc (.cells #[(.slice xa xn xc), (.slice xb xm xd)] 30)) #[(.slice ya yn yc), (.slice yb ym yd)] 30 0 _ rfl (w3.heap.size + 1) (by simp)
  have c_y1 := cat ((w3).alloc (.cells #[(.slice xa xn xc), (.slice xb xm xd)] 30)) #[(.slice ya yn yc), (.slice yb ym yd)] 30 1 _ rfl (w3.heap.size + 1) (by simp)
  clear hal
  go_wp2_with fail
  (with_reducible refine (join_s _ _ _ _ _ _ _ kx ky).mono ?_)
  rintro e w4 ⟨ja, jn, jc, jb, jm, jd, rfl, kj, hb⟩
  replace c_d0 := ckeep hb c_d0
  replace c_d1 := ckeep hb c_d1
  replace kx := kx.below hb
  replace ky := ky.below hb
  replace c_x0 := ckeep hb c_x0
  replace c_x1 := ckeep hb c_x1
  replace c_y0 := ckeep hb c_y0
  replace c_y1 := ckeep hb c_y1
  replace hbel := bstep hbel hb
  clear hb
  have hal := bal (W := w4) (.cells #[(.slice ja jn jc), (.slice jb jm jd)] 30)
  replace c_d0 := ckeep hal c_d0
  replace c_d1 := ckeep hal c_d1
  replace kx := kx.below hal
  replace ky := ky.below hal
  replace c_x0 := ckeep hal c_x0
  replace c_x1 := ckeep hal c_x1
  replace c_y0 := ckeep hal c_y0
  replace c_y1 := ckeep hal c_y1
  replace kj := kj.below hal
  replace hbel := bstep hbel hal
  have c_j0 := cat w4 #[(.slice ja jn jc), (.slice jb jm jd)] 30 0 _ rfl _ rfl
  have c_j1 := cat w4 #[(.slice ja jn jc), (.slice jb jm jd)] 30 1 _ rfl _ rfl
  clear hal
  go_wp2_with fail
  (with_reducible refine (meet_s _ _ _ _ _ _ _ kx ky).mono ?_)
  rintro e w5 ⟨ma, mn, mc, mb, mm, md, rfl, km, hb⟩
  replace c_d0 := ckeep hb c_d0
  replace c_d1 := ckeep hb c_d1
  replace kx := kx.below hb
  replace ky := ky.below hb
  replace c_x0 := ckeep hb c_x0
  replace c_x1 := ckeep hb c_x1
  replace c_y0 := ckeep hb c_y0
  replace c_y1 := ckeep hb c_y1
  replace kj := kj.below hb
  replace c_j0 := ckeep hb c_j0
  replace c_j1 := ckeep hb c_j1
  replace hbel := bstep hbel hb
  clear hb
  have hal := bal (W := w5) (.cells #[(.slice ma mn mc), (.slice mb mm md)] 30)
  replace c_d0 := ckeep hal c_d0
  replace c_d1 := ckeep hal c_d1
  replace kx := kx.below hal
  replace ky := ky.below hal
  replace c_x0 := ckeep hal c_x0
  replace c_x1 := ckeep hal c_x1
  replace c_y0 := ckeep hal c_y0
  replace c_y1 := ckeep hal c_y1
  replace kj := kj.below hal
  replace c_j0 := ckeep hal c_j0
  replace c_j1 := ckeep hal c_j1
  replace km := km.below hal
  replace hbel := bstep hbel hal
  have c_m0 := cat w5 #[(.slice ma mn mc), (.slice mb mm md)] 30 0 _ rfl _ rfl
  have c_m1 := cat w5 #[(.slice ma mn mc), (.slice mb mm md)] 30 1 _ rfl _ rfl
  clear hal
  go_wp2_with fail
  (with_reducible refine (has_s _ _ _ ds dc _ kx).mono ?_)
  rintro e w6 ⟨rfl, hb⟩
  replace c_d0 := ckeep hb c_d0
  replace c_d1 := ckeep hb c_d1
  replace kx := kx.below hb
  replace ky := ky.below hb
  replace c_x0 := ckeep hb c_x0
  replace c_x1 := ckeep hb c_x1
  replace c_y0 := ckeep hb c_y0
  replace c_y1 := ckeep hb c_y1
  replace kj := kj.below hb
  replace c_j0 := ckeep hb c_j0
  replace c_j1 := ckeep hb c_j1
  replace km := km.below hb
  replace c_m0 := ckeep hb c_m0
  replace c_m1 := ckeep hb c_m1
  replace hbel := bstep hbel hb
  clear hb
  go_wp2_with fail
  (with_reducible refine (has_s _ _ _ ds dc _ ky).mono ?_)
  rintro e w7 ⟨rfl, hb⟩
  replace c_d0 := ckeep hb c_d0
  replace c_d1 := ckeep hb c_d1
  replace kx := kx.below hb
  replace ky := ky.below hb
  replace c_x0 := ckeep hb c_x0
  replace c_x1 := ckeep hb c_x1
  replace c_y0 := ckeep hb c_y0
  replace c_y1 := ckeep hb c_y1
  replace kj := kj.below hb
  replace c_j0 := ckeep hb c_j0
  replace c_j1 := ckeep hb c_j1
  replace km := km.below hb
  replace c_m0 := ckeep hb c_m0
  replace c_m1 := ckeep hb c_m1
  replace hbel := bstep hbel hb
  clear hb
  go_wp2_with fail
  (with_reducible refine (has_s _ _ _ ds dc _ kj).mono ?_)
  rintro e w8 ⟨rfl, hb⟩
  replace c_d0 := ckeep hb c_d0
  replace c_d1 := ckeep hb c_d1
  replace kx := kx.below hb
  replace ky := ky.below hb
  replace c_x0 := ckeep hb c_x0
  replace c_x1 := ckeep hb c_x1
  replace c_y0 := ckeep hb c_y0
  replace c_y1 := ckeep hb c_y1
  replace kj := kj.below hb
  replace c_j0 := ckeep hb c_j0
  replace c_j1 := ckeep hb c_j1
  replace km := km.below hb
  replace c_m0 := ckeep hb c_m0
  replace c_m1 := ckeep hb c_m1
  replace hbel := bstep hbel hb
  clear hb
  go_wp2_with fail
  (with_reducible refine (has_s _ _ _ ds dc _ km).mono ?_)
  rintro e w9 ⟨rfl, hb⟩
  replace c_d0 := ckeep hb c_d0
  replace c_d1 := ckeep hb c_d1
  replace kx := kx.below hb
  replace ky := ky.below hb
  replace c_x0 := ckeep hb c_x0
  replace c_x1 := ckeep hb c_x1
  replace c_y0 := ckeep hb c_y0
  replace c_y1 := ckeep hb c_y1
  replace kj := kj.below hb
  replace c_j0 := ckeep hb c_j0
  replace c_j1 := ckeep hb c_j1
  replace km := km.below hb
  replace c_m0 := ckeep hb c_m0
  replace c_m1 := ckeep hb c_m1
  replace hbel := bstep hbel hb
  clear hb
  rw [hasP_or, hasP_and]
  generalize hasP (setP la) ds dc = h1 at *
  generalize hasP (setP lb) ds dc = h2 at *
  generalize dotE ds dc = de at *
  have M := Lib.hid (show TwoAt w9 w3.heap.size (w3.heap.size + 1) (.slice xa xn xc) (.slice xb xm xd) (.slice ya yn yc) (.slice yb ym yd) (setP la) (setP lb) from ⟨c_x0, c_x1, c_y0, c_y1, kx, ky⟩)
  have HBEL := Lib.hid hbel
  have HQ := Lib.hid (alike_eq kx.sm ky.sm)
  clear hbel c_d0 c_d1 kx ky c_x0 c_x1 c_y0 c_y1 kj c_j0 c_j1 km c_m0 c_m1
  cases h1 <;> cases h2
  all_goals
    simp only [Bool.and_true, Bool.and_false, Bool.true_and, Bool.false_and, Bool.or_true, Bool.or_false, Bool.true_or, Bool.false_or]
    go_wp2
    go_loopw [23, 120] (fun al i wr => ∃ (q : Nat), q ≤ 5 ∧ i = .int .i64 q ∧ al = .bool (alikeN (setP la) (setP lb) (12 * q)) ∧ TwoAt wr w3.heap.size (w3.heap.size + 1) (.slice xa xn xc) (.slice xb xm xd) (.slice ya yn yc) (.slice yb ym yd) (setP la) (setP lb) ∧ Below w.heap.size w wr) (fun _ i _ => 5 - (intOf i).toNat)
    case atStart => exact ⟨0, by omega, rfl, rfl, M.out, HBEL.out⟩
    case round =>
      clear M HBEL
      obtain ⟨q, hq, rfl, rfl, hM, hbl⟩ := hrel
      have M := Lib.hid hM
      have HBEL := Lib.hid hbl
      clear hM hbl
      by_cases hlt : q < 5
      · have hltb : decide ((q : Int) < 5) = true := by simp; omega
        have HS := Lib.hid (fun j hj => alikeN_succ (setP la) (setP lb) q j hj)
        have HPA := Lib.hid (fun j hj => hasP_in (setP la) q j hlt hj)
        have HPB := Lib.hid (fun j hj => hasP_in (setP lb) q j hlt hj)
        go_wp2
        go_loopw [23, 25] (fun al i wr => ∃ (j : Nat), j ≤ 12 ∧ i = .int .i64 ((j : Int) + 1) ∧ al = .bool (alikeN (setP la) (setP lb) (12 * q + j)) ∧ TwoAt wr w3.heap.size (w3.heap.size + 1) (.slice xa xn xc) (.slice xb xm xd) (.slice ya yn yc) (.slice yb ym yd) (setP la) (setP lb) ∧ Below w.heap.size w wr) (fun _ i _ => 13 - (intOf i).toNat)
        case atStart => exact ⟨0, by omega, by go_num, rfl, M.out, HBEL.out⟩
        case round =>
          clear M HBEL
          obtain ⟨j, hj, rfl, rfl, hM, hbl⟩ := hrel
          have hbel := hbl
          have kx := hM.kx
          have ky := hM.ky
          have c_x0 := hM.x0
          have c_x1 := hM.x1
          have c_y0 := hM.y0
          have c_y1 := hM.y1
          clear hM hbl
          by_cases hlj : j < 12
          · have hd := hlj
            go_wp2_with fail
            (with_reducible refine (has_s _ _ _ _ _ _ kx).mono ?_)
            rintro e w10 ⟨rfl, hb⟩
            replace kx := kx.below hb
            replace ky := ky.below hb
            replace c_x0 := ckeep hb c_x0
            replace c_x1 := ckeep hb c_x1
            replace c_y0 := ckeep hb c_y0
            replace c_y1 := ckeep hb c_y1
            replace hbel := bstep hbel hb
            clear hb
            rw [(HPA.out j hlj).1, (HPA.out j hlj).2]
            go_wp2_with fail
            (with_reducible refine (has_s _ _ _ _ _ _ ky).mono ?_)
            rintro e w11 ⟨rfl, hb⟩
            replace kx := kx.below hb
            replace ky := ky.below hb
            replace c_x0 := ckeep hb c_x0
            replace c_x1 := ckeep hb c_x1
            replace c_y0 := ckeep hb c_y0
            replace c_y1 := ckeep hb c_y1
            replace hbel := bstep hbel hb
            clear hb
            rw [(HPB.out j hlj).1, (HPB.out j hlj).2]
            have HSJ := Lib.hid (HS.out j hlj)
            generalize (setP la) (q : Int) ((j : Int) + 1) = b1 at *
            generalize (setP lb) (q : Int) ((j : Int) + 1) = b2 at *
            generalize alikeN (setP la) (setP lb) (12 * q + j) = al at *
            have M := Lib.hid (show TwoAt w11 w3.heap.size (w3.heap.size + 1) (.slice xa xn xc) (.slice xb xm xd) (.slice ya yn yc) (.slice yb ym yd) (setP la) (setP lb) from ⟨c_x0, c_x1, c_y0, c_y1, kx, ky⟩)
            clear kx ky c_x0 c_x1 c_y0 c_y1
            cases al
            · go_wp2
              go_roundw
              case rel => exact ⟨j + 1, by omega, by go_num, by rw [HSJ.out]; rfl, M.out, hbel⟩
              case measure => simp [intOf] <;> omega
            · go_wp2
              go_roundw
              case rel => exact ⟨j + 1, by omega, by go_num, by rw [HSJ.out]; rfl, M.out, hbel⟩
              case measure => simp [intOf] <;> omega
          · obtain rfl : j = 12 := by omega
            have M := Lib.hid (show TwoAt wr w3.heap.size (w3.heap.size + 1) (.slice xa xn xc) (.slice xb xm xd) (.slice ya yn yc) (.slice yb ym yd) (setP la) (setP lb) from ⟨c_x0, c_x1, c_y0, c_y1, kx, ky⟩)
            go_wp2
            go_roundw
            case rel => exact ⟨q + 1, by omega, by go_num, rfl, M.out, hbel⟩
            case measure => simp [intOf] <;> omega
      · obtain rfl : q = 5 := by omega
        have hbel := HBEL.out
        have kx := M.out.kx
        have ky := M.out.ky
        have c_x0 := M.out.x0
        have c_x1 := M.out.x1
        have c_y0 := M.out.y0
        have c_y1 := M.out.y1
        rw [show alikeN (setP la) (setP lb) (12 * 5) = eqB (setP la) (setP lb) from HQ.out]
        go_wp2_with fail
        (with_reducible refine (same_s _ _ _ _ _ _ _ kx ky).mono ?_)
        rintro e w12 ⟨rfl, hb⟩
        replace hbel := bstep hbel hb
        clear hb
        generalize eqB (setP la) (setP lb) = eb at *
        cases eb
        · go_wp2
          go_ret
          exact ⟨by simp, hbel⟩
        · go_wp2
          go_ret
          exact ⟨by simp, hbel⟩
end Go.Proofs.Ytippljiicnpieaa
