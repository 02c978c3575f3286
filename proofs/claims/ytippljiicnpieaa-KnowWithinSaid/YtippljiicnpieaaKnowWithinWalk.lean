/- The walk of KnowWithin: it returns true, whatever the arguments are. Written by a small program (gen/know_laws.py). -/
import Derived.Test.YtippljiicnpieaaKnowLaw1
namespace Go.Proofs.Ytippljiicnpieaa
open Go.RowKit
set_option maxRecDepth 100000 in
set_option maxHeartbeats 4000000 in
theorem KnowWithin_walk (va vb vc : Value) (la lb lc : List (List Int)) (ds dc : Int) (w : World) (ha : RowAt vecE w va la) (hb0 : RowAt vecE w vb lb) (hc : RowAt vecE w vc lc) :
    Calls Try.prog 9 #[va, vb, vc, .agg #[.int .i64 ds, .int .i64 dc]] w fun e w' => e = .returned (.bool true) ∧ Below w.heap.size w w' := by
  obtain ⟨aa, ac, rfl⟩ := ha.shape
  obtain ⟨ba, bc, rfl⟩ := hb0.shape
  obtain ⟨ca, cc, rfl⟩ := hc.shape
  have hbel := Below.refl w.heap.size w
  go_enter Try.func9, Try.ntmps9
  have hal := bal (W := w) (.cells #[.int .i64 ds, .int .i64 dc] 24)
  replace ha := ha.below hal
  replace hb0 := hb0.below hal
  replace hc := hc.below hal
  replace hbel := bstep hbel hal
  clear hal
  have c_d0 := cat w #[.int .i64 ds, .int .i64 dc] 24 0 _ rfl _ rfl
  have c_d1 := cat w #[.int .i64 ds, .int .i64 dc] 24 1 _ rfl _ rfl
  have hal := bal (W := (w).alloc (.cells #[.int .i64 ds, .int .i64 dc] 24)) (.cells #[.int .i64 0, .int .i64 2] 24)
  replace ha := ha.below hal
  replace hb0 := hb0.below hal
  replace hc := hc.below hal
  replace c_d0 := ckeep hal c_d0
  replace c_d1 := ckeep hal c_d1
  replace hbel := bstep hbel hal
  clear hal
  have hal := bal (W := ((w).alloc (.cells #[.int .i64 ds, .int .i64 dc] 24)).alloc (.cells #[.int .i64 0, .int .i64 2] 24)) (.cells #[.int .i64 3] 3)
  replace ha := ha.below hal
  replace hb0 := hb0.below hal
  replace hc := hc.below hal
  replace c_d0 := ckeep hal c_d0
  replace c_d1 := ckeep hal c_d1
  replace hbel := bstep hbel hal
  clear hal
  have kp : KV ((((w).alloc (.cells #[.int .i64 ds, .int .i64 dc] 24)).alloc (.cells #[.int .i64 0, .int .i64 2] 24)).alloc (.cells #[.int .i64 3] 3)) (.slice none 0 0) (.slice (some ⟨w.heap.size + 1, 0, none⟩) 1 1) (knIn begA) := KV.of_at ⟨CellsAt.nil _, dots1 (l := [(0, 2)]) (alloc_keep _ (alloc_new _ _ _ _ (by simp))) (by decide)⟩ begA_ok begA_sm
  have kq : KV ((((w).alloc (.cells #[.int .i64 ds, .int .i64 dc] 24)).alloc (.cells #[.int .i64 0, .int .i64 2] 24)).alloc (.cells #[.int .i64 3] 3)) (.slice (some ⟨w.heap.size + 1 + 1, 0, none⟩) 1 1) (.slice none 0 0) (knIn ⟨[3], []⟩) := KV.of_at ⟨ints1 (l := [3]) (alloc_new _ _ _ _ (by simp)) (by decide), CellsAt.nil _⟩ (vecKn_ok (by decide) (by simp) (by simp)) (vec_sm (by simp))
  go_wp2_with fail
  (with_reducible refine (within_s _ _ _ _ _ _ _ kp kq).mono ?_)
  rintro e w1 ⟨rfl, hb⟩
  replace ha := ha.below hb
  replace hb0 := hb0.below hb
  replace hc := hc.below hb
  replace c_d0 := ckeep hb c_d0
  replace c_d1 := ckeep hb c_d1
  replace hbel := bstep hbel hb
  clear hb
  rw [begA_sub]
  clear kp kq
  go_wp2_with fail
  (with_reducible refine (set_s _ _ _ ha).mono ?_)
  rintro e w2 ⟨xa, xn, xc, xb, xm, xd, rfl, kx, hb⟩
  replace ha := ha.below hb
  replace hb0 := hb0.below hb
  replace hc := hc.below hb
  replace c_d0 := ckeep hb c_d0
  replace c_d1 := ckeep hb c_d1
  replace hbel := bstep hbel hb
  clear hb
  go_wp2_with fail
  (with_reducible refine (set_s _ _ _ hb0).mono ?_)
  rintro e w3 ⟨ya, yn, yc, yb, ym, yd, rfl, ky, hb⟩
  replace ha := ha.below hb
  replace hb0 := hb0.below hb
  replace hc := hc.below hb
  replace c_d0 := ckeep hb c_d0
  replace c_d1 := ckeep hb c_d1
  replace kx := kx.below hb
  replace hbel := bstep hbel hb
  clear hb
  go_wp2_with fail
  (with_reducible refine (set_s _ _ _ hc).mono ?_)
  rintro e w4 ⟨za, zn, zc, zb, zm, zd, rfl, kz, hb⟩
  replace ha := ha.below hb
  replace hb0 := hb0.below hb
  replace hc := hc.below hb
  replace c_d0 := ckeep hb c_d0
  replace c_d1 := ckeep hb c_d1
  replace kx := kx.below hb
  replace ky := ky.below hb
  replace hbel := bstep hbel hb
  clear hb
  clear ha hb0 hc
  have hal := bal (W := w4) (.cells #[(.slice xa xn xc), (.slice xb xm xd)] 30)
  replace c_d0 := ckeep hal c_d0
  replace c_d1 := ckeep hal c_d1
  replace kx := kx.below hal
  replace ky := ky.below hal
  replace kz := kz.below hal
  replace hbel := bstep hbel hal
  have c_x0 := cat (w4) #[(.slice xa xn xc), (.slice xb xm xd)] 30 0 _ rfl (w4.heap.size) (by simp)
  have c_x1 := cat (w4) #[(.slice xa xn xc), (.slice xb xm xd)] 30 1 _ rfl (w4.heap.size) (by simp)
  clear hal
  have hal := bal (W := (w4).alloc (.cells #[(.slice xa xn xc), (.slice xb xm xd)] 30)) (.cells #[(.slice ya yn yc), (.slice yb ym yd)] 30)
  replace c_d0 := ckeep hal c_d0
  replace c_d1 := ckeep hal c_d1
  replace kx := kx.below hal
  replace ky := ky.below hal
  replace kz := kz.below hal
  replace c_x0 := ckeep hal c_x0
  replace c_x1 := ckeep hal c_x1
  replace hbel := bstep hbel hal
  have c_y0 := cat ((w4).alloc (.cells #[(.slice xa xn xc), (.slice xb xm xd)] 30)) #[(.slice ya yn yc), (.slice yb ym yd)] 30 0 _ rfl (w4.heap.size + 1) (by simp)
  have c_y1 := cat ((w4).alloc (.cells #[(.slice xa xn xc), (.slice xb xm xd)] 30)) #[(.slice ya yn yc), (.slice yb ym yd)] 30 1 _ rfl (w4.heap.size + 1) (by simp)
  clear hal
  have hal := bal (W := ((w4).alloc (.cells #[(.slice xa xn xc), (.slice xb xm xd)] 30)).alloc (.cells #[(.slice ya yn yc), (.slice yb ym yd)] 30)) (.cells #[(.slice za zn zc), (.slice zb zm zd)] 30)
  replace c_d0 := ckeep hal c_d0
  replace c_d1 := ckeep hal c_d1
  replace kx := kx.below hal
  replace ky := ky.below hal
  replace kz := kz.below hal
  replace c_x0 := ckeep hal c_x0
  replace c_x1 := ckeep hal c_x1
  replace c_y0 := ckeep hal c_y0
  replace c_y1 := ckeep hal c_y1
  replace hbel := bstep hbel hal
  have c_z0 := cat (((w4).alloc (.cells #[(.slice xa xn xc), (.slice xb xm xd)] 30)).alloc (.cells #[(.slice ya yn yc), (.slice yb ym yd)] 30)) #[(.slice za zn zc), (.slice zb zm zd)] 30 0 _ rfl (w4.heap.size + 1 + 1) (by simp)
  have c_z1 := cat (((w4).alloc (.cells #[(.slice xa xn xc), (.slice xb xm xd)] 30)).alloc (.cells #[(.slice ya yn yc), (.slice yb ym yd)] 30)) #[(.slice za zn zc), (.slice zb zm zd)] 30 1 _ rfl (w4.heap.size + 1 + 1) (by simp)
  clear hal
  go_wp2_with fail
  (with_reducible refine (join_s _ _ _ _ _ _ _ kx ky).mono ?_)
  rintro e w5 ⟨ja, jn, jc, jb, jm, jd, rfl, kj, hb⟩
  replace c_d0 := ckeep hb c_d0
  replace c_d1 := ckeep hb c_d1
  replace kx := kx.below hb
  replace ky := ky.below hb
  replace kz := kz.below hb
  replace c_x0 := ckeep hb c_x0
  replace c_x1 := ckeep hb c_x1
  replace c_y0 := ckeep hb c_y0
  replace c_y1 := ckeep hb c_y1
  replace c_z0 := ckeep hb c_z0
  replace c_z1 := ckeep hb c_z1
  replace hbel := bstep hbel hb
  clear hb
  have hal := bal (W := w5) (.cells #[(.slice ja jn jc), (.slice jb jm jd)] 30)
  replace c_d0 := ckeep hal c_d0
  replace c_d1 := ckeep hal c_d1
  replace kx := kx.below hal
  replace ky := ky.below hal
  replace kz := kz.below hal
  replace c_x0 := ckeep hal c_x0
  replace c_x1 := ckeep hal c_x1
  replace c_y0 := ckeep hal c_y0
  replace c_y1 := ckeep hal c_y1
  replace c_z0 := ckeep hal c_z0
  replace c_z1 := ckeep hal c_z1
  replace kj := kj.below hal
  replace hbel := bstep hbel hal
  have c_j0 := cat w5 #[(.slice ja jn jc), (.slice jb jm jd)] 30 0 _ rfl _ rfl
  have c_j1 := cat w5 #[(.slice ja jn jc), (.slice jb jm jd)] 30 1 _ rfl _ rfl
  clear hal
  go_wp2_with fail
  (with_reducible refine (within_s _ _ _ _ _ _ _ kx kz).mono ?_)
  rintro e w6 ⟨rfl, hb⟩
  replace c_d0 := ckeep hb c_d0
  replace c_d1 := ckeep hb c_d1
  replace kx := kx.below hb
  replace ky := ky.below hb
  replace kz := kz.below hb
  replace c_x0 := ckeep hb c_x0
  replace c_x1 := ckeep hb c_x1
  replace c_y0 := ckeep hb c_y0
  replace c_y1 := ckeep hb c_y1
  replace c_z0 := ckeep hb c_z0
  replace c_z1 := ckeep hb c_z1
  replace kj := kj.below hb
  replace c_j0 := ckeep hb c_j0
  replace c_j1 := ckeep hb c_j1
  replace hbel := bstep hbel hb
  clear hb
  go_wp2_with fail
  (with_reducible refine (within_s _ _ _ _ _ _ _ ky kz).mono ?_)
  rintro e w7 ⟨rfl, hb⟩
  replace c_d0 := ckeep hb c_d0
  replace c_d1 := ckeep hb c_d1
  replace kx := kx.below hb
  replace ky := ky.below hb
  replace kz := kz.below hb
  replace c_x0 := ckeep hb c_x0
  replace c_x1 := ckeep hb c_x1
  replace c_y0 := ckeep hb c_y0
  replace c_y1 := ckeep hb c_y1
  replace c_z0 := ckeep hb c_z0
  replace c_z1 := ckeep hb c_z1
  replace kj := kj.below hb
  replace c_j0 := ckeep hb c_j0
  replace c_j1 := ckeep hb c_j1
  replace hbel := bstep hbel hb
  clear hb
  go_wp2_with fail
  (with_reducible refine (within_s _ _ _ _ _ _ _ kj kz).mono ?_)
  rintro e w8 ⟨rfl, hb⟩
  replace c_d0 := ckeep hb c_d0
  replace c_d1 := ckeep hb c_d1
  replace kx := kx.below hb
  replace ky := ky.below hb
  replace kz := kz.below hb
  replace c_x0 := ckeep hb c_x0
  replace c_x1 := ckeep hb c_x1
  replace c_y0 := ckeep hb c_y0
  replace c_y1 := ckeep hb c_y1
  replace c_z0 := ckeep hb c_z0
  replace c_z1 := ckeep hb c_z1
  replace kj := kj.below hb
  replace c_j0 := ckeep hb c_j0
  replace c_j1 := ckeep hb c_j1
  replace hbel := bstep hbel hb
  clear hb
  go_wp2_with fail
  (with_reducible refine (within_s _ _ _ _ _ _ _ kx ky).mono ?_)
  rintro e w9 ⟨rfl, hb⟩
  replace c_d0 := ckeep hb c_d0
  replace c_d1 := ckeep hb c_d1
  replace kx := kx.below hb
  replace ky := ky.below hb
  replace kz := kz.below hb
  replace c_x0 := ckeep hb c_x0
  replace c_x1 := ckeep hb c_x1
  replace c_y0 := ckeep hb c_y0
  replace c_y1 := ckeep hb c_y1
  replace c_z0 := ckeep hb c_z0
  replace c_z1 := ckeep hb c_z1
  replace kj := kj.below hb
  replace c_j0 := ckeep hb c_j0
  replace c_j1 := ckeep hb c_j1
  replace hbel := bstep hbel hb
  clear hb
  go_wp2_with fail
  (with_reducible refine (within_s _ _ _ _ _ _ _ ky kx).mono ?_)
  rintro e w10 ⟨rfl, hb⟩
  replace c_d0 := ckeep hb c_d0
  replace c_d1 := ckeep hb c_d1
  replace kx := kx.below hb
  replace ky := ky.below hb
  replace kz := kz.below hb
  replace c_x0 := ckeep hb c_x0
  replace c_x1 := ckeep hb c_x1
  replace c_y0 := ckeep hb c_y0
  replace c_y1 := ckeep hb c_y1
  replace c_z0 := ckeep hb c_z0
  replace c_z1 := ckeep hb c_z1
  replace kj := kj.below hb
  replace c_j0 := ckeep hb c_j0
  replace c_j1 := ckeep hb c_j1
  replace hbel := bstep hbel hb
  clear hb
  have HE := Lib.hid (eqB_sub (setP la) (setP lb))
  have HT := Lib.hid (show (!subB (setP la) (setP lb) || !subB (setP lb) (setP lc) || subB (setP la) (setP lc)) = true by cases h : subB (setP la) (setP lb) <;> cases k : subB (setP lb) (setP lc) <;> first | rfl | (rw [subB_trans h k]; rfl))
  have HH := Lib.hid (show (!subB (setP la) (setP lc) || !hasP (setP la) ds dc || hasP (setP lc) ds dc) = true by cases h : subB (setP la) (setP lc) <;> cases k : hasP (setP la) ds dc <;> first | rfl | (rw [hasP_sub h k]; rfl))
  rw [subB_or (setP la) (setP lb) (setP lc)]
  generalize hpg : subB (setP la) (setP lc) = p at *
  generalize hqg : subB (setP lb) (setP lc) = q at *
  generalize hug : subB (setP la) (setP lb) = u at *
  generalize hvg : subB (setP lb) (setP la) = v at *
  clear hpg hqg hug hvg
  cases p <;> cases q <;> cases u <;> cases v <;> (try (exfalso; first | exact absurd HT.out (by decide) | exact HT.out.elim))
  all_goals
    simp only [Bool.and_true, Bool.and_false, Bool.true_and, Bool.false_and] at HE ⊢
    go_wp2_with fail
    (with_reducible refine (same_s _ _ _ _ _ _ _ kx ky).mono ?_)
    rintro e w11 ⟨rfl, hb⟩
    replace c_d0 := ckeep hb c_d0
    replace c_d1 := ckeep hb c_d1
    replace kx := kx.below hb
    replace ky := ky.below hb
    replace kz := kz.below hb
    replace c_x0 := ckeep hb c_x0
    replace c_x1 := ckeep hb c_x1
    replace c_y0 := ckeep hb c_y0
    replace c_y1 := ckeep hb c_y1
    replace c_z0 := ckeep hb c_z0
    replace c_z1 := ckeep hb c_z1
    replace kj := kj.below hb
    replace c_j0 := ckeep hb c_j0
    replace c_j1 := ckeep hb c_j1
    replace hbel := bstep hbel hb
    clear hb
    rw [HE.out]
    go_wp2_with fail
    (with_reducible refine (has_s _ _ _ ds dc _ kx).mono ?_)
    rintro e w12 ⟨rfl, hb⟩
    replace c_d0 := ckeep hb c_d0
    replace c_d1 := ckeep hb c_d1
    replace kx := kx.below hb
    replace ky := ky.below hb
    replace kz := kz.below hb
    replace c_x0 := ckeep hb c_x0
    replace c_x1 := ckeep hb c_x1
    replace c_y0 := ckeep hb c_y0
    replace c_y1 := ckeep hb c_y1
    replace c_z0 := ckeep hb c_z0
    replace c_z1 := ckeep hb c_z1
    replace kj := kj.below hb
    replace c_j0 := ckeep hb c_j0
    replace c_j1 := ckeep hb c_j1
    replace hbel := bstep hbel hb
    clear hb
    go_wp2_with fail
    (with_reducible refine (has_s _ _ _ ds dc _ kz).mono ?_)
    rintro e w13 ⟨rfl, hb⟩
    replace c_d0 := ckeep hb c_d0
    replace c_d1 := ckeep hb c_d1
    replace kx := kx.below hb
    replace ky := ky.below hb
    replace kz := kz.below hb
    replace c_x0 := ckeep hb c_x0
    replace c_x1 := ckeep hb c_x1
    replace c_y0 := ckeep hb c_y0
    replace c_y1 := ckeep hb c_y1
    replace c_z0 := ckeep hb c_z0
    replace c_z1 := ckeep hb c_z1
    replace kj := kj.below hb
    replace c_j0 := ckeep hb c_j0
    replace c_j1 := ckeep hb c_j1
    replace hbel := bstep hbel hb
    clear hb
    generalize hasP (setP la) ds dc = h1 at *
    generalize hasP (setP lc) ds dc = h2 at *
    generalize dotE ds dc = de at *
    cases h1 <;> cases h2 <;> (try (exfalso; first | exact absurd HH.out (by decide) | exact HH.out.elim))
    all_goals
      go_wp2
      go_ret
      exact ⟨by simp, hbel⟩
end Go.Proofs.Ytippljiicnpieaa
