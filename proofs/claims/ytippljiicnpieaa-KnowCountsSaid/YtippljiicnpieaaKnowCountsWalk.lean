/- The walk of KnowCounts: it returns true, whatever the arguments are. Written by a small program (gen/know_laws.py). -/
import Derived.Test.YtippljiicnpieaaKnowCount2
namespace Go.Proofs.Ytippljiicnpieaa
open Go.RowKit
set_option maxRecDepth 100000 in
set_option maxHeartbeats 4000000 in
theorem KnowCounts_walk (va vb : Value) (la lb : List (List Int)) (turn ds dc : Int) (w : World) (ha : RowAt vecE w va la) (hb0 : RowAt vecE w vb lb) :
    Calls Try.prog 13 #[va, vb, .int .i64 turn, .agg #[.int .i64 ds, .int .i64 dc]] w fun e w' => e = .returned (.bool true) ∧ Below w.heap.size w w' := by
  obtain ⟨aa, ac, rfl, hcap, hlen, ha0, hal⟩ := ha.open_
  obtain ⟨ba, bc, rfl⟩ := hb0.shape
  have HAL := Lib.hid hal
  clear hal
  have hbel := Below.refl w.heap.size w
  go_enter Try.func13, Try.ntmps13
  have hal := bal (W := w) (.cells #[.int .i64 ds, .int .i64 dc] 24)
  replace ha := ha.below hal
  replace hb0 := hb0.below hal
  replace hbel := bstep hbel hal
  clear hal
  have b_d := alloc_new w #[.int .i64 ds, .int .i64 dc] 24 _ rfl
  go_wp2_with fail
  (with_reducible refine (knowBegun_c _).mono ?_)
  rintro e w1 ⟨rfl, hb⟩
  replace ha := ha.below hb
  replace hb0 := hb0.below hb
  replace b_d := below_keep hb b_d
  replace hbel := bstep hbel hb
  clear hb
  go_wp2_with fail
  (with_reducible refine (set_o _ _ _ ha).mono ?_)
  rintro e w2 ⟨xa, xn, xc, xb, xm, xd, rfl, ox, hb⟩
  replace ha := ha.below hb
  replace hb0 := hb0.below hb
  replace b_d := below_keep hb b_d
  replace hbel := bstep hbel hb
  clear hb
  go_wp2_with fail
  (with_reducible refine (set_o _ _ _ hb0).mono ?_)
  rintro e w3 ⟨ya, yn, yc, yb, ym, yd, rfl, oy, hb⟩
  replace ha := ha.below hb
  replace hb0 := hb0.below hb
  replace b_d := below_keep hb b_d
  replace ox := ox.below hb
  replace hbel := bstep hbel hb
  clear hb
  clear ha hb0
  have kx := KV.of_own ox (setP_sm la)
  have ky := KV.of_own oy (setP_sm lb)
  clear oy
  have hal := bal (W := w3) (.cells #[(.slice xa xn xc), (.slice xb xm xd)] 30)
  replace b_d := below_keep hal b_d
  replace ox := ox.below hal
  replace kx := kx.below hal
  replace ky := ky.below hal
  replace hbel := bstep hbel hal
  have c_x0 := cat (w3) #[(.slice xa xn xc), (.slice xb xm xd)] 30 0 _ rfl (w3.heap.size) (by simp)
  have c_x1 := cat (w3) #[(.slice xa xn xc), (.slice xb xm xd)] 30 1 _ rfl (w3.heap.size) (by simp)
  clear hal
  have hal := bal (W := (w3).alloc (.cells #[(.slice xa xn xc), (.slice xb xm xd)] 30)) (.cells #[(.slice ya yn yc), (.slice yb ym yd)] 30)
  replace b_d := below_keep hal b_d
  replace ox := ox.below hal
  replace kx := kx.below hal
  replace ky := ky.below hal
  replace c_x0 := ckeep hal c_x0
  replace c_x1 := ckeep hal c_x1
  replace hbel := bstep hbel hal
  have c_y0 := cat ((w3).alloc (.cells #[(.slice xa xn xc), (.slice xb xm xd)] 30)) #[(.slice ya yn yc), (.slice yb ym yd)] 30 0 _ rfl (w3.heap.size + 1) (by simp)
  have c_y1 := cat ((w3).alloc (.cells #[(.slice xa xn xc), (.slice xb xm xd)] 30)) #[(.slice ya yn yc), (.slice yb ym yd)] 30 1 _ rfl (w3.heap.size + 1) (by simp)
  clear hal
  have b_x := alloc_keep (.cells #[(.slice ya yn yc), (.slice yb ym yd)] 30) (alloc_new w3 #[(.slice xa xn xc), (.slice xb xm xd)] 30 _ rfl)
  go_wp2_with fail
  (with_reducible refine (join_s _ _ _ _ _ _ _ kx ky).mono ?_)
  rintro e w4 ⟨ja, jn, jc, jb, jm, jd, rfl, kj, hb⟩
  replace b_d := below_keep hb b_d
  replace ox := ox.below hb
  replace kx := kx.below hb
  replace ky := ky.below hb
  replace c_x0 := ckeep hb c_x0
  replace c_x1 := ckeep hb c_x1
  replace c_y0 := ckeep hb c_y0
  replace c_y1 := ckeep hb c_y1
  replace b_x := below_keep hb b_x
  replace hbel := bstep hbel hb
  clear hb
  have hal := bal (W := w4) (.cells #[(.slice ja jn jc), (.slice jb jm jd)] 30)
  replace b_d := below_keep hal b_d
  replace ox := ox.below hal
  replace kx := kx.below hal
  replace ky := ky.below hal
  replace c_x0 := ckeep hal c_x0
  replace c_x1 := ckeep hal c_x1
  replace c_y0 := ckeep hal c_y0
  replace c_y1 := ckeep hal c_y1
  replace b_x := below_keep hal b_x
  replace kj := kj.below hal
  replace hbel := bstep hbel hal
  have c_j0 := cat w4 #[(.slice ja jn jc), (.slice jb jm jd)] 30 0 _ rfl _ rfl
  have c_j1 := cat w4 #[(.slice ja jn jc), (.slice jb jm jd)] 30 1 _ rfl _ rfl
  clear hal
  go_wp2_with fail
  (with_reducible refine (meet_s _ _ _ _ _ _ _ kx ky).mono ?_)
  rintro e w5 ⟨ma, mn, mc, mb, mm, md, rfl, km, hb⟩
  replace b_d := below_keep hb b_d
  replace ox := ox.below hb
  replace kx := kx.below hb
  replace ky := ky.below hb
  replace c_x0 := ckeep hb c_x0
  replace c_x1 := ckeep hb c_x1
  replace c_y0 := ckeep hb c_y0
  replace c_y1 := ckeep hb c_y1
  replace b_x := below_keep hb b_x
  replace kj := kj.below hb
  replace c_j0 := ckeep hb c_j0
  replace c_j1 := ckeep hb c_j1
  replace hbel := bstep hbel hb
  clear hb
  have hal := bal (W := w5) (.cells #[(.slice ma mn mc), (.slice mb mm md)] 30)
  replace b_d := below_keep hal b_d
  replace ox := ox.below hal
  replace kx := kx.below hal
  replace ky := ky.below hal
  replace c_x0 := ckeep hal c_x0
  replace c_x1 := ckeep hal c_x1
  replace c_y0 := ckeep hal c_y0
  replace c_y1 := ckeep hal c_y1
  replace b_x := below_keep hal b_x
  replace kj := kj.below hal
  replace c_j0 := ckeep hal c_j0
  replace c_j1 := ckeep hal c_j1
  replace km := km.below hal
  replace hbel := bstep hbel hal
  have c_m0 := cat w5 #[(.slice ma mn mc), (.slice mb mm md)] 30 0 _ rfl _ rfl
  have c_m1 := cat w5 #[(.slice ma mn mc), (.slice mb mm md)] 30 1 _ rfl _ rfl
  clear hal
  go_wp2_with fail
  (with_reducible refine (count_s _ _ _ _ kx.z).mono ?_)
  rintro e w6 ⟨rfl, hb⟩
  replace b_d := below_keep hb b_d
  replace ox := ox.below hb
  replace kx := kx.below hb
  replace ky := ky.below hb
  replace c_x0 := ckeep hb c_x0
  replace c_x1 := ckeep hb c_x1
  replace c_y0 := ckeep hb c_y0
  replace c_y1 := ckeep hb c_y1
  replace b_x := below_keep hb b_x
  replace kj := kj.below hb
  replace c_j0 := ckeep hb c_j0
  replace c_j1 := ckeep hb c_j1
  replace km := km.below hb
  replace c_m0 := ckeep hb c_m0
  replace c_m1 := ckeep hb c_m1
  replace hbel := bstep hbel hb
  clear hb
  go_wp2_with fail
  (with_reducible refine (count_s _ _ _ _ ky.z).mono ?_)
  rintro e w7 ⟨rfl, hb⟩
  replace b_d := below_keep hb b_d
  replace ox := ox.below hb
  replace kx := kx.below hb
  replace ky := ky.below hb
  replace c_x0 := ckeep hb c_x0
  replace c_x1 := ckeep hb c_x1
  replace c_y0 := ckeep hb c_y0
  replace c_y1 := ckeep hb c_y1
  replace b_x := below_keep hb b_x
  replace kj := kj.below hb
  replace c_j0 := ckeep hb c_j0
  replace c_j1 := ckeep hb c_j1
  replace km := km.below hb
  replace c_m0 := ckeep hb c_m0
  replace c_m1 := ckeep hb c_m1
  replace hbel := bstep hbel hb
  clear hb
  go_wp2_with fail
  (with_reducible refine (count_s _ _ _ _ kj.z).mono ?_)
  rintro e w8 ⟨rfl, hb⟩
  replace b_d := below_keep hb b_d
  replace ox := ox.below hb
  replace kx := kx.below hb
  replace ky := ky.below hb
  replace c_x0 := ckeep hb c_x0
  replace c_x1 := ckeep hb c_x1
  replace c_y0 := ckeep hb c_y0
  replace c_y1 := ckeep hb c_y1
  replace b_x := below_keep hb b_x
  replace kj := kj.below hb
  replace c_j0 := ckeep hb c_j0
  replace c_j1 := ckeep hb c_j1
  replace km := km.below hb
  replace c_m0 := ckeep hb c_m0
  replace c_m1 := ckeep hb c_m1
  replace hbel := bstep hbel hb
  clear hb
  go_wp2_with fail
  (with_reducible refine (count_s _ _ _ _ km.z).mono ?_)
  rintro e w9 ⟨rfl, hb⟩
  replace b_d := below_keep hb b_d
  replace ox := ox.below hb
  replace kx := kx.below hb
  replace ky := ky.below hb
  replace c_x0 := ckeep hb c_x0
  replace c_x1 := ckeep hb c_x1
  replace c_y0 := ckeep hb c_y0
  replace c_y1 := ckeep hb c_y1
  replace b_x := below_keep hb b_x
  replace kj := kj.below hb
  replace c_j0 := ckeep hb c_j0
  replace c_j1 := ckeep hb c_j1
  replace km := km.below hb
  replace c_m0 := ckeep hb c_m0
  replace c_m1 := ckeep hb c_m1
  replace hbel := bstep hbel hb
  clear hb
  have HIN := Lib.hid (card_incl (setP la) (setP lb))
  have l1 := card_le (setP la)
  have l2 := card_le (setP lb)
  have l3 := card_le (orK (setP la) (setP lb))
  have l4 := card_le (andK (setP la) (setP lb))
  have HC1 := Lib.hid (rfl : cardD (setP la) = cardD (setP la))
  clear HC1
  generalize hn1 : cardD (setP la) = n1 at *
  have HN1 := Lib.hid hn1
  generalize cardD (setP lb) = n2 at *
  generalize cardD (orK (setP la) (setP lb)) = n3 at *
  generalize cardD (andK (setP la) (setP lb)) = n4 at *
  clear hn1
  have hsum : (n1 : Int) + (n2 : Int) = (n3 : Int) + (n4 : Int) := by have := HIN.out; omega
  clear HIN
  clear kx ky c_x0 c_x1 c_y0 c_y1 kj c_j0 c_j1 km c_m0 c_m1
  obtain ⟨L, hL⟩ : ∃ L, L = la.take 40 := ⟨_, rfl⟩
  obtain ⟨t, ht⟩ : ∃ t : Nat, t = min la.length 40 := ⟨_, rfl⟩
  have hmin : min (la.length : Int) 40 = (t : Int) := by omega
  have ht1 : t ≤ la.length := by omega
  have ht2 : t ≤ 40 := by omega
  have HLL := Lib.hid (show L.length = t by rw [hL, List.length_take, ht]; omega)
  have HLE := Lib.hid hL
  obtain ⟨tt, htt⟩ : ∃ tt : Nat, tt = wiN turn t := ⟨_, rfl⟩
  have HTT := Lib.hid (show t = 0 ∨ tt < t by by_cases h : t = 0; exact .inl h; right; rw [htt]; exact wiN_lt turn t (by omega))
  have HST := Lib.hid (show CSt w ((w9.alloc (.cells #[.slice none 0 0, .slice none 0 0] 30)).alloc (.cells #[.slice none 0 0, .slice none 0 0] 30)) w9.heap.size w3.heap.size w.heap.size (.slice xa xn xc) (.slice xb xm xd) ds dc (setP la) (dotsP (L.take 0)) (dotsP (rotR L tt 0)) from ⟨⟨none, 0, 0, none, 0, 0, alloc_keep _ (alloc_new _ _ _ _ rfl), own_none _⟩, ⟨none, 0, 0, none, 0, 0, alloc_new _ _ _ _ (by simp), own_none _⟩, alloc_keep _ (alloc_keep _ b_x), (ox.below (bal _)).below (bal _), alloc_keep _ (alloc_keep _ b_d), bstep (bstep hbel (bal _)) (bal _), hlt_of b_x, hlt_of b_d, hbel.size⟩)
  clear b_x b_d ox hbel
  rcases aa with - | a0
  · have htc : t ≤ ac := by omega
    obtain rfl := ha0 rfl
    have hl0 : la.length = 0 := by omega
    have ht0 : t = 0 := by omega
    clear ha0
    clear HAL hL ht
    go_wp2
    go_loopw [110] (fun i wr => ∃ (j : Nat), j ≤ t ∧ i = .int .i64 j ∧ CSt w wr w9.heap.size w3.heap.size w.heap.size (.slice xa xn xc) (.slice xb xm xd) ds dc (setP la) (dotsP (L.take j)) (dotsP (rotR L tt j))) (fun i _ => t - (intOf i).toNat)
    case atStart => exact ⟨0, Nat.zero_le _, rfl, HST.out⟩
    case round =>
      clear HST
      obtain ⟨j, hj, rfl, hM⟩ := hrel
      have M := Lib.hid hM
      clear hM
      by_cases hlt : j < t
      · exfalso; omega
      · obtain rfl : j = t := by omega
        have HE1 := Lib.hid (show DEq (dotsP (L.take j)) (setP la) by rw [List.take_of_length_le (by rw [HLL.out]; exact Nat.le_refl _), HLE.out]; exact fun s c h0 h5 h1 h2 => (setP_dots la s c h0 h5 h1 h2).symm)
        have HE2 := Lib.hid (show DEq (dotsP (rotR L tt j)) (setP la) by rw [← HLL.out]; exact fun s c h0 h5 h1 h2 => (rotR_dots L tt (by rw [HLL.out]; exact HTT.out) s c h0 h5 h1 h2).trans (by rw [HLE.out]; exact (setP_dots la s c h0 h5 h1 h2).symm))
        have M := Lib.hid (M.out.congr HE1.out HE2.out)
        obtain ⟨ka, kn, kc, kb, km, kd, hkb, hko⟩ := M.out.k
        obtain ⟨oa, on, oc, ob, om, od, hob, hoo⟩ := M.out.o
        have c_k0 := cell_of_block (j := 0) hkb rfl
        have c_k1 := cell_of_block (j := 1) hkb rfl
        have c_o0 := cell_of_block (j := 0) hob rfl
        have c_o1 := cell_of_block (j := 1) hob rfl
        have c_x0 := cell_of_block (j := 0) M.out.x rfl
        have c_x1 := cell_of_block (j := 1) M.out.x rfl
        have c_d0 := cell_of_block (j := 0) M.out.d rfl
        have c_d1 := cell_of_block (j := 1) M.out.d rfl
        have kk : KZ wr (.slice ka kn kc) (.slice kb km kd) (setP la) := ⟨formK_at hko, (setP_sm la).sz⟩
        have ko : KZ wr (.slice oa on oc) (.slice ob om od) (setP la) := ⟨formK_at hoo, (setP_sm la).sz⟩
        have kx : KV wr (.slice xa xn xc) (.slice xb xm xd) (setP la) := KV.of_own M.out.ox (setP_sm la)
        have hbel := M.out.bel
        clear hkb hko hob hoo M HE1 HE2
        go_wp2_with fail
        (with_reducible refine (same_z _ _ _ _ _ _ _ kk kx.z).mono ?_)
        rintro e w10 ⟨rfl, hb⟩
        replace c_k0 := ckeep hb c_k0
        replace c_k1 := ckeep hb c_k1
        replace c_o0 := ckeep hb c_o0
        replace c_o1 := ckeep hb c_o1
        replace c_x0 := ckeep hb c_x0
        replace c_x1 := ckeep hb c_x1
        replace c_d0 := ckeep hb c_d0
        replace c_d1 := ckeep hb c_d1
        replace kk := kk.below hb
        replace ko := ko.below hb
        replace kx := kx.below hb
        replace hbel := bstep hbel hb
        clear hb
        rw [show eqB (setP la) (setP la) = true from eqB_iff.2 (DEq.rfl' _)]
        go_wp2_with fail
        (with_reducible refine (same_z _ _ _ _ _ _ _ ko kx.z).mono ?_)
        rintro e w11 ⟨rfl, hb⟩
        replace c_k0 := ckeep hb c_k0
        replace c_k1 := ckeep hb c_k1
        replace c_o0 := ckeep hb c_o0
        replace c_o1 := ckeep hb c_o1
        replace c_x0 := ckeep hb c_x0
        replace c_x1 := ckeep hb c_x1
        replace c_d0 := ckeep hb c_d0
        replace c_d1 := ckeep hb c_d1
        replace kk := kk.below hb
        replace ko := ko.below hb
        replace kx := kx.below hb
        replace hbel := bstep hbel hb
        clear hb
        rw [show eqB (setP la) (setP la) = true from eqB_iff.2 (DEq.rfl' _)]
        clear kk ko c_k0 c_k1 c_o0 c_o1
        cases hd : dotOk (ds, dc)
        · have HD := Lib.hid hd
          clear hd
          go_wp2_with fail
          (with_reducible refine (add_bad _ _ (setP la) ds dc _ kx.at_ kx.sm HD.out).mono ?_)
          rintro e w12 ⟨rfl, hb⟩
          replace c_x0 := ckeep hb c_x0
          replace c_x1 := ckeep hb c_x1
          replace c_d0 := ckeep hb c_d0
          replace c_d1 := ckeep hb c_d1
          replace kx := kx.below hb
          replace hbel := bstep hbel hb
          clear hb
          have hal := bal (W := w12) (.cells #[.slice none 0 0, .slice none 0 0] 30)
          replace c_x0 := ckeep hal c_x0
          replace c_x1 := ckeep hal c_x1
          replace c_d0 := ckeep hal c_d0
          replace c_d1 := ckeep hal c_d1
          replace kx := kx.below hal
          replace hbel := bstep hbel hal
          clear hal
          have hp := fun j v h => cat w12 #[.slice none 0 0, .slice none 0 0] 30 j v h _ rfl
          have c_p0 := hp 0 _ rfl
          have c_p1 := hp 1 _ rfl
          clear hp
          go_wp2_with fail
          (with_reducible refine (dot_c ds dc _).mono ?_)
          rintro e w13 ⟨rfl, hb⟩
          replace c_x0 := ckeep hb c_x0
          replace c_x1 := ckeep hb c_x1
          replace c_d0 := ckeep hb c_d0
          replace c_d1 := ckeep hb c_d1
          replace kx := kx.below hb
          replace c_p0 := ckeep hb c_p0
          replace c_p1 := ckeep hb c_p1
          replace hbel := bstep hbel hb
          clear hb
          rw [HD.out]
          have kz := fun w2 => (show KZ w2 (.slice none 0 0) (.slice none 0 0) (dotsP []) from ⟨formK_at (own_none w2), (dotsP_sm []).sz⟩)
          go_wp2_with fail
          (with_reducible refine (same_z _ _ _ _ _ _ _ (kz _) (kz _)).mono ?_)
          rintro e w14 ⟨rfl, hb⟩
          replace c_x0 := ckeep hb c_x0
          replace c_x1 := ckeep hb c_x1
          replace c_d0 := ckeep hb c_d0
          replace c_d1 := ckeep hb c_d1
          replace kx := kx.below hb
          replace c_p0 := ckeep hb c_p0
          replace c_p1 := ckeep hb c_p1
          replace hbel := bstep hbel hb
          clear hb
          rw [show eqB (dotsP []) (dotsP []) = true from eqB_iff.2 (DEq.rfl' _)]
          clear kz
          go_wp2
          go_ret
          exact ⟨rfl, hbel⟩
        · have HD := Lib.hid hd
          clear hd
          go_wp2_with fail
          (with_reducible refine (add_ok _ _ (setP la) ds dc _ kx.at_ kx.sm HD.out).mono ?_)
          rintro e w15 ⟨pa, pn, pc, pb, pm, pd, rfl, op, hb⟩
          replace c_x0 := ckeep hb c_x0
          replace c_x1 := ckeep hb c_x1
          replace c_d0 := ckeep hb c_d0
          replace c_d1 := ckeep hb c_d1
          replace kx := kx.below hb
          replace hbel := bstep hbel hb
          clear hb
          have kp : KZ w15 (.slice pa pn pc) (.slice pb pm pd) (addP (setP la) ds dc) := ⟨formK_at op, (setP_sm la).add ds dc⟩
          clear op
          have hal := bal (W := w15) (.cells #[(.slice pa pn pc), (.slice pb pm pd)] 30)
          replace c_x0 := ckeep hal c_x0
          replace c_x1 := ckeep hal c_x1
          replace c_d0 := ckeep hal c_d0
          replace c_d1 := ckeep hal c_d1
          replace kx := kx.below hal
          replace kp := kp.below hal
          replace hbel := bstep hbel hal
          have c_p0 := cat w15 #[(.slice pa pn pc), (.slice pb pm pd)] 30 0 _ rfl _ rfl
          have c_p1 := cat w15 #[(.slice pa pn pc), (.slice pb pm pd)] 30 1 _ rfl _ rfl
          clear hal
          go_wp2_with fail
          (with_reducible refine (has_s _ _ _ ds dc _ kx).mono ?_)
          rintro e w16 ⟨rfl, hb⟩
          replace c_x0 := ckeep hb c_x0
          replace c_x1 := ckeep hb c_x1
          replace c_d0 := ckeep hb c_d0
          replace c_d1 := ckeep hb c_d1
          replace kx := kx.below hb
          replace kp := kp.below hb
          replace c_p0 := ckeep hb c_p0
          replace c_p1 := ckeep hb c_p1
          replace hbel := bstep hbel hb
          clear hb
          rw [show dotE ds dc = 0 by unfold dotE; rw [if_pos HD.out], show hasP (setP la) ds dc = setP la ds dc by unfold hasP; rw [HD.out]; rfl]
          go_wp2_with fail
          (with_reducible refine (count_s _ _ _ _ kp).mono ?_)
          rintro e w17 ⟨rfl, hb⟩
          replace c_x0 := ckeep hb c_x0
          replace c_x1 := ckeep hb c_x1
          replace c_d0 := ckeep hb c_d0
          replace c_d1 := ckeep hb c_d1
          replace kx := kx.below hb
          replace kp := kp.below hb
          replace c_p0 := ckeep hb c_p0
          replace c_p1 := ckeep hb c_p1
          replace hbel := bstep hbel hb
          clear hb
          have HCA := Lib.hid (card_add (setP la) (dotOk_iff.1 HD.out).1.1 (dotOk_iff.1 HD.out).1.2 (dotOk_iff.1 HD.out).2.1 (dotOk_iff.1 HD.out).2.2)
          rw [HCA.out, HN1.out]
          clear HCA HN1
          cases his : setP la ds dc
          · clear his
            simp only [Bool.false_eq_true, if_false]
            have hnn : ((n1 + 1 : Nat) : Int) = (n1 : Int) + 1 := rfl
            rw [hnn]
            clear hnn
            go_wp2
            go_ret
            exact ⟨by simp, hbel⟩
          · have HIS := Lib.hid his
            clear his
            simp only [if_true, Nat.add_zero]
            go_wp2_with fail
            (with_reducible refine (same_z _ _ _ _ _ _ _ kp kx.z).mono ?_)
            rintro e w18 ⟨rfl, hb⟩
            replace c_x0 := ckeep hb c_x0
            replace c_x1 := ckeep hb c_x1
            replace c_d0 := ckeep hb c_d0
            replace c_d1 := ckeep hb c_d1
            replace kx := kx.below hb
            replace kp := kp.below hb
            replace c_p0 := ckeep hb c_p0
            replace c_p1 := ckeep hb c_p1
            replace hbel := bstep hbel hb
            clear hb
            rw [show eqB (addP (setP la) ds dc) (setP la) = true from eqB_iff.2 (add_self HIS.out)]
            go_wp2
            go_ret
            exact ⟨by simp, hbel⟩
  · have htc : t ≤ ac := by omega
    have HROW := Lib.hid (show t = 0 ∨ ∃ b off, a0 = ⟨b, off, none⟩ ∧ ∀ r, r < t → ∃ (ua : Option Addr) (uc : Nat), ∀ wr, Below w.heap.size w wr → wr.cell? ⟨b, off + r, none⟩ = some (.slice ua (L.getD r []).length uc) ∧ IsAt wr (.slice ua (L.getD r []).length uc) (L.getD r []) by
      rcases HAL.out with h | ⟨b, off, h1, hb, hc⟩
      · left; rw [h] at ht1; simpa using ht1
      · right
        simp only [Option.some.injEq] at h1
        refine ⟨b, off, h1, fun r hr => ?_⟩
        obtain ⟨c, ⟨u, rfl, hu⟩, hcc⟩ := hc r (by omega)
        have e : L.getD r [] = la[r]'(by omega) := by rw [hL, List.getD_eq_getElem?_getD, List.getElem?_take, if_pos (by omega), List.getElem?_eq_getElem (by omega)]; rfl
        obtain ⟨ua, uc, rfl⟩ := hu.shape
        rw [e]
        exact ⟨ua, uc, fun wr hbl => ⟨(hbl.cell (p := ⟨b, off + r, none⟩) hb).trans (by have := hcc 0 _ rfl; simpa [vecE] using this), hu.below hbl⟩⟩)
    clear ha0
    clear HAL hL ht
    go_wp2
    go_loopw [110] (fun i wr => ∃ (j : Nat), j ≤ t ∧ i = .int .i64 j ∧ CSt w wr w9.heap.size w3.heap.size w.heap.size (.slice xa xn xc) (.slice xb xm xd) ds dc (setP la) (dotsP (L.take j)) (dotsP (rotR L tt j))) (fun i _ => t - (intOf i).toNat)
    case atStart => exact ⟨0, Nat.zero_le _, rfl, HST.out⟩
    case round =>
      clear HST
      obtain ⟨j, hj, rfl, hM⟩ := hrel
      have M := Lib.hid hM
      clear hM
      by_cases hlt : j < t
      · rcases HROW.out with h0 | ⟨b, off, rfl, hrow⟩
        · omega
        obtain ⟨r, hrd⟩ : ∃ r, r = (j + tt) % t := ⟨_, rfl⟩
        have hrt : r < t := by rw [hrd]; exact Nat.mod_lt _ (by omega)
        obtain ⟨ua1, uc1, hi1⟩ := hrow j hlt
        obtain ⟨ua2, uc2, hi2⟩ := hrow r hrt
        have C1 := Lib.hid (hi1 _ M.out.bel).1
        have C2 := Lib.hid (hi2 _ M.out.bel).1
        have I1 := Lib.hid (fun wr hb => (hi1 wr hb).2)
        have I2 := Lib.hid (fun wr hb => (hi2 wr hb).2)
        have HT1 := Lib.hid (show L.take (j + 1) = L.take j ++ [L.getD j []] by rw [List.take_succ_eq_append_getElem (by rw [HLL.out]; exact hlt), List.getD_eq_getElem?_getD, List.getElem?_eq_getElem (by rw [HLL.out]; exact hlt)]; rfl)
        have HT2 := Lib.hid (show rotR L tt (j + 1) = rotR L tt j ++ [L.getD r []] by rw [rotR_succ, HLL.out, hrd])
        have hrr : ((j : Int) + (tt : Int)) % (t : Int) = (r : Int) := by rw [hrd]; simp
        have HWT := Lib.hid (fun w2 => (show Calls Try.prog 28 #[.int .i64 turn, .int .i64 (t : Int)] w2 fun e w' => e = .returned (.int .i64 ((tt : Nat) : Int)) ∧ Below w2.heap.size w2 w' by rw [htt]; exact wiN_c turn t w2 (by omega) (by omega)))
        have htl : tt < t := by have := HTT.out; omega
        clear hrow hi1 hi2
        have HRR := Lib.hid hrr
        have HRD := Lib.hid hrd
        have HTD := Lib.hid htt
        clear hrr hrd htt
        generalize hp1 : dotsP (L.take j) = P1 at *
        generalize hp2 : dotsP (rotR L tt j) = P2 at *
        have HP1 := Lib.hid hp1
        have HP2 := Lib.hid hp2
        have SM1 := Lib.hid (show Sm P1 by rw [← hp1]; exact dotsP_sm _)
        have SM2 := Lib.hid (show Sm P2 by rw [← hp2]; exact dotsP_sm _)
        clear hp1 hp2
        generalize L.getD j [] = m1 at *
        generalize L.getD r [] = m2 at *
        have hltb : decide ((j : Int) < (t : Int)) = true := by simp; omega
        go_wp2
        refine Cl.region0 236 rfl [] (fun _ => True) (fun _ => []) (fun jq v ww => match jq with | 0 => v = .slice (some ⟨b, off, none⟩) t ac | 1 => v = .int .i64 (j : Nat) | 2 => v = .pointer (some ⟨b, off + j, none⟩) | 3 => v = .slice ua1 m1.length uc1 | 4 => v = .slice (some ⟨b, off, none⟩) t ac | 5 => v = .int .i64 (j : Nat) | 6 => v = .int .i64 turn | 7 => v = .slice (some ⟨b, off, none⟩) t ac | 8 => v = .int .i64 (t : Nat) | 9 => v = .int .i64 (tt : Nat) | 10 => v = .int .i64 ((j : Int) + (tt : Int)) | 11 => v = .slice (some ⟨b, off, none⟩) t ac | 12 => v = .int .i64 (t : Nat) | 13 => v = .int .i64 (r : Nat) | 14 => v = .pointer (some ⟨b, off + r, none⟩) | 15 => v = .slice ua2 m2.length uc2 | 16 => v = .slice ua1 m1.length uc1 | 17 => v = .slice ua2 m2.length uc2 | _ => True) (fun ww => Below wr.heap.size wr ww) (fun jq ww ww' => Below ww.heap.size ww ww') Try.mixed (by decide +kernel) (Below.refl _ _).drew trivial (fun q r v w w' _ _ _ h _ => h) (fun _ _ _ _ _ _ => trivial) ?_ ?_
        · refine ⟨?_, ?_, ?_, ?_, ?_, ?_, ?_, ?_, ?_, ?_, ?_, ?_, ?_, ?_, ?_, ?_, ?_, ?_, trivial⟩
          · intro x wx hG
            have f0 := hG.old 0 (by decide +kernel)
            have hg := hG.good
            clear hG
            go_wp2
            exact ⟨_, rfl, rfl, hg, Below.refl _ _⟩
          · intro x wx hG
            have f25 := hG.old 25 (by decide +kernel)
            have hg := hG.good
            clear hG
            go_wp2
            exact ⟨_, rfl, rfl, hg, Below.refl _ _⟩
          · intro x wx hG
            have g0 : (x.tmps.getD 113 undef) = .slice (some ⟨b, off, none⟩) t ac := hG.claims 0 _ rfl (by decide +kernel) (by decide +kernel)
            have g1 : (x.tmps.getD 114 undef) = .int .i64 (j : Nat) := hG.claims 1 _ rfl (by decide +kernel) (by decide +kernel)
            have hg := hG.good
            clear hG
            go_wp2
            exact ⟨_, rfl, rfl, hg, Below.refl _ _⟩
          · intro x wx hG
            have g2 : (x.tmps.getD 115 undef) = .pointer (some ⟨b, off + j, none⟩) := hG.claims 2 _ rfl (by decide +kernel) (by decide +kernel)
            have hg := hG.good
            clear hG
            have c_C1 := ckeep hg C1.out
            go_wp2
            exact ⟨_, rfl, rfl, hg, Below.refl _ _⟩
          · intro x wx hG
            have f0 := hG.old 0 (by decide +kernel)
            have hg := hG.good
            clear hG
            go_wp2
            exact ⟨_, rfl, rfl, hg, Below.refl _ _⟩
          · intro x wx hG
            have f25 := hG.old 25 (by decide +kernel)
            have hg := hG.good
            clear hG
            go_wp2
            exact ⟨_, rfl, rfl, hg, Below.refl _ _⟩
          · intro x wx hG
            have f2 := hG.old 2 (by decide +kernel)
            have hg := hG.good
            clear hG
            go_wp2
            exact ⟨_, rfl, rfl, hg, Below.refl _ _⟩
          · intro x wx hG
            have f0 := hG.old 0 (by decide +kernel)
            have hg := hG.good
            clear hG
            go_wp2
            exact ⟨_, rfl, rfl, hg, Below.refl _ _⟩
          · intro x wx hG
            have g7 : (x.tmps.getD 120 undef) = .slice (some ⟨b, off, none⟩) t ac := hG.claims 7 _ rfl (by decide +kernel) (by decide +kernel)
            have hg := hG.good
            clear hG
            go_wp2
            exact ⟨_, rfl, rfl, hg, Below.refl _ _⟩
          · intro x wx hG
            have g6 : (x.tmps.getD 119 undef) = .int .i64 turn := hG.claims 6 _ rfl (by decide +kernel) (by decide +kernel)
            have g8 : (x.tmps.getD 121 undef) = .int .i64 (t : Nat) := hG.claims 8 _ rfl (by decide +kernel) (by decide +kernel)
            have hg := hG.good
            clear hG
            go_wp2_with fail
            (with_reducible refine (HWT.out _).mono ?_)
            rintro e wq ⟨rfl, hb⟩
            go_wp2
            exact ⟨_, rfl, rfl, bstep hg hb, hb⟩
          · intro x wx hG
            have g5 : (x.tmps.getD 118 undef) = .int .i64 (j : Nat) := hG.claims 5 _ rfl (by decide +kernel) (by decide +kernel)
            have g9 : (x.tmps.getD 122 undef) = .int .i64 (tt : Nat) := hG.claims 9 _ rfl (by decide +kernel) (by decide +kernel)
            have hg := hG.good
            clear hG
            go_wp2
            exact ⟨_, rfl, rfl, hg, Below.refl _ _⟩
          · intro x wx hG
            have f0 := hG.old 0 (by decide +kernel)
            have hg := hG.good
            clear hG
            go_wp2
            exact ⟨_, rfl, rfl, hg, Below.refl _ _⟩
          · intro x wx hG
            have g11 : (x.tmps.getD 124 undef) = .slice (some ⟨b, off, none⟩) t ac := hG.claims 11 _ rfl (by decide +kernel) (by decide +kernel)
            have hg := hG.good
            clear hG
            go_wp2
            exact ⟨_, rfl, rfl, hg, Below.refl _ _⟩
          · intro x wx hG
            have g10 : (x.tmps.getD 123 undef) = .int .i64 ((j : Int) + (tt : Int)) := hG.claims 10 _ rfl (by decide +kernel) (by decide +kernel)
            have g12 : (x.tmps.getD 125 undef) = .int .i64 (t : Nat) := hG.claims 12 _ rfl (by decide +kernel) (by decide +kernel)
            have hg := hG.good
            clear hG
            go_wp2
            rw [HRR.out]
            exact ⟨_, rfl, rfl, hg, Below.refl _ _⟩
          · intro x wx hG
            have g4 : (x.tmps.getD 117 undef) = .slice (some ⟨b, off, none⟩) t ac := hG.claims 4 _ rfl (by decide +kernel) (by decide +kernel)
            have g13 : (x.tmps.getD 126 undef) = .int .i64 (r : Nat) := hG.claims 13 _ rfl (by decide +kernel) (by decide +kernel)
            have hg := hG.good
            clear hG
            go_wp2
            exact ⟨_, rfl, rfl, hg, Below.refl _ _⟩
          · intro x wx hG
            have g14 : (x.tmps.getD 127 undef) = .pointer (some ⟨b, off + r, none⟩) := hG.claims 14 _ rfl (by decide +kernel) (by decide +kernel)
            have hg := hG.good
            clear hG
            have c_C2 := ckeep hg C2.out
            go_wp2
            exact ⟨_, rfl, rfl, hg, Below.refl _ _⟩
          · intro x wx hG
            have g3 : (x.tmps.getD 116 undef) = .slice ua1 m1.length uc1 := hG.claims 3 _ rfl (by decide +kernel) (by decide +kernel)
            have hg := hG.good
            clear hG
            go_wp2
            exact ⟨_, rfl, rfl, hg, Below.refl _ _⟩
          · intro x wx hG
            have g15 : (x.tmps.getD 128 undef) = .slice ua2 m2.length uc2 := hG.claims 15 _ rfl (by decide +kernel) (by decide +kernel)
            have hg := hG.good
            clear hG
            go_wp2
            exact ⟨_, rfl, rfl, hg, Below.refl _ _⟩
        · intro vals w18 hg hF
          obtain ⟨g0, g1, g2, g3, g4, g5, g6, g7, g8, g9, g10, g11, g12, g13, g14, g15, g16, g17, -⟩ := hF
          have e0 : vals 0 = .slice (some ⟨b, off, none⟩) t ac := g0 rfl
          have e1 : vals 1 = .int .i64 (j : Nat) := g1 rfl
          have e2 : vals 2 = .pointer (some ⟨b, off + j, none⟩) := g2 rfl
          have e3 : vals 3 = .slice ua1 m1.length uc1 := g3 rfl
          have e4 : vals 4 = .slice (some ⟨b, off, none⟩) t ac := g4 rfl
          have e5 : vals 5 = .int .i64 (j : Nat) := g5 rfl
          have e6 : vals 6 = .int .i64 turn := g6 rfl
          have e7 : vals 7 = .slice (some ⟨b, off, none⟩) t ac := g7 rfl
          have e8 : vals 8 = .int .i64 (t : Nat) := g8 rfl
          have e9 : vals 9 = .int .i64 (tt : Nat) := g9 rfl
          have e10 : vals 10 = .int .i64 ((j : Int) + (tt : Int)) := g10 rfl
          have e11 : vals 11 = .slice (some ⟨b, off, none⟩) t ac := g11 rfl
          have e12 : vals 12 = .int .i64 (t : Nat) := g12 rfl
          have e13 : vals 13 = .int .i64 (r : Nat) := g13 rfl
          have e14 : vals 14 = .pointer (some ⟨b, off + r, none⟩) := g14 rfl
          have e15 : vals 15 = .slice ua2 m2.length uc2 := g15 rfl
          have e16 : vals 16 = .slice ua1 m1.length uc1 := g16 rfl
          have e17 : vals 17 = .slice ua2 m2.length uc2 := g17 rfl
          simp only [Cl.puts, e0, e1, e2, e3, e4, e5, e6, e7, e8, e9, e10, e11, e12, e13, e14, e15, e16, e17]
          clear e0 e1 e2 e3 e4 e5 e6 e7 e8 e9 e10 e11 e12 e13 e14 e15 e16 e17 g0 g1 g2 g3 g4 g5 g6 g7 g8 g9 g10 g11 g12 g13 g14 g15 g16 g17
          go_simp
          have M18 := Lib.hid (M.out.below hg)
          clear M C1 C2 hg
          have M := M18
          by_cases hl1 : 1 < m1.length
          · obtain ⟨va1, vc1, hv1, -, -, -, hul⟩ := (I1.out _ M.out.bel).open_
            simp only [Value.slice.injEq, true_and] at hv1
            obtain ⟨rfl, rfl⟩ := hv1
            rcases hul with hnil | ⟨b2, off2, rfl, hb2, hcc⟩
            · rw [hnil] at hl1; simp at hl1
            have X0 := Lib.hid (hcc 0 (by omega))
            have X1 := Lib.hid (hcc 1 hl1)
            rw [Nat.add_zero] at X0
            have HRW := Lib.hid (show rowDot m1 = some (wiN m1[0] 5, 1 + wiN m1[1] 12) by
              match m1, hl1 with
              | a :: b :: r, _ => rfl)
            have hs5 := wiN_lt m1[0] 5 (by decide)
            have hn12 := wiN_lt m1[1] 12 (by decide)
            change wiN m1[0] 5 < 5 at hs5
            change wiN m1[1] 12 < 12 at hn12
            have HWA := Lib.hid (fun w2 => wiN_c m1[0] 5 w2 (by decide) (by decide))
            have HWB := Lib.hid (fun w2 => wiN_c m1[1] 12 w2 (by decide) (by decide))
            clear hcc
            generalize m1[0] = x0 at *
            generalize m1[1] = x1 at *
            generalize wiN x0 5 = s5 at *
            generalize wiN x1 12 = n12 at *
            obtain ⟨ka, kn, kc, kb, km, kd, hkb, hko⟩ := M.out.k
            have KB := Lib.hid hkb
            have HK := Lib.hid (formK_at hko)
            have KC0 := Lib.hid (cell_of_block (j := 0) hkb rfl)
            have KC1 := Lib.hid (cell_of_block (j := 1) hkb rfl)
            have HADD := Lib.hid (fun w2 hk => add_ok (.slice ka kn kc) (.slice kb km kd) P1 (s5 : Nat) (1 + (n12 : Int)) w2 hk SM1.out (dotOk_iff.2 ⟨by simp only; omega, by simp only; omega⟩))
            clear hkb hko
            go_wp2
            refine Cl.region0 236 rfl [15] (fun ww => Below w18.heap.size w18 ww) (fun _ => []) (fun jq v ww => match jq with | 0 => v = .agg #[.slice ka kn kc, .slice kb km kd] | 1 => v = .slice (some ⟨b2, off2, none⟩) m1.length uc1 | 2 => v = .pointer (some ⟨b2, off2, none⟩) | 3 => v = .int .i64 x0 | 4 => v = .int .i64 (s5 : Nat) | 5 => v = .slice (some ⟨b2, off2, none⟩) m1.length uc1 | 6 => v = .pointer (some ⟨b2, off2 + 1, none⟩) | 7 => v = .int .i64 x1 | 8 => v = .int .i64 (n12 : Nat) | 9 => v = .int .i64 (1 + (n12 : Int)) | 10 => v = .agg #[.int .i64 (s5 : Nat), .int .i64 (1 + (n12 : Int))] | 11 => AddV ww v (addP P1 (s5 : Nat) (1 + (n12 : Int))) | 12 => AddV ww v (addP P1 (s5 : Nat) (1 + (n12 : Int))) | 13 => AggV ww v (addP P1 (s5 : Nat) (1 + (n12 : Int))) | 14 => v = .int .i64 0 | 15 => CSt w ww w9.heap.size w3.heap.size w.heap.size (.slice xa xn xc) (.slice xb xm xd) ds dc (setP la) (addP P1 (s5 : Nat) (1 + (n12 : Int))) P2 | 16 => v = .int .i64 0 | _ => True) (fun ww => True) (fun jq ww ww' => (jq ≠ 15 → Below ww.heap.size ww ww') ∧ (jq = 15 → SetsK (w9.heap.size) ww ww')) Try.mixed (by decide +kernel) trivial ((Below.refl _ _).drew) ?_ (fun jq ww ww' hk h hR => bstep h (hR.1 (by simpa using hk))) ?_ ?_
            · intro q r v w w' hne hk hlt h hR
              match r, hk, hlt, h, hne with
              | 0, _, _, h, _ => exact h
              | 1, _, _, h, _ => exact h
              | 2, _, _, h, _ => exact h
              | 3, _, _, h, _ => exact h
              | 4, _, _, h, _ => exact h
              | 5, _, _, h, _ => exact h
              | 6, _, _, h, _ => exact h
              | 7, _, _, h, _ => exact h
              | 8, _, _, h, _ => exact h
              | 9, _, _, h, _ => exact h
              | 10, _, _, h, _ => exact h
              | 11, _, _, h, _ =>
                by_cases hq : q = 15
                · exact AddV.sets h (hR.2 hq)
                · exact AddV.below h (hR.1 hq)
              | 12, _, _, h, _ =>
                by_cases hq : q = 15
                · exact AddV.sets h (hR.2 hq)
                · exact AddV.below h (hR.1 hq)
              | 13, _, _, h, _ =>
                by_cases hq : q = 15
                · exact AggV.sets h (hR.2 hq)
                · exact AggV.below h (hR.1 hq)
              | 14, _, _, h, _ => exact h
              | 15, _, _, h, hne => exact CSt.below h (hR.1 (by exact hne))
              | 16, _, _, h, _ => exact h
              | _ + 17, _, _, _, _ => trivial
            · refine ⟨?_, ?_, ?_, ?_, ?_, ?_, ?_, ?_, ?_, ?_, ?_, ?_, ?_, ?_, ?_, ?_, ?_, trivial⟩
              · intro x wx hG
                have f23 := hG.old 23 (by decide +kernel)
                have hp := hG.pre (by decide +kernel)
                have hg := hG.good
                clear hG
                have hg := hp
                have c_KC0 := ckeep hg KC0.out
                have c_KC1 := ckeep hg KC1.out
                go_wp2
                exact ⟨_, rfl, rfl, trivial, ⟨fun _ => Below.refl _ _, fun h => absurd h (by decide)⟩⟩
              · intro x wx hG
                have f28 := hG.old 28 (by decide +kernel)
                have hp := hG.pre (by decide +kernel)
                have hg := hG.good
                clear hG
                have hg := hp
                go_wp2
                exact ⟨_, rfl, rfl, trivial, ⟨fun _ => Below.refl _ _, fun h => absurd h (by decide)⟩⟩
              · intro x wx hG
                have g1 : (x.tmps.getD 134 undef) = .slice (some ⟨b2, off2, none⟩) m1.length uc1 := hG.claims 1 _ rfl (by decide +kernel) (by decide +kernel)
                have hp := hG.pre (by decide +kernel)
                have hg := hG.good
                clear hG
                have hg := hp
                go_wp2
                exact ⟨_, rfl, rfl, trivial, ⟨fun _ => Below.refl _ _, fun h => absurd h (by decide)⟩⟩
              · intro x wx hG
                have g2 : (x.tmps.getD 135 undef) = .pointer (some ⟨b2, off2, none⟩) := hG.claims 2 _ rfl (by decide +kernel) (by decide +kernel)
                have hp := hG.pre (by decide +kernel)
                have hg := hG.good
                clear hG
                have hg := hp
                have c_X0 := ckeep hg X0.out
                go_wp2
                exact ⟨_, rfl, rfl, trivial, ⟨fun _ => Below.refl _ _, fun h => absurd h (by decide)⟩⟩
              · intro x wx hG
                have g3 : (x.tmps.getD 136 undef) = .int .i64 x0 := hG.claims 3 _ rfl (by decide +kernel) (by decide +kernel)
                have hp := hG.pre (by decide +kernel)
                have hg := hG.good
                clear hG
                have hg := hp
                go_wp2_with fail
                (with_reducible refine (HWA.out _).mono ?_)
                rintro e wq ⟨rfl, hb⟩
                go_wp2
                exact ⟨_, rfl, rfl, trivial, ⟨fun _ => hb, fun h => absurd h (by decide)⟩⟩
              · intro x wx hG
                have f28 := hG.old 28 (by decide +kernel)
                have hp := hG.pre (by decide +kernel)
                have hg := hG.good
                clear hG
                have hg := hp
                go_wp2
                exact ⟨_, rfl, rfl, trivial, ⟨fun _ => Below.refl _ _, fun h => absurd h (by decide)⟩⟩
              · intro x wx hG
                have g5 : (x.tmps.getD 138 undef) = .slice (some ⟨b2, off2, none⟩) m1.length uc1 := hG.claims 5 _ rfl (by decide +kernel) (by decide +kernel)
                have hp := hG.pre (by decide +kernel)
                have hg := hG.good
                clear hG
                have hg := hp
                go_wp2
                exact ⟨_, rfl, rfl, trivial, ⟨fun _ => Below.refl _ _, fun h => absurd h (by decide)⟩⟩
              · intro x wx hG
                have g6 : (x.tmps.getD 139 undef) = .pointer (some ⟨b2, off2 + 1, none⟩) := hG.claims 6 _ rfl (by decide +kernel) (by decide +kernel)
                have hp := hG.pre (by decide +kernel)
                have hg := hG.good
                clear hG
                have hg := hp
                have c_X1 := ckeep hg X1.out
                go_wp2
                exact ⟨_, rfl, rfl, trivial, ⟨fun _ => Below.refl _ _, fun h => absurd h (by decide)⟩⟩
              · intro x wx hG
                have g7 : (x.tmps.getD 140 undef) = .int .i64 x1 := hG.claims 7 _ rfl (by decide +kernel) (by decide +kernel)
                have hp := hG.pre (by decide +kernel)
                have hg := hG.good
                clear hG
                have hg := hp
                go_wp2_with fail
                (with_reducible refine (HWB.out _).mono ?_)
                rintro e wq ⟨rfl, hb⟩
                go_wp2
                exact ⟨_, rfl, rfl, trivial, ⟨fun _ => hb, fun h => absurd h (by decide)⟩⟩
              · intro x wx hG
                have g8 : (x.tmps.getD 141 undef) = .int .i64 (n12 : Nat) := hG.claims 8 _ rfl (by decide +kernel) (by decide +kernel)
                have hp := hG.pre (by decide +kernel)
                have hg := hG.good
                clear hG
                have hg := hp
                go_wp2
                exact ⟨_, rfl, rfl, trivial, ⟨fun _ => Below.refl _ _, fun h => absurd h (by decide)⟩⟩
              · intro x wx hG
                have g4 : (x.tmps.getD 137 undef) = .int .i64 (s5 : Nat) := hG.claims 4 _ rfl (by decide +kernel) (by decide +kernel)
                have g4b := g4
                rw [Array.getD_eq_getD_getElem?] at g4b
                have g9 : (x.tmps.getD 142 undef) = .int .i64 (1 + (n12 : Int)) := hG.claims 9 _ rfl (by decide +kernel) (by decide +kernel)
                have g9b := g9
                rw [Array.getD_eq_getD_getElem?] at g9b
                have hp := hG.pre (by decide +kernel)
                have hg := hG.good
                clear hG
                have hg := hp
                go_wp2
                exact ⟨_, rfl, rfl, trivial, ⟨fun _ => Below.refl _ _, fun h => absurd h (by decide)⟩⟩
              · intro x wx hG
                have g0 : (x.tmps.getD 133 undef) = .agg #[.slice ka kn kc, .slice kb km kd] := hG.claims 0 _ rfl (by decide +kernel) (by decide +kernel)
                have g10 : (x.tmps.getD 143 undef) = .agg #[.int .i64 (s5 : Nat), .int .i64 (1 + (n12 : Int))] := hG.claims 10 _ rfl (by decide +kernel) (by decide +kernel)
                have hp := hG.pre (by decide +kernel)
                have hg := hG.good
                clear hG
                have hg := hp
                have HKX := Lib.hid (HK.out.below hg)
                go_wp2_with fail
                (with_reducible refine (HADD.out _ HKX.out).mono ?_)
                rintro e wq ⟨qa, qn, qc, qb, qm, qd, rfl, h9, hb⟩
                have H9 := Lib.hid (h9.mono (Nat.zero_le _))
                clear h9
                go_wp2
                exact ⟨_, rfl, ⟨_, _, _, _, _, _, rfl, H9.out⟩, trivial, ⟨fun _ => hb, fun h => absurd h (by decide)⟩⟩
              · intro x wx hG
                have g11 : AddV wx (x.tmps.getD 144 undef) (addP P1 (s5 : Nat) (1 + (n12 : Int))) := hG.claims 11 _ rfl (by decide +kernel) (by decide +kernel)
                have hp := hG.pre (by decide +kernel)
                have hg := hG.good
                clear hG
                have hg := hp
                obtain ⟨qa, qn, qc, qb, qm, qd, hx9, h9⟩ := g11
                have H9 := Lib.hid h9
                clear h9
                go_wp2
                exact ⟨_, rfl, ⟨_, _, _, _, _, _, rfl, H9.out⟩, trivial, ⟨fun _ => Below.refl _ _, fun h => absurd h (by decide)⟩⟩
              · intro x wx hG
                have g12 : AddV wx (x.tmps.getD 132 undef) (addP P1 (s5 : Nat) (1 + (n12 : Int))) := hG.claims 12 _ rfl (by decide +kernel) (by decide +kernel)
                have hp := hG.pre (by decide +kernel)
                have hg := hG.good
                clear hG
                have hg := hp
                obtain ⟨qa, qn, qc, qb, qm, qd, hx9, h9⟩ := g12
                have H9 := Lib.hid h9
                clear h9
                go_wp2
                exact ⟨_, rfl, ⟨_, _, _, _, _, _, rfl, H9.out⟩, trivial, ⟨fun _ => Below.refl _ _, fun h => absurd h (by decide)⟩⟩
              · intro x wx hG
                have g12 : AddV wx (x.tmps.getD 132 undef) (addP P1 (s5 : Nat) (1 + (n12 : Int))) := hG.claims 12 _ rfl (by decide +kernel) (by decide +kernel)
                have hg := hG.good
                clear hG
                obtain ⟨qa, qn, qc, qb, qm, qd, hx9, h9⟩ := g12
                clear h9
                go_wp2
                exact ⟨_, rfl, rfl, trivial, ⟨fun _ => Below.refl _ _, fun h => absurd h (by decide)⟩⟩
              · intro x wx hG
                have f23 := hG.old 23 (by decide +kernel)
                have g13 : AggV wx (x.tmps.getD 145 undef) (addP P1 (s5 : Nat) (1 + (n12 : Int))) := hG.claims 13 _ rfl (by decide +kernel) (by decide +kernel)
                have hp := hG.pre (by decide +kernel)
                have hg := hG.good
                clear hG
                have hg := hp
                obtain ⟨qa, qn, qc, qb, qm, qd, hx9, h9⟩ := g13
                have HMX := Lib.hid (M.out.below hp)
                have HN := Lib.hid (HMX.out.setK h9)
                have hR := below_keep hp KB.out
                have r0 := cell_of_block (j := 0) hR rfl
                have r1 := cell_of_block (j := 1) hR rfl
                have f0 := free_of_block (j := 0) hR
                have f1 := free_of_block (j := 1) hR
                have hRl := hlt_of hR
                have HRX := Lib.hid hR
                clear hR h9 HMX hp hg
                go_wp2
                exact ⟨undef, rfl, HN.out, trivial, ⟨fun h => absurd rfl h, fun _ => ⟨_, _, _, HRX.out, rfl⟩⟩⟩
              · intro x wx hG
                have g14 : (x.tmps.getD 146 undef) = .int .i64 0 := hG.claims 14 _ rfl (by decide +kernel) (by decide +kernel)
                have hg := hG.good
                clear hG
                go_wp2
                exact ⟨_, rfl, rfl, trivial, ⟨fun _ => Below.refl _ _, fun h => absurd h (by decide)⟩⟩
            · intro vals wa1 hg hF
              obtain ⟨g0, g1, g2, g3, g4, g5, g6, g7, g8, g9, g10, g11, g12, g13, g14, g15, g16, -⟩ := hF
              have e0 : vals 0 = .agg #[.slice ka kn kc, .slice kb km kd] := g0 rfl
              have e1 : vals 1 = .slice (some ⟨b2, off2, none⟩) m1.length uc1 := g1 rfl
              have e2 : vals 2 = .pointer (some ⟨b2, off2, none⟩) := g2 rfl
              have e3 : vals 3 = .int .i64 x0 := g3 rfl
              have e4 : vals 4 = .int .i64 (s5 : Nat) := g4 rfl
              have e5 : vals 5 = .slice (some ⟨b2, off2, none⟩) m1.length uc1 := g5 rfl
              have e6 : vals 6 = .pointer (some ⟨b2, off2 + 1, none⟩) := g6 rfl
              have e7 : vals 7 = .int .i64 x1 := g7 rfl
              have e8 : vals 8 = .int .i64 (n12 : Nat) := g8 rfl
              have e9 : vals 9 = .int .i64 (1 + (n12 : Int)) := g9 rfl
              have e10 : vals 10 = .agg #[.int .i64 (s5 : Nat), .int .i64 (1 + (n12 : Int))] := g10 rfl
              have e14 : vals 14 = .int .i64 0 := g14 rfl
              replace g15 : CSt w wa1 w9.heap.size w3.heap.size w.heap.size (.slice xa xn xc) (.slice xb xm xd) ds dc (setP la) (addP P1 (s5 : Nat) (1 + (n12 : Int))) P2 := g15 rfl
              have e16 : vals 16 = .int .i64 0 := g16 rfl
              simp only [Cl.puts, e0, e1, e2, e3, e4, e5, e6, e7, e8, e9, e10, e14, e16]
              clear e0 e1 e2 e3 e4 e5 e6 e7 e8 e9 e10 e14 e16 g0 g1 g2 g3 g4 g5 g6 g7 g8 g9 g10 g11 g12 g13 g14 g16
              go_simp
              have HD1 := Lib.hid (show DEq (addP P1 (s5 : Nat) (1 + (n12 : Int))) (dotsP (L.take (j + 1))) by rw [HT1.out, ← HP1.out]; exact dotsP_some HRW.out)
              have M := Lib.hid (CSt.congr g15 HD1.out (DEq.rfl' _))
              clear g15 X0 X1 HRW HWA HWB KB HK KC0 KC1 HADD hs5 hn12
              generalize hq1 : dotsP (L.take (j + 1)) = Q1 at *
              have HQ1 := Lib.hid hq1
              clear hq1
              by_cases hl2 : 1 < m2.length
              · obtain ⟨va2, vc2, hv2, -, -, -, hul⟩ := (I2.out _ M.out.bel).open_
                simp only [Value.slice.injEq, true_and] at hv2
                obtain ⟨rfl, rfl⟩ := hv2
                rcases hul with hnil | ⟨b2, off2, rfl, hb2, hcc⟩
                · rw [hnil] at hl2; simp at hl2
                have X0 := Lib.hid (hcc 0 (by omega))
                have X1 := Lib.hid (hcc 1 hl2)
                rw [Nat.add_zero] at X0
                have HRW := Lib.hid (show rowDot m2 = some (wiN m2[0] 5, 1 + wiN m2[1] 12) by
                  match m2, hl2 with
                  | a :: b :: r, _ => rfl)
                have hs5 := wiN_lt m2[0] 5 (by decide)
                have hn12 := wiN_lt m2[1] 12 (by decide)
                change wiN m2[0] 5 < 5 at hs5
                change wiN m2[1] 12 < 12 at hn12
                have HWA := Lib.hid (fun w2 => wiN_c m2[0] 5 w2 (by decide) (by decide))
                have HWB := Lib.hid (fun w2 => wiN_c m2[1] 12 w2 (by decide) (by decide))
                clear hcc
                generalize m2[0] = x0 at *
                generalize m2[1] = x1 at *
                generalize wiN x0 5 = s5 at *
                generalize wiN x1 12 = n12 at *
                obtain ⟨ka, kn, kc, kb, km, kd, hkb, hko⟩ := M.out.o
                have KB := Lib.hid hkb
                have HK := Lib.hid (formK_at hko)
                have KC0 := Lib.hid (cell_of_block (j := 0) hkb rfl)
                have KC1 := Lib.hid (cell_of_block (j := 1) hkb rfl)
                have HADD := Lib.hid (fun w2 hk => add_ok (.slice ka kn kc) (.slice kb km kd) P2 (s5 : Nat) (1 + (n12 : Int)) w2 hk SM2.out (dotOk_iff.2 ⟨by simp only; omega, by simp only; omega⟩))
                clear hkb hko
                go_wp2
                refine Cl.region0 236 rfl [15] (fun ww => Below wa1.heap.size wa1 ww) (fun _ => []) (fun jq v ww => match jq with | 0 => v = .agg #[.slice ka kn kc, .slice kb km kd] | 1 => v = .slice (some ⟨b2, off2, none⟩) m2.length uc2 | 2 => v = .pointer (some ⟨b2, off2, none⟩) | 3 => v = .int .i64 x0 | 4 => v = .int .i64 (s5 : Nat) | 5 => v = .slice (some ⟨b2, off2, none⟩) m2.length uc2 | 6 => v = .pointer (some ⟨b2, off2 + 1, none⟩) | 7 => v = .int .i64 x1 | 8 => v = .int .i64 (n12 : Nat) | 9 => v = .int .i64 (1 + (n12 : Int)) | 10 => v = .agg #[.int .i64 (s5 : Nat), .int .i64 (1 + (n12 : Int))] | 11 => AddV ww v (addP P2 (s5 : Nat) (1 + (n12 : Int))) | 12 => AddV ww v (addP P2 (s5 : Nat) (1 + (n12 : Int))) | 13 => AggV ww v (addP P2 (s5 : Nat) (1 + (n12 : Int))) | 14 => v = .int .i64 0 | 15 => CSt w ww w9.heap.size w3.heap.size w.heap.size (.slice xa xn xc) (.slice xb xm xd) ds dc (setP la) Q1 (addP P2 (s5 : Nat) (1 + (n12 : Int))) | 16 => v = .int .i64 0 | _ => True) (fun ww => True) (fun jq ww ww' => (jq ≠ 15 → Below ww.heap.size ww ww') ∧ (jq = 15 → SetsK (w9.heap.size + 1) ww ww')) Try.mixed (by decide +kernel) trivial ((Below.refl _ _).drew) ?_ (fun jq ww ww' hk h hR => bstep h (hR.1 (by simpa using hk))) ?_ ?_
                · intro q r v w w' hne hk hlt h hR
                  match r, hk, hlt, h, hne with
                  | 0, _, _, h, _ => exact h
                  | 1, _, _, h, _ => exact h
                  | 2, _, _, h, _ => exact h
                  | 3, _, _, h, _ => exact h
                  | 4, _, _, h, _ => exact h
                  | 5, _, _, h, _ => exact h
                  | 6, _, _, h, _ => exact h
                  | 7, _, _, h, _ => exact h
                  | 8, _, _, h, _ => exact h
                  | 9, _, _, h, _ => exact h
                  | 10, _, _, h, _ => exact h
                  | 11, _, _, h, _ =>
                    by_cases hq : q = 15
                    · exact AddV.sets h (hR.2 hq)
                    · exact AddV.below h (hR.1 hq)
                  | 12, _, _, h, _ =>
                    by_cases hq : q = 15
                    · exact AddV.sets h (hR.2 hq)
                    · exact AddV.below h (hR.1 hq)
                  | 13, _, _, h, _ =>
                    by_cases hq : q = 15
                    · exact AggV.sets h (hR.2 hq)
                    · exact AggV.below h (hR.1 hq)
                  | 14, _, _, h, _ => exact h
                  | 15, _, _, h, hne => exact CSt.below h (hR.1 (by exact hne))
                  | 16, _, _, h, _ => exact h
                  | _ + 17, _, _, _, _ => trivial
                · refine ⟨?_, ?_, ?_, ?_, ?_, ?_, ?_, ?_, ?_, ?_, ?_, ?_, ?_, ?_, ?_, ?_, ?_, trivial⟩
                  · intro x wx hG
                    have f24 := hG.old 24 (by decide +kernel)
                    have hp := hG.pre (by decide +kernel)
                    have hg := hG.good
                    clear hG
                    have hg := hp
                    have c_KC0 := ckeep hg KC0.out
                    have c_KC1 := ckeep hg KC1.out
                    go_wp2
                    exact ⟨_, rfl, rfl, trivial, ⟨fun _ => Below.refl _ _, fun h => absurd h (by decide)⟩⟩
                  · intro x wx hG
                    have f29 := hG.old 29 (by decide +kernel)
                    have hp := hG.pre (by decide +kernel)
                    have hg := hG.good
                    clear hG
                    have hg := hp
                    go_wp2
                    exact ⟨_, rfl, rfl, trivial, ⟨fun _ => Below.refl _ _, fun h => absurd h (by decide)⟩⟩
                  · intro x wx hG
                    have g1 : (x.tmps.getD 154 undef) = .slice (some ⟨b2, off2, none⟩) m2.length uc2 := hG.claims 1 _ rfl (by decide +kernel) (by decide +kernel)
                    have hp := hG.pre (by decide +kernel)
                    have hg := hG.good
                    clear hG
                    have hg := hp
                    go_wp2
                    exact ⟨_, rfl, rfl, trivial, ⟨fun _ => Below.refl _ _, fun h => absurd h (by decide)⟩⟩
                  · intro x wx hG
                    have g2 : (x.tmps.getD 155 undef) = .pointer (some ⟨b2, off2, none⟩) := hG.claims 2 _ rfl (by decide +kernel) (by decide +kernel)
                    have hp := hG.pre (by decide +kernel)
                    have hg := hG.good
                    clear hG
                    have hg := hp
                    have c_X0 := ckeep hg X0.out
                    go_wp2
                    exact ⟨_, rfl, rfl, trivial, ⟨fun _ => Below.refl _ _, fun h => absurd h (by decide)⟩⟩
                  · intro x wx hG
                    have g3 : (x.tmps.getD 156 undef) = .int .i64 x0 := hG.claims 3 _ rfl (by decide +kernel) (by decide +kernel)
                    have hp := hG.pre (by decide +kernel)
                    have hg := hG.good
                    clear hG
                    have hg := hp
                    go_wp2_with fail
                    (with_reducible refine (HWA.out _).mono ?_)
                    rintro e wq ⟨rfl, hb⟩
                    go_wp2
                    exact ⟨_, rfl, rfl, trivial, ⟨fun _ => hb, fun h => absurd h (by decide)⟩⟩
                  · intro x wx hG
                    have f29 := hG.old 29 (by decide +kernel)
                    have hp := hG.pre (by decide +kernel)
                    have hg := hG.good
                    clear hG
                    have hg := hp
                    go_wp2
                    exact ⟨_, rfl, rfl, trivial, ⟨fun _ => Below.refl _ _, fun h => absurd h (by decide)⟩⟩
                  · intro x wx hG
                    have g5 : (x.tmps.getD 158 undef) = .slice (some ⟨b2, off2, none⟩) m2.length uc2 := hG.claims 5 _ rfl (by decide +kernel) (by decide +kernel)
                    have hp := hG.pre (by decide +kernel)
                    have hg := hG.good
                    clear hG
                    have hg := hp
                    go_wp2
                    exact ⟨_, rfl, rfl, trivial, ⟨fun _ => Below.refl _ _, fun h => absurd h (by decide)⟩⟩
                  · intro x wx hG
                    have g6 : (x.tmps.getD 159 undef) = .pointer (some ⟨b2, off2 + 1, none⟩) := hG.claims 6 _ rfl (by decide +kernel) (by decide +kernel)
                    have hp := hG.pre (by decide +kernel)
                    have hg := hG.good
                    clear hG
                    have hg := hp
                    have c_X1 := ckeep hg X1.out
                    go_wp2
                    exact ⟨_, rfl, rfl, trivial, ⟨fun _ => Below.refl _ _, fun h => absurd h (by decide)⟩⟩
                  · intro x wx hG
                    have g7 : (x.tmps.getD 160 undef) = .int .i64 x1 := hG.claims 7 _ rfl (by decide +kernel) (by decide +kernel)
                    have hp := hG.pre (by decide +kernel)
                    have hg := hG.good
                    clear hG
                    have hg := hp
                    go_wp2_with fail
                    (with_reducible refine (HWB.out _).mono ?_)
                    rintro e wq ⟨rfl, hb⟩
                    go_wp2
                    exact ⟨_, rfl, rfl, trivial, ⟨fun _ => hb, fun h => absurd h (by decide)⟩⟩
                  · intro x wx hG
                    have g8 : (x.tmps.getD 161 undef) = .int .i64 (n12 : Nat) := hG.claims 8 _ rfl (by decide +kernel) (by decide +kernel)
                    have hp := hG.pre (by decide +kernel)
                    have hg := hG.good
                    clear hG
                    have hg := hp
                    go_wp2
                    exact ⟨_, rfl, rfl, trivial, ⟨fun _ => Below.refl _ _, fun h => absurd h (by decide)⟩⟩
                  · intro x wx hG
                    have g4 : (x.tmps.getD 157 undef) = .int .i64 (s5 : Nat) := hG.claims 4 _ rfl (by decide +kernel) (by decide +kernel)
                    have g4b := g4
                    rw [Array.getD_eq_getD_getElem?] at g4b
                    have g9 : (x.tmps.getD 162 undef) = .int .i64 (1 + (n12 : Int)) := hG.claims 9 _ rfl (by decide +kernel) (by decide +kernel)
                    have g9b := g9
                    rw [Array.getD_eq_getD_getElem?] at g9b
                    have hp := hG.pre (by decide +kernel)
                    have hg := hG.good
                    clear hG
                    have hg := hp
                    go_wp2
                    exact ⟨_, rfl, rfl, trivial, ⟨fun _ => Below.refl _ _, fun h => absurd h (by decide)⟩⟩
                  · intro x wx hG
                    have g0 : (x.tmps.getD 153 undef) = .agg #[.slice ka kn kc, .slice kb km kd] := hG.claims 0 _ rfl (by decide +kernel) (by decide +kernel)
                    have g10 : (x.tmps.getD 163 undef) = .agg #[.int .i64 (s5 : Nat), .int .i64 (1 + (n12 : Int))] := hG.claims 10 _ rfl (by decide +kernel) (by decide +kernel)
                    have hp := hG.pre (by decide +kernel)
                    have hg := hG.good
                    clear hG
                    have hg := hp
                    have HKX := Lib.hid (HK.out.below hg)
                    go_wp2_with fail
                    (with_reducible refine (HADD.out _ HKX.out).mono ?_)
                    rintro e wq ⟨qa, qn, qc, qb, qm, qd, rfl, h9, hb⟩
                    have H9 := Lib.hid (h9.mono (Nat.zero_le _))
                    clear h9
                    go_wp2
                    exact ⟨_, rfl, ⟨_, _, _, _, _, _, rfl, H9.out⟩, trivial, ⟨fun _ => hb, fun h => absurd h (by decide)⟩⟩
                  · intro x wx hG
                    have g11 : AddV wx (x.tmps.getD 164 undef) (addP P2 (s5 : Nat) (1 + (n12 : Int))) := hG.claims 11 _ rfl (by decide +kernel) (by decide +kernel)
                    have hp := hG.pre (by decide +kernel)
                    have hg := hG.good
                    clear hG
                    have hg := hp
                    obtain ⟨qa, qn, qc, qb, qm, qd, hx9, h9⟩ := g11
                    have H9 := Lib.hid h9
                    clear h9
                    go_wp2
                    exact ⟨_, rfl, ⟨_, _, _, _, _, _, rfl, H9.out⟩, trivial, ⟨fun _ => Below.refl _ _, fun h => absurd h (by decide)⟩⟩
                  · intro x wx hG
                    have g12 : AddV wx (x.tmps.getD 152 undef) (addP P2 (s5 : Nat) (1 + (n12 : Int))) := hG.claims 12 _ rfl (by decide +kernel) (by decide +kernel)
                    have hp := hG.pre (by decide +kernel)
                    have hg := hG.good
                    clear hG
                    have hg := hp
                    obtain ⟨qa, qn, qc, qb, qm, qd, hx9, h9⟩ := g12
                    have H9 := Lib.hid h9
                    clear h9
                    go_wp2
                    exact ⟨_, rfl, ⟨_, _, _, _, _, _, rfl, H9.out⟩, trivial, ⟨fun _ => Below.refl _ _, fun h => absurd h (by decide)⟩⟩
                  · intro x wx hG
                    have g12 : AddV wx (x.tmps.getD 152 undef) (addP P2 (s5 : Nat) (1 + (n12 : Int))) := hG.claims 12 _ rfl (by decide +kernel) (by decide +kernel)
                    have hg := hG.good
                    clear hG
                    obtain ⟨qa, qn, qc, qb, qm, qd, hx9, h9⟩ := g12
                    clear h9
                    go_wp2
                    exact ⟨_, rfl, rfl, trivial, ⟨fun _ => Below.refl _ _, fun h => absurd h (by decide)⟩⟩
                  · intro x wx hG
                    have f24 := hG.old 24 (by decide +kernel)
                    have g13 : AggV wx (x.tmps.getD 165 undef) (addP P2 (s5 : Nat) (1 + (n12 : Int))) := hG.claims 13 _ rfl (by decide +kernel) (by decide +kernel)
                    have hp := hG.pre (by decide +kernel)
                    have hg := hG.good
                    clear hG
                    have hg := hp
                    obtain ⟨qa, qn, qc, qb, qm, qd, hx9, h9⟩ := g13
                    have HMX := Lib.hid (M.out.below hp)
                    have HN := Lib.hid (HMX.out.setO h9)
                    have hR := below_keep hp KB.out
                    have r0 := cell_of_block (j := 0) hR rfl
                    have r1 := cell_of_block (j := 1) hR rfl
                    have f0 := free_of_block (j := 0) hR
                    have f1 := free_of_block (j := 1) hR
                    have hRl := hlt_of hR
                    have HRX := Lib.hid hR
                    clear hR h9 HMX hp hg
                    go_wp2
                    exact ⟨undef, rfl, HN.out, trivial, ⟨fun h => absurd rfl h, fun _ => ⟨_, _, _, HRX.out, rfl⟩⟩⟩
                  · intro x wx hG
                    have g14 : (x.tmps.getD 166 undef) = .int .i64 0 := hG.claims 14 _ rfl (by decide +kernel) (by decide +kernel)
                    have hg := hG.good
                    clear hG
                    go_wp2
                    exact ⟨_, rfl, rfl, trivial, ⟨fun _ => Below.refl _ _, fun h => absurd h (by decide)⟩⟩
                · intro vals wa2 hg hF
                  obtain ⟨g0, g1, g2, g3, g4, g5, g6, g7, g8, g9, g10, g11, g12, g13, g14, g15, g16, -⟩ := hF
                  have e0 : vals 0 = .agg #[.slice ka kn kc, .slice kb km kd] := g0 rfl
                  have e1 : vals 1 = .slice (some ⟨b2, off2, none⟩) m2.length uc2 := g1 rfl
                  have e2 : vals 2 = .pointer (some ⟨b2, off2, none⟩) := g2 rfl
                  have e3 : vals 3 = .int .i64 x0 := g3 rfl
                  have e4 : vals 4 = .int .i64 (s5 : Nat) := g4 rfl
                  have e5 : vals 5 = .slice (some ⟨b2, off2, none⟩) m2.length uc2 := g5 rfl
                  have e6 : vals 6 = .pointer (some ⟨b2, off2 + 1, none⟩) := g6 rfl
                  have e7 : vals 7 = .int .i64 x1 := g7 rfl
                  have e8 : vals 8 = .int .i64 (n12 : Nat) := g8 rfl
                  have e9 : vals 9 = .int .i64 (1 + (n12 : Int)) := g9 rfl
                  have e10 : vals 10 = .agg #[.int .i64 (s5 : Nat), .int .i64 (1 + (n12 : Int))] := g10 rfl
                  have e14 : vals 14 = .int .i64 0 := g14 rfl
                  replace g15 : CSt w wa2 w9.heap.size w3.heap.size w.heap.size (.slice xa xn xc) (.slice xb xm xd) ds dc (setP la) Q1 (addP P2 (s5 : Nat) (1 + (n12 : Int))) := g15 rfl
                  have e16 : vals 16 = .int .i64 0 := g16 rfl
                  simp only [Cl.puts, e0, e1, e2, e3, e4, e5, e6, e7, e8, e9, e10, e14, e16]
                  clear e0 e1 e2 e3 e4 e5 e6 e7 e8 e9 e10 e14 e16 g0 g1 g2 g3 g4 g5 g6 g7 g8 g9 g10 g11 g12 g13 g14 g16
                  go_simp
                  have HD2 := Lib.hid (show DEq (addP P2 (s5 : Nat) (1 + (n12 : Int))) (dotsP (rotR L tt (j + 1))) by rw [HT2.out, ← HP2.out]; exact dotsP_some HRW.out)
                  have M := Lib.hid (CSt.congr g15 (DEq.rfl' _) HD2.out)
                  clear g15 X0 X1 HRW HWA HWB KB HK KC0 KC1 HADD hs5 hn12
                  rw [← HQ1.out] at M
                  go_wp2
                  go_roundw
                  case rel => exact ⟨j + 1, by omega, by go_num, M.out⟩
                  case measure => simp [intOf] <;> omega
              · have HRW := Lib.hid (show rowDot m2 = none by
                  match m2, hl2 with
                  | [], _ => rfl
                  | [_], _ => rfl
                  | _ :: _ :: _, h => simp at h)
                have HD2 := Lib.hid (show dotsP (rotR L tt (j + 1)) = P2 by rw [HT2.out, ← HP2.out]; exact dotsP_none HRW.out)
                rw [← HD2.out] at M
                rw [← HQ1.out] at M
                go_wp2
                go_roundw
                case rel => exact ⟨j + 1, by omega, by go_num, M.out⟩
                case measure => simp [intOf] <;> omega
          · have HRW := Lib.hid (show rowDot m1 = none by
              match m1, hl1 with
              | [], _ => rfl
              | [_], _ => rfl
              | _ :: _ :: _, h => simp at h)
            have HD1 := Lib.hid (show dotsP (L.take (j + 1)) = P1 by rw [HT1.out, ← HP1.out]; exact dotsP_none HRW.out)
            rw [← HD1.out] at M
            generalize hq1 : dotsP (L.take (j + 1)) = Q1 at *
            have HQ1 := Lib.hid hq1
            clear hq1
            by_cases hl2 : 1 < m2.length
            · obtain ⟨va2, vc2, hv2, -, -, -, hul⟩ := (I2.out _ M.out.bel).open_
              simp only [Value.slice.injEq, true_and] at hv2
              obtain ⟨rfl, rfl⟩ := hv2
              rcases hul with hnil | ⟨b2, off2, rfl, hb2, hcc⟩
              · rw [hnil] at hl2; simp at hl2
              have X0 := Lib.hid (hcc 0 (by omega))
              have X1 := Lib.hid (hcc 1 hl2)
              rw [Nat.add_zero] at X0
              have HRW := Lib.hid (show rowDot m2 = some (wiN m2[0] 5, 1 + wiN m2[1] 12) by
                match m2, hl2 with
                | a :: b :: r, _ => rfl)
              have hs5 := wiN_lt m2[0] 5 (by decide)
              have hn12 := wiN_lt m2[1] 12 (by decide)
              change wiN m2[0] 5 < 5 at hs5
              change wiN m2[1] 12 < 12 at hn12
              have HWA := Lib.hid (fun w2 => wiN_c m2[0] 5 w2 (by decide) (by decide))
              have HWB := Lib.hid (fun w2 => wiN_c m2[1] 12 w2 (by decide) (by decide))
              clear hcc
              generalize m2[0] = x0 at *
              generalize m2[1] = x1 at *
              generalize wiN x0 5 = s5 at *
              generalize wiN x1 12 = n12 at *
              obtain ⟨ka, kn, kc, kb, km, kd, hkb, hko⟩ := M.out.o
              have KB := Lib.hid hkb
              have HK := Lib.hid (formK_at hko)
              have KC0 := Lib.hid (cell_of_block (j := 0) hkb rfl)
              have KC1 := Lib.hid (cell_of_block (j := 1) hkb rfl)
              have HADD := Lib.hid (fun w2 hk => add_ok (.slice ka kn kc) (.slice kb km kd) P2 (s5 : Nat) (1 + (n12 : Int)) w2 hk SM2.out (dotOk_iff.2 ⟨by simp only; omega, by simp only; omega⟩))
              clear hkb hko
              go_wp2
              refine Cl.region0 236 rfl [15] (fun ww => Below w18.heap.size w18 ww) (fun _ => []) (fun jq v ww => match jq with | 0 => v = .agg #[.slice ka kn kc, .slice kb km kd] | 1 => v = .slice (some ⟨b2, off2, none⟩) m2.length uc2 | 2 => v = .pointer (some ⟨b2, off2, none⟩) | 3 => v = .int .i64 x0 | 4 => v = .int .i64 (s5 : Nat) | 5 => v = .slice (some ⟨b2, off2, none⟩) m2.length uc2 | 6 => v = .pointer (some ⟨b2, off2 + 1, none⟩) | 7 => v = .int .i64 x1 | 8 => v = .int .i64 (n12 : Nat) | 9 => v = .int .i64 (1 + (n12 : Int)) | 10 => v = .agg #[.int .i64 (s5 : Nat), .int .i64 (1 + (n12 : Int))] | 11 => AddV ww v (addP P2 (s5 : Nat) (1 + (n12 : Int))) | 12 => AddV ww v (addP P2 (s5 : Nat) (1 + (n12 : Int))) | 13 => AggV ww v (addP P2 (s5 : Nat) (1 + (n12 : Int))) | 14 => v = .int .i64 0 | 15 => CSt w ww w9.heap.size w3.heap.size w.heap.size (.slice xa xn xc) (.slice xb xm xd) ds dc (setP la) Q1 (addP P2 (s5 : Nat) (1 + (n12 : Int))) | 16 => v = .int .i64 0 | _ => True) (fun ww => True) (fun jq ww ww' => (jq ≠ 15 → Below ww.heap.size ww ww') ∧ (jq = 15 → SetsK (w9.heap.size + 1) ww ww')) Try.mixed (by decide +kernel) trivial ((Below.refl _ _).drew) ?_ (fun jq ww ww' hk h hR => bstep h (hR.1 (by simpa using hk))) ?_ ?_
              · intro q r v w w' hne hk hlt h hR
                match r, hk, hlt, h, hne with
                | 0, _, _, h, _ => exact h
                | 1, _, _, h, _ => exact h
                | 2, _, _, h, _ => exact h
                | 3, _, _, h, _ => exact h
                | 4, _, _, h, _ => exact h
                | 5, _, _, h, _ => exact h
                | 6, _, _, h, _ => exact h
                | 7, _, _, h, _ => exact h
                | 8, _, _, h, _ => exact h
                | 9, _, _, h, _ => exact h
                | 10, _, _, h, _ => exact h
                | 11, _, _, h, _ =>
                  by_cases hq : q = 15
                  · exact AddV.sets h (hR.2 hq)
                  · exact AddV.below h (hR.1 hq)
                | 12, _, _, h, _ =>
                  by_cases hq : q = 15
                  · exact AddV.sets h (hR.2 hq)
                  · exact AddV.below h (hR.1 hq)
                | 13, _, _, h, _ =>
                  by_cases hq : q = 15
                  · exact AggV.sets h (hR.2 hq)
                  · exact AggV.below h (hR.1 hq)
                | 14, _, _, h, _ => exact h
                | 15, _, _, h, hne => exact CSt.below h (hR.1 (by exact hne))
                | 16, _, _, h, _ => exact h
                | _ + 17, _, _, _, _ => trivial
              · refine ⟨?_, ?_, ?_, ?_, ?_, ?_, ?_, ?_, ?_, ?_, ?_, ?_, ?_, ?_, ?_, ?_, ?_, trivial⟩
                · intro x wx hG
                  have f24 := hG.old 24 (by decide +kernel)
                  have hp := hG.pre (by decide +kernel)
                  have hg := hG.good
                  clear hG
                  have hg := hp
                  have c_KC0 := ckeep hg KC0.out
                  have c_KC1 := ckeep hg KC1.out
                  go_wp2
                  exact ⟨_, rfl, rfl, trivial, ⟨fun _ => Below.refl _ _, fun h => absurd h (by decide)⟩⟩
                · intro x wx hG
                  have f29 := hG.old 29 (by decide +kernel)
                  have hp := hG.pre (by decide +kernel)
                  have hg := hG.good
                  clear hG
                  have hg := hp
                  go_wp2
                  exact ⟨_, rfl, rfl, trivial, ⟨fun _ => Below.refl _ _, fun h => absurd h (by decide)⟩⟩
                · intro x wx hG
                  have g1 : (x.tmps.getD 154 undef) = .slice (some ⟨b2, off2, none⟩) m2.length uc2 := hG.claims 1 _ rfl (by decide +kernel) (by decide +kernel)
                  have hp := hG.pre (by decide +kernel)
                  have hg := hG.good
                  clear hG
                  have hg := hp
                  go_wp2
                  exact ⟨_, rfl, rfl, trivial, ⟨fun _ => Below.refl _ _, fun h => absurd h (by decide)⟩⟩
                · intro x wx hG
                  have g2 : (x.tmps.getD 155 undef) = .pointer (some ⟨b2, off2, none⟩) := hG.claims 2 _ rfl (by decide +kernel) (by decide +kernel)
                  have hp := hG.pre (by decide +kernel)
                  have hg := hG.good
                  clear hG
                  have hg := hp
                  have c_X0 := ckeep hg X0.out
                  go_wp2
                  exact ⟨_, rfl, rfl, trivial, ⟨fun _ => Below.refl _ _, fun h => absurd h (by decide)⟩⟩
                · intro x wx hG
                  have g3 : (x.tmps.getD 156 undef) = .int .i64 x0 := hG.claims 3 _ rfl (by decide +kernel) (by decide +kernel)
                  have hp := hG.pre (by decide +kernel)
                  have hg := hG.good
                  clear hG
                  have hg := hp
                  go_wp2_with fail
                  (with_reducible refine (HWA.out _).mono ?_)
                  rintro e wq ⟨rfl, hb⟩
                  go_wp2
                  exact ⟨_, rfl, rfl, trivial, ⟨fun _ => hb, fun h => absurd h (by decide)⟩⟩
                · intro x wx hG
                  have f29 := hG.old 29 (by decide +kernel)
                  have hp := hG.pre (by decide +kernel)
                  have hg := hG.good
                  clear hG
                  have hg := hp
                  go_wp2
                  exact ⟨_, rfl, rfl, trivial, ⟨fun _ => Below.refl _ _, fun h => absurd h (by decide)⟩⟩
                · intro x wx hG
                  have g5 : (x.tmps.getD 158 undef) = .slice (some ⟨b2, off2, none⟩) m2.length uc2 := hG.claims 5 _ rfl (by decide +kernel) (by decide +kernel)
                  have hp := hG.pre (by decide +kernel)
                  have hg := hG.good
                  clear hG
                  have hg := hp
                  go_wp2
                  exact ⟨_, rfl, rfl, trivial, ⟨fun _ => Below.refl _ _, fun h => absurd h (by decide)⟩⟩
                · intro x wx hG
                  have g6 : (x.tmps.getD 159 undef) = .pointer (some ⟨b2, off2 + 1, none⟩) := hG.claims 6 _ rfl (by decide +kernel) (by decide +kernel)
                  have hp := hG.pre (by decide +kernel)
                  have hg := hG.good
                  clear hG
                  have hg := hp
                  have c_X1 := ckeep hg X1.out
                  go_wp2
                  exact ⟨_, rfl, rfl, trivial, ⟨fun _ => Below.refl _ _, fun h => absurd h (by decide)⟩⟩
                · intro x wx hG
                  have g7 : (x.tmps.getD 160 undef) = .int .i64 x1 := hG.claims 7 _ rfl (by decide +kernel) (by decide +kernel)
                  have hp := hG.pre (by decide +kernel)
                  have hg := hG.good
                  clear hG
                  have hg := hp
                  go_wp2_with fail
                  (with_reducible refine (HWB.out _).mono ?_)
                  rintro e wq ⟨rfl, hb⟩
                  go_wp2
                  exact ⟨_, rfl, rfl, trivial, ⟨fun _ => hb, fun h => absurd h (by decide)⟩⟩
                · intro x wx hG
                  have g8 : (x.tmps.getD 161 undef) = .int .i64 (n12 : Nat) := hG.claims 8 _ rfl (by decide +kernel) (by decide +kernel)
                  have hp := hG.pre (by decide +kernel)
                  have hg := hG.good
                  clear hG
                  have hg := hp
                  go_wp2
                  exact ⟨_, rfl, rfl, trivial, ⟨fun _ => Below.refl _ _, fun h => absurd h (by decide)⟩⟩
                · intro x wx hG
                  have g4 : (x.tmps.getD 157 undef) = .int .i64 (s5 : Nat) := hG.claims 4 _ rfl (by decide +kernel) (by decide +kernel)
                  have g4b := g4
                  rw [Array.getD_eq_getD_getElem?] at g4b
                  have g9 : (x.tmps.getD 162 undef) = .int .i64 (1 + (n12 : Int)) := hG.claims 9 _ rfl (by decide +kernel) (by decide +kernel)
                  have g9b := g9
                  rw [Array.getD_eq_getD_getElem?] at g9b
                  have hp := hG.pre (by decide +kernel)
                  have hg := hG.good
                  clear hG
                  have hg := hp
                  go_wp2
                  exact ⟨_, rfl, rfl, trivial, ⟨fun _ => Below.refl _ _, fun h => absurd h (by decide)⟩⟩
                · intro x wx hG
                  have g0 : (x.tmps.getD 153 undef) = .agg #[.slice ka kn kc, .slice kb km kd] := hG.claims 0 _ rfl (by decide +kernel) (by decide +kernel)
                  have g10 : (x.tmps.getD 163 undef) = .agg #[.int .i64 (s5 : Nat), .int .i64 (1 + (n12 : Int))] := hG.claims 10 _ rfl (by decide +kernel) (by decide +kernel)
                  have hp := hG.pre (by decide +kernel)
                  have hg := hG.good
                  clear hG
                  have hg := hp
                  have HKX := Lib.hid (HK.out.below hg)
                  go_wp2_with fail
                  (with_reducible refine (HADD.out _ HKX.out).mono ?_)
                  rintro e wq ⟨qa, qn, qc, qb, qm, qd, rfl, h9, hb⟩
                  have H9 := Lib.hid (h9.mono (Nat.zero_le _))
                  clear h9
                  go_wp2
                  exact ⟨_, rfl, ⟨_, _, _, _, _, _, rfl, H9.out⟩, trivial, ⟨fun _ => hb, fun h => absurd h (by decide)⟩⟩
                · intro x wx hG
                  have g11 : AddV wx (x.tmps.getD 164 undef) (addP P2 (s5 : Nat) (1 + (n12 : Int))) := hG.claims 11 _ rfl (by decide +kernel) (by decide +kernel)
                  have hp := hG.pre (by decide +kernel)
                  have hg := hG.good
                  clear hG
                  have hg := hp
                  obtain ⟨qa, qn, qc, qb, qm, qd, hx9, h9⟩ := g11
                  have H9 := Lib.hid h9
                  clear h9
                  go_wp2
                  exact ⟨_, rfl, ⟨_, _, _, _, _, _, rfl, H9.out⟩, trivial, ⟨fun _ => Below.refl _ _, fun h => absurd h (by decide)⟩⟩
                · intro x wx hG
                  have g12 : AddV wx (x.tmps.getD 152 undef) (addP P2 (s5 : Nat) (1 + (n12 : Int))) := hG.claims 12 _ rfl (by decide +kernel) (by decide +kernel)
                  have hp := hG.pre (by decide +kernel)
                  have hg := hG.good
                  clear hG
                  have hg := hp
                  obtain ⟨qa, qn, qc, qb, qm, qd, hx9, h9⟩ := g12
                  have H9 := Lib.hid h9
                  clear h9
                  go_wp2
                  exact ⟨_, rfl, ⟨_, _, _, _, _, _, rfl, H9.out⟩, trivial, ⟨fun _ => Below.refl _ _, fun h => absurd h (by decide)⟩⟩
                · intro x wx hG
                  have g12 : AddV wx (x.tmps.getD 152 undef) (addP P2 (s5 : Nat) (1 + (n12 : Int))) := hG.claims 12 _ rfl (by decide +kernel) (by decide +kernel)
                  have hg := hG.good
                  clear hG
                  obtain ⟨qa, qn, qc, qb, qm, qd, hx9, h9⟩ := g12
                  clear h9
                  go_wp2
                  exact ⟨_, rfl, rfl, trivial, ⟨fun _ => Below.refl _ _, fun h => absurd h (by decide)⟩⟩
                · intro x wx hG
                  have f24 := hG.old 24 (by decide +kernel)
                  have g13 : AggV wx (x.tmps.getD 165 undef) (addP P2 (s5 : Nat) (1 + (n12 : Int))) := hG.claims 13 _ rfl (by decide +kernel) (by decide +kernel)
                  have hp := hG.pre (by decide +kernel)
                  have hg := hG.good
                  clear hG
                  have hg := hp
                  obtain ⟨qa, qn, qc, qb, qm, qd, hx9, h9⟩ := g13
                  have HMX := Lib.hid (M.out.below hp)
                  have HN := Lib.hid (HMX.out.setO h9)
                  have hR := below_keep hp KB.out
                  have r0 := cell_of_block (j := 0) hR rfl
                  have r1 := cell_of_block (j := 1) hR rfl
                  have f0 := free_of_block (j := 0) hR
                  have f1 := free_of_block (j := 1) hR
                  have hRl := hlt_of hR
                  have HRX := Lib.hid hR
                  clear hR h9 HMX hp hg
                  go_wp2
                  exact ⟨undef, rfl, HN.out, trivial, ⟨fun h => absurd rfl h, fun _ => ⟨_, _, _, HRX.out, rfl⟩⟩⟩
                · intro x wx hG
                  have g14 : (x.tmps.getD 166 undef) = .int .i64 0 := hG.claims 14 _ rfl (by decide +kernel) (by decide +kernel)
                  have hg := hG.good
                  clear hG
                  go_wp2
                  exact ⟨_, rfl, rfl, trivial, ⟨fun _ => Below.refl _ _, fun h => absurd h (by decide)⟩⟩
              · intro vals wa2 hg hF
                obtain ⟨g0, g1, g2, g3, g4, g5, g6, g7, g8, g9, g10, g11, g12, g13, g14, g15, g16, -⟩ := hF
                have e0 : vals 0 = .agg #[.slice ka kn kc, .slice kb km kd] := g0 rfl
                have e1 : vals 1 = .slice (some ⟨b2, off2, none⟩) m2.length uc2 := g1 rfl
                have e2 : vals 2 = .pointer (some ⟨b2, off2, none⟩) := g2 rfl
                have e3 : vals 3 = .int .i64 x0 := g3 rfl
                have e4 : vals 4 = .int .i64 (s5 : Nat) := g4 rfl
                have e5 : vals 5 = .slice (some ⟨b2, off2, none⟩) m2.length uc2 := g5 rfl
                have e6 : vals 6 = .pointer (some ⟨b2, off2 + 1, none⟩) := g6 rfl
                have e7 : vals 7 = .int .i64 x1 := g7 rfl
                have e8 : vals 8 = .int .i64 (n12 : Nat) := g8 rfl
                have e9 : vals 9 = .int .i64 (1 + (n12 : Int)) := g9 rfl
                have e10 : vals 10 = .agg #[.int .i64 (s5 : Nat), .int .i64 (1 + (n12 : Int))] := g10 rfl
                have e14 : vals 14 = .int .i64 0 := g14 rfl
                replace g15 : CSt w wa2 w9.heap.size w3.heap.size w.heap.size (.slice xa xn xc) (.slice xb xm xd) ds dc (setP la) Q1 (addP P2 (s5 : Nat) (1 + (n12 : Int))) := g15 rfl
                have e16 : vals 16 = .int .i64 0 := g16 rfl
                simp only [Cl.puts, e0, e1, e2, e3, e4, e5, e6, e7, e8, e9, e10, e14, e16]
                clear e0 e1 e2 e3 e4 e5 e6 e7 e8 e9 e10 e14 e16 g0 g1 g2 g3 g4 g5 g6 g7 g8 g9 g10 g11 g12 g13 g14 g16
                go_simp
                have HD2 := Lib.hid (show DEq (addP P2 (s5 : Nat) (1 + (n12 : Int))) (dotsP (rotR L tt (j + 1))) by rw [HT2.out, ← HP2.out]; exact dotsP_some HRW.out)
                have M := Lib.hid (CSt.congr g15 (DEq.rfl' _) HD2.out)
                clear g15 X0 X1 HRW HWA HWB KB HK KC0 KC1 HADD hs5 hn12
                rw [← HQ1.out] at M
                go_wp2
                go_roundw
                case rel => exact ⟨j + 1, by omega, by go_num, M.out⟩
                case measure => simp [intOf] <;> omega
            · have HRW := Lib.hid (show rowDot m2 = none by
                match m2, hl2 with
                | [], _ => rfl
                | [_], _ => rfl
                | _ :: _ :: _, h => simp at h)
              have HD2 := Lib.hid (show dotsP (rotR L tt (j + 1)) = P2 by rw [HT2.out, ← HP2.out]; exact dotsP_none HRW.out)
              rw [← HD2.out] at M
              rw [← HQ1.out] at M
              go_wp2
              go_roundw
              case rel => exact ⟨j + 1, by omega, by go_num, M.out⟩
              case measure => simp [intOf] <;> omega
      · obtain rfl : j = t := by omega
        have HE1 := Lib.hid (show DEq (dotsP (L.take j)) (setP la) by rw [List.take_of_length_le (by rw [HLL.out]; exact Nat.le_refl _), HLE.out]; exact fun s c h0 h5 h1 h2 => (setP_dots la s c h0 h5 h1 h2).symm)
        have HE2 := Lib.hid (show DEq (dotsP (rotR L tt j)) (setP la) by rw [← HLL.out]; exact fun s c h0 h5 h1 h2 => (rotR_dots L tt (by rw [HLL.out]; exact HTT.out) s c h0 h5 h1 h2).trans (by rw [HLE.out]; exact (setP_dots la s c h0 h5 h1 h2).symm))
        have M := Lib.hid (M.out.congr HE1.out HE2.out)
        obtain ⟨ka, kn, kc, kb, km, kd, hkb, hko⟩ := M.out.k
        obtain ⟨oa, on, oc, ob, om, od, hob, hoo⟩ := M.out.o
        have c_k0 := cell_of_block (j := 0) hkb rfl
        have c_k1 := cell_of_block (j := 1) hkb rfl
        have c_o0 := cell_of_block (j := 0) hob rfl
        have c_o1 := cell_of_block (j := 1) hob rfl
        have c_x0 := cell_of_block (j := 0) M.out.x rfl
        have c_x1 := cell_of_block (j := 1) M.out.x rfl
        have c_d0 := cell_of_block (j := 0) M.out.d rfl
        have c_d1 := cell_of_block (j := 1) M.out.d rfl
        have kk : KZ wr (.slice ka kn kc) (.slice kb km kd) (setP la) := ⟨formK_at hko, (setP_sm la).sz⟩
        have ko : KZ wr (.slice oa on oc) (.slice ob om od) (setP la) := ⟨formK_at hoo, (setP_sm la).sz⟩
        have kx : KV wr (.slice xa xn xc) (.slice xb xm xd) (setP la) := KV.of_own M.out.ox (setP_sm la)
        have hbel := M.out.bel
        clear hkb hko hob hoo M HE1 HE2
        go_wp2_with fail
        (with_reducible refine (same_z _ _ _ _ _ _ _ kk kx.z).mono ?_)
        rintro e w10 ⟨rfl, hb⟩
        replace c_k0 := ckeep hb c_k0
        replace c_k1 := ckeep hb c_k1
        replace c_o0 := ckeep hb c_o0
        replace c_o1 := ckeep hb c_o1
        replace c_x0 := ckeep hb c_x0
        replace c_x1 := ckeep hb c_x1
        replace c_d0 := ckeep hb c_d0
        replace c_d1 := ckeep hb c_d1
        replace kk := kk.below hb
        replace ko := ko.below hb
        replace kx := kx.below hb
        replace hbel := bstep hbel hb
        clear hb
        rw [show eqB (setP la) (setP la) = true from eqB_iff.2 (DEq.rfl' _)]
        go_wp2_with fail
        (with_reducible refine (same_z _ _ _ _ _ _ _ ko kx.z).mono ?_)
        rintro e w11 ⟨rfl, hb⟩
        replace c_k0 := ckeep hb c_k0
        replace c_k1 := ckeep hb c_k1
        replace c_o0 := ckeep hb c_o0
        replace c_o1 := ckeep hb c_o1
        replace c_x0 := ckeep hb c_x0
        replace c_x1 := ckeep hb c_x1
        replace c_d0 := ckeep hb c_d0
        replace c_d1 := ckeep hb c_d1
        replace kk := kk.below hb
        replace ko := ko.below hb
        replace kx := kx.below hb
        replace hbel := bstep hbel hb
        clear hb
        rw [show eqB (setP la) (setP la) = true from eqB_iff.2 (DEq.rfl' _)]
        clear kk ko c_k0 c_k1 c_o0 c_o1
        cases hd : dotOk (ds, dc)
        · have HD := Lib.hid hd
          clear hd
          go_wp2_with fail
          (with_reducible refine (add_bad _ _ (setP la) ds dc _ kx.at_ kx.sm HD.out).mono ?_)
          rintro e w12 ⟨rfl, hb⟩
          replace c_x0 := ckeep hb c_x0
          replace c_x1 := ckeep hb c_x1
          replace c_d0 := ckeep hb c_d0
          replace c_d1 := ckeep hb c_d1
          replace kx := kx.below hb
          replace hbel := bstep hbel hb
          clear hb
          have hal := bal (W := w12) (.cells #[.slice none 0 0, .slice none 0 0] 30)
          replace c_x0 := ckeep hal c_x0
          replace c_x1 := ckeep hal c_x1
          replace c_d0 := ckeep hal c_d0
          replace c_d1 := ckeep hal c_d1
          replace kx := kx.below hal
          replace hbel := bstep hbel hal
          clear hal
          have hp := fun j v h => cat w12 #[.slice none 0 0, .slice none 0 0] 30 j v h _ rfl
          have c_p0 := hp 0 _ rfl
          have c_p1 := hp 1 _ rfl
          clear hp
          go_wp2_with fail
          (with_reducible refine (dot_c ds dc _).mono ?_)
          rintro e w13 ⟨rfl, hb⟩
          replace c_x0 := ckeep hb c_x0
          replace c_x1 := ckeep hb c_x1
          replace c_d0 := ckeep hb c_d0
          replace c_d1 := ckeep hb c_d1
          replace kx := kx.below hb
          replace c_p0 := ckeep hb c_p0
          replace c_p1 := ckeep hb c_p1
          replace hbel := bstep hbel hb
          clear hb
          rw [HD.out]
          have kz := fun w2 => (show KZ w2 (.slice none 0 0) (.slice none 0 0) (dotsP []) from ⟨formK_at (own_none w2), (dotsP_sm []).sz⟩)
          go_wp2_with fail
          (with_reducible refine (same_z _ _ _ _ _ _ _ (kz _) (kz _)).mono ?_)
          rintro e w14 ⟨rfl, hb⟩
          replace c_x0 := ckeep hb c_x0
          replace c_x1 := ckeep hb c_x1
          replace c_d0 := ckeep hb c_d0
          replace c_d1 := ckeep hb c_d1
          replace kx := kx.below hb
          replace c_p0 := ckeep hb c_p0
          replace c_p1 := ckeep hb c_p1
          replace hbel := bstep hbel hb
          clear hb
          rw [show eqB (dotsP []) (dotsP []) = true from eqB_iff.2 (DEq.rfl' _)]
          clear kz
          go_wp2
          go_ret
          exact ⟨rfl, hbel⟩
        · have HD := Lib.hid hd
          clear hd
          go_wp2_with fail
          (with_reducible refine (add_ok _ _ (setP la) ds dc _ kx.at_ kx.sm HD.out).mono ?_)
          rintro e w15 ⟨pa, pn, pc, pb, pm, pd, rfl, op, hb⟩
          replace c_x0 := ckeep hb c_x0
          replace c_x1 := ckeep hb c_x1
          replace c_d0 := ckeep hb c_d0
          replace c_d1 := ckeep hb c_d1
          replace kx := kx.below hb
          replace hbel := bstep hbel hb
          clear hb
          have kp : KZ w15 (.slice pa pn pc) (.slice pb pm pd) (addP (setP la) ds dc) := ⟨formK_at op, (setP_sm la).add ds dc⟩
          clear op
          have hal := bal (W := w15) (.cells #[(.slice pa pn pc), (.slice pb pm pd)] 30)
          replace c_x0 := ckeep hal c_x0
          replace c_x1 := ckeep hal c_x1
          replace c_d0 := ckeep hal c_d0
          replace c_d1 := ckeep hal c_d1
          replace kx := kx.below hal
          replace kp := kp.below hal
          replace hbel := bstep hbel hal
          have c_p0 := cat w15 #[(.slice pa pn pc), (.slice pb pm pd)] 30 0 _ rfl _ rfl
          have c_p1 := cat w15 #[(.slice pa pn pc), (.slice pb pm pd)] 30 1 _ rfl _ rfl
          clear hal
          go_wp2_with fail
          (with_reducible refine (has_s _ _ _ ds dc _ kx).mono ?_)
          rintro e w16 ⟨rfl, hb⟩
          replace c_x0 := ckeep hb c_x0
          replace c_x1 := ckeep hb c_x1
          replace c_d0 := ckeep hb c_d0
          replace c_d1 := ckeep hb c_d1
          replace kx := kx.below hb
          replace kp := kp.below hb
          replace c_p0 := ckeep hb c_p0
          replace c_p1 := ckeep hb c_p1
          replace hbel := bstep hbel hb
          clear hb
          rw [show dotE ds dc = 0 by unfold dotE; rw [if_pos HD.out], show hasP (setP la) ds dc = setP la ds dc by unfold hasP; rw [HD.out]; rfl]
          go_wp2_with fail
          (with_reducible refine (count_s _ _ _ _ kp).mono ?_)
          rintro e w17 ⟨rfl, hb⟩
          replace c_x0 := ckeep hb c_x0
          replace c_x1 := ckeep hb c_x1
          replace c_d0 := ckeep hb c_d0
          replace c_d1 := ckeep hb c_d1
          replace kx := kx.below hb
          replace kp := kp.below hb
          replace c_p0 := ckeep hb c_p0
          replace c_p1 := ckeep hb c_p1
          replace hbel := bstep hbel hb
          clear hb
          have HCA := Lib.hid (card_add (setP la) (dotOk_iff.1 HD.out).1.1 (dotOk_iff.1 HD.out).1.2 (dotOk_iff.1 HD.out).2.1 (dotOk_iff.1 HD.out).2.2)
          rw [HCA.out, HN1.out]
          clear HCA HN1
          cases his : setP la ds dc
          · clear his
            simp only [Bool.false_eq_true, if_false]
            have hnn : ((n1 + 1 : Nat) : Int) = (n1 : Int) + 1 := rfl
            rw [hnn]
            clear hnn
            go_wp2
            go_ret
            exact ⟨by simp, hbel⟩
          · have HIS := Lib.hid his
            clear his
            simp only [if_true, Nat.add_zero]
            go_wp2_with fail
            (with_reducible refine (same_z _ _ _ _ _ _ _ kp kx.z).mono ?_)
            rintro e w18 ⟨rfl, hb⟩
            replace c_x0 := ckeep hb c_x0
            replace c_x1 := ckeep hb c_x1
            replace c_d0 := ckeep hb c_d0
            replace c_d1 := ckeep hb c_d1
            replace kx := kx.below hb
            replace kp := kp.below hb
            replace c_p0 := ckeep hb c_p0
            replace c_p1 := ckeep hb c_p1
            replace hbel := bstep hbel hb
            clear hb
            rw [show eqB (addP (setP la) ds dc) (setP la) = true from eqB_iff.2 (add_self HIS.out)]
            go_wp2
            go_ret
            exact ⟨by simp, hbel⟩
end Go.Proofs.Ytippljiicnpieaa
