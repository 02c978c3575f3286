/- The walk of KnowLattice: it returns true, whatever the arguments are. Written by a small program (gen/know_laws.py). -/
import Derived.Test.YtippljiicnpieaaKnowBegun
namespace Go.Proofs.Ytippljiicnpieaa
open Go.RowKit
set_option maxRecDepth 100000 in
set_option maxHeartbeats 4000000 in
theorem KnowLattice_walk (va vb vc : Value) (la lb lc : List (List Int)) (w : World) (ha : RowAt vecE w va la) (hb0 : RowAt vecE w vb lb) (hc : RowAt vecE w vc lc) :
    Calls Try.prog 10 #[va, vb, vc] w fun e w' => e = .returned (.bool true) ∧ Below w.heap.size w w' := by
  obtain ⟨aa, ac, rfl⟩ := ha.shape
  obtain ⟨ba, bc, rfl⟩ := hb0.shape
  obtain ⟨ca, cc, rfl⟩ := hc.shape
  have hbel := Below.refl w.heap.size w
  go_enter Try.func10, Try.ntmps10
  go_wp2_with fail
  (with_reducible refine (knowBegun_c _).mono ?_)
  rintro e w1 ⟨rfl, hb⟩
  replace ha := ha.below hb
  replace hb0 := hb0.below hb
  replace hc := hc.below hb
  replace hbel := bstep hbel hb
  clear hb
  go_wp2_with fail
  (with_reducible refine (set_s _ _ _ ha).mono ?_)
  rintro e w2 ⟨xa, xn, xc, xb, xm, xd, rfl, kx, hb⟩
  replace ha := ha.below hb
  replace hb0 := hb0.below hb
  replace hc := hc.below hb
  replace hbel := bstep hbel hb
  clear hb
  go_wp2_with fail
  (with_reducible refine (set_s _ _ _ hb0).mono ?_)
  rintro e w3 ⟨ya, yn, yc, yb, ym, yd, rfl, ky, hb⟩
  replace ha := ha.below hb
  replace hb0 := hb0.below hb
  replace hc := hc.below hb
  replace kx := kx.below hb
  replace hbel := bstep hbel hb
  clear hb
  go_wp2_with fail
  (with_reducible refine (set_s _ _ _ hc).mono ?_)
  rintro e w4 ⟨za, zn, zc, zb, zm, zd, rfl, kz, hb⟩
  replace ha := ha.below hb
  replace hb0 := hb0.below hb
  replace hc := hc.below hb
  replace kx := kx.below hb
  replace ky := ky.below hb
  replace hbel := bstep hbel hb
  clear hb
  clear ha hb0 hc
  have hal := bal (W := w4) (.cells #[(.slice xa xn xc), (.slice xb xm xd)] 30)
  replace kx := kx.below hal
  replace ky := ky.below hal
  replace kz := kz.below hal
  replace hbel := bstep hbel hal
  have c_x0 := cat (w4) #[(.slice xa xn xc), (.slice xb xm xd)] 30 0 _ rfl (w4.heap.size) (by simp)
  have c_x1 := cat (w4) #[(.slice xa xn xc), (.slice xb xm xd)] 30 1 _ rfl (w4.heap.size) (by simp)
  clear hal
  have hal := bal (W := (w4).alloc (.cells #[(.slice xa xn xc), (.slice xb xm xd)] 30)) (.cells #[(.slice ya yn yc), (.slice yb ym yd)] 30)
  replace kx := kx.below hal
  replace ky := ky.below hal
  replace kz := kz.below hal
  replace c_x0 := ckeep hal c_x0
  replace c_x1 := ckeep hal c_x1
  replace hbel := bstep hbel hal
  have c_y0 := cat ((w4).alloc (.cells #[(.slice xa xn xc), (.slice xb xm xd)] 30)) #[(.slice ya yn yc), (.slice yb ym yd)] 30 0 _ rfl (w4.heap.size + 1) (by simp)
  have c_y1 := cat ((w4).alloc (.cells #[(.slice xa xn xc), (.slice xb xm xd)] 30)) #[(.slice ya yn yc), (.slice yb ym yd)] 30 1 _ rfl (w4.heap.size + 1) (by simp)
  clear hal
  have hal := bal (W := ((w4).alloc (.cells #[(.slice xa xn xc), (.slice xb xm xd)] 30)).alloc (.cells #[(.slice ya yn yc), (.slice yb ym yd)] 30)) (.cells #[(.slice za zn zc), (.slice zb zm zd)] 30)
  replace kx := kx.below hal
  replace ky := ky.below hal
  replace kz := kz.below hal
  replace c_x0 := ckeep hal c_x0
  replace c_x1 := ckeep hal c_x1
  replace c_y0 := ckeep hal c_y0
  replace c_y1 := ckeep hal c_y1
  replace hbel := bstep hbel hal
  have c_z0 := cat (((w4).alloc (.cells #[(.slice xa xn xc), (.slice xb xm xd)] 30)).alloc (.cells #[(.slice ya yn yc), (.slice yb ym yd)] 30)) #[(.slice za zn zc), (.slice zb zm zd)] 30 0 _ rfl (w4.heap.size + 1 + 1) (by simp)
  have c_z1 := cat (((w4).alloc (.cells #[(.slice xa xn xc), (.slice xb xm xd)] 30)).alloc (.cells #[(.slice ya yn yc), (.slice yb ym yd)] 30)) #[(.slice za zn zc), (.slice zb zm zd)] 30 1 _ rfl (w4.heap.size + 1 + 1) (by simp)
  clear hal
  go_wp2_with fail
  (with_reducible refine (join_s _ _ _ _ _ _ _ kx ky).mono ?_)
  rintro e w5 ⟨xya, xyn, xyc, xyb, xym, xyd, rfl, kxy, hb⟩
  replace kx := kx.below hb
  replace ky := ky.below hb
  replace kz := kz.below hb
  replace c_x0 := ckeep hb c_x0
  replace c_x1 := ckeep hb c_x1
  replace c_y0 := ckeep hb c_y0
  replace c_y1 := ckeep hb c_y1
  replace c_z0 := ckeep hb c_z0
  replace c_z1 := ckeep hb c_z1
  replace hbel := bstep hbel hb
  clear hb
  have hal := bal (W := w5) (.cells #[(.slice xya xyn xyc), (.slice xyb xym xyd)] 30)
  replace kx := kx.below hal
  replace ky := ky.below hal
  replace kz := kz.below hal
  replace c_x0 := ckeep hal c_x0
  replace c_x1 := ckeep hal c_x1
  replace c_y0 := ckeep hal c_y0
  replace c_y1 := ckeep hal c_y1
  replace c_z0 := ckeep hal c_z0
  replace c_z1 := ckeep hal c_z1
  replace kxy := kxy.below hal
  replace hbel := bstep hbel hal
  have c_xy0 := cat w5 #[(.slice xya xyn xyc), (.slice xyb xym xyd)] 30 0 _ rfl _ rfl
  have c_xy1 := cat w5 #[(.slice xya xyn xyc), (.slice xyb xym xyd)] 30 1 _ rfl _ rfl
  clear hal
  go_wp2_with fail
  (with_reducible refine (join_s _ _ _ _ _ _ _ ky kx).mono ?_)
  rintro e w6 ⟨yxa, yxn, yxc, yxb, yxm, yxd, rfl, kyx, hb⟩
  replace kx := kx.below hb
  replace ky := ky.below hb
  replace kz := kz.below hb
  replace c_x0 := ckeep hb c_x0
  replace c_x1 := ckeep hb c_x1
  replace c_y0 := ckeep hb c_y0
  replace c_y1 := ckeep hb c_y1
  replace c_z0 := ckeep hb c_z0
  replace c_z1 := ckeep hb c_z1
  replace kxy := kxy.below hb
  replace c_xy0 := ckeep hb c_xy0
  replace c_xy1 := ckeep hb c_xy1
  replace hbel := bstep hbel hb
  clear hb
  have hal := bal (W := w6) (.cells #[(.slice yxa yxn yxc), (.slice yxb yxm yxd)] 30)
  replace kx := kx.below hal
  replace ky := ky.below hal
  replace kz := kz.below hal
  replace c_x0 := ckeep hal c_x0
  replace c_x1 := ckeep hal c_x1
  replace c_y0 := ckeep hal c_y0
  replace c_y1 := ckeep hal c_y1
  replace c_z0 := ckeep hal c_z0
  replace c_z1 := ckeep hal c_z1
  replace kxy := kxy.below hal
  replace c_xy0 := ckeep hal c_xy0
  replace c_xy1 := ckeep hal c_xy1
  replace kyx := kyx.below hal
  replace hbel := bstep hbel hal
  have c_yx0 := cat w6 #[(.slice yxa yxn yxc), (.slice yxb yxm yxd)] 30 0 _ rfl _ rfl
  have c_yx1 := cat w6 #[(.slice yxa yxn yxc), (.slice yxb yxm yxd)] 30 1 _ rfl _ rfl
  clear hal
  go_wp2_with fail
  (with_reducible refine (join_s _ _ _ _ _ _ _ kxy kz).mono ?_)
  rintro e w7 ⟨lla, lln, llc, llb, llm, lld, rfl, kll, hb⟩
  replace kx := kx.below hb
  replace ky := ky.below hb
  replace kz := kz.below hb
  replace c_x0 := ckeep hb c_x0
  replace c_x1 := ckeep hb c_x1
  replace c_y0 := ckeep hb c_y0
  replace c_y1 := ckeep hb c_y1
  replace c_z0 := ckeep hb c_z0
  replace c_z1 := ckeep hb c_z1
  replace kxy := kxy.below hb
  replace c_xy0 := ckeep hb c_xy0
  replace c_xy1 := ckeep hb c_xy1
  replace kyx := kyx.below hb
  replace c_yx0 := ckeep hb c_yx0
  replace c_yx1 := ckeep hb c_yx1
  replace hbel := bstep hbel hb
  clear hb
  have hal := bal (W := w7) (.cells #[(.slice lla lln llc), (.slice llb llm lld)] 30)
  replace kx := kx.below hal
  replace ky := ky.below hal
  replace kz := kz.below hal
  replace c_x0 := ckeep hal c_x0
  replace c_x1 := ckeep hal c_x1
  replace c_y0 := ckeep hal c_y0
  replace c_y1 := ckeep hal c_y1
  replace c_z0 := ckeep hal c_z0
  replace c_z1 := ckeep hal c_z1
  replace kxy := kxy.below hal
  replace c_xy0 := ckeep hal c_xy0
  replace c_xy1 := ckeep hal c_xy1
  replace kyx := kyx.below hal
  replace c_yx0 := ckeep hal c_yx0
  replace c_yx1 := ckeep hal c_yx1
  replace kll := kll.below hal
  replace hbel := bstep hbel hal
  have c_ll0 := cat w7 #[(.slice lla lln llc), (.slice llb llm lld)] 30 0 _ rfl _ rfl
  have c_ll1 := cat w7 #[(.slice lla lln llc), (.slice llb llm lld)] 30 1 _ rfl _ rfl
  clear hal
  go_wp2_with fail
  (with_reducible refine (join_s _ _ _ _ _ _ _ ky kz).mono ?_)
  rintro e w8 ⟨yza, yzn, yzc, yzb, yzm, yzd, rfl, kyz, hb⟩
  replace kx := kx.below hb
  replace ky := ky.below hb
  replace kz := kz.below hb
  replace c_x0 := ckeep hb c_x0
  replace c_x1 := ckeep hb c_x1
  replace c_y0 := ckeep hb c_y0
  replace c_y1 := ckeep hb c_y1
  replace c_z0 := ckeep hb c_z0
  replace c_z1 := ckeep hb c_z1
  replace kxy := kxy.below hb
  replace c_xy0 := ckeep hb c_xy0
  replace c_xy1 := ckeep hb c_xy1
  replace kyx := kyx.below hb
  replace c_yx0 := ckeep hb c_yx0
  replace c_yx1 := ckeep hb c_yx1
  replace kll := kll.below hb
  replace c_ll0 := ckeep hb c_ll0
  replace c_ll1 := ckeep hb c_ll1
  replace hbel := bstep hbel hb
  clear hb
  have hal := bal (W := w8) (.cells #[(.slice yza yzn yzc), (.slice yzb yzm yzd)] 30)
  replace kx := kx.below hal
  replace ky := ky.below hal
  replace kz := kz.below hal
  replace c_x0 := ckeep hal c_x0
  replace c_x1 := ckeep hal c_x1
  replace c_y0 := ckeep hal c_y0
  replace c_y1 := ckeep hal c_y1
  replace c_z0 := ckeep hal c_z0
  replace c_z1 := ckeep hal c_z1
  replace kxy := kxy.below hal
  replace c_xy0 := ckeep hal c_xy0
  replace c_xy1 := ckeep hal c_xy1
  replace kyx := kyx.below hal
  replace c_yx0 := ckeep hal c_yx0
  replace c_yx1 := ckeep hal c_yx1
  replace kll := kll.below hal
  replace c_ll0 := ckeep hal c_ll0
  replace c_ll1 := ckeep hal c_ll1
  replace kyz := kyz.below hal
  replace hbel := bstep hbel hal
  have c_yz0 := cat w8 #[(.slice yza yzn yzc), (.slice yzb yzm yzd)] 30 0 _ rfl _ rfl
  have c_yz1 := cat w8 #[(.slice yza yzn yzc), (.slice yzb yzm yzd)] 30 1 _ rfl _ rfl
  clear hal
  go_wp2_with fail
  (with_reducible refine (join_s _ _ _ _ _ _ _ kx kyz).mono ?_)
  rintro e w9 ⟨ra, rn, rc, rb, rm, rd, rfl, kr, hb⟩
  replace kx := kx.below hb
  replace ky := ky.below hb
  replace kz := kz.below hb
  replace c_x0 := ckeep hb c_x0
  replace c_x1 := ckeep hb c_x1
  replace c_y0 := ckeep hb c_y0
  replace c_y1 := ckeep hb c_y1
  replace c_z0 := ckeep hb c_z0
  replace c_z1 := ckeep hb c_z1
  replace kxy := kxy.below hb
  replace c_xy0 := ckeep hb c_xy0
  replace c_xy1 := ckeep hb c_xy1
  replace kyx := kyx.below hb
  replace c_yx0 := ckeep hb c_yx0
  replace c_yx1 := ckeep hb c_yx1
  replace kll := kll.below hb
  replace c_ll0 := ckeep hb c_ll0
  replace c_ll1 := ckeep hb c_ll1
  replace kyz := kyz.below hb
  replace c_yz0 := ckeep hb c_yz0
  replace c_yz1 := ckeep hb c_yz1
  replace hbel := bstep hbel hb
  clear hb
  have hal := bal (W := w9) (.cells #[(.slice ra rn rc), (.slice rb rm rd)] 30)
  replace kx := kx.below hal
  replace ky := ky.below hal
  replace kz := kz.below hal
  replace c_x0 := ckeep hal c_x0
  replace c_x1 := ckeep hal c_x1
  replace c_y0 := ckeep hal c_y0
  replace c_y1 := ckeep hal c_y1
  replace c_z0 := ckeep hal c_z0
  replace c_z1 := ckeep hal c_z1
  replace kxy := kxy.below hal
  replace c_xy0 := ckeep hal c_xy0
  replace c_xy1 := ckeep hal c_xy1
  replace kyx := kyx.below hal
  replace c_yx0 := ckeep hal c_yx0
  replace c_yx1 := ckeep hal c_yx1
  replace kll := kll.below hal
  replace c_ll0 := ckeep hal c_ll0
  replace c_ll1 := ckeep hal c_ll1
  replace kyz := kyz.below hal
  replace c_yz0 := ckeep hal c_yz0
  replace c_yz1 := ckeep hal c_yz1
  replace kr := kr.below hal
  replace hbel := bstep hbel hal
  have c_r0 := cat w9 #[(.slice ra rn rc), (.slice rb rm rd)] 30 0 _ rfl _ rfl
  have c_r1 := cat w9 #[(.slice ra rn rc), (.slice rb rm rd)] 30 1 _ rfl _ rfl
  clear hal
  go_wp2_with fail
  (with_reducible refine (meet_s _ _ _ _ _ _ _ kx kyz).mono ?_)
  rintro e w10 ⟨ma, mn, mc, mb, mm, md, rfl, km, hb⟩
  replace kx := kx.below hb
  replace ky := ky.below hb
  replace kz := kz.below hb
  replace c_x0 := ckeep hb c_x0
  replace c_x1 := ckeep hb c_x1
  replace c_y0 := ckeep hb c_y0
  replace c_y1 := ckeep hb c_y1
  replace c_z0 := ckeep hb c_z0
  replace c_z1 := ckeep hb c_z1
  replace kxy := kxy.below hb
  replace c_xy0 := ckeep hb c_xy0
  replace c_xy1 := ckeep hb c_xy1
  replace kyx := kyx.below hb
  replace c_yx0 := ckeep hb c_yx0
  replace c_yx1 := ckeep hb c_yx1
  replace kll := kll.below hb
  replace c_ll0 := ckeep hb c_ll0
  replace c_ll1 := ckeep hb c_ll1
  replace kyz := kyz.below hb
  replace c_yz0 := ckeep hb c_yz0
  replace c_yz1 := ckeep hb c_yz1
  replace kr := kr.below hb
  replace c_r0 := ckeep hb c_r0
  replace c_r1 := ckeep hb c_r1
  replace hbel := bstep hbel hb
  clear hb
  have hal := bal (W := w10) (.cells #[(.slice ma mn mc), (.slice mb mm md)] 30)
  replace kx := kx.below hal
  replace ky := ky.below hal
  replace kz := kz.below hal
  replace c_x0 := ckeep hal c_x0
  replace c_x1 := ckeep hal c_x1
  replace c_y0 := ckeep hal c_y0
  replace c_y1 := ckeep hal c_y1
  replace c_z0 := ckeep hal c_z0
  replace c_z1 := ckeep hal c_z1
  replace kxy := kxy.below hal
  replace c_xy0 := ckeep hal c_xy0
  replace c_xy1 := ckeep hal c_xy1
  replace kyx := kyx.below hal
  replace c_yx0 := ckeep hal c_yx0
  replace c_yx1 := ckeep hal c_yx1
  replace kll := kll.below hal
  replace c_ll0 := ckeep hal c_ll0
  replace c_ll1 := ckeep hal c_ll1
  replace kyz := kyz.below hal
  replace c_yz0 := ckeep hal c_yz0
  replace c_yz1 := ckeep hal c_yz1
  replace kr := kr.below hal
  replace c_r0 := ckeep hal c_r0
  replace c_r1 := ckeep hal c_r1
  replace km := km.below hal
  replace hbel := bstep hbel hal
  have c_m0 := cat w10 #[(.slice ma mn mc), (.slice mb mm md)] 30 0 _ rfl _ rfl
  have c_m1 := cat w10 #[(.slice ma mn mc), (.slice mb mm md)] 30 1 _ rfl _ rfl
  clear hal
  go_wp2_with fail
  (with_reducible refine (meet_s _ _ _ _ _ _ _ kx ky).mono ?_)
  rintro e w11 ⟨m1a, m1n, m1c, m1b, m1m, m1d, rfl, km1, hb⟩
  replace kx := kx.below hb
  replace ky := ky.below hb
  replace kz := kz.below hb
  replace c_x0 := ckeep hb c_x0
  replace c_x1 := ckeep hb c_x1
  replace c_y0 := ckeep hb c_y0
  replace c_y1 := ckeep hb c_y1
  replace c_z0 := ckeep hb c_z0
  replace c_z1 := ckeep hb c_z1
  replace kxy := kxy.below hb
  replace c_xy0 := ckeep hb c_xy0
  replace c_xy1 := ckeep hb c_xy1
  replace kyx := kyx.below hb
  replace c_yx0 := ckeep hb c_yx0
  replace c_yx1 := ckeep hb c_yx1
  replace kll := kll.below hb
  replace c_ll0 := ckeep hb c_ll0
  replace c_ll1 := ckeep hb c_ll1
  replace kyz := kyz.below hb
  replace c_yz0 := ckeep hb c_yz0
  replace c_yz1 := ckeep hb c_yz1
  replace kr := kr.below hb
  replace c_r0 := ckeep hb c_r0
  replace c_r1 := ckeep hb c_r1
  replace km := km.below hb
  replace c_m0 := ckeep hb c_m0
  replace c_m1 := ckeep hb c_m1
  replace hbel := bstep hbel hb
  clear hb
  have hal := bal (W := w11) (.cells #[(.slice m1a m1n m1c), (.slice m1b m1m m1d)] 30)
  replace kx := kx.below hal
  replace ky := ky.below hal
  replace kz := kz.below hal
  replace c_x0 := ckeep hal c_x0
  replace c_x1 := ckeep hal c_x1
  replace c_y0 := ckeep hal c_y0
  replace c_y1 := ckeep hal c_y1
  replace c_z0 := ckeep hal c_z0
  replace c_z1 := ckeep hal c_z1
  replace kxy := kxy.below hal
  replace c_xy0 := ckeep hal c_xy0
  replace c_xy1 := ckeep hal c_xy1
  replace kyx := kyx.below hal
  replace c_yx0 := ckeep hal c_yx0
  replace c_yx1 := ckeep hal c_yx1
  replace kll := kll.below hal
  replace c_ll0 := ckeep hal c_ll0
  replace c_ll1 := ckeep hal c_ll1
  replace kyz := kyz.below hal
  replace c_yz0 := ckeep hal c_yz0
  replace c_yz1 := ckeep hal c_yz1
  replace kr := kr.below hal
  replace c_r0 := ckeep hal c_r0
  replace c_r1 := ckeep hal c_r1
  replace km := km.below hal
  replace c_m0 := ckeep hal c_m0
  replace c_m1 := ckeep hal c_m1
  replace km1 := km1.below hal
  replace hbel := bstep hbel hal
  have c_m10 := cat w11 #[(.slice m1a m1n m1c), (.slice m1b m1m m1d)] 30 0 _ rfl _ rfl
  have c_m11 := cat w11 #[(.slice m1a m1n m1c), (.slice m1b m1m m1d)] 30 1 _ rfl _ rfl
  clear hal
  go_wp2_with fail
  (with_reducible refine (meet_s _ _ _ _ _ _ _ kx kz).mono ?_)
  rintro e w12 ⟨m2a, m2n, m2c, m2b, m2m, m2d, rfl, km2, hb⟩
  replace kx := kx.below hb
  replace ky := ky.below hb
  replace kz := kz.below hb
  replace c_x0 := ckeep hb c_x0
  replace c_x1 := ckeep hb c_x1
  replace c_y0 := ckeep hb c_y0
  replace c_y1 := ckeep hb c_y1
  replace c_z0 := ckeep hb c_z0
  replace c_z1 := ckeep hb c_z1
  replace kxy := kxy.below hb
  replace c_xy0 := ckeep hb c_xy0
  replace c_xy1 := ckeep hb c_xy1
  replace kyx := kyx.below hb
  replace c_yx0 := ckeep hb c_yx0
  replace c_yx1 := ckeep hb c_yx1
  replace kll := kll.below hb
  replace c_ll0 := ckeep hb c_ll0
  replace c_ll1 := ckeep hb c_ll1
  replace kyz := kyz.below hb
  replace c_yz0 := ckeep hb c_yz0
  replace c_yz1 := ckeep hb c_yz1
  replace kr := kr.below hb
  replace c_r0 := ckeep hb c_r0
  replace c_r1 := ckeep hb c_r1
  replace km := km.below hb
  replace c_m0 := ckeep hb c_m0
  replace c_m1 := ckeep hb c_m1
  replace km1 := km1.below hb
  replace c_m10 := ckeep hb c_m10
  replace c_m11 := ckeep hb c_m11
  replace hbel := bstep hbel hb
  clear hb
  have hal := bal (W := w12) (.cells #[(.slice m2a m2n m2c), (.slice m2b m2m m2d)] 30)
  replace kx := kx.below hal
  replace ky := ky.below hal
  replace kz := kz.below hal
  replace c_x0 := ckeep hal c_x0
  replace c_x1 := ckeep hal c_x1
  replace c_y0 := ckeep hal c_y0
  replace c_y1 := ckeep hal c_y1
  replace c_z0 := ckeep hal c_z0
  replace c_z1 := ckeep hal c_z1
  replace kxy := kxy.below hal
  replace c_xy0 := ckeep hal c_xy0
  replace c_xy1 := ckeep hal c_xy1
  replace kyx := kyx.below hal
  replace c_yx0 := ckeep hal c_yx0
  replace c_yx1 := ckeep hal c_yx1
  replace kll := kll.below hal
  replace c_ll0 := ckeep hal c_ll0
  replace c_ll1 := ckeep hal c_ll1
  replace kyz := kyz.below hal
  replace c_yz0 := ckeep hal c_yz0
  replace c_yz1 := ckeep hal c_yz1
  replace kr := kr.below hal
  replace c_r0 := ckeep hal c_r0
  replace c_r1 := ckeep hal c_r1
  replace km := km.below hal
  replace c_m0 := ckeep hal c_m0
  replace c_m1 := ckeep hal c_m1
  replace km1 := km1.below hal
  replace c_m10 := ckeep hal c_m10
  replace c_m11 := ckeep hal c_m11
  replace km2 := km2.below hal
  replace hbel := bstep hbel hal
  have c_m20 := cat w12 #[(.slice m2a m2n m2c), (.slice m2b m2m m2d)] 30 0 _ rfl _ rfl
  have c_m21 := cat w12 #[(.slice m2a m2n m2c), (.slice m2b m2m m2d)] 30 1 _ rfl _ rfl
  clear hal
  go_wp2_with fail
  (with_reducible refine (join_s _ _ _ _ _ _ _ km1 km2).mono ?_)
  rintro e w13 ⟨na, nn, nc, nb, nm, nd, rfl, kn, hb⟩
  replace kx := kx.below hb
  replace ky := ky.below hb
  replace kz := kz.below hb
  replace c_x0 := ckeep hb c_x0
  replace c_x1 := ckeep hb c_x1
  replace c_y0 := ckeep hb c_y0
  replace c_y1 := ckeep hb c_y1
  replace c_z0 := ckeep hb c_z0
  replace c_z1 := ckeep hb c_z1
  replace kxy := kxy.below hb
  replace c_xy0 := ckeep hb c_xy0
  replace c_xy1 := ckeep hb c_xy1
  replace kyx := kyx.below hb
  replace c_yx0 := ckeep hb c_yx0
  replace c_yx1 := ckeep hb c_yx1
  replace kll := kll.below hb
  replace c_ll0 := ckeep hb c_ll0
  replace c_ll1 := ckeep hb c_ll1
  replace kyz := kyz.below hb
  replace c_yz0 := ckeep hb c_yz0
  replace c_yz1 := ckeep hb c_yz1
  replace kr := kr.below hb
  replace c_r0 := ckeep hb c_r0
  replace c_r1 := ckeep hb c_r1
  replace km := km.below hb
  replace c_m0 := ckeep hb c_m0
  replace c_m1 := ckeep hb c_m1
  replace km1 := km1.below hb
  replace c_m10 := ckeep hb c_m10
  replace c_m11 := ckeep hb c_m11
  replace km2 := km2.below hb
  replace c_m20 := ckeep hb c_m20
  replace c_m21 := ckeep hb c_m21
  replace hbel := bstep hbel hb
  clear hb
  have hal := bal (W := w13) (.cells #[(.slice na nn nc), (.slice nb nm nd)] 30)
  replace kx := kx.below hal
  replace ky := ky.below hal
  replace kz := kz.below hal
  replace c_x0 := ckeep hal c_x0
  replace c_x1 := ckeep hal c_x1
  replace c_y0 := ckeep hal c_y0
  replace c_y1 := ckeep hal c_y1
  replace c_z0 := ckeep hal c_z0
  replace c_z1 := ckeep hal c_z1
  replace kxy := kxy.below hal
  replace c_xy0 := ckeep hal c_xy0
  replace c_xy1 := ckeep hal c_xy1
  replace kyx := kyx.below hal
  replace c_yx0 := ckeep hal c_yx0
  replace c_yx1 := ckeep hal c_yx1
  replace kll := kll.below hal
  replace c_ll0 := ckeep hal c_ll0
  replace c_ll1 := ckeep hal c_ll1
  replace kyz := kyz.below hal
  replace c_yz0 := ckeep hal c_yz0
  replace c_yz1 := ckeep hal c_yz1
  replace kr := kr.below hal
  replace c_r0 := ckeep hal c_r0
  replace c_r1 := ckeep hal c_r1
  replace km := km.below hal
  replace c_m0 := ckeep hal c_m0
  replace c_m1 := ckeep hal c_m1
  replace km1 := km1.below hal
  replace c_m10 := ckeep hal c_m10
  replace c_m11 := ckeep hal c_m11
  replace km2 := km2.below hal
  replace c_m20 := ckeep hal c_m20
  replace c_m21 := ckeep hal c_m21
  replace kn := kn.below hal
  replace hbel := bstep hbel hal
  have c_n0 := cat w13 #[(.slice na nn nc), (.slice nb nm nd)] 30 0 _ rfl _ rfl
  have c_n1 := cat w13 #[(.slice na nn nc), (.slice nb nm nd)] 30 1 _ rfl _ rfl
  clear hal
  go_wp2_with fail
  (with_reducible refine (join_s _ _ _ _ _ _ _ kx km1).mono ?_)
  rintro e w14 ⟨ua, un, uc, ub, um, ud, rfl, ku, hb⟩
  replace kx := kx.below hb
  replace ky := ky.below hb
  replace kz := kz.below hb
  replace c_x0 := ckeep hb c_x0
  replace c_x1 := ckeep hb c_x1
  replace c_y0 := ckeep hb c_y0
  replace c_y1 := ckeep hb c_y1
  replace c_z0 := ckeep hb c_z0
  replace c_z1 := ckeep hb c_z1
  replace kxy := kxy.below hb
  replace c_xy0 := ckeep hb c_xy0
  replace c_xy1 := ckeep hb c_xy1
  replace kyx := kyx.below hb
  replace c_yx0 := ckeep hb c_yx0
  replace c_yx1 := ckeep hb c_yx1
  replace kll := kll.below hb
  replace c_ll0 := ckeep hb c_ll0
  replace c_ll1 := ckeep hb c_ll1
  replace kyz := kyz.below hb
  replace c_yz0 := ckeep hb c_yz0
  replace c_yz1 := ckeep hb c_yz1
  replace kr := kr.below hb
  replace c_r0 := ckeep hb c_r0
  replace c_r1 := ckeep hb c_r1
  replace km := km.below hb
  replace c_m0 := ckeep hb c_m0
  replace c_m1 := ckeep hb c_m1
  replace km1 := km1.below hb
  replace c_m10 := ckeep hb c_m10
  replace c_m11 := ckeep hb c_m11
  replace km2 := km2.below hb
  replace c_m20 := ckeep hb c_m20
  replace c_m21 := ckeep hb c_m21
  replace kn := kn.below hb
  replace c_n0 := ckeep hb c_n0
  replace c_n1 := ckeep hb c_n1
  replace hbel := bstep hbel hb
  clear hb
  have hal := bal (W := w14) (.cells #[(.slice ua un uc), (.slice ub um ud)] 30)
  replace kx := kx.below hal
  replace ky := ky.below hal
  replace kz := kz.below hal
  replace c_x0 := ckeep hal c_x0
  replace c_x1 := ckeep hal c_x1
  replace c_y0 := ckeep hal c_y0
  replace c_y1 := ckeep hal c_y1
  replace c_z0 := ckeep hal c_z0
  replace c_z1 := ckeep hal c_z1
  replace kxy := kxy.below hal
  replace c_xy0 := ckeep hal c_xy0
  replace c_xy1 := ckeep hal c_xy1
  replace kyx := kyx.below hal
  replace c_yx0 := ckeep hal c_yx0
  replace c_yx1 := ckeep hal c_yx1
  replace kll := kll.below hal
  replace c_ll0 := ckeep hal c_ll0
  replace c_ll1 := ckeep hal c_ll1
  replace kyz := kyz.below hal
  replace c_yz0 := ckeep hal c_yz0
  replace c_yz1 := ckeep hal c_yz1
  replace kr := kr.below hal
  replace c_r0 := ckeep hal c_r0
  replace c_r1 := ckeep hal c_r1
  replace km := km.below hal
  replace c_m0 := ckeep hal c_m0
  replace c_m1 := ckeep hal c_m1
  replace km1 := km1.below hal
  replace c_m10 := ckeep hal c_m10
  replace c_m11 := ckeep hal c_m11
  replace km2 := km2.below hal
  replace c_m20 := ckeep hal c_m20
  replace c_m21 := ckeep hal c_m21
  replace kn := kn.below hal
  replace c_n0 := ckeep hal c_n0
  replace c_n1 := ckeep hal c_n1
  replace ku := ku.below hal
  replace hbel := bstep hbel hal
  have c_u0 := cat w14 #[(.slice ua un uc), (.slice ub um ud)] 30 0 _ rfl _ rfl
  have c_u1 := cat w14 #[(.slice ua un uc), (.slice ub um ud)] 30 1 _ rfl _ rfl
  clear hal
  go_wp2_with fail
  (with_reducible refine (meet_s _ _ _ _ _ _ _ kx kxy).mono ?_)
  rintro e w15 ⟨va, vn, vc, vb, vm, vd, rfl, kv, hb⟩
  replace kx := kx.below hb
  replace ky := ky.below hb
  replace kz := kz.below hb
  replace c_x0 := ckeep hb c_x0
  replace c_x1 := ckeep hb c_x1
  replace c_y0 := ckeep hb c_y0
  replace c_y1 := ckeep hb c_y1
  replace c_z0 := ckeep hb c_z0
  replace c_z1 := ckeep hb c_z1
  replace kxy := kxy.below hb
  replace c_xy0 := ckeep hb c_xy0
  replace c_xy1 := ckeep hb c_xy1
  replace kyx := kyx.below hb
  replace c_yx0 := ckeep hb c_yx0
  replace c_yx1 := ckeep hb c_yx1
  replace kll := kll.below hb
  replace c_ll0 := ckeep hb c_ll0
  replace c_ll1 := ckeep hb c_ll1
  replace kyz := kyz.below hb
  replace c_yz0 := ckeep hb c_yz0
  replace c_yz1 := ckeep hb c_yz1
  replace kr := kr.below hb
  replace c_r0 := ckeep hb c_r0
  replace c_r1 := ckeep hb c_r1
  replace km := km.below hb
  replace c_m0 := ckeep hb c_m0
  replace c_m1 := ckeep hb c_m1
  replace km1 := km1.below hb
  replace c_m10 := ckeep hb c_m10
  replace c_m11 := ckeep hb c_m11
  replace km2 := km2.below hb
  replace c_m20 := ckeep hb c_m20
  replace c_m21 := ckeep hb c_m21
  replace kn := kn.below hb
  replace c_n0 := ckeep hb c_n0
  replace c_n1 := ckeep hb c_n1
  replace ku := ku.below hb
  replace c_u0 := ckeep hb c_u0
  replace c_u1 := ckeep hb c_u1
  replace hbel := bstep hbel hb
  clear hb
  have hal := bal (W := w15) (.cells #[(.slice va vn vc), (.slice vb vm vd)] 30)
  replace kx := kx.below hal
  replace ky := ky.below hal
  replace kz := kz.below hal
  replace c_x0 := ckeep hal c_x0
  replace c_x1 := ckeep hal c_x1
  replace c_y0 := ckeep hal c_y0
  replace c_y1 := ckeep hal c_y1
  replace c_z0 := ckeep hal c_z0
  replace c_z1 := ckeep hal c_z1
  replace kxy := kxy.below hal
  replace c_xy0 := ckeep hal c_xy0
  replace c_xy1 := ckeep hal c_xy1
  replace kyx := kyx.below hal
  replace c_yx0 := ckeep hal c_yx0
  replace c_yx1 := ckeep hal c_yx1
  replace kll := kll.below hal
  replace c_ll0 := ckeep hal c_ll0
  replace c_ll1 := ckeep hal c_ll1
  replace kyz := kyz.below hal
  replace c_yz0 := ckeep hal c_yz0
  replace c_yz1 := ckeep hal c_yz1
  replace kr := kr.below hal
  replace c_r0 := ckeep hal c_r0
  replace c_r1 := ckeep hal c_r1
  replace km := km.below hal
  replace c_m0 := ckeep hal c_m0
  replace c_m1 := ckeep hal c_m1
  replace km1 := km1.below hal
  replace c_m10 := ckeep hal c_m10
  replace c_m11 := ckeep hal c_m11
  replace km2 := km2.below hal
  replace c_m20 := ckeep hal c_m20
  replace c_m21 := ckeep hal c_m21
  replace kn := kn.below hal
  replace c_n0 := ckeep hal c_n0
  replace c_n1 := ckeep hal c_n1
  replace ku := ku.below hal
  replace c_u0 := ckeep hal c_u0
  replace c_u1 := ckeep hal c_u1
  replace kv := kv.below hal
  replace hbel := bstep hbel hal
  have c_v0 := cat w15 #[(.slice va vn vc), (.slice vb vm vd)] 30 0 _ rfl _ rfl
  have c_v1 := cat w15 #[(.slice va vn vc), (.slice vb vm vd)] 30 1 _ rfl _ rfl
  clear hal
  have hal := bal (W := w15.alloc (.cells #[(.slice va vn vc), (.slice vb vm vd)] 30)) (.cells #[.int .i64 0, .int .i64 0, .int .i64 0, .int .i64 0, .int .i64 0, .int .i64 0, .int .i64 0, .int .i64 0, .int .i64 0, .int .i64 0, .int .i64 0] 34)
  replace kx := kx.below hal
  replace ky := ky.below hal
  replace kz := kz.below hal
  replace c_x0 := ckeep hal c_x0
  replace c_x1 := ckeep hal c_x1
  replace c_y0 := ckeep hal c_y0
  replace c_y1 := ckeep hal c_y1
  replace c_z0 := ckeep hal c_z0
  replace c_z1 := ckeep hal c_z1
  replace kxy := kxy.below hal
  replace c_xy0 := ckeep hal c_xy0
  replace c_xy1 := ckeep hal c_xy1
  replace kyx := kyx.below hal
  replace c_yx0 := ckeep hal c_yx0
  replace c_yx1 := ckeep hal c_yx1
  replace kll := kll.below hal
  replace c_ll0 := ckeep hal c_ll0
  replace c_ll1 := ckeep hal c_ll1
  replace kyz := kyz.below hal
  replace c_yz0 := ckeep hal c_yz0
  replace c_yz1 := ckeep hal c_yz1
  replace kr := kr.below hal
  replace c_r0 := ckeep hal c_r0
  replace c_r1 := ckeep hal c_r1
  replace km := km.below hal
  replace c_m0 := ckeep hal c_m0
  replace c_m1 := ckeep hal c_m1
  replace km1 := km1.below hal
  replace c_m10 := ckeep hal c_m10
  replace c_m11 := ckeep hal c_m11
  replace km2 := km2.below hal
  replace c_m20 := ckeep hal c_m20
  replace c_m21 := ckeep hal c_m21
  replace kn := kn.below hal
  replace c_n0 := ckeep hal c_n0
  replace c_n1 := ckeep hal c_n1
  replace ku := ku.below hal
  replace c_u0 := ckeep hal c_u0
  replace c_u1 := ckeep hal c_u1
  replace kv := kv.below hal
  replace c_v0 := ckeep hal c_v0
  replace c_v1 := ckeep hal c_v1
  replace hbel := bstep hbel hal
  clear hal
  go_wp2_with fail
  refine wp_loop_rounds 12 ?_
  iterate 11 (rw [rounds_succ]; go_wp2_with fail)
  rw [rounds_succ]
  go_wp2_with fail
  (with_reducible refine (same_s _ _ _ _ _ _ _ kxy kyx).mono ?_)
  rintro e w16 ⟨rfl, hb⟩
  replace kx := kx.below hb
  replace ky := ky.below hb
  replace kz := kz.below hb
  replace c_x0 := ckeep hb c_x0
  replace c_x1 := ckeep hb c_x1
  replace c_y0 := ckeep hb c_y0
  replace c_y1 := ckeep hb c_y1
  replace c_z0 := ckeep hb c_z0
  replace c_z1 := ckeep hb c_z1
  replace kxy := kxy.below hb
  replace c_xy0 := ckeep hb c_xy0
  replace c_xy1 := ckeep hb c_xy1
  replace kyx := kyx.below hb
  replace c_yx0 := ckeep hb c_yx0
  replace c_yx1 := ckeep hb c_yx1
  replace kll := kll.below hb
  replace c_ll0 := ckeep hb c_ll0
  replace c_ll1 := ckeep hb c_ll1
  replace kyz := kyz.below hb
  replace c_yz0 := ckeep hb c_yz0
  replace c_yz1 := ckeep hb c_yz1
  replace kr := kr.below hb
  replace c_r0 := ckeep hb c_r0
  replace c_r1 := ckeep hb c_r1
  replace km := km.below hb
  replace c_m0 := ckeep hb c_m0
  replace c_m1 := ckeep hb c_m1
  replace km1 := km1.below hb
  replace c_m10 := ckeep hb c_m10
  replace c_m11 := ckeep hb c_m11
  replace km2 := km2.below hb
  replace c_m20 := ckeep hb c_m20
  replace c_m21 := ckeep hb c_m21
  replace kn := kn.below hb
  replace c_n0 := ckeep hb c_n0
  replace c_n1 := ckeep hb c_n1
  replace ku := ku.below hb
  replace c_u0 := ckeep hb c_u0
  replace c_u1 := ckeep hb c_u1
  replace kv := kv.below hb
  replace c_v0 := ckeep hb c_v0
  replace c_v1 := ckeep hb c_v1
  replace hbel := bstep hbel hb
  clear hb
  rw [show eqB (orK (setP la) (setP lb)) (orK (setP lb) (setP la)) = true from eqB_iff.2 fun s c _ _ _ _ => by simp only [orK, andK]; cases setP la s c <;> cases setP lb s c <;> cases setP lc s c <;> rfl]
  go_wp2_with fail
  (with_reducible refine (same_s _ _ _ _ _ _ _ kll kr).mono ?_)
  rintro e w17 ⟨rfl, hb⟩
  replace kx := kx.below hb
  replace ky := ky.below hb
  replace kz := kz.below hb
  replace c_x0 := ckeep hb c_x0
  replace c_x1 := ckeep hb c_x1
  replace c_y0 := ckeep hb c_y0
  replace c_y1 := ckeep hb c_y1
  replace c_z0 := ckeep hb c_z0
  replace c_z1 := ckeep hb c_z1
  replace kxy := kxy.below hb
  replace c_xy0 := ckeep hb c_xy0
  replace c_xy1 := ckeep hb c_xy1
  replace kyx := kyx.below hb
  replace c_yx0 := ckeep hb c_yx0
  replace c_yx1 := ckeep hb c_yx1
  replace kll := kll.below hb
  replace c_ll0 := ckeep hb c_ll0
  replace c_ll1 := ckeep hb c_ll1
  replace kyz := kyz.below hb
  replace c_yz0 := ckeep hb c_yz0
  replace c_yz1 := ckeep hb c_yz1
  replace kr := kr.below hb
  replace c_r0 := ckeep hb c_r0
  replace c_r1 := ckeep hb c_r1
  replace km := km.below hb
  replace c_m0 := ckeep hb c_m0
  replace c_m1 := ckeep hb c_m1
  replace km1 := km1.below hb
  replace c_m10 := ckeep hb c_m10
  replace c_m11 := ckeep hb c_m11
  replace km2 := km2.below hb
  replace c_m20 := ckeep hb c_m20
  replace c_m21 := ckeep hb c_m21
  replace kn := kn.below hb
  replace c_n0 := ckeep hb c_n0
  replace c_n1 := ckeep hb c_n1
  replace ku := ku.below hb
  replace c_u0 := ckeep hb c_u0
  replace c_u1 := ckeep hb c_u1
  replace kv := kv.below hb
  replace c_v0 := ckeep hb c_v0
  replace c_v1 := ckeep hb c_v1
  replace hbel := bstep hbel hb
  clear hb
  rw [show eqB (orK (orK (setP la) (setP lb)) (setP lc)) (orK (setP la) (orK (setP lb) (setP lc))) = true from eqB_iff.2 fun s c _ _ _ _ => by simp only [orK, andK]; cases setP la s c <;> cases setP lb s c <;> cases setP lc s c <;> rfl]
  go_wp2_with fail
  (with_reducible refine (same_s _ _ _ _ _ _ _ km kn).mono ?_)
  rintro e w18 ⟨rfl, hb⟩
  replace kx := kx.below hb
  replace ky := ky.below hb
  replace kz := kz.below hb
  replace c_x0 := ckeep hb c_x0
  replace c_x1 := ckeep hb c_x1
  replace c_y0 := ckeep hb c_y0
  replace c_y1 := ckeep hb c_y1
  replace c_z0 := ckeep hb c_z0
  replace c_z1 := ckeep hb c_z1
  replace kxy := kxy.below hb
  replace c_xy0 := ckeep hb c_xy0
  replace c_xy1 := ckeep hb c_xy1
  replace kyx := kyx.below hb
  replace c_yx0 := ckeep hb c_yx0
  replace c_yx1 := ckeep hb c_yx1
  replace kll := kll.below hb
  replace c_ll0 := ckeep hb c_ll0
  replace c_ll1 := ckeep hb c_ll1
  replace kyz := kyz.below hb
  replace c_yz0 := ckeep hb c_yz0
  replace c_yz1 := ckeep hb c_yz1
  replace kr := kr.below hb
  replace c_r0 := ckeep hb c_r0
  replace c_r1 := ckeep hb c_r1
  replace km := km.below hb
  replace c_m0 := ckeep hb c_m0
  replace c_m1 := ckeep hb c_m1
  replace km1 := km1.below hb
  replace c_m10 := ckeep hb c_m10
  replace c_m11 := ckeep hb c_m11
  replace km2 := km2.below hb
  replace c_m20 := ckeep hb c_m20
  replace c_m21 := ckeep hb c_m21
  replace kn := kn.below hb
  replace c_n0 := ckeep hb c_n0
  replace c_n1 := ckeep hb c_n1
  replace ku := ku.below hb
  replace c_u0 := ckeep hb c_u0
  replace c_u1 := ckeep hb c_u1
  replace kv := kv.below hb
  replace c_v0 := ckeep hb c_v0
  replace c_v1 := ckeep hb c_v1
  replace hbel := bstep hbel hb
  clear hb
  rw [show eqB (andK (setP la) (orK (setP lb) (setP lc))) (orK (andK (setP la) (setP lb)) (andK (setP la) (setP lc))) = true from eqB_iff.2 fun s c _ _ _ _ => by simp only [orK, andK]; cases setP la s c <;> cases setP lb s c <;> cases setP lc s c <;> rfl]
  go_wp2_with fail
  (with_reducible refine (same_s _ _ _ _ _ _ _ ku kx).mono ?_)
  rintro e w19 ⟨rfl, hb⟩
  replace kx := kx.below hb
  replace ky := ky.below hb
  replace kz := kz.below hb
  replace c_x0 := ckeep hb c_x0
  replace c_x1 := ckeep hb c_x1
  replace c_y0 := ckeep hb c_y0
  replace c_y1 := ckeep hb c_y1
  replace c_z0 := ckeep hb c_z0
  replace c_z1 := ckeep hb c_z1
  replace kxy := kxy.below hb
  replace c_xy0 := ckeep hb c_xy0
  replace c_xy1 := ckeep hb c_xy1
  replace kyx := kyx.below hb
  replace c_yx0 := ckeep hb c_yx0
  replace c_yx1 := ckeep hb c_yx1
  replace kll := kll.below hb
  replace c_ll0 := ckeep hb c_ll0
  replace c_ll1 := ckeep hb c_ll1
  replace kyz := kyz.below hb
  replace c_yz0 := ckeep hb c_yz0
  replace c_yz1 := ckeep hb c_yz1
  replace kr := kr.below hb
  replace c_r0 := ckeep hb c_r0
  replace c_r1 := ckeep hb c_r1
  replace km := km.below hb
  replace c_m0 := ckeep hb c_m0
  replace c_m1 := ckeep hb c_m1
  replace km1 := km1.below hb
  replace c_m10 := ckeep hb c_m10
  replace c_m11 := ckeep hb c_m11
  replace km2 := km2.below hb
  replace c_m20 := ckeep hb c_m20
  replace c_m21 := ckeep hb c_m21
  replace kn := kn.below hb
  replace c_n0 := ckeep hb c_n0
  replace c_n1 := ckeep hb c_n1
  replace ku := ku.below hb
  replace c_u0 := ckeep hb c_u0
  replace c_u1 := ckeep hb c_u1
  replace kv := kv.below hb
  replace c_v0 := ckeep hb c_v0
  replace c_v1 := ckeep hb c_v1
  replace hbel := bstep hbel hb
  clear hb
  rw [show eqB (orK (setP la) (andK (setP la) (setP lb))) (setP la) = true from eqB_iff.2 fun s c _ _ _ _ => by simp only [orK, andK]; cases setP la s c <;> cases setP lb s c <;> cases setP lc s c <;> rfl]
  go_wp2_with fail
  (with_reducible refine (same_s _ _ _ _ _ _ _ kv kx).mono ?_)
  rintro e w20 ⟨rfl, hb⟩
  replace kx := kx.below hb
  replace ky := ky.below hb
  replace kz := kz.below hb
  replace c_x0 := ckeep hb c_x0
  replace c_x1 := ckeep hb c_x1
  replace c_y0 := ckeep hb c_y0
  replace c_y1 := ckeep hb c_y1
  replace c_z0 := ckeep hb c_z0
  replace c_z1 := ckeep hb c_z1
  replace kxy := kxy.below hb
  replace c_xy0 := ckeep hb c_xy0
  replace c_xy1 := ckeep hb c_xy1
  replace kyx := kyx.below hb
  replace c_yx0 := ckeep hb c_yx0
  replace c_yx1 := ckeep hb c_yx1
  replace kll := kll.below hb
  replace c_ll0 := ckeep hb c_ll0
  replace c_ll1 := ckeep hb c_ll1
  replace kyz := kyz.below hb
  replace c_yz0 := ckeep hb c_yz0
  replace c_yz1 := ckeep hb c_yz1
  replace kr := kr.below hb
  replace c_r0 := ckeep hb c_r0
  replace c_r1 := ckeep hb c_r1
  replace km := km.below hb
  replace c_m0 := ckeep hb c_m0
  replace c_m1 := ckeep hb c_m1
  replace km1 := km1.below hb
  replace c_m10 := ckeep hb c_m10
  replace c_m11 := ckeep hb c_m11
  replace km2 := km2.below hb
  replace c_m20 := ckeep hb c_m20
  replace c_m21 := ckeep hb c_m21
  replace kn := kn.below hb
  replace c_n0 := ckeep hb c_n0
  replace c_n1 := ckeep hb c_n1
  replace ku := ku.below hb
  replace c_u0 := ckeep hb c_u0
  replace c_u1 := ckeep hb c_u1
  replace kv := kv.below hb
  replace c_v0 := ckeep hb c_v0
  replace c_v1 := ckeep hb c_v1
  replace hbel := bstep hbel hb
  clear hb
  rw [show eqB (andK (setP la) (orK (setP la) (setP lb))) (setP la) = true from eqB_iff.2 fun s c _ _ _ _ => by simp only [orK, andK]; cases setP la s c <;> cases setP lb s c <;> cases setP lc s c <;> rfl]
  go_wp2
  go_ret
  exact ⟨rfl, hbel⟩
end Go.Proofs.Ytippljiicnpieaa
