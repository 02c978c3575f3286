/- The walk of FilterMorgan: it returns true, whatever the arguments are. Written by a small program (gen/filter_laws.py). -/
import Derived.Test.YtcanefjjpeoikaaFilter5
namespace Go.Proofs.Ytcanefjjpeoikaa
open Go.RowKit
set_option maxRecDepth 100000 in
set_option maxHeartbeats 4000000 in
theorem FilterMorgan_walk (vf vg : Value) (f g : Bxs) (w : World) (hf : BxsAt w vf f) (hg : BxsAt w vg g) :
    Calls Try.prog 7 #[vf, vg] w fun e w' => e = .returned (.bool true) ∧ Below w.heap.size w w' := by
  obtain ⟨fa, fc, rfl⟩ := hf.shape
  obtain ⟨ga, gc, rfl⟩ := hg.shape
  have hbel := Below.refl w.heap.size w
  go_enter Try.func7, Try.ntmps7
  go_wp2_with fail
  (with_reducible refine (filterBegun_c _).mono ?_)
  rintro e w1 ⟨rfl, hb⟩
  replace hf := hf.below hb
  replace hg := hg.below hb
  replace hbel := bstep hbel hb
  clear hb
  go_wp2_with fail
  (with_reducible refine (meetf_c _ _ f g _ hf hg).mono ?_)
  rintro e w2 ⟨vm, rfl, ho, hb⟩
  replace hf := hf.below hb
  replace hg := hg.below hb
  replace hbel := bstep hbel hb
  clear hb
  obtain ⟨ja, jn, jc, hv⟩ := ho.nil_or
  subst hv
  by_cases h2 : fTwo f g = 0
  rotate_left
  · have hE := h2
    have hv := ho.2 hE
    simp only [Value.slice.injEq] at hv
    obtain ⟨rfl, rfl, rfl⟩ := hv
    have he : (fTwo f g == 0) = false := by simpa using hE
    have he2 : (fTwo f g != 0) = true := by simp [bne, he]
    clear hE ho
    go_wp2
    go_ret
    exact ⟨rfl, hbel⟩
  have Hf := Lib.hid (fTwo_zero h2).1
  have Hg := Lib.hid (fTwo_zero h2).2
  rw [h2] at ho ⊢
  clear h2
  have fm := FV.of_out ho (fun _ _ _ _ => rfl)
  clear ho
  have xf := FV.mk hf Hf.out
  have xg := FV.mk hg Hg.out
  clear hf hg
  go_wp2_with fail
  (with_reducible refine (everyF _).mono ?_)
  rintro e w3 ⟨v3, rfl, fe, hb⟩
  replace xf := xf.below hb
  replace xg := xg.below hb
  replace fm := fm.below hb
  replace hbel := bstep hbel hb
  clear hb
  go_wp2_with fail
  (with_reducible refine (lessF _ _ _ _ _ fe fm).mono ?_)
  rintro e w4 ⟨v4, rfl, nm, hb⟩
  replace xf := xf.below hb
  replace xg := xg.below hb
  replace fm := fm.below hb
  replace fe := fe.below hb
  replace hbel := bstep hbel hb
  clear hb
  go_wp2_with fail
  (with_reducible refine (lessF _ _ _ _ _ fe xf).mono ?_)
  rintro e w5 ⟨v5, rfl, nf, hb⟩
  replace xf := xf.below hb
  replace xg := xg.below hb
  replace fm := fm.below hb
  replace fe := fe.below hb
  replace nm := nm.below hb
  replace hbel := bstep hbel hb
  clear hb
  go_wp2_with fail
  (with_reducible refine (lessF _ _ _ _ _ fe xg).mono ?_)
  rintro e w6 ⟨v6, rfl, ng, hb⟩
  replace xf := xf.below hb
  replace xg := xg.below hb
  replace fm := fm.below hb
  replace fe := fe.below hb
  replace nm := nm.below hb
  replace nf := nf.below hb
  replace hbel := bstep hbel hb
  clear hb
  go_wp2_with fail
  (with_reducible refine (joinF _ _ _ _ _ nf ng).mono ?_)
  rintro e w7 ⟨v7, rfl, fj, hb⟩
  replace xf := xf.below hb
  replace xg := xg.below hb
  replace fm := fm.below hb
  replace fe := fe.below hb
  replace nm := nm.below hb
  replace nf := nf.below hb
  replace ng := ng.below hb
  replace hbel := bstep hbel hb
  clear hb
  go_wp2_with fail
  (with_reducible refine (lessF _ _ _ _ _ fe nf).mono ?_)
  rintro e w8 ⟨v8, rfl, bk, hb⟩
  replace xf := xf.below hb
  replace xg := xg.below hb
  replace fm := fm.below hb
  replace fe := fe.below hb
  replace nm := nm.below hb
  replace nf := nf.below hb
  replace ng := ng.below hb
  replace fj := fj.below hb
  replace hbel := bstep hbel hb
  clear hb
  go_wp2_with fail
  (with_reducible refine (lessF _ _ _ _ _ xf xg).mono ?_)
  rintro e w9 ⟨v9, rfl, fd, hb⟩
  replace xf := xf.below hb
  replace xg := xg.below hb
  replace fm := fm.below hb
  replace fe := fe.below hb
  replace nm := nm.below hb
  replace nf := nf.below hb
  replace ng := ng.below hb
  replace fj := fj.below hb
  replace bk := bk.below hb
  replace hbel := bstep hbel hb
  clear hb
  go_wp2_with fail
  (with_reducible refine (meetF _ _ _ _ _ xf ng).mono ?_)
  rintro e w10 ⟨v10, rfl, dm, hb⟩
  replace xf := xf.below hb
  replace xg := xg.below hb
  replace fm := fm.below hb
  replace fe := fe.below hb
  replace nm := nm.below hb
  replace nf := nf.below hb
  replace ng := ng.below hb
  replace fj := fj.below hb
  replace bk := bk.below hb
  replace fd := fd.below hb
  replace hbel := bstep hbel hb
  clear hb
  go_wp2_with fail
  (with_reducible refine (joinF _ _ _ _ _ xf xg).mono ?_)
  rintro e w11 ⟨v11, rfl, fo, hb⟩
  replace xf := xf.below hb
  replace xg := xg.below hb
  replace fm := fm.below hb
  replace fe := fe.below hb
  replace nm := nm.below hb
  replace nf := nf.below hb
  replace ng := ng.below hb
  replace fj := fj.below hb
  replace bk := bk.below hb
  replace fd := fd.below hb
  replace dm := dm.below hb
  replace hbel := bstep hbel hb
  clear hb
  go_wp2_with fail
  (with_reducible refine (countF _ _ _ xf).mono ?_)
  rintro e w12 ⟨rfl, hb⟩
  replace xf := xf.below hb
  replace xg := xg.below hb
  replace fm := fm.below hb
  replace fe := fe.below hb
  replace nm := nm.below hb
  replace nf := nf.below hb
  replace ng := ng.below hb
  replace fj := fj.below hb
  replace bk := bk.below hb
  replace fd := fd.below hb
  replace dm := dm.below hb
  replace fo := fo.below hb
  replace hbel := bstep hbel hb
  clear hb
  go_wp2_with fail
  (with_reducible refine (countF _ _ _ xg).mono ?_)
  rintro e w13 ⟨rfl, hb⟩
  replace xf := xf.below hb
  replace xg := xg.below hb
  replace fm := fm.below hb
  replace fe := fe.below hb
  replace nm := nm.below hb
  replace nf := nf.below hb
  replace ng := ng.below hb
  replace fj := fj.below hb
  replace bk := bk.below hb
  replace fd := fd.below hb
  replace dm := dm.below hb
  replace fo := fo.below hb
  replace hbel := bstep hbel hb
  clear hb
  go_wp2_with fail
  (with_reducible refine (countF _ _ _ fo).mono ?_)
  rintro e w14 ⟨rfl, hb⟩
  replace xf := xf.below hb
  replace xg := xg.below hb
  replace fm := fm.below hb
  replace fe := fe.below hb
  replace nm := nm.below hb
  replace nf := nf.below hb
  replace ng := ng.below hb
  replace fj := fj.below hb
  replace bk := bk.below hb
  replace fd := fd.below hb
  replace dm := dm.below hb
  replace fo := fo.below hb
  replace hbel := bstep hbel hb
  clear hb
  go_wp2_with fail
  (with_reducible refine (countF _ _ _ fm).mono ?_)
  rintro e w15 ⟨rfl, hb⟩
  replace xf := xf.below hb
  replace xg := xg.below hb
  replace fm := fm.below hb
  replace fe := fe.below hb
  replace nm := nm.below hb
  replace nf := nf.below hb
  replace ng := ng.below hb
  replace fj := fj.below hb
  replace bk := bk.below hb
  replace fd := fd.below hb
  replace dm := dm.below hb
  replace fo := fo.below hb
  replace hbel := bstep hbel hb
  clear hb
  have hs := cntF_both (fun k n => inF f k n) (fun k n => inF g k n)
  have c1b : 0 ≤ cntF (fun k n => inF f k n) ∧ cntF (fun k n => inF f k n) ≤ 512 := cntT_bd _ 16
  have c2b : 0 ≤ cntF (fun k n => inF g k n) ∧ cntF (fun k n => inF g k n) ≤ 512 := cntT_bd _ 16
  have c3b : 0 ≤ cntF (fun k n => inF f k n || inF g k n) ∧ cntF (fun k n => inF f k n || inF g k n) ≤ 512 := cntT_bd _ 16
  have c4b : 0 ≤ cntF (fun k n => inF f k n && inF g k n) ∧ cntF (fun k n => inF f k n && inF g k n) ≤ 512 := cntT_bd _ 16
  generalize cntF (fun k n => inF f k n || inF g k n) = c3 at *
  generalize cntF (fun k n => inF f k n && inF g k n) = c4 at *
  generalize cntF (fun k n => inF f k n) = c1 at *
  generalize cntF (fun k n => inF g k n) = c2 at *
  obtain ⟨c1l, c1u⟩ := c1b
  obtain ⟨c2l, c2u⟩ := c2b
  obtain ⟨c3l, c3u⟩ := c3b
  obtain ⟨c4l, c4u⟩ := c4b
  obtain rfl : c1 = c3 + c4 - c2 := by omega
  clear hs
  go_wp2_with fail
  refine wp_loop_rounds 13 ?_
  iterate 12 (rw [rounds_succ]; go_wp2_with fail)
  rw [rounds_succ]
  go_wp2_with fail
  (with_reducible refine (sameT _ _ _ _ _ (nm.below (bal _)) (fj.below (bal _)) (fun k n => by cases inF f k n <;> cases inF g k n <;> simp)).mono ?_)
  rintro e w16 ⟨rfl, hb⟩
  replace hb := ba1 hb
  replace xf := xf.below hb
  replace xg := xg.below hb
  replace fm := fm.below hb
  replace fe := fe.below hb
  replace nm := nm.below hb
  replace nf := nf.below hb
  replace ng := ng.below hb
  replace fj := fj.below hb
  replace bk := bk.below hb
  replace fd := fd.below hb
  replace dm := dm.below hb
  replace fo := fo.below hb
  replace hbel := bstep hbel hb
  clear hb
  go_wp2_with fail
  (with_reducible refine (sameT _ _ _ _ _ bk xf (fun k n => by cases inF f k n <;> cases inF g k n <;> simp)).mono ?_)
  rintro e w17 ⟨rfl, hb⟩
  replace xf := xf.below hb
  replace xg := xg.below hb
  replace fm := fm.below hb
  replace fe := fe.below hb
  replace nm := nm.below hb
  replace nf := nf.below hb
  replace ng := ng.below hb
  replace fj := fj.below hb
  replace bk := bk.below hb
  replace fd := fd.below hb
  replace dm := dm.below hb
  replace fo := fo.below hb
  replace hbel := bstep hbel hb
  clear hb
  go_wp2_with fail
  (with_reducible refine (sameT _ _ _ _ _ fd dm (fun k n => by cases inF f k n <;> cases inF g k n <;> simp)).mono ?_)
  rintro e w18 ⟨rfl, hb⟩
  replace xf := xf.below hb
  replace xg := xg.below hb
  replace fm := fm.below hb
  replace fe := fe.below hb
  replace nm := nm.below hb
  replace nf := nf.below hb
  replace ng := ng.below hb
  replace fj := fj.below hb
  replace bk := bk.below hb
  replace fd := fd.below hb
  replace dm := dm.below hb
  replace fo := fo.below hb
  replace hbel := bstep hbel hb
  clear hb
  clear xf xg fm fe nm nf ng fj bk fd dm fo
  go_wp2
  go_ret
  exact ⟨rfl, hbel⟩
end Go.Proofs.Ytcanefjjpeoikaa
