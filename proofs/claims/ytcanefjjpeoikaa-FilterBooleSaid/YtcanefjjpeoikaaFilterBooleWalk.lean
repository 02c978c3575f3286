/- The walk of FilterBoole: it returns true, whatever the arguments are. Written by a small program (gen/filter_laws.py). -/
import Derived.Test.YtcanefjjpeoikaaFilter5
namespace Go.Proofs.Ytcanefjjpeoikaa
open Go.RowKit
set_option maxRecDepth 100000 in
set_option maxHeartbeats 4000000 in
theorem FilterBoole_walk (vf vg vh : Value) (f g h : Bxs) (w : World) (hf : BxsAt w vf f) (hg : BxsAt w vg g) (hh : BxsAt w vh h) :
    Calls Try.prog 4 #[vf, vg, vh] w fun e w' => e = .returned (.bool true) ∧ Below w.heap.size w w' := by
  obtain ⟨fa, fc, rfl⟩ := hf.shape
  obtain ⟨ga, gc, rfl⟩ := hg.shape
  obtain ⟨ha, hc, rfl⟩ := hh.shape
  have hbel := Below.refl w.heap.size w
  go_enter Try.func4, Try.ntmps4
  go_wp2_with fail
  (with_reducible refine (filterBegun_c _).mono ?_)
  rintro e w1 ⟨rfl, hb⟩
  replace hf := hf.below hb
  replace hg := hg.below hb
  replace hh := hh.below hb
  replace hbel := bstep hbel hb
  clear hb
  go_wp2_with fail
  (with_reducible refine (joinf_c _ _ f g _ hf hg).mono ?_)
  rintro e w2 ⟨vj, rfl, ho, hb⟩
  replace hf := hf.below hb
  replace hg := hg.below hb
  replace hh := hh.below hb
  replace hbel := bstep hbel hb
  clear hb
  obtain ⟨ja, jn, jc, hv⟩ := ho.nil_or
  subst hv
  go_wp2_with fail
  (with_reducible refine (fChk_c _ f _ hf).mono ?_)
  rintro e w3 ⟨rfl, hb⟩
  replace hf := hf.below hb
  replace hg := hg.below hb
  replace hh := hh.below hb
  replace ho := ho.below hb
  replace hbel := bstep hbel hb
  clear hb
  cases hx : (fChk f == 0)
  · have h' : (fChk f != 0) = true := by simp [bne, hx]
    have hne : fChk f ≠ 0 := by simpa using hx
    clear hx
    have hE : fTwo f g ≠ 0 := by simp [fTwo, hne]
    have hv := ho.2 hE
    simp only [Value.slice.injEq] at hv
    obtain ⟨rfl, rfl, rfl⟩ := hv
    have he : (fTwo f g == 0) = false := by simpa using hE
    have he2 : (fTwo f g != 0) = true := by simp [bne, he]
    clear hE ho
    go_wp2
    go_ret
    exact ⟨rfl, hbel⟩
  have h0f : fChk f = 0 := by simpa using hx
  have Hf := Lib.hid h0f
  rw [h0f]
  clear h0f hx
  go_wp2_with fail
  (with_reducible refine (fChk_c _ g _ hg).mono ?_)
  rintro e w4 ⟨rfl, hb⟩
  replace hf := hf.below hb
  replace hg := hg.below hb
  replace hh := hh.below hb
  replace ho := ho.below hb
  replace hbel := bstep hbel hb
  clear hb
  cases hx : (fChk g == 0)
  · have h' : (fChk g != 0) = true := by simp [bne, hx]
    have hne : fChk g ≠ 0 := by simpa using hx
    clear hx
    have hE : fTwo f g ≠ 0 := by simp [fTwo, Hf.out, hne]
    have hv := ho.2 hE
    simp only [Value.slice.injEq] at hv
    obtain ⟨rfl, rfl, rfl⟩ := hv
    have he : (fTwo f g == 0) = false := by simpa using hE
    have he2 : (fTwo f g != 0) = true := by simp [bne, he]
    clear hE ho
    go_wp2
    go_ret
    exact ⟨rfl, hbel⟩
  have h0g : fChk g = 0 := by simpa using hx
  have Hg := Lib.hid h0g
  rw [h0g]
  clear h0g hx
  have h2 : fTwo f g = 0 := by simp [fTwo, Hf.out, Hg.out]
  rw [h2] at ho ⊢
  clear h2
  go_wp2_with fail
  (with_reducible refine (fChk_c _ h _ hh).mono ?_)
  rintro e w5 ⟨rfl, hb⟩
  replace hf := hf.below hb
  replace hg := hg.below hb
  replace hh := hh.below hb
  replace ho := ho.below hb
  replace hbel := bstep hbel hb
  clear hb
  cases hx : (fChk h == 0)
  · have h' : (fChk h != 0) = true := by simp [bne, hx]
    have hne : fChk h ≠ 0 := by simpa using hx
    clear hx
    clear ho hne
    go_wp2
    go_ret
    exact ⟨rfl, hbel⟩
  have h0h : fChk h = 0 := by simpa using hx
  have Hh := Lib.hid h0h
  rw [h0h]
  clear h0h hx
  have fg := FV.of_out ho (fun _ _ _ _ => rfl)
  clear ho
  have xf := FV.mk hf Hf.out
  have xg := FV.mk hg Hg.out
  have xh := FV.mk hh Hh.out
  clear hf hg hh
  go_wp2_with fail
  (with_reducible refine (joinF _ _ _ _ _ xg xf).mono ?_)
  rintro e w6 ⟨v6, rfl, gf, hb⟩
  replace xf := xf.below hb
  replace xg := xg.below hb
  replace xh := xh.below hb
  replace fg := fg.below hb
  replace hbel := bstep hbel hb
  clear hb
  go_wp2_with fail
  (with_reducible refine (joinF _ _ _ _ _ fg xh).mono ?_)
  rintro e w7 ⟨v7, rfl, fl, hb⟩
  replace xf := xf.below hb
  replace xg := xg.below hb
  replace xh := xh.below hb
  replace fg := fg.below hb
  replace gf := gf.below hb
  replace hbel := bstep hbel hb
  clear hb
  go_wp2_with fail
  (with_reducible refine (joinF _ _ _ _ _ xg xh).mono ?_)
  rintro e w8 ⟨v8, rfl, gh, hb⟩
  replace xf := xf.below hb
  replace xg := xg.below hb
  replace xh := xh.below hb
  replace fg := fg.below hb
  replace gf := gf.below hb
  replace fl := fl.below hb
  replace hbel := bstep hbel hb
  clear hb
  go_wp2_with fail
  (with_reducible refine (joinF _ _ _ _ _ xf gh).mono ?_)
  rintro e w9 ⟨v9, rfl, fr, hb⟩
  replace xf := xf.below hb
  replace xg := xg.below hb
  replace xh := xh.below hb
  replace fg := fg.below hb
  replace gf := gf.below hb
  replace fl := fl.below hb
  replace gh := gh.below hb
  replace hbel := bstep hbel hb
  clear hb
  go_wp2_with fail
  (with_reducible refine (meetF _ _ _ _ _ xf gh).mono ?_)
  rintro e w10 ⟨v10, rfl, fm, hb⟩
  replace xf := xf.below hb
  replace xg := xg.below hb
  replace xh := xh.below hb
  replace fg := fg.below hb
  replace gf := gf.below hb
  replace fl := fl.below hb
  replace gh := gh.below hb
  replace fr := fr.below hb
  replace hbel := bstep hbel hb
  clear hb
  go_wp2_with fail
  (with_reducible refine (meetF _ _ _ _ _ xf xg).mono ?_)
  rintro e w11 ⟨v11, rfl, m1, hb⟩
  replace xf := xf.below hb
  replace xg := xg.below hb
  replace xh := xh.below hb
  replace fg := fg.below hb
  replace gf := gf.below hb
  replace fl := fl.below hb
  replace gh := gh.below hb
  replace fr := fr.below hb
  replace fm := fm.below hb
  replace hbel := bstep hbel hb
  clear hb
  go_wp2_with fail
  (with_reducible refine (meetF _ _ _ _ _ xf xh).mono ?_)
  rintro e w12 ⟨v12, rfl, m2, hb⟩
  replace xf := xf.below hb
  replace xg := xg.below hb
  replace xh := xh.below hb
  replace fg := fg.below hb
  replace gf := gf.below hb
  replace fl := fl.below hb
  replace gh := gh.below hb
  replace fr := fr.below hb
  replace fm := fm.below hb
  replace m1 := m1.below hb
  replace hbel := bstep hbel hb
  clear hb
  go_wp2_with fail
  (with_reducible refine (joinF _ _ _ _ _ m1 m2).mono ?_)
  rintro e w13 ⟨v13, rfl, fn, hb⟩
  replace xf := xf.below hb
  replace xg := xg.below hb
  replace xh := xh.below hb
  replace fg := fg.below hb
  replace gf := gf.below hb
  replace fl := fl.below hb
  replace gh := gh.below hb
  replace fr := fr.below hb
  replace fm := fm.below hb
  replace m1 := m1.below hb
  replace m2 := m2.below hb
  replace hbel := bstep hbel hb
  clear hb
  go_wp2_with fail
  (with_reducible refine (joinF _ _ _ _ _ xf m1).mono ?_)
  rintro e w14 ⟨v14, rfl, fu, hb⟩
  replace xf := xf.below hb
  replace xg := xg.below hb
  replace xh := xh.below hb
  replace fg := fg.below hb
  replace gf := gf.below hb
  replace fl := fl.below hb
  replace gh := gh.below hb
  replace fr := fr.below hb
  replace fm := fm.below hb
  replace m1 := m1.below hb
  replace m2 := m2.below hb
  replace fn := fn.below hb
  replace hbel := bstep hbel hb
  clear hb
  go_wp2_with fail
  (with_reducible refine (meetF _ _ _ _ _ xf fg).mono ?_)
  rintro e w15 ⟨v15, rfl, fv, hb⟩
  replace xf := xf.below hb
  replace xg := xg.below hb
  replace xh := xh.below hb
  replace fg := fg.below hb
  replace gf := gf.below hb
  replace fl := fl.below hb
  replace gh := gh.below hb
  replace fr := fr.below hb
  replace fm := fm.below hb
  replace m1 := m1.below hb
  replace m2 := m2.below hb
  replace fn := fn.below hb
  replace fu := fu.below hb
  replace hbel := bstep hbel hb
  clear hb
  go_wp2_with fail
  refine wp_loop_rounds 12 ?_
  iterate 11 (rw [rounds_succ]; go_wp2_with fail)
  rw [rounds_succ]
  go_wp2_with fail
  (with_reducible refine (sameT _ _ _ _ _ (fg.below (bal _)) (gf.below (bal _)) (fun k n => by cases inF f k n <;> cases inF g k n <;> cases inF h k n <;> simp)).mono ?_)
  rintro e w16 ⟨rfl, hb⟩
  replace hb := ba1 hb
  replace xf := xf.below hb
  replace xg := xg.below hb
  replace xh := xh.below hb
  replace fg := fg.below hb
  replace gf := gf.below hb
  replace fl := fl.below hb
  replace gh := gh.below hb
  replace fr := fr.below hb
  replace fm := fm.below hb
  replace m1 := m1.below hb
  replace m2 := m2.below hb
  replace fn := fn.below hb
  replace fu := fu.below hb
  replace fv := fv.below hb
  replace hbel := bstep hbel hb
  clear hb
  go_wp2_with fail
  (with_reducible refine (sameT _ _ _ _ _ fl fr (fun k n => by cases inF f k n <;> cases inF g k n <;> cases inF h k n <;> simp)).mono ?_)
  rintro e w17 ⟨rfl, hb⟩
  replace xf := xf.below hb
  replace xg := xg.below hb
  replace xh := xh.below hb
  replace fg := fg.below hb
  replace gf := gf.below hb
  replace fl := fl.below hb
  replace gh := gh.below hb
  replace fr := fr.below hb
  replace fm := fm.below hb
  replace m1 := m1.below hb
  replace m2 := m2.below hb
  replace fn := fn.below hb
  replace fu := fu.below hb
  replace fv := fv.below hb
  replace hbel := bstep hbel hb
  clear hb
  go_wp2_with fail
  (with_reducible refine (sameT _ _ _ _ _ fm fn (fun k n => by cases inF f k n <;> cases inF g k n <;> cases inF h k n <;> simp)).mono ?_)
  rintro e w18 ⟨rfl, hb⟩
  replace xf := xf.below hb
  replace xg := xg.below hb
  replace xh := xh.below hb
  replace fg := fg.below hb
  replace gf := gf.below hb
  replace fl := fl.below hb
  replace gh := gh.below hb
  replace fr := fr.below hb
  replace fm := fm.below hb
  replace m1 := m1.below hb
  replace m2 := m2.below hb
  replace fn := fn.below hb
  replace fu := fu.below hb
  replace fv := fv.below hb
  replace hbel := bstep hbel hb
  clear hb
  go_wp2_with fail
  (with_reducible refine (sameT _ _ _ _ _ fu xf (fun k n => by cases inF f k n <;> cases inF g k n <;> cases inF h k n <;> simp)).mono ?_)
  rintro e w19 ⟨rfl, hb⟩
  replace xf := xf.below hb
  replace xg := xg.below hb
  replace xh := xh.below hb
  replace fg := fg.below hb
  replace gf := gf.below hb
  replace fl := fl.below hb
  replace gh := gh.below hb
  replace fr := fr.below hb
  replace fm := fm.below hb
  replace m1 := m1.below hb
  replace m2 := m2.below hb
  replace fn := fn.below hb
  replace fu := fu.below hb
  replace fv := fv.below hb
  replace hbel := bstep hbel hb
  clear hb
  go_wp2_with fail
  (with_reducible refine (sameT _ _ _ _ _ fv xf (fun k n => by cases inF f k n <;> cases inF g k n <;> cases inF h k n <;> simp)).mono ?_)
  rintro e w20 ⟨rfl, hb⟩
  replace xf := xf.below hb
  replace xg := xg.below hb
  replace xh := xh.below hb
  replace fg := fg.below hb
  replace gf := gf.below hb
  replace fl := fl.below hb
  replace gh := gh.below hb
  replace fr := fr.below hb
  replace fm := fm.below hb
  replace m1 := m1.below hb
  replace m2 := m2.below hb
  replace fn := fn.below hb
  replace fu := fu.below hb
  replace fv := fv.below hb
  replace hbel := bstep hbel hb
  clear hb
  go_wp2
  go_ret
  exact ⟨rfl, hbel⟩
end Go.Proofs.Ytcanefjjpeoikaa
