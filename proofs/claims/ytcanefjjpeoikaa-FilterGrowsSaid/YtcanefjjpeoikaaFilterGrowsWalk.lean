/- The walk of FilterGrows: it returns true, whatever the arguments are. Written by a small program (gen/filter_laws.py). -/
import Derived.Test.YtcanefjjpeoikaaFilter5
namespace Go.Proofs.Ytcanefjjpeoikaa
open Go.RowKit
set_option maxRecDepth 100000 in
set_option maxHeartbeats 4000000 in
theorem FilterGrows_walk (vf vg vh : Value) (f g h : Bxs) (w : World) (hf : BxsAt w vf f) (hg : BxsAt w vg g) (hh : BxsAt w vh h) :
    Calls Try.prog 6 #[vf, vg, vh] w fun e w' => e = .returned (.bool true) ∧ Below w.heap.size w w' := by
  obtain ⟨fa, fc, rfl⟩ := hf.shape
  obtain ⟨ga, gc, rfl⟩ := hg.shape
  obtain ⟨ha, hc, rfl⟩ := hh.shape
  have hbel := Below.refl w.heap.size w
  go_enter Try.func6, Try.ntmps6
  go_wp2_with fail
  (with_reducible refine (filterBegun_c _).mono ?_)
  rintro e w1 ⟨rfl, hb⟩
  replace hf := hf.below hb
  replace hg := hg.below hb
  replace hh := hh.below hb
  replace hbel := bstep hbel hb
  clear hb
  go_wp2_with fail
  (with_reducible refine (fChk_c _ f _ hf).mono ?_)
  rintro e w2 ⟨rfl, hb⟩
  replace hf := hf.below hb
  replace hg := hg.below hb
  replace hh := hh.below hb
  replace hbel := bstep hbel hb
  clear hb
  cases hx : (fChk f == 0)
  · have h' : (fChk f != 0) = true := by simp [bne, hx]
    have hne : fChk f ≠ 0 := by simpa using hx
    clear hx
    clear hne
    go_wp2
    go_ret
    exact ⟨rfl, hbel⟩
  have h0f : fChk f = 0 := by simpa using hx
  have Hf := Lib.hid h0f
  rw [h0f]
  clear h0f hx
  go_wp2_with fail
  (with_reducible refine (fChk_c _ g _ hg).mono ?_)
  rintro e w3 ⟨rfl, hb⟩
  replace hf := hf.below hb
  replace hg := hg.below hb
  replace hh := hh.below hb
  replace hbel := bstep hbel hb
  clear hb
  cases hx : (fChk g == 0)
  · have h' : (fChk g != 0) = true := by simp [bne, hx]
    have hne : fChk g ≠ 0 := by simpa using hx
    clear hx
    clear hne
    go_wp2
    go_ret
    exact ⟨rfl, hbel⟩
  have h0g : fChk g = 0 := by simpa using hx
  have Hg := Lib.hid h0g
  rw [h0g]
  clear h0g hx
  go_wp2_with fail
  (with_reducible refine (fChk_c _ h _ hh).mono ?_)
  rintro e w4 ⟨rfl, hb⟩
  replace hf := hf.below hb
  replace hg := hg.below hb
  replace hh := hh.below hb
  replace hbel := bstep hbel hb
  clear hb
  cases hx : (fChk h == 0)
  · have h' : (fChk h != 0) = true := by simp [bne, hx]
    have hne : fChk h ≠ 0 := by simpa using hx
    clear hx
    clear hne
    go_wp2
    go_ret
    exact ⟨rfl, hbel⟩
  have h0h : fChk h = 0 := by simpa using hx
  have Hh := Lib.hid h0h
  rw [h0h]
  clear h0h hx
  have xf := FV.mk hf Hf.out
  have xg := FV.mk hg Hg.out
  have xh := FV.mk hh Hh.out
  clear hf hg hh
  go_wp2_with fail
  (with_reducible refine (joinF _ _ _ _ _ xf xg).mono ?_)
  rintro e w5 ⟨v5, rfl, fm, hb⟩
  replace xf := xf.below hb
  replace xg := xg.below hb
  replace xh := xh.below hb
  replace hbel := bstep hbel hb
  clear hb
  go_wp2_with fail
  (with_reducible refine (joinF _ _ _ _ _ xf xh).mono ?_)
  rintro e w6 ⟨v6, rfl, fa, hb⟩
  replace xf := xf.below hb
  replace xg := xg.below hb
  replace xh := xh.below hb
  replace fm := fm.below hb
  replace hbel := bstep hbel hb
  clear hb
  go_wp2_with fail
  (with_reducible refine (joinF _ _ _ _ _ fm xh).mono ?_)
  rintro e w7 ⟨v7, rfl, fb, hb⟩
  replace xf := xf.below hb
  replace xg := xg.below hb
  replace xh := xh.below hb
  replace fm := fm.below hb
  replace fa := fa.below hb
  replace hbel := bstep hbel hb
  clear hb
  go_wp2_with fail
  (with_reducible refine (meetF _ _ _ _ _ xf xh).mono ?_)
  rintro e w8 ⟨v8, rfl, fc, hb⟩
  replace xf := xf.below hb
  replace xg := xg.below hb
  replace xh := xh.below hb
  replace fm := fm.below hb
  replace fa := fa.below hb
  replace fb := fb.below hb
  replace hbel := bstep hbel hb
  clear hb
  go_wp2_with fail
  (with_reducible refine (meetF _ _ _ _ _ fm xh).mono ?_)
  rintro e w9 ⟨v9, rfl, fd, hb⟩
  replace xf := xf.below hb
  replace xg := xg.below hb
  replace xh := xh.below hb
  replace fm := fm.below hb
  replace fa := fa.below hb
  replace fb := fb.below hb
  replace fc := fc.below hb
  replace hbel := bstep hbel hb
  clear hb
  go_wp2_with fail
  (with_reducible refine (lessF _ _ _ _ _ xh fm).mono ?_)
  rintro e w10 ⟨v10, rfl, fu, hb⟩
  replace xf := xf.below hb
  replace xg := xg.below hb
  replace xh := xh.below hb
  replace fm := fm.below hb
  replace fa := fa.below hb
  replace fb := fb.below hb
  replace fc := fc.below hb
  replace fd := fd.below hb
  replace hbel := bstep hbel hb
  clear hb
  go_wp2_with fail
  (with_reducible refine (lessF _ _ _ _ _ xh xf).mono ?_)
  rintro e w11 ⟨v11, rfl, fv, hb⟩
  replace xf := xf.below hb
  replace xg := xg.below hb
  replace xh := xh.below hb
  replace fm := fm.below hb
  replace fa := fa.below hb
  replace fb := fb.below hb
  replace fc := fc.below hb
  replace fd := fd.below hb
  replace fu := fu.below hb
  replace hbel := bstep hbel hb
  clear hb
  go_wp2_with fail
  (with_reducible refine (withinF _ _ _ _ _ fa fb).mono ?_)
  rintro e w12 ⟨rfl, hb⟩
  replace xf := xf.below hb
  replace xg := xg.below hb
  replace xh := xh.below hb
  replace fm := fm.below hb
  replace fa := fa.below hb
  replace fb := fb.below hb
  replace fc := fc.below hb
  replace fd := fd.below hb
  replace fu := fu.below hb
  replace fv := fv.below hb
  replace hbel := bstep hbel hb
  clear hb
  rw [show (allF fun k n => !(inF f k n || inF h k n) || (inF f k n || inF g k n || inF h k n)) = true from (allF_iff _).2 fun k n _ _ => by cases inF f k n <;> cases inF g k n <;> cases inF h k n <;> rfl]
  go_wp2_with fail
  (with_reducible refine (withinF _ _ _ _ _ fc fd).mono ?_)
  rintro e w13 ⟨rfl, hb⟩
  replace xf := xf.below hb
  replace xg := xg.below hb
  replace xh := xh.below hb
  replace fm := fm.below hb
  replace fa := fa.below hb
  replace fb := fb.below hb
  replace fc := fc.below hb
  replace fd := fd.below hb
  replace fu := fu.below hb
  replace fv := fv.below hb
  replace hbel := bstep hbel hb
  clear hb
  rw [show (allF fun k n => !(inF f k n && inF h k n) || ((inF f k n || inF g k n) && inF h k n)) = true from (allF_iff _).2 fun k n _ _ => by cases inF f k n <;> cases inF g k n <;> cases inF h k n <;> rfl]
  go_wp2_with fail
  (with_reducible refine (withinF _ _ _ _ _ fu fv).mono ?_)
  rintro e w14 ⟨rfl, hb⟩
  replace xf := xf.below hb
  replace xg := xg.below hb
  replace xh := xh.below hb
  replace fm := fm.below hb
  replace fa := fa.below hb
  replace fb := fb.below hb
  replace fc := fc.below hb
  replace fd := fd.below hb
  replace fu := fu.below hb
  replace fv := fv.below hb
  replace hbel := bstep hbel hb
  clear hb
  rw [show (allF fun k n => !(inF h k n && !(inF f k n || inF g k n)) || (inF h k n && !inF f k n)) = true from (allF_iff _).2 fun k n _ _ => by cases inF f k n <;> cases inF g k n <;> cases inF h k n <;> rfl]
  clear xf xg xh fm fa fb fc fd fu fv
  go_wp2_with fail
  refine wp_loop_rounds 11 ?_
  iterate 10 (rw [rounds_succ]; go_wp2_with fail)
  rw [rounds_succ]
  go_wp2
  go_ret
  exact ⟨rfl, hbel.alloc hbel.size _⟩
end Go.Proofs.Ytcanefjjpeoikaa
