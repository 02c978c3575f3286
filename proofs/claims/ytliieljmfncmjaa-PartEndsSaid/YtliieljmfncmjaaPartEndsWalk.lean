/- What PartEnds does: it returns true. -/
import Derived.Test.YtliieljmfncmjaaMPartL
namespace Go.Proofs.Ytliieljmfncmjaa
open Go.RowKit
set_option maxRecDepth 100000 in
set_option maxHeartbeats 8000000 in
theorem PartEnds_walk (fv av xv yv : Value) (fs : List Bxs) (als : List (List (List Int))) (f g : Bxs) (w : World) (hf : RowAt bxsE w fv fs) (ha : RowAt vecsE w av als) (hx : BxsAt w xv f) (hy : BxsAt w yv g) :
    Calls Try.prog 13 #[fv, av, xv, yv] w fun e w' => e = .returned (.bool true) ∧ Below w.heap.size w w' := by
  have HFS := Lib.hid hf
  have HA := Lib.hid ha
  have HF := Lib.hid hx
  have HG := Lib.hid hy
  obtain ⟨sa0, sc0, rfl⟩ := hf.shape
  obtain ⟨sa1, sc1, rfl⟩ := ha.shape
  obtain ⟨sa2, sc2, rfl⟩ := hx.shape
  obtain ⟨sa3, sc3, rfl⟩ := hy.shape
  have HBL := Lib.hid (Below.refl w.heap.size w)
  clear hf ha hx hy
  go_enter Try.func13, Try.ntmps13
  have HC := Lib.hid (partBegun_c w)
  go_wp2_with fail
  (with_reducible refine (HC.out).mono ?_)
  rintro e w1 ⟨rfl, hb⟩
  replace HFS := Lib.hid (HFS.out.below hb)
  replace HA := Lib.hid (HA.out.below hb)
  replace HF := Lib.hid (HF.out.below hb)
  replace HG := Lib.hid (HG.out.below hb)
  replace HBL := Lib.hid (bstep HBL.out hb)
  clear hb HC
  have HC := Lib.hid (parts_c _ _ fs als w1 HFS.out HA.out)
  go_wp2_with fail
  (with_reducible refine (HC.out).mono ?_)
  rintro e w2 ⟨X, a2, c2, rfl, h1, h2, hb⟩
  replace HFS := Lib.hid (HFS.out.below hb)
  replace HA := Lib.hid (HA.out.below hb)
  replace HF := Lib.hid (HF.out.below hb)
  replace HG := Lib.hid (HG.out.below hb)
  replace HBL := Lib.hid (bstep HBL.out hb)
  have HX := Lib.hid (h1)
  clear hb HC h1
  have LX := Lib.hid h2
  clear h2
  clear HFS HA
  have hx30 : X.length ≤ 30 := by have := LX.out; omega
  have HXO := Lib.hid HX.out.ok
  have HC := Lib.hid (everyF w2)
  go_wp2_with fail
  (with_reducible refine (HC.out).mono ?_)
  rintro e w3 ⟨ve, rfl, hv, hb⟩
  obtain ⟨ea, en, ec, rfl⟩ := hv.shape
  replace HF := Lib.hid (HF.out.below hb)
  replace HG := Lib.hid (HG.out.below hb)
  replace HX := Lib.hid (HX.out.below hb)
  replace HBL := Lib.hid (bstep HBL.out hb)
  have HE := Lib.hid (hv)
  clear hb HC hv
  have HC := Lib.hid (pnarrow_s _ _ X _ w3 HX.out HE.out hx30)
  go_wp2_with fail
  (with_reducible refine (HC.out).mono ?_)
  rintro e w4 ⟨a4, c4, rfl, h1, hb⟩
  replace HF := Lib.hid (HF.out.below hb)
  replace HG := Lib.hid (HG.out.below hb)
  replace HX := Lib.hid (HX.out.below hb)
  replace HE := Lib.hid (HE.out.below hb)
  replace HBL := Lib.hid (bstep HBL.out hb)
  have HN := Lib.hid (h1.sem (by have := narrow_len X fun _ _ => true; omega))
  clear hb HC h1
  clear HE
  have hn30 := narrow_len X fun _ _ => true
  have HNA := Lib.hid (narrow_all HXO.out)
  generalize narrowS X (fun _ _ => true) = N1 at *
  have hnil : FV w4 (.slice none 0 0) (fun _ _ => false) := ⟨[], BxsAt.nil _, by decide, fun _ _ _ _ => rfl⟩
  have HC := Lib.hid (pnarrow_s _ (.slice none 0 0) X _ w4 HX.out hnil hx30)
  go_wp2_with fail
  (with_reducible refine (HC.out).mono ?_)
  rintro e w5 ⟨a5, c5, rfl, h1, hb⟩
  replace HF := Lib.hid (HF.out.below hb)
  replace HG := Lib.hid (HG.out.below hb)
  replace HX := Lib.hid (HX.out.below hb)
  replace HN := Lib.hid (HN.out.below hb)
  replace HBL := Lib.hid (bstep HBL.out hb)
  clear hb HC h1 hnil
  rw [narrow_none X]
  simp only [List.length_nil]
  have HC := Lib.hid (pboth_s _ _ X N1 w5 HX.out HN.out hx30 (by omega))
  go_wp2_with fail
  (with_reducible refine (HC.out).mono ?_)
  rintro e w6 ⟨rfl, hb⟩
  rw [HNA.out]
  replace HF := Lib.hid (HF.out.below hb)
  replace HG := Lib.hid (HG.out.below hb)
  replace HX := Lib.hid (HX.out.below hb)
  replace HN := Lib.hid (HN.out.below hb)
  replace HBL := Lib.hid (bstep HBL.out hb)
  clear hb HC
  clear HN
  clear HNA
  have HC := Lib.hid (joinf_c _ _ f g w6 HF.out HG.out)
  go_wp2_with fail
  (with_reducible refine (HC.out).mono ?_)
  rintro e w7 ⟨v7, rfl, ho, hb⟩
  replace HF := Lib.hid (HF.out.below hb)
  replace HG := Lib.hid (HG.out.below hb)
  replace HX := Lib.hid (HX.out.below hb)
  replace HBL := Lib.hid (bstep HBL.out hb)
  clear hb HC
  obtain ⟨ja, jn, jc, rfl⟩ := ho.nil_or
  by_cases h0 : fTwo f g = 0
  rotate_left
  · have hv := ho.2 h0
    have hj : jn = 0 := by simp only [Value.slice.injEq] at hv; exact hv.2.1
    subst hj
    have hne : decide (fTwo f g = 0) = false := by simpa using h0
    have hnb : (fTwo f g != 0) = true := bne_iff_ne.2 h0
    have hbl := HBL.out
    generalize fTwo f g = sc at *
    clear h0 ho hv HX HF HG HBL
    go_wp2
    go_ret
    exact ⟨rfl, hbl⟩
  obtain ⟨hf0, hg0⟩ := fTwo_zero h0
  rw [h0] at ho ⊢
  have HJ := Lib.hid (FV.of_out (q := fun k n => inF f k n || inF g k n) ho fun _ _ _ _ => rfl)
  clear ho h0 hg0
  have HC := Lib.hid (pnarrow_s _ _ X _ w7 HX.out (FV.mk HF.out hf0) hx30)
  go_wp2_with fail
  (with_reducible refine (HC.out).mono ?_)
  rintro e w8 ⟨a8, c8, rfl, h1, hb⟩
  replace HF := Lib.hid (HF.out.below hb)
  replace HG := Lib.hid (HG.out.below hb)
  replace HX := Lib.hid (HX.out.below hb)
  replace HJ := Lib.hid (HJ.out.below hb)
  replace HBL := Lib.hid (bstep HBL.out hb)
  have HY := Lib.hid (h1.sem (by have := narrow_len X fun t n => inF f t n; omega))
  clear hb HC h1
  have HC := Lib.hid (pnarrow_s _ _ X _ w8 HX.out HJ.out hx30)
  go_wp2_with fail
  (with_reducible refine (HC.out).mono ?_)
  rintro e w9 ⟨a9, c9, rfl, h1, hb⟩
  replace HF := Lib.hid (HF.out.below hb)
  replace HG := Lib.hid (HG.out.below hb)
  replace HX := Lib.hid (HX.out.below hb)
  replace HJ := Lib.hid (HJ.out.below hb)
  replace HY := Lib.hid (HY.out.below hb)
  replace HBL := Lib.hid (bstep HBL.out hb)
  have HZ := Lib.hid (h1.sem (by have := narrow_len X fun k n => inF f k n || inF g k n; omega))
  clear hb HC h1
  have HYZ := Lib.hid (narrow_within HXO.out (p := fun t n => inF f t n) (q := fun k n => inF f k n || inF g k n) fun t n _ _ h => by simp only [h, Bool.true_or])
  have HZX := Lib.hid (narrow_sub HXO.out (fun k n => inF f k n || inF g k n))
  have hy30 := narrow_len X fun t n => inF f t n
  have hz30 := narrow_len X fun k n => inF f k n || inF g k n
  generalize narrowS X (fun t n => inF f t n) = N2 at *
  generalize narrowS X (fun k n => inF f k n || inF g k n) = N3 at *
  have HC := Lib.hid (pwithin_s _ _ N2 N3 w9 HY.out HZ.out (by omega) (by omega))
  go_wp2_with fail
  (with_reducible refine (HC.out).mono ?_)
  rintro e w10 ⟨rfl, hb⟩
  rw [HYZ.out]
  replace HF := Lib.hid (HF.out.below hb)
  replace HG := Lib.hid (HG.out.below hb)
  replace HX := Lib.hid (HX.out.below hb)
  replace HJ := Lib.hid (HJ.out.below hb)
  replace HY := Lib.hid (HY.out.below hb)
  replace HZ := Lib.hid (HZ.out.below hb)
  replace HBL := Lib.hid (bstep HBL.out hb)
  clear hb HC
  have HC := Lib.hid (pwithin_s _ _ N3 X w10 HZ.out HX.out (by omega) hx30)
  go_wp2_with fail
  (with_reducible refine (HC.out).mono ?_)
  rintro e w11 ⟨rfl, hb⟩
  rw [HZX.out]
  replace HF := Lib.hid (HF.out.below hb)
  replace HG := Lib.hid (HG.out.below hb)
  replace HX := Lib.hid (HX.out.below hb)
  replace HJ := Lib.hid (HJ.out.below hb)
  replace HY := Lib.hid (HY.out.below hb)
  replace HZ := Lib.hid (HZ.out.below hb)
  replace HBL := Lib.hid (bstep HBL.out hb)
  clear hb HC
  have hbl := HBL.out
  clear HBL HX HY HZ HF HG HJ HYZ HZX
  go_wp2
  go_ret
  exact ⟨rfl, hbl⟩
end Go.Proofs.Ytliieljmfncmjaa
