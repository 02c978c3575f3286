/- What PartGalois does: it returns true. -/
import Derived.Test.YtliieljmfncmjaaPartLaw
namespace Go.Proofs.Ytliieljmfncmjaa
open Go.RowKit
theorem few_within (A B C : List SP) (hA : ∀ x ∈ A, SPOk x) (hB : ∀ x ∈ B, SPOk x) : withinS (fewS (A ++ B)) C = (withinS A C && withinS B C) := by
  have hAB : ∀ x ∈ A ++ B, SPOk x := fun x hx => (List.mem_append.1 hx).elim (hA x) (hB x)
  rw [Bool.eq_iff_iff, Bool.and_eq_true, withinS_iff, withinS_iff, withinS_iff]
  constructor
  · intro h
    refine ⟨fun t n ht hn s c h0 h5 h1 h2 hk => h t n ht hn s c h0 h5 h1 h2 ?_, fun t n ht hn s c h0 h5 h1 h2 hk => h t n ht hn s c h0 h5 h1 h2 ?_⟩
    · rw [few_knows _ t n s c ht hn h0 h5 h1 h2 hAB, knowsS_append, hk]; rfl
    · rw [few_knows _ t n s c ht hn h0 h5 h1 h2 hAB, knowsS_append, hk, Bool.or_true]
  · rintro ⟨h, k⟩ t n ht hn s c h0 h5 h1 h2 hk
    rw [few_knows _ t n s c ht hn h0 h5 h1 h2 hAB, knowsS_append, Bool.or_eq_true] at hk
    exact hk.elim (h t n ht hn s c h0 h5 h1 h2) (k t n ht hn s c h0 h5 h1 h2)
theorem galois_tr (p q s : Prop) [Decidable p] [Decidable q] [Decidable s] : True := trivial
set_option maxRecDepth 100000 in
set_option maxHeartbeats 8000000 in
theorem PartGalois_walk (fv gv hv av bv cv : Value) (fs gs hs : List Bxs) (als bs cs : List (List (List Int))) (w : World) (hf : RowAt bxsE w fv fs) (hg : RowAt bxsE w gv gs) (hh : RowAt bxsE w hv hs) (ha : RowAt vecsE w av als) (hb : RowAt vecsE w bv bs) (hc : RowAt vecsE w cv cs) :
    Calls Try.prog 11 #[fv, gv, hv, av, bv, cv] w fun e w' => e = .returned (.bool true) ∧ Below w.heap.size w w' := by
  have HF := Lib.hid hf
  have HG := Lib.hid hg
  have HH := Lib.hid hh
  have HA := Lib.hid ha
  have HB := Lib.hid hb
  have HC0 := Lib.hid hc
  obtain ⟨sa0, sc0, rfl⟩ := hf.shape
  obtain ⟨sa1, sc1, rfl⟩ := hg.shape
  obtain ⟨sa2, sc2, rfl⟩ := hh.shape
  obtain ⟨sa3, sc3, rfl⟩ := ha.shape
  obtain ⟨sa4, sc4, rfl⟩ := hb.shape
  obtain ⟨sa5, sc5, rfl⟩ := hc.shape
  have HBL := Lib.hid (Below.refl w.heap.size w)
  clear hf hg hh ha hb hc
  go_enter Try.func11, Try.ntmps11
  have HC := Lib.hid (partBegun_c w)
  go_wp2_with fail
  (with_reducible refine (HC.out).mono ?_)
  rintro e w1 ⟨rfl, hb⟩
  replace HF := Lib.hid (HF.out.below hb)
  replace HG := Lib.hid (HG.out.below hb)
  replace HH := Lib.hid (HH.out.below hb)
  replace HA := Lib.hid (HA.out.below hb)
  replace HB := Lib.hid (HB.out.below hb)
  replace HC0 := Lib.hid (HC0.out.below hb)
  replace HBL := Lib.hid (bstep HBL.out hb)
  clear hb HC
  have HC := Lib.hid (parts_c _ _ fs als w1 HF.out HA.out)
  go_wp2_with fail
  (with_reducible refine (HC.out).mono ?_)
  rintro e w2 ⟨X, a2, c2, rfl, h1, h2, hb⟩
  replace HF := Lib.hid (HF.out.below hb)
  replace HG := Lib.hid (HG.out.below hb)
  replace HH := Lib.hid (HH.out.below hb)
  replace HA := Lib.hid (HA.out.below hb)
  replace HB := Lib.hid (HB.out.below hb)
  replace HC0 := Lib.hid (HC0.out.below hb)
  replace HBL := Lib.hid (bstep HBL.out hb)
  have HX := Lib.hid (h1)
  clear hb HC h1
  have LX := Lib.hid h2
  clear h2
  have HC := Lib.hid (parts_c _ _ gs bs w2 HG.out HB.out)
  go_wp2_with fail
  (with_reducible refine (HC.out).mono ?_)
  rintro e w3 ⟨Y, a3, c3, rfl, h1, h2, hb⟩
  replace HF := Lib.hid (HF.out.below hb)
  replace HG := Lib.hid (HG.out.below hb)
  replace HH := Lib.hid (HH.out.below hb)
  replace HA := Lib.hid (HA.out.below hb)
  replace HB := Lib.hid (HB.out.below hb)
  replace HC0 := Lib.hid (HC0.out.below hb)
  replace HX := Lib.hid (HX.out.below hb)
  replace HBL := Lib.hid (bstep HBL.out hb)
  have HY := Lib.hid (h1)
  clear hb HC h1
  have LY := Lib.hid h2
  clear h2
  have HC := Lib.hid (parts_c _ _ hs cs w3 HH.out HC0.out)
  go_wp2_with fail
  (with_reducible refine (HC.out).mono ?_)
  rintro e w4 ⟨Z, a4, c4, rfl, h1, h2, hb⟩
  replace HF := Lib.hid (HF.out.below hb)
  replace HG := Lib.hid (HG.out.below hb)
  replace HH := Lib.hid (HH.out.below hb)
  replace HA := Lib.hid (HA.out.below hb)
  replace HB := Lib.hid (HB.out.below hb)
  replace HC0 := Lib.hid (HC0.out.below hb)
  replace HX := Lib.hid (HX.out.below hb)
  replace HY := Lib.hid (HY.out.below hb)
  replace HBL := Lib.hid (bstep HBL.out hb)
  have HZ := Lib.hid (h1)
  clear hb HC h1
  have LZ := Lib.hid h2
  clear h2
  clear HF HG HH HA HB HC0
  have HFL := Lib.hid (few_len (X ++ Y))
  have hxy : (X ++ Y).length ≤ 20 := by have h1 := LX.out; have h2 := LY.out; rw [List.length_append]; omega
  have hfl : (fewS (X ++ Y)).length ≤ 20 := by have h1 := HFL.out; omega
  have hx30 : X.length ≤ 30 := by have := LX.out; omega
  have hy30 : Y.length ≤ 30 := by have := LY.out; omega
  have hz30 : Z.length ≤ 30 := by have := LZ.out; omega
  have HFW := Lib.hid (few_within X Y Z HX.out.ok HY.out.ok)
  have HTR := Lib.hid (show (!withinS X Y || !withinS Y Z || withinS X Z) = true by
    cases h : withinS X Y
    · rfl
    · cases k : withinS Y Z
      · rfl
      · rw [withinS_iff.2 ((withinS_iff.1 h).trans (withinS_iff.1 k))]; rfl)
  have HC := Lib.hid (pjoin_s _ _ X Y w4 HX.out HY.out hx30 hy30 (by omega))
  go_wp2_with fail
  (with_reducible refine (HC.out).mono ?_)
  rintro e w5 ⟨a5, c5, rfl, h1, hb⟩
  replace HX := Lib.hid (HX.out.below hb)
  replace HY := Lib.hid (HY.out.below hb)
  replace HZ := Lib.hid (HZ.out.below hb)
  replace HBL := Lib.hid (bstep HBL.out hb)
  have HJ := Lib.hid (h1.sem (by omega))
  clear hb HC h1
  generalize fewS (X ++ Y) = J at *
  have hj30 : J.length ≤ 30 := by omega
  have HC := Lib.hid (pwithin_s _ _ X Z w5 HX.out HZ.out hx30 hz30)
  go_wp2_with fail
  (with_reducible refine (HC.out).mono ?_)
  rintro e w6 ⟨rfl, hb⟩
  replace HX := Lib.hid (HX.out.below hb)
  replace HY := Lib.hid (HY.out.below hb)
  replace HZ := Lib.hid (HZ.out.below hb)
  replace HJ := Lib.hid (HJ.out.below hb)
  replace HBL := Lib.hid (bstep HBL.out hb)
  clear hb HC
  have HC := Lib.hid (pwithin_s _ _ Y Z w6 HY.out HZ.out hy30 hz30)
  go_wp2_with fail
  (with_reducible refine (HC.out).mono ?_)
  rintro e w7 ⟨rfl, hb⟩
  replace HX := Lib.hid (HX.out.below hb)
  replace HY := Lib.hid (HY.out.below hb)
  replace HZ := Lib.hid (HZ.out.below hb)
  replace HJ := Lib.hid (HJ.out.below hb)
  replace HBL := Lib.hid (bstep HBL.out hb)
  clear hb HC
  have HC := Lib.hid (pwithin_s _ _ J Z w7 HJ.out HZ.out hj30 hz30)
  go_wp2_with fail
  (with_reducible refine (HC.out).mono ?_)
  rintro e w8 ⟨rfl, hb⟩
  replace HX := Lib.hid (HX.out.below hb)
  replace HY := Lib.hid (HY.out.below hb)
  replace HZ := Lib.hid (HZ.out.below hb)
  replace HJ := Lib.hid (HJ.out.below hb)
  replace HBL := Lib.hid (bstep HBL.out hb)
  clear hb HC
  have HC := Lib.hid (pwithin_s _ _ X Y w8 HX.out HY.out hx30 hy30)
  go_wp2_with fail
  (with_reducible refine (HC.out).mono ?_)
  rintro e w9 ⟨rfl, hb⟩
  replace HX := Lib.hid (HX.out.below hb)
  replace HY := Lib.hid (HY.out.below hb)
  replace HZ := Lib.hid (HZ.out.below hb)
  replace HJ := Lib.hid (HJ.out.below hb)
  replace HBL := Lib.hid (bstep HBL.out hb)
  clear hb HC
  have hbl := HBL.out
  rw [HFW.out]
  have hr := HFW.out
  generalize withinS X Z = p at *
  generalize withinS Y Z = q at *
  generalize withinS X Y = s at *
  have HT := HTR.out
  clear HTR HFW hr HBL HX HY HZ HJ HFL
  cases p <;> cases q <;> cases s <;> first | (exfalso; revert HT; decide) | (clear HT; go_wp2; go_ret; exact ⟨rfl, hbl⟩)
end Go.Proofs.Ytliieljmfncmjaa
