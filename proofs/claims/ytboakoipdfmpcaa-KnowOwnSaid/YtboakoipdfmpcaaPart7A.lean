/- What part.Join and part.Narrow do: each part lies apart from the others. Written by a small program (gen/parta.py). -/
import Derived.Test.YtboakoipdfmpcaaPart6A
import Derived.Test.YtboakoipdfmpcaaMPart5
namespace Go.Proofs.Ytboakoipdfmpcaa
open Go.RowKit
def PResA (w : World) (base : Nat) (v : Value) (E : Int) (S : List SP) : Prop := (E = 0 → PtsOwnA w base v S) ∧ (E ≠ 0 → v = .slice none 0 0)
set_option maxRecDepth 100000 in
set_option maxHeartbeats 4000000 in
theorem pjoin_a (va vb : Value) (a b : List Pt) (w : World) (ha : RowAt partE w va a) (hb : RowAt partE w vb b) :
    Calls Try.prog 10 #[va, vb] w fun e w' => ∃ v, e = .returned (.tuple #[v, .int .i64 (pjE a b)]) ∧ PResA w' w.heap.size v (pjE a b) (fewS ((a ++ b).map sem)) ∧ Below w.heap.size w w' := by
  obtain ⟨xa, ca, rfl⟩ := ha.shape
  obtain ⟨xb, cb, rfl⟩ := hb.shape
  have HA := Lib.hid ha
  have HB := Lib.hid hb
  have HC := Lib.hid (ptsChk_c _ a w ha)
  have HE1 := Lib.hid (show ptsChk a ≠ 0 → pjE a b = ptsChk a from fun h => by unfold pjE; rw [if_pos h])
  have HE2 := Lib.hid (show ptsChk a = 0 → ptsChk b ≠ 0 → pjE a b = ptsChk b from fun h k => by unfold pjE; rw [if_neg (by omega), if_pos k])
  have HE3 := Lib.hid (show ptsChk a = 0 → ptsChk b = 0 → pjE a b = if 30 < (fewS ((a ++ b).map sem)).length then 2 else 0 from fun h k => by unfold pjE; rw [if_neg (by omega), if_neg (by omega)])
  have HZA := Lib.hid (ptsChk_zero (l := a))
  have HZB := Lib.hid (ptsChk_zero (l := b))
  clear ha hb
  go_enter Try.func10, Try.ntmps10
  go_wp2_with fail
  (with_reducible refine (HC.out).mono ?_)
  rintro e w1 ⟨rfl, hb1⟩
  replace HA := Lib.hid (HA.out.below hb1)
  replace HB := Lib.hid (HB.out.below hb1)
  have HBL := Lib.hid hb1
  clear hb1 HC
  by_cases h0 : ptsChk a = 0
  rotate_left
  · have H := Lib.hid (HE1.out h0)
    have H0 := Lib.hid h0
    have hne : decide (ptsChk a = 0) = false := by simpa using h0
    have hnb : (ptsChk a != 0) = true := bne_iff_ne.2 h0
    generalize ptsChk a = sc at *
    clear h0
    go_wp2
    go_ret2
    exact ⟨_, ret_ve H.out.symm, ⟨fun h => absurd (H.out.symm.trans h) H0.out, fun _ => rfl⟩, HBL.out⟩
  have HZ := Lib.hid (HZA.out.1 h0)
  replace HE2 := Lib.hid (HE2.out h0)
  replace HE3 := Lib.hid (HE3.out h0)
  have HC := Lib.hid (ptsChk_c _ b w1 HB.out)
  rw [h0]
  clear h0 HE1 HZA
  go_wp2_with fail
  (with_reducible refine (HC.out).mono ?_)
  rintro e w2 ⟨rfl, hb1⟩
  replace HA := Lib.hid (HA.out.below hb1)
  replace HB := Lib.hid (HB.out.below hb1)
  replace HBL := Lib.hid (bstep HBL.out hb1)
  clear hb1 HC
  by_cases h0 : ptsChk b = 0
  rotate_left
  · have H := Lib.hid (HE2.out h0)
    have H0 := Lib.hid h0
    have hne : decide (ptsChk b = 0) = false := by simpa using h0
    have hnb : (ptsChk b != 0) = true := bne_iff_ne.2 h0
    generalize ptsChk b = sc at *
    clear h0
    go_wp2
    go_ret2
    exact ⟨_, ret_ve H.out.symm, ⟨fun h => absurd (H.out.symm.trans h) H0.out, fun _ => rfl⟩, HBL.out⟩
  have HY := Lib.hid (HZB.out.1 h0)
  have HE := Lib.hid (HE3.out h0)
  have hla := HZ.out.1
  have hlb := HY.out.1
  have HOK := Lib.hid (show ∀ x ∈ a ++ b, PtOk x from fun x hx => (List.mem_append.1 hx).elim (HZ.out.2 x) (HY.out.2 x))
  have HLN := Lib.hid (show (a ++ b).length ≤ 60 by rw [List.length_append]; omega)
  have HCC := Lib.hid (pconcat_c w2 HA.out HB.out 34 (by have := HLN.out; omega))
  rw [h0]
  clear h0 HE2 HE3 HZB HZ HY
  have hbx := bal (W := w2) (.cells #[.slice xa a.length ca, .slice xb b.length cb] 34)
  have HBX := Lib.hid hbx
  clear hbx
  go_wp2_with fail
  (with_reducible refine (HCC.out).mono ?_)
  rintro e w3 ⟨v3, rfl, h3, hb3⟩
  generalize hab : a ++ b = ab at *
  have HAB := Lib.hid hab
  clear hab
  have HF := Lib.hid (few_a _ ab w3 h3 HOK.out (by have := HLN.out; omega))
  replace HBL := Lib.hid (bstep (bstep HBL.out HBX.out) hb3)
  obtain ⟨x3, c3, rfl⟩ := h3.shape
  clear h3 hb3 HCC HBX
  generalize hS : fewS (ab.map sem) = S at *
  have HSS := Lib.hid hS
  clear hS
  go_wp2_with fail
  (with_reducible refine (HF.out).mono ?_)
  rintro e w4 ⟨v4, rfl, h4, hb4⟩
  have H4 := Lib.hid (h4.mono HBL.out.size)
  replace HBL := Lib.hid (bstep HBL.out hb4)
  obtain ⟨x4, c4, hv4⟩ := h4.shape
  subst hv4
  clear h4 hb4 HF
  by_cases h30 : 30 < S.length
  · have H := Lib.hid (show pjE a b = 2 by rw [HE.out, if_pos h30])
    have hb30 : decide ((30 : Int) < (S.length : Int)) = true := by rw [decide_eq_true_eq]; omega
    clear HE h30
    go_wp2
    go_ret2
    exact ⟨_, ret_ve H.out.symm, ⟨fun h => absurd (H.out.symm.trans h) (by decide), fun _ => rfl⟩, HBL.out⟩
  · have H := Lib.hid (show pjE a b = 0 by rw [HE.out, if_neg h30])
    have hb30 : decide ((30 : Int) < (S.length : Int)) = false := by rw [decide_eq_false_iff_not]; omega
    clear HE h30
    go_wp2
    go_ret2
    exact ⟨.slice x4 S.length c4, ret_ve H.out.symm, ⟨fun _ => by rw [HAB.out, HSS.out]; exact H4.out, fun h => absurd H.out h⟩, HBL.out⟩
set_option maxRecDepth 100000 in
set_option maxHeartbeats 4000000 in
theorem pnarrow_a (v fv : Value) (l : List Pt) (f : Bxs) (w : World) (hl : RowAt partE w v l) (hf : BxsAt w fv f) :
    Calls Try.prog 11 #[v, fv] w fun e w' => ∃ v', e = .returned (.tuple #[v', .int .i64 (pnE l f)]) ∧ PResA w' w.heap.size v' (pnE l f) (narrowS (l.map sem) (ptsOf f)) ∧ Below w.heap.size w w' := by
  obtain ⟨xa, ca, rfl⟩ := hl.shape
  obtain ⟨xf, cf, rfl⟩ := hf.shape
  have HA := Lib.hid hl
  have HF := Lib.hid hf
  have HFW0 := Lib.hid hf
  have HC := Lib.hid (ptsChk_c _ l w hl)
  have HE1 := Lib.hid (show ptsChk l ≠ 0 → pnE l f = ptsChk l from fun h => by unfold pnE; rw [if_pos h])
  have HE2 := Lib.hid (show ptsChk l = 0 → pnE l f = fChk f from fun h => by unfold pnE; rw [if_neg (by omega)])
  have HZA := Lib.hid (ptsChk_zero (l := l))
  clear hl hf
  go_enter Try.func11, Try.ntmps11
  go_wp2_with fail
  (with_reducible refine (HC.out).mono ?_)
  rintro e w1 ⟨rfl, hb1⟩
  replace HA := Lib.hid (HA.out.below hb1)
  replace HF := Lib.hid (HF.out.below hb1)
  have HBL := Lib.hid hb1
  clear hb1 HC
  by_cases h0 : ptsChk l = 0
  rotate_left
  · have H := Lib.hid (HE1.out h0)
    have H0 := Lib.hid h0
    have hne : decide (ptsChk l = 0) = false := by simpa using h0
    have hnb : (ptsChk l != 0) = true := bne_iff_ne.2 h0
    generalize ptsChk l = sc at *
    clear h0
    go_wp2
    go_ret2
    exact ⟨_, ret_ve H.out.symm, ⟨fun h => absurd (H.out.symm.trans h) H0.out, fun _ => rfl⟩, HBL.out⟩
  have HZ := Lib.hid (HZA.out.1 h0)
  have HE := Lib.hid (HE2.out h0)
  have HC := Lib.hid (fChk_c _ f w1 HF.out)
  rw [h0]
  clear h0 HE1 HE2 HZA
  go_wp2_with fail
  (with_reducible refine (HC.out).mono ?_)
  rintro e w2 ⟨rfl, hb1⟩
  replace HA := Lib.hid (HA.out.below hb1)
  replace HF := Lib.hid (HF.out.below hb1)
  replace HBL := Lib.hid (bstep HBL.out hb1)
  clear hb1 HC
  by_cases h0 : fChk f = 0
  rotate_left
  · have H0 := Lib.hid h0
    have hne : decide (fChk f = 0) = false := by simpa using h0
    have hnb : (fChk f != 0) = true := bne_iff_ne.2 h0
    generalize fChk f = sc at *
    clear h0
    go_wp2
    go_ret2
    exact ⟨_, ret_ve HE.out.symm, ⟨fun h => absurd (HE.out.symm.trans h) H0.out, fun _ => rfl⟩, HBL.out⟩
  have HF0 := Lib.hid h0
  rw [h0] at HE ⊢
  clear h0
  have hla := HZ.out.1
  have HOK := Lib.hid HZ.out.2
  have HCP := Lib.hid (pcopied_c _ l w2 HA.out HOK.out (by omega))
  clear HZ HA
  go_wp2_with fail
  (with_reducible refine (HCP.out).mono ?_)
  rintro e w3 ⟨ov, rfl, ho, hb3⟩
  have HO := Lib.hid (ho.mono HBL.out.size)
  obtain ⟨pa, pc, rfl⟩ := ho.shape
  have HB3 := Lib.hid (bstep HBL.out hb3)
  clear ho hb3 HCP HBL HF
  obtain ⟨w4, hw4⟩ : ∃ w4, w4 = w3 := ⟨_, rfl⟩
  rw [← hw4] at HO HB3 ⊢
  clear hw4 w3
  go_wp2
  go_loopw [24] (fun i wr => ∃ q : Nat, q ≤ l.length ∧ i = .int .i64 q ∧ (∃ l1, POwn wr w.heap.size (.slice pa l.length pc) l1 ∧ MeetTo f q l l1) ∧ Below w.heap.size w wr) (fun i _ => l.length - (intOf i).toNat)
  case atStart => exact ⟨0, Nat.zero_le _, rfl, ⟨l, HO.out, MeetTo.zero f l⟩, HB3.out⟩
  case round =>
    obtain ⟨q, hq, rfl, ⟨l1, ho1, hp1⟩, hbl⟩ := hrel
    have HO1 := Lib.hid ho1
    have HP1 := Lib.hid hp1
    have HBL := Lib.hid hbl
    have HFR := Lib.hid (HFW0.out.below hbl)
    clear ho1 hp1 hbl HO HB3
    by_cases hql : q < l.length
    · have hq1 : q < l1.length := by rw [HP1.out.len]; exact hql
      have hrest := HP1.out.rest q hql hq1 (Nat.le_refl _)
      obtain ⟨g, f1, hpg, hcell, hfo⟩ := HO1.out.cellF q hq1
      subst hpg
      have hfz : fChk l1[q].f = 0 := by rw [hrest]; exact (HOK.out _ (List.getElem_mem hql)).f
      have HPC := Lib.hid (meetf_c f1 _ l1[q].f f wr (hfo.at_ok hfz) HFR.out)
      have ht0 : fTwo l1[q].f f = 0 := by unfold fTwo; rw [if_pos hfz, HF0.out]
      rw [ht0] at HPC
      obtain ⟨fa, fc, hf1⟩ := hfo.shape
      subst hf1
      have HPT := Lib.hid (fun (f2 : Bxs) (h : FGood f2 (fun t n => inF l1[q].f t n && inF f t n)) => HP1.out.step hql (f := f2) (by rw [hrest] at h; exact h))
      have hqm : decide ((q : Int) < (l.length : Int)) = true := by simp; omega
      clear hfo hrest hfz ht0
      go_wp2_with fail
      (with_reducible refine (HPC.out).mono ?_)
      rintro e w5 ⟨f2, rfl, hfout, hb5⟩
      obtain ⟨fl, hf2, hg2⟩ := hfout.1 rfl
      have HF2 := Lib.hid (BxsOwn.mono hf2 HBL.out.size)
      obtain ⟨fa2, fc2, hf2v⟩ := hf2.shape
      subst hf2v
      obtain ⟨hset, cs, hgb, hbase⟩ := (HO1.out.below hb5).setF q hq1 (fs := fl) HF2.out
      have HSET := Lib.hid hset
      have HPL := Lib.hid (HPT.out fl hg2)
      have HBF := Lib.hid ((bstep HBL.out hb5).setCell (p := ⟨g, q * 3, none⟩) hbase (.slice fa2 fl.length fc2))
      have c5 := ckeep hb5 hcell
      have ff5 := free_of_block (j := q * 3) hgb
      have hgl := hlt_of hgb
      clear hcell hb5 hf2 hg2 HPC hset hgb HPT hfout
      go_wp2
      go_roundw
      case rel => exact ⟨q + 1, by omega, by go_num, ⟨_, HSET.out, HPL.out⟩, HBF.out⟩
      case measure => simp [intOf] <;> omega
    · obtain rfl : q = l.length := by omega
      have hat := HO1.out.at_ (HP1.out.ok HOK.out) (by rw [HP1.out.len]; omega)
      have HFW := Lib.hid (few_a _ l1 wr hat (HP1.out.ok HOK.out) (by rw [HP1.out.len]; omega))
      have HSM := Lib.hid (show fewS (l1.map sem) = narrowS (l.map sem) (ptsOf f) by rw [HP1.out.sem]; rfl)
      rw [HSM.out] at HFW
      clear hat HO1 HP1 HOK HFR HSM HFW0
      go_wp2_with fail
      (with_reducible refine (HFW.out).mono ?_)
      rintro e w5 ⟨v5, rfl, h5, hb5⟩
      have H5 := Lib.hid (h5.mono HBL.out.size)
      have HB5 := Lib.hid (bstep HBL.out hb5)
      obtain ⟨x5, c5, hv5⟩ := h5.shape
      subst hv5
      clear h5 hb5 HFW
      go_wp2
      go_ret2
      exact ⟨_, ret_ve HE.out.symm, ⟨fun _ => H5.out, fun h => absurd HE.out h⟩, HB5.out⟩
end Go.Proofs.Ytboakoipdfmpcaa
