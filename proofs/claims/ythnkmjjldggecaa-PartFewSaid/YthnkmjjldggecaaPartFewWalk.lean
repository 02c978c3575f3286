/- What PartFew does: it returns true. -/
import Derived.Test.YthnkmjjldggecaaMPartL
namespace Go.Proofs.Ythnkmjjldggecaa
open Go.RowKit
theorem few_pick {l : List Pt} (h : FewS (l.map sem)) (hok : ∀ x ∈ l, PtOk x) : (∀ i (hi : i < l.length), cntE l[i].f ≠ 0 ∧ knCount l[i].k ≠ 0) ∧ ∀ i j (hi : i < l.length) (hj : j < l.length), i ≠ j → (withinE l[i].f l[j].f && knWithinB l[i].k l[j].k) = false := by
  refine ⟨fun i hi => ?_, fun i j hi hj hne => ?_⟩
  · have h1 := h.some_ (sem l[i]) (List.mem_map.2 ⟨_, List.getElem_mem hi, rfl⟩)
    rw [← none_sem (hok _ (List.getElem_mem hi)), Bool.or_eq_false_iff, decide_eq_false_iff_not, decide_eq_false_iff_not] at h1
    exact h1
  · rw [within_sem (hok _ (List.getElem_mem hi)) (hok _ (List.getElem_mem hj))]
    have ha := List.pairwise_iff_getElem.1 h.anti
    rcases Nat.lt_or_gt_of_ne hne with hlt | hlt
    · have := (ha i j (by simpa using hi) (by simpa using hj) hlt).1
      simpa using this
    · have := (ha j i (by simpa using hj) (by simpa using hi) hlt).2
      simpa using this
set_option maxRecDepth 100000 in
set_option maxHeartbeats 8000000 in
theorem PartFew_walk (fv av : Value) (fs : List Bxs) (als : List (List (List Int))) (w : World) (hf : RowAt bxsE w fv fs) (ha : RowAt vecsE w av als) :
    Calls Try.prog 7 #[fv, av] w fun e w' => e = .returned (.bool true) ∧ Below w.heap.size w w' := by
  have HFS := Lib.hid hf
  have HA := Lib.hid ha
  obtain ⟨sa0, sc0, rfl⟩ := hf.shape
  obtain ⟨sa1, sc1, rfl⟩ := ha.shape
  have HBL := Lib.hid (Below.refl w.heap.size w)
  clear hf ha
  go_enter Try.func7, Try.ntmps7
  have HC := Lib.hid (partBegun_c w)
  go_wp2_with fail
  (with_reducible refine (HC.out).mono ?_)
  rintro e w1 ⟨rfl, hb⟩
  replace HFS := Lib.hid (HFS.out.below hb)
  replace HA := Lib.hid (HA.out.below hb)
  replace HBL := Lib.hid (bstep HBL.out hb)
  clear hb HC
  have HC := Lib.hid (parts_c _ _ fs als w1 HFS.out HA.out)
  go_wp2_with fail
  (with_reducible refine (HC.out).mono ?_)
  rintro e w2 ⟨X, a2, c2, rfl, h1, h2, hb⟩
  replace HFS := Lib.hid (HFS.out.below hb)
  replace HA := Lib.hid (HA.out.below hb)
  replace HBL := Lib.hid (bstep HBL.out hb)
  have HX := Lib.hid (h1)
  clear hb HC h1
  have LX := Lib.hid h2
  clear h2
  clear HFS HA
  have lx := LX.out
  have l1 := few_len (X ++ [])
  rw [List.length_append, List.length_nil] at l1
  have hnil : PtsSem w2 (.slice none 0 0) [] := ⟨[], RowAt.nil _, by simp, rfl⟩
  have HC := Lib.hid (pjoin_s _ _ X [] w2 HX.out hnil (by omega) (by simp) (by omega))
  go_wp2_with fail
  (with_reducible refine (HC.out).mono ?_)
  rintro e w3 ⟨a3, c3, rfl, h1, hb⟩
  replace HX := Lib.hid (HX.out.below hb)
  replace HBL := Lib.hid (bstep HBL.out hb)
  have HJ := Lib.hid (h1.sem (by omega))
  clear hb HC h1 hnil
  clear HX
  have HFF := Lib.hid (few_few (X ++ []))
  generalize fewS (X ++ []) = J at *
  have HC := Lib.hid (pchk_s _ J w3 HJ.out (by omega))
  go_wp2_with fail
  (with_reducible refine (HC.out).mono ?_)
  rintro e w4 ⟨rfl, hb⟩
  replace HJ := Lib.hid (HJ.out.below hb)
  replace HBL := Lib.hid (bstep HBL.out hb)
  clear hb HC
  obtain ⟨l, hrow, hok, hsem⟩ := HJ.out
  rw [← hsem] at HFF
  have HPK := Lib.hid (few_pick HFF.out hok)
  have hjl : J.length = l.length := by rw [← hsem, List.length_map]
  rw [hjl] at *
  have HOK := Lib.hid hok
  obtain ⟨ra, rc, hv, hcap, hlen, -, hvl⟩ := hrow.open_
  simp only [Value.slice.injEq] at hv
  obtain ⟨rfl, -, rfl⟩ := hv
  have HVL := Lib.hid hvl
  clear hrow hok hsem hvl HJ HFF LX
  obtain ⟨wo, hwo⟩ : ∃ wo, wo = w4 := ⟨_, rfl⟩
  rw [← hwo] at HVL HBL ⊢
  clear hwo w4
  go_wp2
  go_loopw [37] (fun i wr => ∃ k : Nat, k ≤ l.length ∧ i = .int .i64 k ∧ Below wo.heap.size wo wr) (fun i _ => l.length - (intOf i).toNat)
  case atStart => exact ⟨0, Nat.zero_le _, rfl, Below.refl _ _⟩
  case round =>
    obtain ⟨k, hk, rfl, hbl⟩ := hrel
    have HB1 := Lib.hid hbl
    clear hbl
    by_cases hlt : k < l.length
    · rcases HVL.out with hnil | ⟨b, off, rfl, hb, hc⟩
      · rw [hnil] at hlt; simp at hlt
      obtain ⟨c, hE, hcc⟩ := hc k hlt
      obtain ⟨f, u, x, d1, d2, d3, hf, hkn⟩ := part_cells hb HB1.out hE hcc
      have HP1 := Lib.hid (HPK.out.1 k hlt)
      have HP2 := Lib.hid (fun j (hj : j < l.length) (hne : k ≠ j) => HPK.out.2 k j hlt hj hne)
      have HOK1 := Lib.hid (HOK.out _ (List.getElem_mem hlt))
      clear hc hE hcc
      generalize l[k] = p at *
      obtain ⟨pf, pk⟩ := p
      simp only at hf hkn HP1 HP2 HOK1
      obtain ⟨fa, fc, rfl⟩ := hf.shape
      obtain ⟨ua, uc, rfl⟩ := hkn.vec.shape
      obtain ⟨xa, xc, rfl⟩ := hkn.more.shape
      obtain ⟨BK, hBK⟩ : ∃ BK, BK = wr.heap.size := ⟨_, rfl⟩
      obtain ⟨w1, hw1⟩ : ∃ w1, w1 = wr.alloc (.cells #[.slice fa pf.length fc, .slice ua pk.vec.length uc, .slice xa pk.more.length xc] 83) := ⟨_, rfl⟩
      have hb1 : Below wr.heap.size wr w1 := by rw [hw1]; exact bal _
      have K_P := Lib.hid (show w1.heap[BK]? = some (Obj.cells #[.slice fa pf.length fc, .slice ua pk.vec.length uc, .slice xa pk.more.length xc] 83 (0, 0)) by rw [hw1]; exact alloc_new _ _ _ _ hBK)
      have HPF := Lib.hid (hf.below hb1)
      have HPN := Lib.hid (hkn.below hb1)
      replace HB1 := Lib.hid (bstep HB1.out hb1)
      have HC := Lib.hid (countf_c _ pf w1 HPF.out)
      have hfc : fChk pf = 0 := HOK1.out.f
      have hkc : knChk pk = 0 := HOK1.out.k
      rw [hfc] at HC
      clear hf hkn hb1
      go_wp2_with fail
      rw [← hBK, ← hw1]
      clear hBK hw1 d1 d2 d3
      (with_reducible refine (HC.out).mono ?_)
      rintro e w2 ⟨rfl, hb⟩
      replace K_P := Lib.hid (below_keep hb K_P.out)
      replace HPF := Lib.hid (HPF.out.below hb)
      replace HPN := Lib.hid (HPN.out.below hb)
      replace HB1 := Lib.hid (bstep HB1.out hb)
      clear hb HC
      have HC := Lib.hid (knCount_c _ _ pk w2 HPN.out)
      rw [hkc] at HC
      have p1 := cell_of_block (j := 1) K_P.out rfl
      have p2 := cell_of_block (j := 2) K_P.out rfl
      have hPl := hlt_of K_P.out
      have hz1 := HP1.out.1
      have hz2 := HP1.out.2
      generalize cntE pf = cn at *
      generalize knCount pk = kn at *
      have hz1b : (cn == 0) = false := by simpa using hz1
      have hz2b : (kn == 0) = false := by simpa using hz2
      have hz1d : decide (cn = 0) = false := by simpa using hz1
      have hz2d : decide (kn = 0) = false := by simpa using hz2
      go_wp2_with fail
      (with_reducible refine (HC.out).mono ?_)
      rintro e w3 ⟨rfl, hb⟩
      replace K_P := Lib.hid (below_keep hb K_P.out)
      replace HPF := Lib.hid (HPF.out.below hb)
      replace HPN := Lib.hid (HPN.out.below hb)
      replace HB1 := Lib.hid (bstep HB1.out hb)
      clear hb HC p1 p2 hPl
      obtain ⟨wi, hwi⟩ : ∃ wi, wi = w3 := ⟨_, rfl⟩
      rw [← hwi] at K_P HPF HPN HB1 ⊢
      clear hwi w3
      have hkb : decide ((k : Int) < (l.length : Int)) = true := by simp; omega
      go_wp2
      go_loopw [70] (fun i wr => ∃ q : Nat, q ≤ l.length ∧ i = .int .i64 q ∧ Below wi.heap.size wi wr) (fun i _ => l.length - (intOf i).toNat)
      case atStart => exact ⟨0, Nat.zero_le _, rfl, Below.refl _ _⟩
      case round =>
        obtain ⟨q, hq, rfl, hbl⟩ := hrel
        have HB2 := Lib.hid hbl
        clear hbl
        by_cases hqt : q < l.length
        · rcases HVL.out with hnil | ⟨b2, off2, hbo, hb2, hc⟩
          · rw [hnil] at hlt; simp at hlt
          simp only [Option.some.injEq, Addr.mk.injEq, and_true] at hbo
          obtain ⟨rfl, rfl⟩ := hbo
          obtain ⟨c, hE, hcc⟩ := hc q hqt
          have HBA := Lib.hid (HB1.out.trans (HB2.out.mono HB1.out.size))
          obtain ⟨g, y, z, d1, d2, d3, hg, hkn⟩ := part_cells hb2 HBA.out hE hcc
          have HWN := Lib.hid (HP2.out q hqt)
          have HOK2 := Lib.hid (HOK.out _ (List.getElem_mem hqt))
          clear hc hE hcc
          generalize l[q] = p2 at *
          obtain ⟨gf, gk⟩ := p2
          simp only at hg hkn HWN HOK2
          obtain ⟨ga, gc, rfl⟩ := hg.shape
          obtain ⟨ya, yc, rfl⟩ := hkn.vec.shape
          obtain ⟨za, zc, rfl⟩ := hkn.more.shape
          obtain ⟨BQ, hBQ⟩ : ∃ BQ, BQ = wr.heap.size := ⟨_, rfl⟩
          obtain ⟨w4, hw4⟩ : ∃ w4, w4 = wr.alloc (.cells #[.slice ga gf.length gc, .slice ya gk.vec.length yc, .slice za gk.more.length zc] 83) := ⟨_, rfl⟩
          have hb4 : Below wr.heap.size wr w4 := by rw [hw4]; exact bal _
          have K_Q := Lib.hid (show w4.heap[BQ]? = some (Obj.cells #[.slice ga gf.length gc, .slice ya gk.vec.length yc, .slice za gk.more.length zc] 83 (0, 0)) by rw [hw4]; exact alloc_new _ _ _ _ hBQ)
          replace HB2 := Lib.hid (bstep HB2.out hb4)
          have HC := Lib.hid (withinf_c _ _ pf gf w4 (HPF.out.below HB2.out) (hg.below hb4))
          have ht0 : fTwo pf gf = 0 := by unfold fTwo; rw [if_pos hfc, HOK2.out.f]
          have hk0 : knTwo pk gk = 0 := knTwo_zero.2 ⟨hkc, HOK2.out.k⟩
          rw [ht0] at HC
          have HGN := Lib.hid (hkn.below hb4)
          have p0 := cell_of_block (j := 0) (below_keep HB2.out K_P.out) rfl
          have hPl := hlt_of (below_keep HB2.out K_P.out)
          rw [hw4] at p0 hPl
          have hqb : decide ((q : Int) < (l.length : Int)) = true := by simp; omega
          clear hg hkn hb4
          go_wp2_with fail
          rw [← hBQ, ← hw4]
          clear hBQ hw4 d1 d2 d3
          (with_reducible refine (HC.out).mono ?_)
          rintro e w5 ⟨rfl, hb⟩
          clear p0 hPl
          replace K_Q := Lib.hid (below_keep hb K_Q.out)
          replace HGN := Lib.hid (HGN.out.below hb)
          replace HB2 := Lib.hid (bstep HB2.out hb)
          clear hb HC
          have HC := Lib.hid (kwithin_c _ _ _ _ pk gk w5 (HPN.out.below HB2.out) HGN.out)
          rw [hk0] at HC
          have p1 := cell_of_block (j := 1) (below_keep HB2.out K_P.out) rfl
          have p2 := cell_of_block (j := 2) (below_keep HB2.out K_P.out) rfl
          have q1 := cell_of_block (j := 1) K_Q.out rfl
          have q2 := cell_of_block (j := 2) K_Q.out rfl
          have hPl := hlt_of (below_keep HB2.out K_P.out)
          have hQl := hlt_of K_Q.out
          generalize withinE pf gf = wa at *
          go_wp2_with fail
          (with_reducible refine (HC.out).mono ?_)
          rintro e w6 ⟨rfl, hb⟩
          replace HB2 := Lib.hid (bstep HB2.out hb)
          clear hb HC p1 p2 q1 q2 hPl hQl
          generalize knWithinB pk gk = wb at *
          by_cases hne : k = q
          · have h1 : ((k : Int) != (q : Int)) = false := by rw [bne_eq_false_iff_eq]; omega
            have h2 : decide ((k : Int) = (q : Int)) = true := by rw [decide_eq_true_eq]; omega
            clear hne HWN
            go_wp2
            go_roundw
            case rel => exact ⟨q + 1, by omega, by go_num, HB2.out⟩
            case measure => simp [intOf] <;> omega
          · have hw := HWN.out hne
            have h1 : ((k : Int) != (q : Int)) = true := by rw [bne_iff_ne]; omega
            have h2 : decide ((k : Int) = (q : Int)) = false := by rw [decide_eq_false_iff_not]; omega
            clear hne HWN
            cases wa
            · clear hw
              go_wp2
              go_roundw
              case rel => exact ⟨q + 1, by omega, by go_num, HB2.out⟩
              case measure => simp [intOf] <;> omega
            · rw [Bool.true_and] at hw
              subst hw
              go_wp2
              go_roundw
              case rel => exact ⟨q + 1, by omega, by go_num, HB2.out⟩
              case measure => simp [intOf] <;> omega
        · obtain rfl : q = l.length := by omega
          have HBA := Lib.hid (HB1.out.trans (HB2.out.mono HB1.out.size))
          clear HB2 HP1 HP2
          go_wp2
          go_roundw
          case rel => exact ⟨k + 1, by omega, by go_num, HBA.out⟩
          case measure => simp [intOf] <;> omega
    · obtain rfl : k = l.length := by omega
      have hfin := HBL.out.trans (HB1.out.mono HBL.out.size)
      go_wp2
      go_ret
      exact ⟨rfl, hfin⟩
end Go.Proofs.Ythnkmjjldggecaa
