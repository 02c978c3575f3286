/- What part.Few does: each part lies apart from the others. Written by a small program (gen/parta.py). -/
import Derived.Test.YtboakoipdfmpcaaPart4A
import Derived.Test.YtboakoipdfmpcaaMPart5
namespace Go.Proofs.Ytboakoipdfmpcaa
open Go.RowKit
set_option maxRecDepth 100000 in
set_option maxHeartbeats 8000000 in
theorem few_a (v : Value) (l : List Pt) (w : World) (hv : RowAt partE w v l) (hok : ∀ x ∈ l, PtOk x) (hl : l.length ≤ 1000) :
    Calls Try.prog 33 #[v] w fun e w' => ∃ v', e = .returned v' ∧ PtsOwnA w' w.heap.size v' (fewS (l.map sem)) ∧ Below w.heap.size w w' := by
  obtain ⟨a, cap, rfl, hcap, hlen, -, hvl⟩ := hv.open_
  have HVL := Lib.hid hvl
  have HOK := Lib.hid hok
  clear hv hvl hok
  go_enter Try.func33, Try.ntmps33
  go_wp2
  go_loopw [3, 9] (fun ov i wr => ∃ k : Nat, k ≤ l.length ∧ i = .int .i64 k ∧ RowOwn partE w wr w.heap.size 33 ov (fewM (l.take k)) ∧ Below w.heap.size w wr) (fun _ i _ => l.length - (intOf i).toNat)
  case atStart => exact ⟨0, Nat.zero_le _, rfl, RowOwn.nil _ _ _ _, Below.refl _ _⟩
  case round =>
    obtain ⟨k, hk, rfl, hown, hbl⟩ := hrel
    have HOW := Lib.hid hown
    have HBL := Lib.hid hbl
    clear hown hbl
    by_cases hlt : k < l.length
    · rcases HVL.out with hnil | ⟨b, off, rfl, hb, hc⟩
      · rw [hnil] at hlt; simp at hlt
      obtain ⟨c, hE, hcc⟩ := hc k hlt
      obtain ⟨FF, UU, XX, rfl, hfw, hkw⟩ := hE
      have hcl := fun (j : Nat) (y : Value) (hy : [FF, UU, XX][j]? = some y) => row3 (w := wr) (b := b) (off := off) (i := k) (fun j y hy => (HBL.out.cell (p := ⟨b, off + (k * partE.size + j), none⟩) hb).trans (hcc j y hy)) hy
      have d0 := hcl 0 _ rfl
      have d1 := hcl 1 _ rfl
      have d2 := hcl 2 _ rfl
      rw [Nat.add_zero] at d0
      obtain ⟨fa, fc, rfl⟩ := hfw.shape
      obtain ⟨ua, uc, rfl⟩ := hkw.vec.shape
      obtain ⟨xa, xc, rfl⟩ := hkw.more.shape
      have HT := Lib.hid (show fewM (l.take (k + 1)) = fewMStep (fewM (l.take k)) l[k] by rw [List.take_succ_eq_append_getElem hlt, fewM_snoc])
      have hpk := HOK.out _ (List.getElem_mem hlt)
      have HPK := Lib.hid hpk
      have HFL := Lib.hid (show (fewM (l.take k)).length ≤ k by have := fewM_len (l.take k); rw [List.length_take] at this; omega)
      have HFO := Lib.hid (fewM_ok (l := l.take k) fun x hx => HOK.out x (List.mem_of_mem_take hx))
      obtain ⟨BK, hBK⟩ : ∃ BK, BK = wr.heap.size := ⟨_, rfl⟩
      obtain ⟨w1, hw1⟩ : ∃ w1, w1 = wr.alloc (.cells #[.slice fa l[k].f.length fc, .slice ua l[k].k.vec.length uc, .slice xa l[k].k.more.length xc] 33) := ⟨_, rfl⟩
      have hb1 : Below wr.heap.size wr w1 := by rw [hw1]; exact bal _
      have HB1 := Lib.hid (show w1.heap[BK]? = some (Obj.cells #[.slice fa l[k].f.length fc, .slice ua l[k].k.vec.length uc, .slice xa l[k].k.more.length xc] 33 (0, 0)) by rw [hw1]; exact alloc_new _ _ _ _ hBK)
      have HFW := Lib.hid hfw
      have HKW := Lib.hid hkw
      have hlow : ∀ g, (∃ x, RowOwn partE w wr w.heap.size 33 x (fewM (l.take k)) ∧ x.ownBlock = some g) → w.heap.size ≤ g ∧ g < BK := fun g ⟨x, hx, hg⟩ => by rw [hBK]; exact hx.lt g hg
      have HLOW := Lib.hid (fun g (hg : _ = some g) => hlow g ⟨_, HOW.out, hg⟩)
      replace HOW := Lib.hid (HOW.out.below hb1)
      replace HBL := Lib.hid (bstep HBL.out hb1)
      obtain ⟨oa, oc, hoo⟩ := HOW.out.shape
      subst hoo
      clear hc hcc hcl hfw hkw hb1 hpk hlow
      generalize l[k] = pp at *
      generalize fewM (l.take k) = lk at *
      obtain ⟨ff, kk⟩ := pp
      simp only at *
      have c0 := cell_of_block (j := 0) HB1.out rfl
      have c1 := cell_of_block (j := 1) HB1.out rfl
      have c2 := cell_of_block (j := 2) HB1.out rfl
      have hBl := hlt_of HB1.out
      have HNC := Lib.hid (none_c ⟨ff, kk⟩ _ _ _ w1 HPK.out (HFW.out.below HBL.out) (HKW.out.below HBL.out))
      go_wp2_with fail
      rw [← hBK, ← hw1]
      clear hBK hw1 d0 d1 d2
      go_wp2_with fail
      (with_reducible refine (HNC.out).mono ?_)
      rintro e w2 ⟨rfl, hb2⟩
      replace HB1 := Lib.hid (below_keep hb2 HB1.out)
      replace HOW := Lib.hid (HOW.out.below hb2)
      replace HBL := Lib.hid (bstep HBL.out hb2)
      clear hb2 HNC c0 c1 c2 hBl
      cases hno : noneS (sem ⟨ff, kk⟩)
      rotate_left
      · have HN := Lib.hid (show fewM (l.take (k + 1)) = lk by rw [HT.out]; unfold fewMStep; rw [hno]; rfl)
        clear hno
        go_wp2
        go_roundw
        case rel => exact ⟨k + 1, by omega, by go_num, by rw [HN.out]; exact HOW.out, HBL.out⟩
        case measure => simp [intOf] <;> omega
      have HCN := Lib.hid (containsP_c PtOk _ lk 57 #[.pointer (some ⟨BK, 0, none⟩)] (fun q => underS (sem ⟨ff, kk⟩) (sem q)) w2 (HOW.out.at_ (Sub.of_below HBL.out) (by have := HFL.out; omega)) HFO.out
        (few1_p BK ⟨ff, kk⟩ _ _ _ w2 HB1.out HPK.out (HFW.out.below HBL.out) (HKW.out.below HBL.out)))
      have HST := Lib.hid (show fewMStep lk ⟨ff, kk⟩ = if lk.any (fun q => underS (sem ⟨ff, kk⟩) (sem q)) = true then lk else (lk.filter fun q => !underS (sem q) (sem ⟨ff, kk⟩)) ++ [⟨ff, kk⟩] by unfold fewMStep; rw [hno, Bool.false_or])
      clear hno
      generalize lk.any (fun q => underS (sem ⟨ff, kk⟩) (sem q)) = an at *
      go_wp2_with fail
      (with_reducible refine (HCN.out).mono ?_)
      rintro e w3 ⟨rfl, hb3⟩
      replace HB1 := Lib.hid (below_keep hb3 HB1.out)
      replace HOW := Lib.hid (HOW.out.below hb3)
      replace HBL := Lib.hid (bstep HBL.out hb3)
      clear hb3 HCN
      cases an
      rotate_left
      · have HN := Lib.hid (show fewM (l.take (k + 1)) = lk by rw [HT.out, HST.out]; rfl)
        go_wp2
        go_roundw
        case rel => exact ⟨k + 1, by omega, by go_num, by rw [HN.out]; exact HOW.out, HBL.out⟩
        case measure => simp [intOf] <;> omega
      have HN := Lib.hid (show fewM (l.take (k + 1)) = (lk.filter fun q => !underS (sem q) (sem ⟨ff, kk⟩)) ++ [⟨ff, kk⟩] by rw [HT.out, HST.out]; rfl)
      have HDL := Lib.hid (pdel_c PtOk w w3 _ lk 60 #[.pointer (some ⟨BK, 0, none⟩)] (fun q => underS (sem q) (sem ⟨ff, kk⟩)) HBL.out HOW.out (by have := HFL.out; omega) HFO.out
        (fun W => Below w.heap.size w W ∧ W.heap[BK]? = some (Obj.cells #[.slice fa ff.length fc, .slice ua kk.vec.length uc, .slice xa kk.more.length xc] 33 (0, 0)))
        ⟨enters_of Try.func60 (by kernel_rfl) rfl, fun a f u x W hD hI hf hk => (few2_p BK ⟨ff, kk⟩ _ _ _ W hI.2 HPK.out (HFW.out.below hI.1) (HKW.out.below hI.1)).2 a f u x W hD (Below.refl _ _) hf hk⟩
        ⟨HBL.out, HB1.out⟩ (fun W W' hI hb => ⟨bstep hI.1 hb, below_keep hb hI.2⟩) (fun W W' g hg hr hI => ⟨hr.below hI.1 (HLOW.out g hg).1, by rw [hr.other BK (by have := (HLOW.out g hg).2; omega)]; exact hI.2⟩))
      have hfl : (lk.filter fun q => !underS (sem q) (sem ⟨ff, kk⟩)).length ≤ k := Nat.le_trans (List.length_filter_le _ _) HFL.out
      clear HST HT HFO HFL HOW
      generalize (lk.filter fun q => !underS (sem q) (sem ⟨ff, kk⟩)) = lf at *
      have HB0 := Lib.hid (hlt_of HB1.out)
      go_wp2_with fail
      (with_reducible refine (HDL.out).mono ?_)
      rintro e w4 ⟨s4, rfl, h4, hb4, hi4⟩
      obtain ⟨sa, sc, rfl⟩ := h4.shape
      have hB4 := hi4.2
      have e0 := cell_of_block (j := 0) hB4 rfl
      have e1 := cell_of_block (j := 1) hB4 rfl
      have e2 := cell_of_block (j := 2) hB4 rfl
      have hBl := hlt_of hB4
      obtain ⟨css, h41, h42⟩ := h4
      have hbx := bal (W := w4) (.cells #[.slice fa ff.length fc, .slice ua kk.vec.length uc, .slice xa kk.more.length xc] 33)
      have H41 := Lib.hid h41
      have H42 := Lib.hid (show (w4.alloc (.cells #[.slice fa ff.length fc, .slice ua kk.vec.length uc, .slice xa kk.more.length xc] 33)).ownsRow w.heap.size 33 3 (.slice sa lf.length sc) lf.length css.flatten from h42.alloc _)
      have HC := Lib.hid (CellsAt.mk (w := w4.alloc (.cells #[.slice fa ff.length fc, .slice ua kk.vec.length uc, .slice xa kk.more.length xc] 33)) (b := w4.heap.size) (off := 0) (n := 1) (cap := 1) (xs := [.slice fa ff.length fc, .slice ua kk.vec.length uc, .slice xa kk.more.length xc]) (Nat.le_refl _) (by decide) (by simp) (fun j x hj => by
        rw [Nat.zero_add, World.cell?_alloc_at _ _ _ _ (by simp)]; simpa using hj))
      have HB4 := Lib.hid (bstep hb4 hbx)
      have hsz := HB4.out.size
      clear h41 h42 hi4 hb4 hB4 hbx HDL HB1 HBL HLOW
      go_wp2_with (at_builtin; refine wpList_append_cells2 rfl (.tmp 23) (.tmp 25) 34 rfl w.heap.size 33 _ 3 72 Try.underlying34 PartTy.info rfl (by decide) _ lf.length _ rfl H42.out _ 1 _ rfl HC.out rfl (by intro z hz; simp at hz; rcases hz with rfl | rfl | rfl <;> rfl) hsz (by unfold maxLen; omega) (by omega) ?_)
      intro v' w5 ho hgr
      obtain ⟨qa, qc, hq⟩ := owns_slice ho
      subst hq
      have HR := Lib.hid (show RowOwn partE w w5 w.heap.size 33 (.slice qa (lf.length + 1) qc) (lf ++ [⟨ff, kk⟩]) from ⟨css ++ [[.slice fa ff.length fc, .slice ua kk.vec.length uc, .slice xa kk.more.length xc]], H41.out.append (Els.single ⟨_, _, _, rfl, HFW.out, HKW.out⟩), by rw [List.length_append, List.flatten_append]; exact ho⟩)
      have HBE := Lib.hid (HB4.out.grown hgr hsz fun k hk => (H42.out.lt k hk).1)
      clear ho hgr e0 e1 e2
      go_wp2
      go_roundw
      case rel => exact ⟨k + 1, by omega, by go_num, by rw [HN.out]; exact HR.out, HBE.out⟩
      case measure => simp [intOf] <;> omega
    · obtain rfl : k = l.length := by omega
      rw [List.take_length] at HOW
      have hfl := fewM_len l
      have HFO := Lib.hid (fewM_ok HOK.out)
      have HSEM := Lib.hid (fewM_sem l)
      obtain ⟨oa, oc, hoo⟩ := HOW.out.shape
      subst hoo
      have HCP := Lib.hid (pcopied_a _ (fewM l) wr (HOW.out.at_ (Sub.of_below HBL.out) (by omega)) HFO.out (by omega))
      clear HVL HOK HOW
      generalize fewM l = m at *
      go_wp2_with fail
      (with_reducible refine (HCP.out).mono ?_)
      rintro e w2 ⟨ov, rfl, ho, hb2⟩
      have HO := Lib.hid (ho.mono HBL.out.size)
      obtain ⟨pa, pc, rfl⟩ := ho.shape
      have HB2 := Lib.hid (bstep HBL.out hb2)
      clear ho hb2 HCP HBL
      obtain ⟨w3, hw3⟩ : ∃ w3, w3 = w2 := ⟨_, rfl⟩
      rw [← hw3] at HO HB2 ⊢
      clear hw3 w2
      go_wp2
      go_loopw [32] (fun i wr => ∃ q : Nat, q ≤ m.length ∧ i = .int .i64 q ∧ (∃ l1, POwnA wr w.heap.size (.slice pa m.length pc) l1 ∧ PlainTo q m l1) ∧ Below w.heap.size w wr) (fun i _ => m.length - (intOf i).toNat)
      case atStart => exact ⟨0, Nat.zero_le _, rfl, ⟨m, HO.out, PlainTo.zero m⟩, HB2.out⟩
      case round =>
        obtain ⟨q, hq, rfl, ⟨l1, ho1, hp1⟩, hbl⟩ := hrel
        have HO1 := Lib.hid ho1
        have HP1 := Lib.hid hp1
        have HBL := Lib.hid hbl
        clear ho1 hp1 hbl HO HB2
        by_cases hql : q < m.length
        · have hq1 : q < l1.length := by rw [HP1.out.len]; exact hql
          have hrest := HP1.out.rest q hql hq1 (Nat.le_refl _)
          obtain ⟨g, f1, hpg, hcell, hfo⟩ := HO1.out.cellF q hq1
          subst hpg
          have hfz : fChk l1[q].f = 0 := by rw [hrest]; exact (HFO.out _ (List.getElem_mem hql)).f
          have HPC := Lib.hid (plain_c f1 l1[q].f wr (hfo.at_ok hfz) hfz)
          obtain ⟨fa, fc, hf1⟩ := hfo.shape
          subst hf1
          have HPT := Lib.hid (fun (f : Bxs) (h : FGood f (fun t n => inF l1[q].f t n)) => HP1.out.step hql (f := f) (by rw [hrest] at h; exact h))
          have hqm : decide ((q : Int) < (m.length : Int)) = true := by simp; omega
          clear hfo hrest hfz
          go_wp2_with fail
          (with_reducible refine (HPC.out).mono ?_)
          rintro e w5 ⟨f2, fl, rfl, hf2, hg2, hb5⟩
          have HF2 := Lib.hid hf2
          obtain ⟨fa2, fc2, hf2v⟩ := hf2.shape
          subst hf2v
          obtain ⟨hset, cs, hgb, hbase⟩ := (POwnT.below HO1.out hb5).setF q hq1 (fs := fl) HF2.out HBL.out.size hb5.size
          have HSET := Lib.hid hset
          have HPL := Lib.hid (HPT.out fl hg2)
          have HBF := Lib.hid ((bstep HBL.out hb5).setCell (p := ⟨g, q * 3, none⟩) hbase (.slice fa2 fl.length fc2))
          have c5 := ckeep hb5 hcell
          have ff5 := free_of_block (j := q * 3) hgb
          have hgl := hlt_of hgb
          clear hcell hb5 hf2 hg2 HPC hset hgb HPT
          go_wp2
          go_roundw
          case rel => exact ⟨q + 1, by omega, by go_num, ⟨_, HSET.out, HPL.out⟩, HBF.out⟩
          case measure => simp [intOf] <;> omega
        · obtain rfl : q = m.length := by omega
          have HRES := Lib.hid (show PtsOwnA wr w.heap.size (.slice pa m.length pc) (fewS (l.map sem)) from ⟨l1, HO1.out, HP1.out.ok HFO.out, by rw [HP1.out.sem, HSEM.out]⟩)
          clear HO1 HP1 HFO HSEM
          go_wp2
          go_ret
          exact ⟨_, rfl, HRES.out, HBL.out⟩
end Go.Proofs.Ytboakoipdfmpcaa
