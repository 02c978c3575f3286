/- What SiteDots does. Written by a small program (gen/sl.py). -/
import Derived.Test.YtboakoipdfmpcaaGreatMSiteD
import Derived.Test.YtboakoipdfmpcaaGreatMClaims
import Derived.Test.YtboakoipdfmpcaaGreatPartS
namespace Go.Proofs.YtboakoipdfmpcaaGreat
open Go.RowKit
theorem dots_has {s : SiteS} (ok : SiteOk s) (hS : s.S = []) {pt pn c : Int} (hp : ptOk pt pn = true) (h1 : 1 ≤ c) (h2 : c ≤ 1000) : hasS (knownS s) pt pn s.me c = decide (c ≤ s.made) ∧ hasSE pt pn s.me c = 0 := by
  obtain ⟨p1, p2, p3, p4⟩ := pt_rng hp
  have hm := ok.me
  have hd : dotOk (s.me, c) = true := by simp only [dotOk, Bool.and_eq_true, decide_eq_true_eq]; omega
  unfold hasS hasSE
  rw [hp, hd]
  refine ⟨?_, rfl⟩
  rw [Bool.true_and, Bool.true_and, knows_known ok (by omega) (by omega) hm.1 hm.2 h1 h2, hS]
  simp [knowsS]
def POw (w : World) (S : List SP) (v : Value) : Prop := ∃ a n c, v = .slice a n c ∧ PtsOwnA w 0 (.slice a n c) S
theorem POw.below {w w' : World} {S : List SP} {v : Value} (h : POw w S v) (hb : Below w.heap.size w w') : POw w' S v := by
  obtain ⟨a, n, c, h1, h2⟩ := h; exact ⟨a, n, c, h1, h2.below hb⟩
set_option maxRecDepth 100000 in
set_option maxHeartbeats 8000000 in
theorem SiteDots_walk (x : Int) (lv : Value) (l : List (List Int)) (pt pn : Int) (w : World) (hl : RowAt vecE w lv l) :
    Calls Tryz.prog 6 #[.int .i64 x, lv, .agg #[.int .i64 pt, .int .i64 pn]] w fun e w' => e = .returned (.bool true) ∧ Below w.heap.size w w' := by
  have hll := hl.len
  obtain ⟨la, lc, rfl, hcap, -, -, -⟩ := hl.open_
  obtain ⟨n, hn⟩ : ∃ n : Nat, n = min l.length 15 := ⟨_, rfl⟩
  have hn1 : n ≤ l.length := by omega
  have hn2 : n ≤ 15 := by omega
  have hn3 : n ≤ lc := by omega
  have hmin : min (l.length : Int) 15 = (n : Int) := by omega
  have HL := Lib.hid (RowAt.take hl n hn1)
  clear hl hn
  obtain ⟨kk, hkk⟩ : ∃ kk, kk = wiN x 5 := ⟨_, rfl⟩
  have hk5 : kk < 5 := by rw [hkk]; exact wiN_lt x 5 (by decide)
  obtain ⟨d0, hd0⟩ : ∃ d0 : Int, d0 = (kk : Int) := ⟨_, rfl⟩
  have hd5 : 0 ≤ d0 ∧ d0 < 5 := by omega
  have HWI := Lib.hid (fun (y : World) => wiN_c x 5 y (by decide) (by decide))
  rw [← hkk, ← hd0] at HWI
  clear hd0 hkk hk5
  obtain ⟨B9, hB9⟩ : ∃ B, B = w.heap.size := ⟨_, rfl⟩
  obtain ⟨W0, hW0⟩ : ∃ W0, W0 = w.alloc (.cells #[.int .i64 pt, .int .i64 pn] 39) := ⟨_, rfl⟩
  have HP9 := Lib.hid (show W0.heap[B9]? = some (Obj.cells #[.int .i64 pt, .int .i64 pn] 39 (0, 0)) by rw [hW0]; exact alloc_new _ _ _ _ hB9)
  have HW0 := Lib.hid hW0
  have HB9 := Lib.hid hB9
  have hb := Lib.hid (show Below w.heap.size w W0 by rw [hW0]; exact bal _)
  clear hW0 hB9
  have LW := Lib.hid (Lw.refl w)
  replace LW := Lib.hid (LW.out.below hb.out)
  clear hb
  go_enter Tryz.func6, Tryz.ntmps6
  go_wp2_with fail
  rw [← HW0.out, ← HB9.out]
  clear HW0 HB9
  (with_reducible refine (siteBegun_c W0).mono ?_)
  rintro e w1 ⟨rfl, hb⟩
  replace HP9 := Lib.hid (below_keep hb HP9.out)
  replace LW := Lib.hid (LW.out.below hb)
  clear hb
  go_wp2_with fail
  (with_reducible refine (HWI.out w1).mono ?_)
  rintro e w2 ⟨rfl, hb⟩
  replace HP9 := Lib.hid (below_keep hb HP9.out)
  replace LW := Lib.hid (LW.out.below hb)
  clear hb HWI
  have HNI := Lib.hid (show BxsAt w2 (.slice none 0 0) [] from ⟨[], rfl, CellsAt.nil _, fun i h => by simp at h⟩)
  have HNC := Lib.hid (show fChk [] = 0 by decide)
  have HD5 := Lib.hid hd5
  clear hd5
  go_wp2_with fail
  (with_reducible refine (snew_c d0 _ [] w2 HD5.out HNI.out HNC.out).mono ?_)
  rintro e w3 ⟨g, rfl, hsc, hb⟩
  have HS0 := Lib.hid LW.out.size
  have HLP := Lib.hid (show B9 < g from Nat.lt_of_lt_of_le (hlt_of HP9.out) hsc.ge)
  have SA := Lib.hid (SiteAt.mono hsc (Nat.zero_le _))
  have GEga := Lib.hid (Nat.le_trans HS0.out hsc.ge)
  clear hsc HS0
  replace HP9 := Lib.hid (below_keep hb HP9.out)
  replace LW := Lib.hid (LW.out.below hb)
  clear hb HNI HNC
  have HM0 := Lib.hid (Grow.refl (made_new [] d0 (ptsOf []) Hx.nil (by simp)))
  have HGL := Lib.hid SA.out.lt
  have HLR := Lib.hid (fun w' (hs : Stp (fun q => q = g) w3 w') => HL.out.sub (LW.out.one hs GEga.out).sub)
  go_wp2
  go_loopw [9, 36] (fun o i wr => ∃ k : Nat, k ≤ n ∧ i = .int .i64 k ∧ ∃ U' s', o = .int .i64 s'.made ∧ Grow [] (newS d0 (ptsOf [])) U' s' k ∧ SiteAt wr 0 g s' ∧ Stp (fun q => q = g) w3 wr) (fun _ i _ => n - (intOf i).toNat)
  case atStart => exact ⟨0, Nat.zero_le _, rfl, [], _, rfl, HM0.out, SA.out, Stp.refl _ _⟩
  case round =>
    obtain ⟨k, hk, rfl, U', s', rfl, hgr, hsa, hst⟩ := hrel
    by_cases hlt : k < n
    rotate_left
    · obtain rfl : k = n := by omega
      have hkb : decide ((k : Int) < (k : Int)) = false := by simp
      have HST := Lib.hid hst
      have HS1 := Lib.hid hsa
      have HMK := Lib.hid (show s'.me = d0 from hgr.me)
      have HSE := Lib.hid (show s'.S = [] from hgr.S)
      have hmd0 := hsa.ok.made.1
      have hmdk := hgr.len.2.2
      have hmdz : (newS d0 (ptsOf [])).made = 0 := rfl
      have hmd15 : s'.made ≤ 15 := by omega
      have HBP := Lib.hid (hst.block HP9.out (by have := HLP.out; omega))
      have HLW := Lib.hid (LW.out.one hst GEga.out)
      clear hmdk hmdz hgr hst hsa
      have k0 := cell_of_block (j := 0) HBP.out rfl
      have k1 := cell_of_block (j := 1) HBP.out rfl
      go_wp2_with fail
      (with_reducible refine (point_c pt pn wr).mono ?_)
      rintro e wt ⟨rfl, hb⟩
      have HBT := Lib.hid (below_keep hb HBP.out)
      have HLT := Lib.hid (HLW.out.below hb)
      have HST := Lib.hid (HS1.out.below hb)
      clear hb k0 k1 HBP HLW HS1
      cases hpt : ptOk pt pn
      · have HB := Lib.hid HLT.out.toBelow
        go_wp2
        go_ret
        exact ⟨rfl, HB.out⟩
      have HPT := Lib.hid hpt
      clear hpt
      have HB := Lib.hid HLT.out.toBelow
      generalize hdd : s'.made = d at *
      have HDD := Lib.hid hdd
      clear hdd
      go_wp2
      go_loopw [16] (fun i wr => ∃ c : Int, i = .int .i64 c ∧ 1 ≤ c ∧ c ≤ d + 2 ∧ Below wt.heap.size wt wr) (fun i _ => (d + 2 - intOf i).toNat)
      case atStart => exact ⟨1, rfl, by omega, by omega, Below.refl _ _⟩
      case round =>
        obtain ⟨c, rfl, hc1, hc2, hbl⟩ := hrel
        by_cases hlt2 : c ≤ d + 1
        rotate_left
        · have hcb : decide (c ≤ d + 1) = false := decide_eq_false hlt2
          have HB2 := Lib.hid (bstep HB.out hbl)
          go_wp2
          go_ret
          exact ⟨rfl, HB2.out⟩
        have hcb : decide (c ≤ d + 1) = true := decide_eq_true hlt2
        have HSv := Lib.hid (HST.out.below hbl)
        have HPv := Lib.hid (below_keep hbl HBT.out)
        have HBv := Lib.hid hbl
        have hkl := HSv.out.ok.klen
        have HPH := Lib.hid (show ∀ (wx : World) (y : Value), PtsOwnA wx 0 y (knownS s') → Calls Tryz.prog 54 #[y, .agg #[.int .i64 pt, .int .i64 pn], .agg #[.int .i64 d0, .int .i64 c]] wx fun e w' => e = .returned (.tuple #[.bool (decide (c ≤ d)), .int .i64 0]) ∧ Below wx.heap.size wx w' from fun wx y ho => by
          have h := phas_s y (knownS s') pt pn d0 c wx (ho.sem (by omega)) hkl
          have e2 := dots_has HSv.out.ok HSE.out HPT.out hc1 (show c ≤ 1000 by omega)
          rw [HMK.out, HDD.out] at e2
          rw [e2.1, e2.2] at h
          exact h)
        have HK0 := Lib.hid (cell_of_block (j := 0) HPv.out rfl : wr.cell? ⟨B9, 0, none⟩ = some (.int .i64 pt))
        have HK1 := Lib.hid (cell_of_block (j := 1) HPv.out rfl : wr.cell? ⟨B9, 1, none⟩ = some (.int .i64 pn))
        clear hbl hkl
        go_wp2
        refine Cl.region0 110 rfl [] (fun _ => True) (fun _ => []) (fun jq v ww => match jq with | 0 => v = .pointer (some ⟨g, 0, none⟩) | 1 => POw ww (knownS s') v | 2 => v = .agg #[.int .i64 pt, .int .i64 pn] | 3 => v = .int .i64 d0 | 4 => v = .int .i64 c | 5 => v = .agg #[.int .i64 d0, .int .i64 c] | 6 => v = .tuple #[.bool (decide (c ≤ d)), .int .i64 0] | 7 => v = .tuple #[.bool (decide (c ≤ d)), .int .i64 0] | 8 => v = .bool (decide (c ≤ d)) | 9 => v = .int .i64 0 | 10 => v = .bool (decide (c ≤ d)) | 11 => v = .int .i64 0 | _ => True) (fun ww => Below wr.heap.size wr ww) (fun jq ww ww' => Below ww.heap.size ww ww') Tryz.mixed (by decide +kernel) (Below.refl _ _).drew trivial ?_ (fun _ _ _ _ _ _ => trivial) ?_ ?_
        · intro q r v w w' hne hk hlt h hR
          match r, hk, hlt, h, hne with
          | 0, _, _, h, _ => exact h
          | 1, _, _, h, _ => exact h.below hR
          | 2, _, _, h, _ => exact h
          | 3, _, _, h, _ => exact h
          | 4, _, _, h, _ => exact h
          | 5, _, _, h, _ => exact h
          | 6, _, _, h, _ => exact h
          | 7, _, _, h, _ => exact h
          | 8, _, _, h, _ => exact h
          | 9, _, _, h, _ => exact h
          | 10, _, _, h, _ => exact h
          | 11, _, _, h, _ => exact h
          | _ + 12, _, _, _, _ => trivial
        · refine ⟨?_, ?_, ?_, ?_, ?_, ?_, ?_, ?_, ?_, ?_, ?_, ?_, trivial⟩
          · intro x wx hG
            have f7 := hG.old 7 (by decide +kernel)
            have hg := hG.good
            clear hG
            go_wp2
            exact ⟨_, rfl, rfl, hg, Below.refl _ _⟩
          · intro x wx hG
            have g0 : (x.tmps.getD 92 undef) = .pointer (some ⟨g, 0, none⟩) := hG.claims 0 _ rfl (by decide +kernel) (by decide +kernel)
            have g0b := g0
            rw [Array.getD_eq_getD_getElem?] at g0b
            have hg := hG.good
            clear hG
            have HN9 := Lib.hid (parts_c g _ _ wx (HSv.out.below hg))
            go_wp2_with fail
            (with_reducible refine (HN9.out).mono ?_)
            rintro e wq ⟨y9, rfl, hv, hb⟩
            obtain ⟨ya9, yc9, hyv⟩ := hv.shape
            subst hyv
            have HV9 := Lib.hid (PtsOwnA.mono hv (Nat.zero_le _))
            have HBB := Lib.hid hb
            clear hb hv HN9
            go_wp2
            exact ⟨_, rfl, ⟨_, _, _, rfl, HV9.out⟩, bstep hg HBB.out, HBB.out⟩
          · intro x wx hG
            have f5 := hG.old 5 (by decide +kernel)
            have hg := hG.good
            clear hG
            have c_HK0 := ckeep hg HK0.out
            have c_HK1 := ckeep hg HK1.out
            go_wp2
            exact ⟨_, rfl, rfl, hg, Below.refl _ _⟩
          · intro x wx hG
            have f0 := hG.old 0 (by decide +kernel)
            have hg := hG.good
            clear hG
            go_wp2
            exact ⟨_, rfl, rfl, hg, Below.refl _ _⟩
          · intro x wx hG
            have f16 := hG.old 16 (by decide +kernel)
            have hg := hG.good
            clear hG
            go_wp2
            exact ⟨_, rfl, rfl, hg, Below.refl _ _⟩
          · intro x wx hG
            have g3 : (x.tmps.getD 95 undef) = .int .i64 d0 := hG.claims 3 _ rfl (by decide +kernel) (by decide +kernel)
            have g3b := g3
            rw [Array.getD_eq_getD_getElem?] at g3b
            have g4 : (x.tmps.getD 96 undef) = .int .i64 c := hG.claims 4 _ rfl (by decide +kernel) (by decide +kernel)
            have g4b := g4
            rw [Array.getD_eq_getD_getElem?] at g4b
            have hg := hG.good
            clear hG
            go_wp2
            exact ⟨_, rfl, rfl, hg, Below.refl _ _⟩
          · intro x wx hG
            have g1 : POw wx (knownS s') (x.tmps.getD 93 undef) := hG.claims 1 _ rfl (by decide +kernel) (by decide +kernel)
            have g2 : (x.tmps.getD 94 undef) = .agg #[.int .i64 pt, .int .i64 pn] := hG.claims 2 _ rfl (by decide +kernel) (by decide +kernel)
            have g2b := g2
            rw [Array.getD_eq_getD_getElem?] at g2b
            have g5 : (x.tmps.getD 97 undef) = .agg #[.int .i64 d0, .int .i64 c] := hG.claims 5 _ rfl (by decide +kernel) (by decide +kernel)
            have g5b := g5
            rw [Array.getD_eq_getD_getElem?] at g5b
            have hg := hG.good
            clear hG
            obtain ⟨ya9, yn9, yc9, hv, ho⟩ := g1
            have hvb := hv
            rw [Array.getD_eq_getD_getElem?] at hvb
            have HN9 := Lib.hid (HPH.out wx _ ho)
            clear ho
            go_wp2_with fail
            (with_reducible refine (HN9.out).mono ?_)
            rintro e wq ⟨rfl, hb⟩
            have HBB := Lib.hid hb
            clear hb HN9
            go_wp2
            exact ⟨_, rfl, rfl, bstep hg HBB.out, HBB.out⟩
          · intro x wx hG
            have g6 : (x.tmps.getD 98 undef) = .tuple #[.bool (decide (c ≤ d)), .int .i64 0] := hG.claims 6 _ rfl (by decide +kernel) (by decide +kernel)
            have g6b := g6
            rw [Array.getD_eq_getD_getElem?] at g6b
            have hg := hG.good
            clear hG
            go_wp2
            exact ⟨_, rfl, rfl, hg, Below.refl _ _⟩
          · intro x wx hG
            have g7 : (x.tmps.getD 91 undef) = .tuple #[.bool (decide (c ≤ d)), .int .i64 0] := hG.claims 7 _ rfl (by decide +kernel) (by decide +kernel)
            have g7b := g7
            rw [Array.getD_eq_getD_getElem?] at g7b
            have hg := hG.good
            clear hG
            go_wp2
            exact ⟨_, rfl, rfl, hg, Below.refl _ _⟩
          · intro x wx hG
            have g7 : (x.tmps.getD 91 undef) = .tuple #[.bool (decide (c ≤ d)), .int .i64 0] := hG.claims 7 _ rfl (by decide +kernel) (by decide +kernel)
            have g7b := g7
            rw [Array.getD_eq_getD_getElem?] at g7b
            have hg := hG.good
            clear hG
            go_wp2
            exact ⟨_, rfl, rfl, hg, Below.refl _ _⟩
          · intro x wx hG
            have g8 : (x.tmps.getD 99 undef) = .bool (decide (c ≤ d)) := hG.claims 8 _ rfl (by decide +kernel) (by decide +kernel)
            have g8b := g8
            rw [Array.getD_eq_getD_getElem?] at g8b
            have hg := hG.good
            clear hG
            go_wp2
            exact ⟨_, rfl, rfl, hg, Below.refl _ _⟩
          · intro x wx hG
            have g9 : (x.tmps.getD 100 undef) = .int .i64 0 := hG.claims 9 _ rfl (by decide +kernel) (by decide +kernel)
            have g9b := g9
            rw [Array.getD_eq_getD_getElem?] at g9b
            have hg := hG.good
            clear hG
            go_wp2
            exact ⟨_, rfl, rfl, hg, Below.refl _ _⟩
        · intro vals wR hg hF
          obtain ⟨g0, g1, g2, g3, g4, g5, g6, g7, g8, g9, g10, g11, -⟩ := hF
          have e0 : vals 0 = .pointer (some ⟨g, 0, none⟩) := g0 rfl
          have e2 : vals 2 = .agg #[.int .i64 pt, .int .i64 pn] := g2 rfl
          have e3 : vals 3 = .int .i64 d0 := g3 rfl
          have e4 : vals 4 = .int .i64 c := g4 rfl
          have e5 : vals 5 = .agg #[.int .i64 d0, .int .i64 c] := g5 rfl
          have e6 : vals 6 = .tuple #[.bool (decide (c ≤ d)), .int .i64 0] := g6 rfl
          have e7 : vals 7 = .tuple #[.bool (decide (c ≤ d)), .int .i64 0] := g7 rfl
          have e8 : vals 8 = .bool (decide (c ≤ d)) := g8 rfl
          have e9 : vals 9 = .int .i64 0 := g9 rfl
          have e10 : vals 10 = .bool (decide (c ≤ d)) := g10 rfl
          have e11 : vals 11 = .int .i64 0 := g11 rfl
          simp only [Cl.puts, e0, e2, e3, e4, e5, e6, e7, e8, e9, e10, e11]
          clear e0 e2 e3 e4 e5 e6 e7 e8 e9 e10 e11 g0 g1 g2 g3 g4 g5 g6 g7 g8 g9 g10 g11
          go_simp
          have HBE := Lib.hid (bstep HBv.out hg)
          clear hg HK0 HK1 HPH
          generalize vals 93 = j93 at *
          go_wp2
          go_roundw
          case rel => exact ⟨c + 1, by go_num, by omega, by omega, HBE.out⟩
          case measure => simp [intOf] <;> omega
    have hkb : decide ((k : Int) < (n : Int)) = true := by simp; omega
    have HLr := Lib.hid (HLR.out wr hst)
    obtain ⟨a', cap', ha', -, -, -, hvl2⟩ := HLr.out.open_
    simp only [Value.slice.injEq] at ha'
    obtain ⟨hla, -, hlc⟩ := ha'
    have hltk : k < (l.take n).length := by rw [List.length_take]; omega
    rcases hvl2 with hnil | ⟨b7, off, ha7, hb, hc⟩
    · rw [hnil] at hltk; simp at hltk
    rw [ha7] at hla
    subst hla
    obtain ⟨c, ⟨u, rfl, hu⟩, hcc⟩ := hc k hltk
    have c1 : wr.cell? ⟨b7, off + k, none⟩ = some u := by have := hcc 0 u rfl; simpa [vecE] using this
    generalize (l.take n)[k] = cs at *
    have HSA := Lib.hid hsa
    have HGR := Lib.hid hgr
    have HST := Lib.hid hst
    obtain ⟨ua, uc, hus⟩ := hu.shape
    subst hus
    have HU := Lib.hid hu
    have hmd0 := hsa.ok.made.1
    have hmdk := hgr.len.2.2
    have hmdz : (newS d0 (ptsOf [])).made = 0 := rfl
    have hmd15 : s'.made ≤ 14 := by omega
    clear hc hcc hsa hgr hst hu HLr ha7 hlc hmdk hmdz
    by_cases h3 : cs.length < 3
    · have hd : decide ((cs.length : Int) < 3) = true := by simp; omega
      go_wp2
      go_roundw
      case rel => exact ⟨k + 1, by omega, by go_num, U', s', rfl, HGR.out.up (by omega), HSA.out, HST.out⟩
      case measure => simp [intOf] <;> omega
    have hd : decide ((cs.length : Int) < 3) = false := by simp; omega
    obtain ⟨cb, coff, cc, hcs, hcb, x0, x1, x2, q0, q1, q2, -⟩ := three_ints HU.out (by omega)
    simp only [Value.slice.injEq, true_and] at hcs
    obtain ⟨rfl, rfl⟩ := hcs
    obtain ⟨k0, hk0⟩ : ∃ k0, k0 = wiN x0 3 := ⟨_, rfl⟩
    obtain ⟨k1, hk1⟩ : ∃ k1, k1 = wiN x1 16 := ⟨_, rfl⟩
    have hk04 : k0 < 3 := by rw [hk0]; exact wiN_lt x0 3 (by decide)
    have hk116 : k1 < 16 := by rw [hk1]; exact wiN_lt x1 16 (by decide)
    have HW0 := Lib.hid (fun (y : World) => wiN_c x0 3 y (by decide) (by decide))
    have HW1 := Lib.hid (fun (y : World) => wiN_c x1 16 y (by decide) (by decide))
    rw [← hk0] at HW0
    rw [← hk1] at HW1
    have HK0 := Lib.hid hk04
    have HNM := Lib.hid (names3 hk04)
    have HX0 := Lib.hid q0
    have HX1 := Lib.hid q1
    have hgl := HGR.out.len
    have hbz : madeB (k1 : Int) 0 1 = false := madeB_ok (n := 0) (bd := 1) hk116 (by decide) (by decide)
    obtain ⟨hez, hstep⟩ := HGR.out.step HSA.out.ok (by simp at hgl; omega) (by omega) (sidA_ok k0) hbz
    obtain ⟨d, hdd⟩ : ∃ d, d = s'.made := ⟨_, rfl⟩
    obtain ⟨s9, hs9⟩ : ∃ s9, s9 = madeS s' (sidA k0) k1 0 1 := ⟨_, rfl⟩
    have hme9 : s'.me = d0 := HGR.out.me
    have hmd9 : s9.made = d + 1 := by rw [hs9, hdd]; unfold madeS; rw [if_pos hez]
    have HMK := Lib.hid (fun (wx : World) (hx : SiteAt wx 0 g s') => show Calls Tryz.prog 31 #[.pointer (some ⟨g, 0, none⟩), .string (sidA k0), .agg #[.int .i64 (k1 : Nat), .int .i64 0], .int .i64 1] wx fun e w' => e = .returned (.tuple #[.agg #[.int .i64 d0, .int .i64 (d + 1)], .int .i64 0]) ∧ SiteAt w' 0 g s9 ∧ Stp (fun q => q = g) wx w' from
      (smake_c g 0 s' (sidA k0) k1 0 1 wx hx).mono fun e w' hh => by
        obtain ⟨h1, h2, h3⟩ := hh
        rw [if_pos hez, if_pos hez, hez, ← hdd, hme9] at h1
        rw [← hs9] at h2
        exact ⟨h1, h2, h3⟩)
    rw [← hs9] at hstep
    have HSTEP := Lib.hid hstep
    have HS := Lib.hid HSA.out
    have HLT := Lib.hid HSA.out.lt
    have HMD9 := Lib.hid hmd9
    rw [← hdd] at hmd0 hmd15 ⊢
    clear hez hstep hs9 hk0 hk1 q0 q1 q2 hk04 hk116 hgl HSA HGR HU hbz hdd hme9 hmd9
    go_wp2_with fail
    generalize hd1 : d + 1 = d1 at *
    refine Cl2.region0 110 rfl [13, 18] (fun w => Below wr.heap.size wr w) (fun jq => match jq with | 1 => [13, 18] | 6 => [13, 18] | 17 => [18] | _ => []) (fun jq v ww => match jq with | 0 => v = .pointer (some ⟨g, 0, none⟩) | 1 => StrRow ww wr.heap.size 3 #[.string { data := #[97] }, .string { data := #[98] }, .string { data := #[99] }] v | 2 => v = .slice (some ⟨cb, coff, none⟩) cs.length uc | 3 => v = .pointer (some ⟨cb, coff, none⟩) | 4 => v = .int .i64 x0 | 5 => v = .int .i64 (k0 : Nat) | 6 => StrPt ww wr.heap.size k0 #[.string { data := #[97] }, .string { data := #[98] }, .string { data := #[99] }] v | 7 => v = .string (sidA k0) | 8 => v = .slice (some ⟨cb, coff, none⟩) cs.length uc | 9 => v = .pointer (some ⟨cb, coff + 1, none⟩) | 10 => v = .int .i64 x1 | 11 => v = .int .i64 (k1 : Nat) | 12 => v = .agg #[.int .i64 (k1 : Nat), .int .i64 0] | 13 => SiteAt ww 0 g s9 ∧ v = .tuple #[.agg #[.int .i64 d0, .int .i64 d1], .int .i64 0] | 14 => v = .tuple #[.agg #[.int .i64 d0, .int .i64 d1], .int .i64 0] | 15 => v = .agg #[.int .i64 d0, .int .i64 d1] | 16 => v = .int .i64 0 | 17 => DotNew ww wr.heap.size v | 18 => DotIs ww wr.heap.size d0 d1 v | 19 => v = .int .i64 0 | _ => True) (fun ww => Stp (fun qq => qq = g) wr ww) (fun jq ww ww' => (jq ≠ 13 → jq ≠ 18 → Below ww.heap.size ww ww') ∧ (jq = 13 → Stp (fun qq => qq = g) ww ww') ∧ (jq = 18 → DotSet wr.heap.size ww ww')) Tryz.mixed (by decide +kernel) (Stp.refl _ _).drew ((Below.refl _ _).drew) ?_ (fun q w w' hk h hR => bstep h (hR.1 (by intro e; subst e; exact absurd hk (by decide)) (by intro e; subst e; exact absurd hk (by decide)))) ?_ ?_
    · intro q r v w w' hne hk hlt h hR
      match r, hk, hlt, h, hne with
      | 0, _, _, h, _ => exact h
      | 1, hk, hlt, h, hne =>
        exact h.below (hR.1 (by intro e; subst e; first | exact absurd hlt (by decide +kernel) | exact absurd rfl hne | simp at hk) (by intro e; subst e; first | exact absurd hlt (by decide +kernel) | exact absurd rfl hne | simp at hk))
      | 2, _, _, h, _ => exact h
      | 3, _, _, h, _ => exact h
      | 4, _, _, h, _ => exact h
      | 5, _, _, h, _ => exact h
      | 6, hk, hlt, h, hne =>
        exact h.below (hR.1 (by intro e; subst e; first | exact absurd hlt (by decide +kernel) | exact absurd rfl hne | simp at hk) (by intro e; subst e; first | exact absurd hlt (by decide +kernel) | exact absurd rfl hne | simp at hk))
      | 7, _, _, h, _ => exact h
      | 8, _, _, h, _ => exact h
      | 9, _, _, h, _ => exact h
      | 10, _, _, h, _ => exact h
      | 11, _, _, h, _ => exact h
      | 12, _, _, h, _ => exact h
      | 13, hk, hlt, h, hne =>
        by_cases e : q = 18
        · exact ⟨h.1.dot (hR.2.2 e) (by exact HLT.out), h.2⟩
        · exact ⟨h.1.below (hR.1 (by exact hne) e), h.2⟩
      | 14, _, _, h, _ => exact h
      | 15, _, _, h, _ => exact h
      | 16, _, _, h, _ => exact h
      | 17, hk, hlt, h, hne =>
        by_cases e : q = 13
        · exact h.stp (hR.2.1 e) (by exact HLT.out)
        · exact h.below (hR.1 e (by simpa using hk))
      | 18, hk, hlt, h, hne =>
        exact h.below (hR.1 (by intro e; subst e; first | exact absurd hlt (by decide +kernel) | exact absurd rfl hne | simp at hk) (by intro e; subst e; first | exact absurd hlt (by decide +kernel) | exact absurd rfl hne | simp at hk))
      | 19, _, _, h, _ => exact h
      | _ + 20, _, _, _, _ => trivial
    · refine ⟨?_, ?_, ?_, ?_, ?_, ?_, ?_, ?_, ?_, ?_, ?_, ?_, ?_, ?_, ?_, ?_, ?_, ?_, ?_, ?_, trivial⟩
      · intro x wx hG
        have f7 := hG.old 7 (by decide +kernel)
        have hg := hG.good
        clear hG
        go_wp2
        exact ⟨_, rfl, rfl, hg, ⟨fun _ _ => Below.refl _ _, fun h => absurd h (by decide), fun h => absurd h (by decide)⟩⟩
      · intro x wx hG
        have hp := hG.pre (by decide +kernel)
        have hg := hG.good
        clear hG
        go_wp2
        exact ⟨_, rfl, ⟨_, rfl, alloc_new _ _ _ _ rfl, hp.size⟩, hg.below (bal _), ⟨fun _ _ => bal _, fun h => absurd h (by decide), fun h => absurd h (by decide)⟩⟩
      · intro x wx hG
        have f11 := hG.old 11 (by decide +kernel)
        have hg := hG.good
        clear hG
        go_wp2
        exact ⟨_, rfl, rfl, hg, ⟨fun _ _ => Below.refl _ _, fun h => absurd h (by decide), fun h => absurd h (by decide)⟩⟩
      · intro x wx hG
        have g2 : (x.tmps.getD 48 undef) = .slice (some ⟨cb, coff, none⟩) cs.length uc := hG.claims 2 _ rfl (by decide +kernel) (by decide +kernel)
        have g2b := g2
        rw [Array.getD_eq_getD_getElem?] at g2b
        have hg := hG.good
        clear hG
        go_wp2
        exact ⟨_, rfl, rfl, hg, ⟨fun _ _ => Below.refl _ _, fun h => absurd h (by decide), fun h => absurd h (by decide)⟩⟩
      · intro x wx hG
        have g3 : (x.tmps.getD 49 undef) = .pointer (some ⟨cb, coff, none⟩) := hG.claims 3 _ rfl (by decide +kernel) (by decide +kernel)
        have g3b := g3
        rw [Array.getD_eq_getD_getElem?] at g3b
        have hp := hG.pre (by decide +kernel)
        have hg := hG.good
        clear hG
        have c_HX0 := ckeep hp HX0.out
        go_wp2
        exact ⟨_, rfl, rfl, hg, ⟨fun _ _ => Below.refl _ _, fun h => absurd h (by decide), fun h => absurd h (by decide)⟩⟩
      · intro x wx hG
        have g4 : (x.tmps.getD 50 undef) = .int .i64 x0 := hG.claims 4 _ rfl (by decide +kernel) (by decide +kernel)
        have g4b := g4
        rw [Array.getD_eq_getD_getElem?] at g4b
        have hg := hG.good
        clear hG
        go_wp2_with fail
        (with_reducible refine (HW0.out wx).mono ?_)
        rintro e wq ⟨rfl, hb⟩
        have HBB := Lib.hid hb
        clear hb
        go_wp2
        exact ⟨_, rfl, rfl, hg.below HBB.out, ⟨fun _ _ => HBB.out, fun h => absurd h (by decide), fun h => absurd h (by decide)⟩⟩
      · intro x wx hG
        have g1 : StrRow wx wr.heap.size 3 #[.string { data := #[97] }, .string { data := #[98] }, .string { data := #[99] }] (x.tmps.getD 47 undef) := hG.claims 1 _ rfl (by decide +kernel) (by decide +kernel)
        have g5 : (x.tmps.getD 51 undef) = .int .i64 (k0 : Nat) := hG.claims 5 _ rfl (by decide +kernel) (by decide +kernel)
        have g5b := g5
        rw [Array.getD_eq_getD_getElem?] at g5b
        have hg := hG.good
        clear hG
        obtain ⟨q, hv, hq, hlo⟩ := g1
        have hvb := hv
        rw [Array.getD_eq_getD_getElem?] at hvb
        have hk0 := HK0.out
        have hk1 : (k0 : Int) < 3 := by omega
        have HQ := Lib.hid (And.intro hq hlo)
        clear hq hlo
        go_wp2
        exact ⟨_, rfl, ⟨q, by simp, HQ.out.1, HQ.out.2⟩, hg, ⟨fun _ _ => Below.refl _ _, fun h => absurd h (by decide), fun h => absurd h (by decide)⟩⟩
      · intro x wx hG
        have g6 : StrPt wx wr.heap.size k0 #[.string { data := #[97] }, .string { data := #[98] }, .string { data := #[99] }] (x.tmps.getD 52 undef) := hG.claims 6 _ rfl (by decide +kernel) (by decide +kernel)
        have hg := hG.good
        clear hG
        obtain ⟨q, hv, hq, hlo⟩ := g6
        have hvb := hv
        rw [Array.getD_eq_getD_getElem?] at hvb
        have hcq := cell_of_block (j := k0) hq HNM.out
        clear hq hlo
        go_wp2
        exact ⟨_, rfl, rfl, hg, ⟨fun _ _ => Below.refl _ _, fun h => absurd h (by decide), fun h => absurd h (by decide)⟩⟩
      · intro x wx hG
        have f11 := hG.old 11 (by decide +kernel)
        have hg := hG.good
        clear hG
        go_wp2
        exact ⟨_, rfl, rfl, hg, ⟨fun _ _ => Below.refl _ _, fun h => absurd h (by decide), fun h => absurd h (by decide)⟩⟩
      · intro x wx hG
        have g8 : (x.tmps.getD 54 undef) = .slice (some ⟨cb, coff, none⟩) cs.length uc := hG.claims 8 _ rfl (by decide +kernel) (by decide +kernel)
        have g8b := g8
        rw [Array.getD_eq_getD_getElem?] at g8b
        have hg := hG.good
        clear hG
        go_wp2
        exact ⟨_, rfl, rfl, hg, ⟨fun _ _ => Below.refl _ _, fun h => absurd h (by decide), fun h => absurd h (by decide)⟩⟩
      · intro x wx hG
        have g9 : (x.tmps.getD 55 undef) = .pointer (some ⟨cb, coff + 1, none⟩) := hG.claims 9 _ rfl (by decide +kernel) (by decide +kernel)
        have g9b := g9
        rw [Array.getD_eq_getD_getElem?] at g9b
        have hp := hG.pre (by decide +kernel)
        have hg := hG.good
        clear hG
        have c_HX1 := ckeep hp HX1.out
        go_wp2
        exact ⟨_, rfl, rfl, hg, ⟨fun _ _ => Below.refl _ _, fun h => absurd h (by decide), fun h => absurd h (by decide)⟩⟩
      · intro x wx hG
        have g10 : (x.tmps.getD 56 undef) = .int .i64 x1 := hG.claims 10 _ rfl (by decide +kernel) (by decide +kernel)
        have g10b := g10
        rw [Array.getD_eq_getD_getElem?] at g10b
        have hg := hG.good
        clear hG
        go_wp2_with fail
        (with_reducible refine (HW1.out wx).mono ?_)
        rintro e wq ⟨rfl, hb⟩
        have HBB := Lib.hid hb
        clear hb
        go_wp2
        exact ⟨_, rfl, rfl, hg.below HBB.out, ⟨fun _ _ => HBB.out, fun h => absurd h (by decide), fun h => absurd h (by decide)⟩⟩
      · intro x wx hG
        have g11 : (x.tmps.getD 57 undef) = .int .i64 (k1 : Nat) := hG.claims 11 _ rfl (by decide +kernel) (by decide +kernel)
        have g11b := g11
        rw [Array.getD_eq_getD_getElem?] at g11b
        have hg := hG.good
        clear hG
        go_wp2
        exact ⟨_, rfl, rfl, hg, ⟨fun _ _ => Below.refl _ _, fun h => absurd h (by decide), fun h => absurd h (by decide)⟩⟩
      · intro x wx hG
        have g0 : (x.tmps.getD 46 undef) = .pointer (some ⟨g, 0, none⟩) := hG.claims 0 _ rfl (by decide +kernel) (by decide +kernel)
        have g0b := g0
        rw [Array.getD_eq_getD_getElem?] at g0b
        have g7 : (x.tmps.getD 53 undef) = .string (sidA k0) := hG.claims 7 _ rfl (by decide +kernel) (by decide +kernel)
        have g7b := g7
        rw [Array.getD_eq_getD_getElem?] at g7b
        have g12 : (x.tmps.getD 58 undef) = .agg #[.int .i64 (k1 : Nat), .int .i64 0] := hG.claims 12 _ rfl (by decide +kernel) (by decide +kernel)
        have g12b := g12
        rw [Array.getD_eq_getD_getElem?] at g12b
        have hp := hG.pre (by decide +kernel)
        have hg := hG.good
        clear hG
        have HN := Lib.hid (HMK.out wx (HS.out.below hp))
        go_wp2_with fail
        (with_reducible refine (HN.out).mono ?_)
        rintro e wq ⟨rfl, h1, h2⟩
        have H1 := Lib.hid h1
        have H2 := Lib.hid h2
        clear h1 h2 HN
        go_wp2
        exact ⟨_, rfl, ⟨H1.out, rfl⟩, hg.trans H2.out, ⟨fun h _ => absurd rfl h, fun _ => H2.out, fun h => absurd h (by decide)⟩⟩
      · intro x wx hG
        have g13 : SiteAt wx 0 g s9 ∧ (x.tmps.getD 59 undef) = .tuple #[.agg #[.int .i64 d0, .int .i64 d1], .int .i64 0] := hG.claims 13 _ rfl (by decide +kernel) (by decide +kernel)
        have hg := hG.good
        clear hG
        have g13v := g13.2
        have g13vb := g13v
        rw [Array.getD_eq_getD_getElem?] at g13vb
        go_wp2
        exact ⟨_, rfl, rfl, hg, ⟨fun _ _ => Below.refl _ _, fun h => absurd h (by decide), fun h => absurd h (by decide)⟩⟩
      · intro x wx hG
        have g14 : (x.tmps.getD 45 undef) = .tuple #[.agg #[.int .i64 d0, .int .i64 d1], .int .i64 0] := hG.claims 14 _ rfl (by decide +kernel) (by decide +kernel)
        have g14b := g14
        rw [Array.getD_eq_getD_getElem?] at g14b
        have hg := hG.good
        clear hG
        go_wp2
        exact ⟨_, rfl, rfl, hg, ⟨fun _ _ => Below.refl _ _, fun h => absurd h (by decide), fun h => absurd h (by decide)⟩⟩
      · intro x wx hG
        have g14 : (x.tmps.getD 45 undef) = .tuple #[.agg #[.int .i64 d0, .int .i64 d1], .int .i64 0] := hG.claims 14 _ rfl (by decide +kernel) (by decide +kernel)
        have g14b := g14
        rw [Array.getD_eq_getD_getElem?] at g14b
        have hg := hG.good
        clear hG
        go_wp2
        exact ⟨_, rfl, rfl, hg, ⟨fun _ _ => Below.refl _ _, fun h => absurd h (by decide), fun h => absurd h (by decide)⟩⟩
      · intro x wx hG
        have hg := hG.good
        clear hG
        go_wp2
        exact ⟨_, rfl, ⟨_, rfl, alloc_new _ _ _ _ rfl, hg.size⟩, hg.below (bal _), ⟨fun _ _ => bal _, fun h => absurd h (by decide), fun h => absurd h (by decide)⟩⟩
      · intro x wx hG
        have g17 : DotNew wx wr.heap.size (x.tmps.getD 12 undef) := hG.claims 17 _ rfl (by decide +kernel) (by decide +kernel)
        have g15 : (x.tmps.getD 60 undef) = .agg #[.int .i64 d0, .int .i64 d1] := hG.claims 15 _ rfl (by decide +kernel) (by decide +kernel)
        have g15b := g15
        rw [Array.getD_eq_getD_getElem?] at g15b
        have hg := hG.good
        clear hG
        obtain ⟨q, hv, hq, hlo⟩ := g17
        have HV := Lib.hid hv
        have hvb := hv
        rw [Array.getD_eq_getD_getElem?] at hvb
        have gxb := g15
        rw [Array.getD_eq_getD_getElem?] at gxb
        have r0 := cell_of_block (j := 0) hq rfl
        have r1 := cell_of_block (j := 1) hq rfl
        have q0 := free_of_block (j := 0) hq
        have q1 := free_of_block (j := 1) hq
        have hRl := hlt_of hq
        have HQ := Lib.hid hq
        have HLO := Lib.hid hlo
        clear hq hlo
        go_wp2
        exact ⟨undef, rfl, ⟨q, Eq.trans (by kernel_rfl) HV.out, by rw [heap_set_same (heap_set_same HQ.out)]; rfl, HLO.out⟩, DotSet.stp hg ⟨q, _, _, HLO.out, HQ.out, rfl⟩, ⟨fun _ h => absurd rfl h, fun h => absurd h (by decide), fun _ => ⟨q, _, _, HLO.out, HQ.out, rfl⟩⟩⟩
      · intro x wx hG
        have g16 : (x.tmps.getD 61 undef) = .int .i64 0 := hG.claims 16 _ rfl (by decide +kernel) (by decide +kernel)
        have g16b := g16
        rw [Array.getD_eq_getD_getElem?] at g16b
        have hg := hG.good
        clear hG
        go_wp2
        exact ⟨_, rfl, rfl, hg, ⟨fun _ _ => Below.refl _ _, fun h => absurd h (by decide), fun h => absurd h (by decide)⟩⟩
    · intro vals w9 hg hF
      obtain ⟨g0, g1, g2, g3, g4, g5, g6, g7, g8, g9, g10, g11, g12, g13, g14, g15, g16, g17, g18, g19, -⟩ := hF
      have e0 : vals 0 = .pointer (some ⟨g, 0, none⟩) := g0 rfl
      have e2 : vals 2 = .slice (some ⟨cb, coff, none⟩) cs.length uc := g2 rfl
      have e3 : vals 3 = .pointer (some ⟨cb, coff, none⟩) := g3 rfl
      have e4 : vals 4 = .int .i64 x0 := g4 rfl
      have e5 : vals 5 = .int .i64 (k0 : Nat) := g5 rfl
      have e7 : vals 7 = .string (sidA k0) := g7 rfl
      have e8 : vals 8 = .slice (some ⟨cb, coff, none⟩) cs.length uc := g8 rfl
      have e9 : vals 9 = .pointer (some ⟨cb, coff + 1, none⟩) := g9 rfl
      have e10 : vals 10 = .int .i64 x1 := g10 rfl
      have e11 : vals 11 = .int .i64 (k1 : Nat) := g11 rfl
      have e12 : vals 12 = .agg #[.int .i64 (k1 : Nat), .int .i64 0] := g12 rfl
      replace g13 : SiteAt w9 0 g s9 ∧ (vals 13) = .tuple #[.agg #[.int .i64 d0, .int .i64 d1], .int .i64 0] := g13 rfl
      have e14 : vals 14 = .tuple #[.agg #[.int .i64 d0, .int .i64 d1], .int .i64 0] := g14 rfl
      have e15 : vals 15 = .agg #[.int .i64 d0, .int .i64 d1] := g15 rfl
      have e16 : vals 16 = .int .i64 0 := g16 rfl
      have g18 := g18 rfl
      have e19 : vals 19 = .int .i64 0 := g19 rfl
      simp only [Cl2.puts, e0, e2, e3, e4, e5, e7, e8, e9, e10, e11, e12, e14, e15, e16, e19]
      clear e0 e2 e3 e4 e5 e7 e8 e9 e10 e11 e12 e14 e15 e16 e19 g0 g1 g2 g3 g4 g5 g6 g7 g8 g9 g10 g11 g12 g14 g15 g16 g17 g19
      go_simp
      generalize vals 13 = mk9 at *
      obtain ⟨q9, hv9, hq9, hlo9⟩ := g18
      have hv8 : vals 17 = .pointer (some ⟨q9, 0, none⟩) := Eq.trans (by kernel_rfl) hv9
      rw [hv8]
      clear hv9
      have HSA := Lib.hid g13.1
      have HST2 := Lib.hid (HST.out.trans hg)
      have HMD := Lib.hid (show s9.made = d1 from HMD9.out)
      clear g13 hg c1 hlo9
      have HQ9 := Lib.hid hq9
      generalize vals 1 = j1 at *
      generalize vals 6 = j6 at *
      clear hq9
      go_wp2_with fail
      (with_reducible refine (smade_c g 0 s9 w9 HSA.out).mono ?_)
      rintro e wz ⟨rfl, hb⟩
      rw [HMD.out]
      have HQZ := Lib.hid (below_keep hb HQ9.out)
      have HSZ := Lib.hid (HSA.out.below hb)
      have HSTZ := Lib.hid (HST2.out.trans (Stp.of_below hb))
      have y0 := cell_of_block (j := 0) HQZ.out rfl
      have y1 := cell_of_block (j := 1) HQZ.out rfl
      clear hb
      go_wp2
      go_roundw
      case rel => exact ⟨k + 1, by omega, by go_num, _, s9, by rw [HMD.out], HSTEP.out, HSZ.out, HSTZ.out⟩
      case measure => simp [intOf] <;> omega
end Go.Proofs.YtboakoipdfmpcaaGreat
