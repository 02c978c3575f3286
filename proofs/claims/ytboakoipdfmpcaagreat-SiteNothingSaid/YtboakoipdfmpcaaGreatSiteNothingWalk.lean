/- What SiteNothing does. Written by a small program (gen/sl.py). -/
import Derived.Test.YtboakoipdfmpcaaGreatMSiteD
import Derived.Test.YtboakoipdfmpcaaGreatSiteLateWalk
namespace Go.Proofs.YtboakoipdfmpcaaGreat
open Go.RowKit
theorem narrow_none (A : List SP) : narrowS A (fun _ _ => false) = [] := by
  unfold narrowS
  have key : ∀ l : List SP, (∀ x ∈ l, noneS x = true) → fewS l = [] := by
    intro l
    induction l using snoc_ind with
    | h0 => intro _; rfl
    | h1 l a ih =>
      intro h
      rw [fewS_snoc, ih fun x hx => h x (by simp [hx])]
      unfold fewStep
      rw [h a (by simp)]; rfl
  refine key _ fun x hx => ?_
  obtain ⟨y, -, rfl⟩ := List.mem_map.1 hx
  unfold noneS
  have : cntF (fun t n => y.p t n && false) = 0 := by
    have e : (fun t n => y.p t n && false) = fun _ _ => false := by funext t n; simp
    rw [e]; decide
  rw [this]; rfl
theorem none_pts : ptsOf [] = fun _ _ => false := by
  funext t n
  unfold ptsOf inF
  simp
structure NothingOk (a b : SiteS) : Prop where
  V : (syncB a b).V = []
  S : (syncB a b).S = []
  G : (syncB a b).G.length = b.L.length
  E : tookE a (syncB a b) = 0
  L : (tookS a (syncB a b)).L.length = 0
  V2 : (syncB b b).V = []
  G2 : (syncB b b).G = []
theorem nothing_ok {U : List Ver} {b : SiteS} (hb : SiteOk b) (h : Grow [] (newS 1 (ptsOf everyB)) U b 12) : NothingOk (newS 0 (ptsOf [])) b := by
  have hV : (syncB (newS 0 (ptsOf [])) b).V = [] := by
    show giveV b.L (ptsOf []) _ = []
    rw [none_pts]
    unfold giveV
    rw [List.filter_eq_nil_iff]
    intro v _; simp [inP]
  have hS : (syncB (newS 0 (ptsOf [])) b).S = [] := by
    show narrowS (knownS b) (ptsOf []) = []
    rw [none_pts]; exact narrow_none _
  have hG : (syncB (newS 0 (ptsOf [])) b).G.length = b.L.length := by
    show (giveG b.L (ptsOf [])).length = _
    rw [none_pts]
    unfold giveG
    rw [List.length_map, List.filter_eq_self.2]
    intro v _; simp [inP]
  have hE : tookE (newS 0 (ptsOf [])) (syncB (newS 0 (ptsOf [])) b) = 0 := by
    refine tookE_zero.2 ⟨rfl, rfl, ?_, ?_⟩
    · rw [hV]; rfl
    · rw [hS]; decide
  have hP : b.P = everP := by rw [h.P]; exact everP_every
  obtain ⟨N, hU, -, hm, hN, -⟩ := h.new
  have hin : ∀ v ∈ b.L, inP b.P v = true := fun v hv => by rw [hP]; exact inP_ever (hb.L.ok v hv)
  refine ⟨hV, hS, hG, hE, ?_, ?_, ?_⟩
  · unfold tookS
    rw [if_pos hE]
    show (dropsL (laidOn [] (syncB (newS 0 (ptsOf [])) b).V) (syncB (newS 0 (ptsOf [])) b).G).length = 0
    rw [hV]
    have key : ∀ G : List Gn, dropsL [] G = [] := by
      intro G
      induction G with
      | nil => rfl
      | cons g G ih => exact ih
    show (dropsL [] _).length = 0
    rw [key]; rfl
  · show giveV b.L b.P (knownS b) = []
    unfold giveV
    rw [List.filter_eq_nil_iff]
    intro v hv
    have hv2 : v ∈ N := by have := h.made.sub v hv; rw [hU] at this; simpa using this
    obtain ⟨h1, h2, h3⟩ := hN v hv2
    have hk := hb.L.ok v hv
    obtain ⟨p1, p2, p3, p4⟩ := pt_rng hk.pt
    obtain ⟨d1, d2, d3, d4⟩ := dot_rng hk.dot
    have : knV (knownS b) v = true := by
      unfold knV
      rw [knows_known hb (by omega) (by omega) d1 d2 d3 d4]
      have e1 : decide (v.ds = b.me) = true := by rw [decide_eq_true_eq, h1, h.me]
      have e2 : decide (v.dc ≤ b.made) = true := by rw [decide_eq_true_eq]; exact h3
      rw [e1, e2]; rfl
    rw [this]; simp
  · show giveG b.L b.P = []
    unfold giveG
    rw [List.map_eq_nil_iff, List.filter_eq_nil_iff]
    intro v hv
    rw [hin v hv]; decide
set_option maxRecDepth 100000 in
set_option maxHeartbeats 8000000 in
theorem SiteNothing_walk (lv : Value) (l : List (List Int)) (w : World) (hl : RowAt vecE w lv l) :
    Calls Tryz.prog 7 #[lv] w fun e w' => e = .returned (.bool true) ∧ Below w.heap.size w w' := by
  obtain ⟨la, lc, rfl⟩ := hl.shape
  have HL := Lib.hid hl
  clear hl
  have LW := Lib.hid (Lw.refl w)
  go_enter Tryz.func7, Tryz.ntmps7
  go_wp2_with fail
  (with_reducible refine (siteBegun_c w).mono ?_)
  rintro e w1 ⟨rfl, hb⟩
  replace LW := Lib.hid (LW.out.below hb)
  clear hb
  go_wp2_with fail
  (with_reducible refine (everyS w1).mono ?_)
  rintro e w2 ⟨ev, rfl, hev, hb⟩
  obtain ⟨eva, evc, hev⟩ := (hev.at_ok every_chk).shape
  subst hev
  have HEVev := Lib.hid hev
  replace LW := Lib.hid (LW.out.below hb)
  clear hb hev
  have HNI := Lib.hid (show BxsAt w2 (.slice none 0 0) [] from ⟨[], rfl, CellsAt.nil _, fun i h => by simp at h⟩)
  have HNC := Lib.hid (show fChk [] = 0 by decide)
  go_wp2_with fail
  (with_reducible refine (stwo_c _ _ [] everyB w2 HNI.out (HEVev.out.at_ok every_chk) HNC.out every_chk).mono ?_)
  rintro e w3 ⟨ga, gb, rfl, hsa, hsb, hlt, hb⟩
  have HS0 := Lib.hid LW.out.size
  have SA := Lib.hid (SiteAt.mono hsa HS0.out)
  have SB := Lib.hid (SiteAt.mono hsb HS0.out)
  have GEga := Lib.hid SA.out.ge
  have GEgb := Lib.hid SB.out.ge
  have NEgagb := Lib.hid hlt
  clear hsa hsb hlt HS0
  replace HEVev := Lib.hid (BxsOwn.below HEVev.out hb)
  replace LW := Lib.hid (LW.out.below hb)
  clear hb
  clear HEVev
  clear HNI HNC
  have HMD := Lib.hid (show (newS 1 (ptsOf everyB)).made ≤ 900 from (by decide : (0:Int) ≤ 900))
  have M0 := Lib.hid (made_new [] 1 (ptsOf everyB) Hx.nil (by simp))
  go_wp2_with fail
  (with_reducible refine (smakes_c gb _ (newS 1 (ptsOf everyB)) [] _ l w3 SB.out M0.out (by simp) HMD.out (fun w' hs => HL.out.sub (LW.out.one hs GEgb.out).sub)).mono ?_)
  rintro e w4 ⟨U2, s2, rfl, hgr, hs, hp⟩
  have Gs2 := Lib.hid hgr
  clear hgr
  replace SB := Lib.hid hs
  replace SA := Lib.hid (SA.out.stp hp (fun e => by have := NEgagb.out; omega))
  replace LW := Lib.hid (LW.out.one hp GEgb.out)
  clear hs hp
  have HN := Lib.hid (nothing_ok SB.out.ok Gs2.out)
  go_wp2_with fail
  (with_reducible refine (ask_c ga _ (newS 0 (ptsOf [])) w4 SA.out).mono ?_)
  rintro e w5 ⟨afx, apx, rfl, hf, hp, hb⟩
  obtain ⟨alx, hl1, hl2, hl3⟩ := hf
  obtain ⟨APx, hA1, hA2, hA3⟩ := hp
  have hA30 : APx.length ≤ 30 := by have := SA.out.ok.klen; rw [← hA3, List.length_map] at this; exact this
  replace SA := Lib.hid (SA.out.below hb)
  replace SB := Lib.hid (SB.out.below hb)
  replace LW := Lib.hid (LW.out.below hb)
  have HGV := Lib.hid (sgive_c gb _ s2 (newS 0 (ptsOf [])).me (newS 0 (ptsOf [])).stamp afx apx alx APx w5 SB.out SA.out.ok.me SA.out.ok.stamp.1 (FOwn.at_ok hl1 hl2) hl2 (hA1.at_ (fun z hz => (hA2 z hz).1) (by omega)) (ptsChk_zero.2 ⟨hA30, fun z hz => (hA2 z hz).1⟩))
  have HEQ := Lib.hid (show giveB s2 (newS 0 (ptsOf [])).me (newS 0 (ptsOf [])).stamp (ptsOf alx) (APx.map sem) = syncB (newS 0 (ptsOf [])) s2 by
    unfold syncB; rw [hA3]
    exact giveB_congr SB.out.ok fun t n ht hn => by rw [ptsOf_in ht hn]; exact hl3 t n ht hn)
  obtain ⟨f8a, f8c, hfv⟩ := (FOwn.at_ok hl1 hl2).shape
  subst hfv
  obtain ⟨p8a, p8c, hpv⟩ := hA1.shape
  subst hpv
  clear hl1 hl2 hl3 hA1 hA2 hA3 hb hA30
  go_wp2_with fail
  (with_reducible refine (HGV.out).mono ?_)
  rintro e w6 ⟨vvx, gvx, pvx, rfl, hbt, hb⟩
  rw [HEQ.out] at hbt
  replace SA := Lib.hid (SA.out.below hb)
  replace SB := Lib.hid (SB.out.below hb)
  replace LW := Lib.hid (LW.out.below hb)
  obtain ⟨vxa, vxc, hvv⟩ := hbt.vers.shape
  obtain ⟨gxa, gxc, hgv⟩ := GOwn.shape hbt.gone
  obtain ⟨pxa, pxc, hpv⟩ := hbt.parts.shape
  subst hvv hgv hpv
  have HBOx := Lib.hid (syncB_ok SA.out.ok SB.out.ok)
  obtain ⟨BXx, hBX⟩ : ∃ BX, BX = w6.heap.size := ⟨_, rfl⟩
  obtain ⟨w7, hw3⟩ : ∃ wB, wB = w6.alloc (.cells #[.int .i64 (newS 0 (ptsOf [])).me, .int .i64 (newS 0 (ptsOf [])).stamp, .slice vxa (syncB (newS 0 (ptsOf [])) s2).V.length vxc, .slice gxa (syncB (newS 0 (ptsOf [])) s2).G.length gxc, .slice pxa (syncB (newS 0 (ptsOf [])) s2).S.length pxc] 52) := ⟨_, rfl⟩
  have hb3 : Below w6.heap.size w6 w7 := by rw [hw3]; exact bal _
  have HBXx := Lib.hid (show w7.heap[BXx]? = some (Obj.cells #[.int .i64 (newS 0 (ptsOf [])).me, .int .i64 (newS 0 (ptsOf [])).stamp, .slice vxa (syncB (newS 0 (ptsOf [])) s2).V.length vxc, .slice gxa (syncB (newS 0 (ptsOf [])) s2).G.length gxc, .slice pxa (syncB (newS 0 (ptsOf [])) s2).S.length pxc] 52 (0, 0)) by rw [hw3]; exact alloc_new _ _ _ _ hBX)
  have HBTx := Lib.hid (hbt.below hb3)
  have HW3 := Lib.hid hw3
  have HBX0 := Lib.hid hBX
  have HLSAx := Lib.hid (show ga < BXx by rw [hBX]; exact SA.out.lt)
  have HLSBx := Lib.hid (show gb < BXx by rw [hBX]; exact SB.out.lt)
  replace SA := Lib.hid (SA.out.below hb3)
  replace SB := Lib.hid (SB.out.below hb3)
  replace LW := Lib.hid (LW.out.below hb3)
  clear hbt hb hb3 hBX hw3 HGV HEQ
  have kv : ((syncB (newS 0 (ptsOf [])) s2).V.length : Int) = 0 := by rw [HN.out.V]; rfl
  have ks : ((syncB (newS 0 (ptsOf [])) s2).S.length : Int) = 0 := by rw [HN.out.S]; rfl
  have kg : ((syncB (newS 0 (ptsOf [])) s2).G.length : Int) = (s2.L.length : Int) := by rw [HN.out.G]
  have kv1 : (((syncB (newS 0 (ptsOf [])) s2).V.length : Int) != 0) = false := by rw [kv]; rfl
  have kv2 : decide (((syncB (newS 0 (ptsOf [])) s2).V.length : Int) = 0) = true := by rw [kv]; rfl
  have ks1 : (((syncB (newS 0 (ptsOf [])) s2).S.length : Int) != 0) = false := by rw [ks]; rfl
  have ks2 : decide (((syncB (newS 0 (ptsOf [])) s2).S.length : Int) = 0) = true := by rw [ks]; rfl
  have kg1 : (((syncB (newS 0 (ptsOf [])) s2).G.length : Int) != (s2.L.length : Int)) = false := by rw [kg]; simp
  have kg2 : decide (((syncB (newS 0 (ptsOf [])) s2).G.length : Int) = (s2.L.length : Int)) = true := by rw [kg]; simp
  have HKV := Lib.hid (And.intro kv1 kv2)
  have HKS := Lib.hid (And.intro ks1 ks2)
  have HKG := Lib.hid (And.intro kg1 kg2)
  clear kv ks kg kv1 kv2 ks1 ks2 kg1 kg2
  go_wp2_with fail
  rw [← HW3.out, ← HBX0.out]
  clear HW3 HBX0
  have HB2 := Lib.hid (cell_of_block (j := 2) HBXx.out rfl : w7.cell? ⟨BXx, 2, none⟩ = some (.slice vxa (syncB (newS 0 (ptsOf [])) s2).V.length vxc))
  have HB3 := Lib.hid (cell_of_block (j := 3) HBXx.out rfl : w7.cell? ⟨BXx, 3, none⟩ = some (.slice gxa (syncB (newS 0 (ptsOf [])) s2).G.length gxc))
  have HB4 := Lib.hid (cell_of_block (j := 4) HBXx.out rfl : w7.cell? ⟨BXx, 4, none⟩ = some (.slice pxa (syncB (newS 0 (ptsOf [])) s2).S.length pxc))
  have HB0 := Lib.hid (cell_of_block (j := 0) HBXx.out rfl : w7.cell? ⟨BXx, 0, none⟩ = some (.int .i64 (newS 0 (ptsOf [])).me))
  have HB1 := Lib.hid (cell_of_block (j := 1) HBXx.out rfl : w7.cell? ⟨BXx, 1, none⟩ = some (.int .i64 (newS 0 (ptsOf [])).stamp))
  have HTK := Lib.hid (show ∀ (wx : World), Below w7.heap.size w7 wx → Calls Tryz.prog 37 #[.pointer (some ⟨ga, 0, none⟩), .agg #[.int .i64 (newS 0 (ptsOf [])).me, .int .i64 (newS 0 (ptsOf [])).stamp, .slice vxa (syncB (newS 0 (ptsOf [])) s2).V.length vxc, .slice gxa (syncB (newS 0 (ptsOf [])) s2).G.length gxc, .slice pxa (syncB (newS 0 (ptsOf [])) s2).S.length pxc]] wx (TakePost wx w.heap.size ga (newS 0 (ptsOf [])) (syncB (newS 0 (ptsOf [])) s2)) from fun wx hp => by
    have h := take_bt (SA.out.below hp) HBOx.out (HBTx.out.below hp)
    have e1 : (syncB (newS 0 (ptsOf [])) s2).site = (newS 0 (ptsOf [])).me := rfl
    have e2 : (syncB (newS 0 (ptsOf [])) s2).stamp = (newS 0 (ptsOf [])).stamp := rfl
    rw [e1, e2] at h
    exact h)
  refine Cl.region0 88 rfl [26] (fun w => Below w7.heap.size w7 w) (fun _ => []) (fun jq v ww => match jq with | 0 => v = .int .i64 0 | 1 => v = .bool false | 2 => v = .bool false | 3 => v = .pointer (some ⟨BXx, 2, none⟩) | 4 => v = .slice vxa (syncB (newS 0 (ptsOf [])) s2).V.length vxc | 5 => v = .int .i64 ((syncB (newS 0 (ptsOf [])) s2).V.length : Nat) | 6 => v = .bool false | 7 => v = .bool false | 8 => v = .bool false | 9 => v = .pointer (some ⟨BXx, 4, none⟩) | 10 => v = .slice pxa (syncB (newS 0 (ptsOf [])) s2).S.length pxc | 11 => v = .int .i64 ((syncB (newS 0 (ptsOf [])) s2).S.length : Nat) | 12 => v = .bool false | 13 => v = .bool false | 14 => v = .bool false | 15 => v = .pointer (some ⟨BXx, 3, none⟩) | 16 => v = .slice gxa (syncB (newS 0 (ptsOf [])) s2).G.length gxc | 17 => v = .int .i64 ((syncB (newS 0 (ptsOf [])) s2).G.length : Nat) | 18 => v = .pointer (some ⟨gb, 0, none⟩) | 19 => ShP (s2).L.length v | 20 => v = .int .i64 ((s2).L.length : Nat) | 21 => v = .bool false | 22 => v = .bool false | 23 => v = .bool false | 24 => v = .pointer (some ⟨ga, 0, none⟩) | 25 => v = .agg #[.int .i64 (newS 0 (ptsOf [])).me, .int .i64 (newS 0 (ptsOf [])).stamp, .slice vxa (syncB (newS 0 (ptsOf [])) s2).V.length vxc, .slice gxa (syncB (newS 0 (ptsOf [])) s2).G.length gxc, .slice pxa (syncB (newS 0 (ptsOf [])) s2).S.length pxc] | 26 => SiteAt ww w.heap.size ga (tookS (newS 0 (ptsOf [])) (syncB (newS 0 (ptsOf [])) s2)) ∧ v = .int .i64 0 | 27 => SiteAt ww w.heap.size ga (tookS (newS 0 (ptsOf [])) (syncB (newS 0 (ptsOf [])) s2)) ∧ v = .bool false | 28 => SiteAt ww w.heap.size ga (tookS (newS 0 (ptsOf [])) (syncB (newS 0 (ptsOf [])) s2)) ∧ v = .bool false | 29 => SiteAt ww w.heap.size ga (tookS (newS 0 (ptsOf [])) (syncB (newS 0 (ptsOf [])) s2)) ∧ v = .bool false | 30 => v = .pointer (some ⟨ga, 0, none⟩) | 31 => ShP (tookS (newS 0 (ptsOf [])) (syncB (newS 0 (ptsOf [])) s2)).L.length v | 32 => v = .int .i64 ((tookS (newS 0 (ptsOf [])) (syncB (newS 0 (ptsOf [])) s2)).L.length : Nat) | 33 => v = .bool false | 34 => v = .bool false | _ => True) (fun ww => Stp (fun qq => qq = ga) w7 ww) (fun jq ww ww' => (jq ≠ 26 → Below ww.heap.size ww ww') ∧ (jq = 26 → Stp (fun qq => qq = ga) ww ww')) Tryz.mixed (by decide +kernel) (Stp.refl _ _).drew ((Below.refl _ _).drew) ?_ (fun q w w' hk h hR => bstep h (hR.1 (by intro e; subst e; exact absurd hk (by decide)))) ?_ ?_
  · intro q r v w w' hne hk hlt h hR
    match r, hk, hlt, h, hne with
    | 0, _, _, h, _ => exact h
    | 1, _, _, h, _ => exact h
    | 2, _, _, h, _ => exact h
    | 3, _, _, h, _ => exact h
    | 4, _, _, h, _ => exact h
    | 5, _, _, h, _ => exact h
    | 6, _, _, h, _ => exact h
    | 7, _, _, h, _ => exact h
    | 8, _, _, h, _ => exact h
    | 9, _, _, h, _ => exact h
    | 10, _, _, h, _ => exact h
    | 11, _, _, h, _ => exact h
    | 12, _, _, h, _ => exact h
    | 13, _, _, h, _ => exact h
    | 14, _, _, h, _ => exact h
    | 15, _, _, h, _ => exact h
    | 16, _, _, h, _ => exact h
    | 17, _, _, h, _ => exact h
    | 18, _, _, h, _ => exact h
    | 19, _, _, h, _ => exact h
    | 20, _, _, h, _ => exact h
    | 21, _, _, h, _ => exact h
    | 22, _, _, h, _ => exact h
    | 23, _, _, h, _ => exact h
    | 24, _, _, h, _ => exact h
    | 25, _, _, h, _ => exact h
    | 26, _, hlt, h, hne => exact ⟨h.1.below (hR.1 (by exact hne)), h.2⟩
    | 27, _, hlt, h, hne => exact ⟨h.1.below (hR.1 (by intro e; subst e; exact absurd hlt (by decide +kernel))), h.2⟩
    | 28, _, hlt, h, hne => exact ⟨h.1.below (hR.1 (by intro e; subst e; exact absurd hlt (by decide +kernel))), h.2⟩
    | 29, _, hlt, h, hne => exact ⟨h.1.below (hR.1 (by intro e; subst e; exact absurd hlt (by decide +kernel))), h.2⟩
    | 30, _, _, h, _ => exact h
    | 31, _, _, h, _ => exact h
    | 32, _, _, h, _ => exact h
    | 33, _, _, h, _ => exact h
    | 34, _, _, h, _ => exact h
    | _ + 35, _, _, _, _ => trivial
  · refine ⟨?_, ?_, ?_, ?_, ?_, ?_, ?_, ?_, ?_, ?_, ?_, ?_, ?_, ?_, ?_, ?_, ?_, ?_, ?_, ?_, ?_, ?_, ?_, ?_, ?_, ?_, ?_, ?_, ?_, ?_, ?_, ?_, ?_, ?_, ?_, trivial⟩
    · intro x wx hG
      have f7 := hG.old 7 (by decide +kernel)
      have hg := hG.good
      clear hG
      go_wp2
      exact ⟨_, rfl, rfl, hg, ⟨fun _ => Below.refl _ _, fun h => absurd h (by decide)⟩⟩
    · intro x wx hG
      have g0 : (x.tmps.getD 32 undef) = .int .i64 0 := hG.claims 0 _ rfl (by decide +kernel) (by decide +kernel)
      have g0b := g0
      rw [Array.getD_eq_getD_getElem?] at g0b
      have hg := hG.good
      clear hG
      go_wp2
      exact ⟨_, rfl, rfl, hg, ⟨fun _ => Below.refl _ _, fun h => absurd h (by decide)⟩⟩
    · intro x wx hG
      have g1 : (x.tmps.getD 33 undef) = .bool false := hG.claims 1 _ rfl (by decide +kernel) (by decide +kernel)
      have g1b := g1
      rw [Array.getD_eq_getD_getElem?] at g1b
      have hg := hG.good
      clear hG
      go_wp2
      exact ⟨_, rfl, rfl, hg, ⟨fun _ => Below.refl _ _, fun h => absurd h (by decide)⟩⟩
    · intro x wx hG
      have f6 := hG.old 6 (by decide +kernel)
      have gg : (x.tmps.getD 34 undef) = .bool false := hG.claims 2 _ rfl (by decide +kernel) (by decide +kernel)
      replace gg := Cl.opt (hG.size.trans (show _ = 88 from rfl)) (by decide) gg
      have hg := hG.good
      clear hG
      go_wp2
      exact ⟨_, rfl, rfl, hg, ⟨fun _ => Below.refl _ _, fun h => absurd h (by decide)⟩⟩
    · intro x wx hG
      have g3 : (x.tmps.getD 35 undef) = .pointer (some ⟨BXx, 2, none⟩) := hG.claims 3 _ rfl (by decide +kernel) (by decide +kernel)
      have g3b := g3
      rw [Array.getD_eq_getD_getElem?] at g3b
      have gg : (x.tmps.getD 34 undef) = .bool false := hG.claims 2 _ rfl (by decide +kernel) (by decide +kernel)
      replace gg := Cl.opt (hG.size.trans (show _ = 88 from rfl)) (by decide) gg
      have hp := hG.pre (by decide +kernel)
      have hg := hG.good
      clear hG
      have c_HB2 := ckeep hp HB2.out
      go_wp2
      exact ⟨_, rfl, rfl, hg, ⟨fun _ => Below.refl _ _, fun h => absurd h (by decide)⟩⟩
    · intro x wx hG
      have g4 : (x.tmps.getD 36 undef) = .slice vxa (syncB (newS 0 (ptsOf [])) s2).V.length vxc := hG.claims 4 _ rfl (by decide +kernel) (by decide +kernel)
      have g4b := g4
      rw [Array.getD_eq_getD_getElem?] at g4b
      have gg : (x.tmps.getD 34 undef) = .bool false := hG.claims 2 _ rfl (by decide +kernel) (by decide +kernel)
      replace gg := Cl.opt (hG.size.trans (show _ = 88 from rfl)) (by decide) gg
      have hg := hG.good
      clear hG
      go_wp2
      exact ⟨_, rfl, rfl, hg, ⟨fun _ => Below.refl _ _, fun h => absurd h (by decide)⟩⟩
    · intro x wx hG
      have g5 : (x.tmps.getD 37 undef) = .int .i64 ((syncB (newS 0 (ptsOf [])) s2).V.length : Nat) := hG.claims 5 _ rfl (by decide +kernel) (by decide +kernel)
      have g5b := g5
      rw [Array.getD_eq_getD_getElem?] at g5b
      have gg : (x.tmps.getD 34 undef) = .bool false := hG.claims 2 _ rfl (by decide +kernel) (by decide +kernel)
      replace gg := Cl.opt (hG.size.trans (show _ = 88 from rfl)) (by decide) gg
      have hg := hG.good
      clear hG
      obtain ⟨q1, q2⟩ := HKV.out
      go_wp2
      exact ⟨_, rfl, rfl, hg, ⟨fun _ => Below.refl _ _, fun h => absurd h (by decide)⟩⟩
    · intro x wx hG
      have g2 : (x.tmps.getD 34 undef) = .bool false := hG.claims 2 _ rfl (by decide +kernel) (by decide +kernel)
      have g2b := g2
      rw [Array.getD_eq_getD_getElem?] at g2b
      have g6 : (x.tmps.getD 38 undef) = .bool false := hG.claims 6 _ rfl (by decide +kernel) (by decide +kernel)
      have g6b := g6
      rw [Array.getD_eq_getD_getElem?] at g6b
      have hg := hG.good
      clear hG
      go_wp2
      exact ⟨_, rfl, rfl, hg, ⟨fun _ => Below.refl _ _, fun h => absurd h (by decide)⟩⟩
    · intro x wx hG
      have g7 : (x.tmps.getD 39 undef) = .bool false := hG.claims 7 _ rfl (by decide +kernel) (by decide +kernel)
      have g7b := g7
      rw [Array.getD_eq_getD_getElem?] at g7b
      have hg := hG.good
      clear hG
      go_wp2
      exact ⟨_, rfl, rfl, hg, ⟨fun _ => Below.refl _ _, fun h => absurd h (by decide)⟩⟩
    · intro x wx hG
      have f6 := hG.old 6 (by decide +kernel)
      have gg : (x.tmps.getD 40 undef) = .bool false := hG.claims 8 _ rfl (by decide +kernel) (by decide +kernel)
      replace gg := Cl.opt (hG.size.trans (show _ = 88 from rfl)) (by decide) gg
      have hg := hG.good
      clear hG
      go_wp2
      exact ⟨_, rfl, rfl, hg, ⟨fun _ => Below.refl _ _, fun h => absurd h (by decide)⟩⟩
    · intro x wx hG
      have g9 : (x.tmps.getD 41 undef) = .pointer (some ⟨BXx, 4, none⟩) := hG.claims 9 _ rfl (by decide +kernel) (by decide +kernel)
      have g9b := g9
      rw [Array.getD_eq_getD_getElem?] at g9b
      have gg : (x.tmps.getD 40 undef) = .bool false := hG.claims 8 _ rfl (by decide +kernel) (by decide +kernel)
      replace gg := Cl.opt (hG.size.trans (show _ = 88 from rfl)) (by decide) gg
      have hp := hG.pre (by decide +kernel)
      have hg := hG.good
      clear hG
      have c_HB4 := ckeep hp HB4.out
      go_wp2
      exact ⟨_, rfl, rfl, hg, ⟨fun _ => Below.refl _ _, fun h => absurd h (by decide)⟩⟩
    · intro x wx hG
      have g10 : (x.tmps.getD 42 undef) = .slice pxa (syncB (newS 0 (ptsOf [])) s2).S.length pxc := hG.claims 10 _ rfl (by decide +kernel) (by decide +kernel)
      have g10b := g10
      rw [Array.getD_eq_getD_getElem?] at g10b
      have gg : (x.tmps.getD 40 undef) = .bool false := hG.claims 8 _ rfl (by decide +kernel) (by decide +kernel)
      replace gg := Cl.opt (hG.size.trans (show _ = 88 from rfl)) (by decide) gg
      have hg := hG.good
      clear hG
      go_wp2
      exact ⟨_, rfl, rfl, hg, ⟨fun _ => Below.refl _ _, fun h => absurd h (by decide)⟩⟩
    · intro x wx hG
      have g11 : (x.tmps.getD 43 undef) = .int .i64 ((syncB (newS 0 (ptsOf [])) s2).S.length : Nat) := hG.claims 11 _ rfl (by decide +kernel) (by decide +kernel)
      have g11b := g11
      rw [Array.getD_eq_getD_getElem?] at g11b
      have gg : (x.tmps.getD 40 undef) = .bool false := hG.claims 8 _ rfl (by decide +kernel) (by decide +kernel)
      replace gg := Cl.opt (hG.size.trans (show _ = 88 from rfl)) (by decide) gg
      have hg := hG.good
      clear hG
      obtain ⟨q1, q2⟩ := HKS.out
      go_wp2
      exact ⟨_, rfl, rfl, hg, ⟨fun _ => Below.refl _ _, fun h => absurd h (by decide)⟩⟩
    · intro x wx hG
      have g8 : (x.tmps.getD 40 undef) = .bool false := hG.claims 8 _ rfl (by decide +kernel) (by decide +kernel)
      have g8b := g8
      rw [Array.getD_eq_getD_getElem?] at g8b
      have g12 : (x.tmps.getD 44 undef) = .bool false := hG.claims 12 _ rfl (by decide +kernel) (by decide +kernel)
      have g12b := g12
      rw [Array.getD_eq_getD_getElem?] at g12b
      have hg := hG.good
      clear hG
      go_wp2
      exact ⟨_, rfl, rfl, hg, ⟨fun _ => Below.refl _ _, fun h => absurd h (by decide)⟩⟩
    · intro x wx hG
      have g13 : (x.tmps.getD 45 undef) = .bool false := hG.claims 13 _ rfl (by decide +kernel) (by decide +kernel)
      have g13b := g13
      rw [Array.getD_eq_getD_getElem?] at g13b
      have hg := hG.good
      clear hG
      go_wp2
      exact ⟨_, rfl, rfl, hg, ⟨fun _ => Below.refl _ _, fun h => absurd h (by decide)⟩⟩
    · intro x wx hG
      have f6 := hG.old 6 (by decide +kernel)
      have gg : (x.tmps.getD 46 undef) = .bool false := hG.claims 14 _ rfl (by decide +kernel) (by decide +kernel)
      replace gg := Cl.opt (hG.size.trans (show _ = 88 from rfl)) (by decide) gg
      have hg := hG.good
      clear hG
      go_wp2
      exact ⟨_, rfl, rfl, hg, ⟨fun _ => Below.refl _ _, fun h => absurd h (by decide)⟩⟩
    · intro x wx hG
      have g15 : (x.tmps.getD 47 undef) = .pointer (some ⟨BXx, 3, none⟩) := hG.claims 15 _ rfl (by decide +kernel) (by decide +kernel)
      have g15b := g15
      rw [Array.getD_eq_getD_getElem?] at g15b
      have gg : (x.tmps.getD 46 undef) = .bool false := hG.claims 14 _ rfl (by decide +kernel) (by decide +kernel)
      replace gg := Cl.opt (hG.size.trans (show _ = 88 from rfl)) (by decide) gg
      have hp := hG.pre (by decide +kernel)
      have hg := hG.good
      clear hG
      have c_HB3 := ckeep hp HB3.out
      go_wp2
      exact ⟨_, rfl, rfl, hg, ⟨fun _ => Below.refl _ _, fun h => absurd h (by decide)⟩⟩
    · intro x wx hG
      have g16 : (x.tmps.getD 48 undef) = .slice gxa (syncB (newS 0 (ptsOf [])) s2).G.length gxc := hG.claims 16 _ rfl (by decide +kernel) (by decide +kernel)
      have g16b := g16
      rw [Array.getD_eq_getD_getElem?] at g16b
      have gg : (x.tmps.getD 46 undef) = .bool false := hG.claims 14 _ rfl (by decide +kernel) (by decide +kernel)
      replace gg := Cl.opt (hG.size.trans (show _ = 88 from rfl)) (by decide) gg
      have hg := hG.good
      clear hG
      go_wp2
      exact ⟨_, rfl, rfl, hg, ⟨fun _ => Below.refl _ _, fun h => absurd h (by decide)⟩⟩
    · intro x wx hG
      have f4 := hG.old 4 (by decide +kernel)
      have gg : (x.tmps.getD 46 undef) = .bool false := hG.claims 14 _ rfl (by decide +kernel) (by decide +kernel)
      replace gg := Cl.opt (hG.size.trans (show _ = 88 from rfl)) (by decide) gg
      have hg := hG.good
      clear hG
      go_wp2
      exact ⟨_, rfl, rfl, hg, ⟨fun _ => Below.refl _ _, fun h => absurd h (by decide)⟩⟩
    · intro x wx hG
      have g18 : (x.tmps.getD 50 undef) = .pointer (some ⟨gb, 0, none⟩) := hG.claims 18 _ rfl (by decide +kernel) (by decide +kernel)
      have g18b := g18
      rw [Array.getD_eq_getD_getElem?] at g18b
      have gg : (x.tmps.getD 46 undef) = .bool false := hG.claims 14 _ rfl (by decide +kernel) (by decide +kernel)
      replace gg := Cl.opt (hG.size.trans (show _ = 88 from rfl)) (by decide) gg
      have hg := hG.good
      clear hG
      have HN9 := Lib.hid (sshelf_c gb _ _ wx (SB.out.stp hg (fun e => by have := NEgagb.out; omega)))
      go_wp2_with fail
      (with_reducible refine (HN9.out).mono ?_)
      rintro e wq ⟨oa, oc, rfl, -, hb⟩
      have HBB := Lib.hid hb
      clear hb HN9
      go_wp2
      exact ⟨_, rfl, ⟨_, _, rfl⟩, hg.below HBB.out, ⟨fun _ => HBB.out, fun h => absurd h (by decide)⟩⟩
    · intro x wx hG
      have g19 : ShP (s2).L.length (x.tmps.getD 51 undef) := hG.claims 19 _ rfl (by decide +kernel) (by decide +kernel)
      have gg : (x.tmps.getD 46 undef) = .bool false := hG.claims 14 _ rfl (by decide +kernel) (by decide +kernel)
      replace gg := Cl.opt (hG.size.trans (show _ = 88 from rfl)) (by decide) gg
      have hg := hG.good
      clear hG
      obtain ⟨oa, oc, hv⟩ := g19
      have hvb := hv
      rw [Array.getD_eq_getD_getElem?] at hvb
      go_wp2
      exact ⟨_, rfl, rfl, hg, ⟨fun _ => Below.refl _ _, fun h => absurd h (by decide)⟩⟩
    · intro x wx hG
      have g17 : (x.tmps.getD 49 undef) = .int .i64 ((syncB (newS 0 (ptsOf [])) s2).G.length : Nat) := hG.claims 17 _ rfl (by decide +kernel) (by decide +kernel)
      have g17b := g17
      rw [Array.getD_eq_getD_getElem?] at g17b
      have g20 : (x.tmps.getD 52 undef) = .int .i64 ((s2).L.length : Nat) := hG.claims 20 _ rfl (by decide +kernel) (by decide +kernel)
      have g20b := g20
      rw [Array.getD_eq_getD_getElem?] at g20b
      have gg : (x.tmps.getD 46 undef) = .bool false := hG.claims 14 _ rfl (by decide +kernel) (by decide +kernel)
      replace gg := Cl.opt (hG.size.trans (show _ = 88 from rfl)) (by decide) gg
      have hg := hG.good
      clear hG
      obtain ⟨q1, q2⟩ := HKG.out
      go_wp2
      exact ⟨_, rfl, rfl, hg, ⟨fun _ => Below.refl _ _, fun h => absurd h (by decide)⟩⟩
    · intro x wx hG
      have g14 : (x.tmps.getD 46 undef) = .bool false := hG.claims 14 _ rfl (by decide +kernel) (by decide +kernel)
      have g14b := g14
      rw [Array.getD_eq_getD_getElem?] at g14b
      have g21 : (x.tmps.getD 53 undef) = .bool false := hG.claims 21 _ rfl (by decide +kernel) (by decide +kernel)
      have g21b := g21
      rw [Array.getD_eq_getD_getElem?] at g21b
      have hg := hG.good
      clear hG
      go_wp2
      exact ⟨_, rfl, rfl, hg, ⟨fun _ => Below.refl _ _, fun h => absurd h (by decide)⟩⟩
    · intro x wx hG
      have g22 : (x.tmps.getD 54 undef) = .bool false := hG.claims 22 _ rfl (by decide +kernel) (by decide +kernel)
      have g22b := g22
      rw [Array.getD_eq_getD_getElem?] at g22b
      have hg := hG.good
      clear hG
      go_wp2
      exact ⟨_, rfl, rfl, hg, ⟨fun _ => Below.refl _ _, fun h => absurd h (by decide)⟩⟩
    · intro x wx hG
      have f3 := hG.old 3 (by decide +kernel)
      have gg : (x.tmps.getD 55 undef) = .bool false := hG.claims 23 _ rfl (by decide +kernel) (by decide +kernel)
      replace gg := Cl.opt (hG.size.trans (show _ = 88 from rfl)) (by decide) gg
      have hg := hG.good
      clear hG
      go_wp2
      exact ⟨_, rfl, rfl, hg, ⟨fun _ => Below.refl _ _, fun h => absurd h (by decide)⟩⟩
    · intro x wx hG
      have f6 := hG.old 6 (by decide +kernel)
      have gg : (x.tmps.getD 55 undef) = .bool false := hG.claims 23 _ rfl (by decide +kernel) (by decide +kernel)
      replace gg := Cl.opt (hG.size.trans (show _ = 88 from rfl)) (by decide) gg
      have hp := hG.pre (by decide +kernel)
      have hg := hG.good
      clear hG
      have c_HB0 := ckeep hp HB0.out
      have c_HB1 := ckeep hp HB1.out
      have c_HB2 := ckeep hp HB2.out
      have c_HB3 := ckeep hp HB3.out
      have c_HB4 := ckeep hp HB4.out
      go_wp2
      exact ⟨_, rfl, rfl, hg, ⟨fun _ => Below.refl _ _, fun h => absurd h (by decide)⟩⟩
    · intro x wx hG
      have g24 : (x.tmps.getD 56 undef) = .pointer (some ⟨ga, 0, none⟩) := hG.claims 24 _ rfl (by decide +kernel) (by decide +kernel)
      have g24b := g24
      rw [Array.getD_eq_getD_getElem?] at g24b
      have g25 : (x.tmps.getD 57 undef) = .agg #[.int .i64 (newS 0 (ptsOf [])).me, .int .i64 (newS 0 (ptsOf [])).stamp, .slice vxa (syncB (newS 0 (ptsOf [])) s2).V.length vxc, .slice gxa (syncB (newS 0 (ptsOf [])) s2).G.length gxc, .slice pxa (syncB (newS 0 (ptsOf [])) s2).S.length pxc] := hG.claims 25 _ rfl (by decide +kernel) (by decide +kernel)
      have g25b := g25
      rw [Array.getD_eq_getD_getElem?] at g25b
      have gg : (x.tmps.getD 55 undef) = .bool false := hG.claims 23 _ rfl (by decide +kernel) (by decide +kernel)
      replace gg := Cl.opt (hG.size.trans (show _ = 88 from rfl)) (by decide) gg
      have hp := hG.pre (by decide +kernel)
      have hg := hG.good
      clear hG
      have HN9 := Lib.hid (HTK.out wx hp)
      have g25b := g25
      rw [Array.getD_eq_getD_getElem?] at g25b
      go_wp2_with fail
      (with_reducible refine (HN9.out).mono ?_)
      rintro e wq ⟨rfl, h1, h2⟩
      rw [HN.out.E]
      have H1 := Lib.hid h1
      have H2 := Lib.hid h2
      clear h1 h2 HN9
      go_wp2
      exact ⟨_, rfl, ⟨H1.out, rfl⟩, hg.trans H2.out, fun h => absurd rfl h, fun _ => H2.out⟩
    · intro x wx hG
      have g26 : SiteAt wx w.heap.size ga (tookS (newS 0 (ptsOf [])) (syncB (newS 0 (ptsOf [])) s2)) ∧ (x.tmps.getD 58 undef) = .int .i64 0 := hG.claims 26 _ rfl (by decide +kernel) (by decide +kernel)
      have gg : (x.tmps.getD 55 undef) = .bool false := hG.claims 23 _ rfl (by decide +kernel) (by decide +kernel)
      replace gg := Cl.opt (hG.size.trans (show _ = 88 from rfl)) (by decide) gg
      have hg := hG.good
      clear hG
      have g26v := g26.2
      have g26vb := g26v
      rw [Array.getD_eq_getD_getElem?] at g26vb
      go_wp2
      exact ⟨_, rfl, ⟨g26.1, rfl⟩, hg, ⟨fun _ => Below.refl _ _, fun h => absurd h (by decide)⟩⟩
    · intro x wx hG
      have g23 : (x.tmps.getD 55 undef) = .bool false := hG.claims 23 _ rfl (by decide +kernel) (by decide +kernel)
      have g23b := g23
      rw [Array.getD_eq_getD_getElem?] at g23b
      have g27 : SiteAt wx w.heap.size ga (tookS (newS 0 (ptsOf [])) (syncB (newS 0 (ptsOf [])) s2)) ∧ (x.tmps.getD 59 undef) = .bool false := hG.claims 27 _ rfl (by decide +kernel) (by decide +kernel)
      have hg := hG.good
      clear hG
      have g27v := g27.2
      have g27vb := g27v
      rw [Array.getD_eq_getD_getElem?] at g27vb
      go_wp2
      exact ⟨_, rfl, ⟨g27.1, rfl⟩, hg, ⟨fun _ => Below.refl _ _, fun h => absurd h (by decide)⟩⟩
    · intro x wx hG
      have g28 : SiteAt wx w.heap.size ga (tookS (newS 0 (ptsOf [])) (syncB (newS 0 (ptsOf [])) s2)) ∧ (x.tmps.getD 60 undef) = .bool false := hG.claims 28 _ rfl (by decide +kernel) (by decide +kernel)
      have hg := hG.good
      clear hG
      have g28v := g28.2
      have g28vb := g28v
      rw [Array.getD_eq_getD_getElem?] at g28vb
      go_wp2
      exact ⟨_, rfl, ⟨g28.1, rfl⟩, hg, ⟨fun _ => Below.refl _ _, fun h => absurd h (by decide)⟩⟩
    · intro x wx hG
      have f3 := hG.old 3 (by decide +kernel)
      have gg : SiteAt wx w.heap.size ga (tookS (newS 0 (ptsOf [])) (syncB (newS 0 (ptsOf [])) s2)) ∧ (x.tmps.getD 61 undef) = .bool false := hG.claims 29 _ rfl (by decide +kernel) (by decide +kernel)
      replace gg := gg.2
      replace gg := Cl.opt (hG.size.trans (show _ = 88 from rfl)) (by decide) gg
      have hg := hG.good
      clear hG
      go_wp2
      exact ⟨_, rfl, rfl, hg, ⟨fun _ => Below.refl _ _, fun h => absurd h (by decide)⟩⟩
    · intro x wx hG
      have g30 : (x.tmps.getD 62 undef) = .pointer (some ⟨ga, 0, none⟩) := hG.claims 30 _ rfl (by decide +kernel) (by decide +kernel)
      have g30b := g30
      rw [Array.getD_eq_getD_getElem?] at g30b
      have g29 : SiteAt wx w.heap.size ga (tookS (newS 0 (ptsOf [])) (syncB (newS 0 (ptsOf [])) s2)) ∧ (x.tmps.getD 61 undef) = .bool false := hG.claims 29 _ rfl (by decide +kernel) (by decide +kernel)
      have gg : SiteAt wx w.heap.size ga (tookS (newS 0 (ptsOf [])) (syncB (newS 0 (ptsOf [])) s2)) ∧ (x.tmps.getD 61 undef) = .bool false := hG.claims 29 _ rfl (by decide +kernel) (by decide +kernel)
      replace gg := gg.2
      replace gg := Cl.opt (hG.size.trans (show _ = 88 from rfl)) (by decide) gg
      have hg := hG.good
      clear hG
      have HN9 := Lib.hid (sshelf_c ga _ _ wx (g29.1))
      go_wp2_with fail
      (with_reducible refine (HN9.out).mono ?_)
      rintro e wq ⟨oa, oc, rfl, -, hb⟩
      have HBB := Lib.hid hb
      clear hb HN9
      go_wp2
      exact ⟨_, rfl, ⟨_, _, rfl⟩, hg.below HBB.out, ⟨fun _ => HBB.out, fun h => absurd h (by decide)⟩⟩
    · intro x wx hG
      have g31 : ShP (tookS (newS 0 (ptsOf [])) (syncB (newS 0 (ptsOf [])) s2)).L.length (x.tmps.getD 63 undef) := hG.claims 31 _ rfl (by decide +kernel) (by decide +kernel)
      have gg : SiteAt wx w.heap.size ga (tookS (newS 0 (ptsOf [])) (syncB (newS 0 (ptsOf [])) s2)) ∧ (x.tmps.getD 61 undef) = .bool false := hG.claims 29 _ rfl (by decide +kernel) (by decide +kernel)
      replace gg := gg.2
      replace gg := Cl.opt (hG.size.trans (show _ = 88 from rfl)) (by decide) gg
      have hg := hG.good
      clear hG
      obtain ⟨oa, oc, hv⟩ := g31
      have hvb := hv
      rw [Array.getD_eq_getD_getElem?] at hvb
      go_wp2
      exact ⟨_, rfl, rfl, hg, ⟨fun _ => Below.refl _ _, fun h => absurd h (by decide)⟩⟩
    · intro x wx hG
      have g32 : (x.tmps.getD 64 undef) = .int .i64 ((tookS (newS 0 (ptsOf [])) (syncB (newS 0 (ptsOf [])) s2)).L.length : Nat) := hG.claims 32 _ rfl (by decide +kernel) (by decide +kernel)
      have g32b := g32
      rw [Array.getD_eq_getD_getElem?] at g32b
      have gg : SiteAt wx w.heap.size ga (tookS (newS 0 (ptsOf [])) (syncB (newS 0 (ptsOf [])) s2)) ∧ (x.tmps.getD 61 undef) = .bool false := hG.claims 29 _ rfl (by decide +kernel) (by decide +kernel)
      replace gg := gg.2
      replace gg := Cl.opt (hG.size.trans (show _ = 88 from rfl)) (by decide) gg
      have hg := hG.good
      clear hG
      have hl0 := HN.out.L
      have q1 : (((tookS (newS 0 (ptsOf [])) (syncB (newS 0 (ptsOf [])) s2)).L.length : Int) != 0) = false := by rw [hl0]; rfl
      have q2 : decide (((tookS (newS 0 (ptsOf [])) (syncB (newS 0 (ptsOf [])) s2)).L.length : Int) = 0) = true := by rw [hl0]; rfl
      clear hl0
      go_wp2
      exact ⟨_, rfl, rfl, hg, ⟨fun _ => Below.refl _ _, fun h => absurd h (by decide)⟩⟩
    · intro x wx hG
      have g29 : SiteAt wx w.heap.size ga (tookS (newS 0 (ptsOf [])) (syncB (newS 0 (ptsOf [])) s2)) ∧ (x.tmps.getD 61 undef) = .bool false := hG.claims 29 _ rfl (by decide +kernel) (by decide +kernel)
      have g33 : (x.tmps.getD 65 undef) = .bool false := hG.claims 33 _ rfl (by decide +kernel) (by decide +kernel)
      have g33b := g33
      rw [Array.getD_eq_getD_getElem?] at g33b
      have hg := hG.good
      clear hG
      go_wp2
      exact ⟨_, rfl, rfl, hg, ⟨fun _ => Below.refl _ _, fun h => absurd h (by decide)⟩⟩
  · intro vals wR hg hF
    obtain ⟨g0, g1, g2, g3, g4, g5, g6, g7, g8, g9, g10, g11, g12, g13, g14, g15, g16, g17, g18, g19, g20, g21, g22, g23, g24, g25, g26, g27, g28, g29, g30, g31, g32, g33, g34, -⟩ := hF
    have e0 : vals 0 = .int .i64 0 := g0 rfl
    have e1 : vals 1 = .bool false := g1 rfl
    have e2 : vals 2 = .bool false := g2 rfl
    have e3 : vals 3 = .pointer (some ⟨BXx, 2, none⟩) := g3 rfl
    have e4 : vals 4 = .slice vxa (syncB (newS 0 (ptsOf [])) s2).V.length vxc := g4 rfl
    have e5 : vals 5 = .int .i64 ((syncB (newS 0 (ptsOf [])) s2).V.length : Nat) := g5 rfl
    have e6 : vals 6 = .bool false := g6 rfl
    have e7 : vals 7 = .bool false := g7 rfl
    have e8 : vals 8 = .bool false := g8 rfl
    have e9 : vals 9 = .pointer (some ⟨BXx, 4, none⟩) := g9 rfl
    have e10 : vals 10 = .slice pxa (syncB (newS 0 (ptsOf [])) s2).S.length pxc := g10 rfl
    have e11 : vals 11 = .int .i64 ((syncB (newS 0 (ptsOf [])) s2).S.length : Nat) := g11 rfl
    have e12 : vals 12 = .bool false := g12 rfl
    have e13 : vals 13 = .bool false := g13 rfl
    have e14 : vals 14 = .bool false := g14 rfl
    have e15 : vals 15 = .pointer (some ⟨BXx, 3, none⟩) := g15 rfl
    have e16 : vals 16 = .slice gxa (syncB (newS 0 (ptsOf [])) s2).G.length gxc := g16 rfl
    have e17 : vals 17 = .int .i64 ((syncB (newS 0 (ptsOf [])) s2).G.length : Nat) := g17 rfl
    have e18 : vals 18 = .pointer (some ⟨gb, 0, none⟩) := g18 rfl
    have e20 : vals 20 = .int .i64 ((s2).L.length : Nat) := g20 rfl
    have e21 : vals 21 = .bool false := g21 rfl
    have e22 : vals 22 = .bool false := g22 rfl
    have e23 : vals 23 = .bool false := g23 rfl
    have e24 : vals 24 = .pointer (some ⟨ga, 0, none⟩) := g24 rfl
    have e25 : vals 25 = .agg #[.int .i64 (newS 0 (ptsOf [])).me, .int .i64 (newS 0 (ptsOf [])).stamp, .slice vxa (syncB (newS 0 (ptsOf [])) s2).V.length vxc, .slice gxa (syncB (newS 0 (ptsOf [])) s2).G.length gxc, .slice pxa (syncB (newS 0 (ptsOf [])) s2).S.length pxc] := g25 rfl
    replace g26 : SiteAt wR w.heap.size ga (tookS (newS 0 (ptsOf [])) (syncB (newS 0 (ptsOf [])) s2)) ∧ (vals 26) = .int .i64 0 := g26 rfl
    replace g27 : SiteAt wR w.heap.size ga (tookS (newS 0 (ptsOf [])) (syncB (newS 0 (ptsOf [])) s2)) ∧ (vals 27) = .bool false := g27 rfl
    replace g28 : SiteAt wR w.heap.size ga (tookS (newS 0 (ptsOf [])) (syncB (newS 0 (ptsOf [])) s2)) ∧ (vals 28) = .bool false := g28 rfl
    replace g29 : SiteAt wR w.heap.size ga (tookS (newS 0 (ptsOf [])) (syncB (newS 0 (ptsOf [])) s2)) ∧ (vals 29) = .bool false := g29 rfl
    have e30 : vals 30 = .pointer (some ⟨ga, 0, none⟩) := g30 rfl
    have e32 : vals 32 = .int .i64 ((tookS (newS 0 (ptsOf [])) (syncB (newS 0 (ptsOf [])) s2)).L.length : Nat) := g32 rfl
    have e33 : vals 33 = .bool false := g33 rfl
    have e34 : vals 34 = .bool false := g34 rfl
    simp only [Cl.puts, e0, e1, e2, e3, e4, e5, e6, e7, e8, e9, e10, e11, e12, e13, e14, e15, e16, e17, e18, e20, e21, e22, e23, e24, e25, e30, e32, e33, e34]
    clear e0 e1 e2 e3 e4 e5 e6 e7 e8 e9 e10 e11 e12 e13 e14 e15 e16 e17 e18 e20 e21 e22 e23 e24 e25 e30 e32 e33 e34 g0 g1 g2 g3 g4 g5 g6 g7 g8 g9 g10 g11 g12 g13 g14 g15 g16 g17 g18 g19 g20 g21 g22 g23 g24 g25 g30 g31 g32 g33 g34
    go_simp
    generalize vals 26 = tk9 at *
    generalize vals 27 = cy26 at *
    generalize vals 28 = cy27 at *
    generalize vals 29 = cy28 at *
    have hs := g26.1
    have hp := hg
    clear g26 hg
    replace SA := Lib.hid hs
    replace SB := Lib.hid (SB.out.stp hp (fun e => by have := NEgagb.out; omega))
    replace HBTx := Lib.hid (BtOwn.stp HBTx.out hp)
    replace HBXx := Lib.hid (hp.block HBXx.out (by have := HLSAx.out; omega))
    replace LW := Lib.hid (LW.out.one hp GEga.out)
    generalize vals 27 = ky27 at *
    generalize vals 28 = ky28 at *
    generalize vals 29 = ky29 at *
    clear hs hp HKV HKS HKG HB0 HB1 HB2 HB3 HB4 HTK
    generalize vals 19 = j19 at *
    generalize vals 31 = j31 at *
    clear HBXx
    clear HBTx
    go_wp2_with fail
    (with_reducible refine (ask_c gb _ s2 wR SB.out).mono ?_)
    rintro e w8 ⟨afy, apy, rfl, hf, hp, hb⟩
    obtain ⟨aly, hl1, hl2, hl3⟩ := hf
    obtain ⟨APy, hA1, hA2, hA3⟩ := hp
    have hA30 : APy.length ≤ 30 := by have := SB.out.ok.klen; rw [← hA3, List.length_map] at this; exact this
    replace SB := Lib.hid (SB.out.below hb)
    replace SA := Lib.hid (SA.out.below hb)
    replace LW := Lib.hid (LW.out.below hb)
    have HGV := Lib.hid (sgive_c gb _ s2 s2.me s2.stamp afy apy aly APy w8 SB.out SB.out.ok.me SB.out.ok.stamp.1 (FOwn.at_ok hl1 hl2) hl2 (hA1.at_ (fun z hz => (hA2 z hz).1) (by omega)) (ptsChk_zero.2 ⟨hA30, fun z hz => (hA2 z hz).1⟩))
    have HEQ := Lib.hid (show giveB s2 s2.me s2.stamp (ptsOf aly) (APy.map sem) = syncB s2 s2 by
      unfold syncB; rw [hA3]
      exact giveB_congr SB.out.ok fun t n ht hn => by rw [ptsOf_in ht hn]; exact hl3 t n ht hn)
    obtain ⟨f8a, f8c, hfv⟩ := (FOwn.at_ok hl1 hl2).shape
    subst hfv
    obtain ⟨p8a, p8c, hpv⟩ := hA1.shape
    subst hpv
    clear hl1 hl2 hl3 hA1 hA2 hA3 hb hA30
    go_wp2_with fail
    (with_reducible refine (HGV.out).mono ?_)
    rintro e w9 ⟨vvy, gvy, pvy, rfl, hbt, hb⟩
    rw [HEQ.out] at hbt
    replace SB := Lib.hid (SB.out.below hb)
    replace SA := Lib.hid (SA.out.below hb)
    replace LW := Lib.hid (LW.out.below hb)
    obtain ⟨vya, vyc, hvv⟩ := hbt.vers.shape
    obtain ⟨gya, gyc, hgv⟩ := GOwn.shape hbt.gone
    obtain ⟨pya, pyc, hpv⟩ := hbt.parts.shape
    subst hvv hgv hpv
    have HBOy := Lib.hid (syncB_ok SB.out.ok SB.out.ok)
    obtain ⟨BXy, hBX⟩ : ∃ BX, BX = w9.heap.size := ⟨_, rfl⟩
    obtain ⟨w10, hw3⟩ : ∃ wB, wB = w9.alloc (.cells #[.int .i64 s2.me, .int .i64 s2.stamp, .slice vya (syncB s2 s2).V.length vyc, .slice gya (syncB s2 s2).G.length gyc, .slice pya (syncB s2 s2).S.length pyc] 52) := ⟨_, rfl⟩
    have hb3 : Below w9.heap.size w9 w10 := by rw [hw3]; exact bal _
    have HBXy := Lib.hid (show w10.heap[BXy]? = some (Obj.cells #[.int .i64 s2.me, .int .i64 s2.stamp, .slice vya (syncB s2 s2).V.length vyc, .slice gya (syncB s2 s2).G.length gyc, .slice pya (syncB s2 s2).S.length pyc] 52 (0, 0)) by rw [hw3]; exact alloc_new _ _ _ _ hBX)
    have HBTy := Lib.hid (hbt.below hb3)
    have HW3 := Lib.hid hw3
    have HBX0 := Lib.hid hBX
    have HLSBy := Lib.hid (show gb < BXy by rw [hBX]; exact SB.out.lt)
    have HLSAy := Lib.hid (show ga < BXy by rw [hBX]; exact SA.out.lt)
    replace SB := Lib.hid (SB.out.below hb3)
    replace SA := Lib.hid (SA.out.below hb3)
    replace LW := Lib.hid (LW.out.below hb3)
    clear hbt hb hb3 hBX hw3 HGV HEQ
    have kv : ((syncB s2 s2).V.length : Int) = 0 := by rw [HN.out.V2]; rfl
    have kg : ((syncB s2 s2).G.length : Int) = 0 := by rw [HN.out.G2]; rfl
    have kv1 : (((syncB s2 s2).V.length : Int) == 0) = true := by rw [kv]; rfl
    have kv2 : decide (((syncB s2 s2).V.length : Int) = 0) = true := by rw [kv]; rfl
    have kg1 : (((syncB s2 s2).G.length : Int) == 0) = true := by rw [kg]; rfl
    have kg2 : decide (((syncB s2 s2).G.length : Int) = 0) = true := by rw [kg]; rfl
    have HB := Lib.hid LW.out.toBelow
    have k2 := cell_of_block (j := 2) HBXy.out rfl
    have k3 := cell_of_block (j := 3) HBXy.out rfl
    have kl := hlt_of HBXy.out
    rw [HW3.out, HBX0.out] at k2 k3 kl
    clear kv kg
    go_wp2
    rw [← HW3.out]
    go_ret
    exact ⟨rfl, HB.out⟩
end Go.Proofs.YtboakoipdfmpcaaGreat
