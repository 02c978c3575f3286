/- What SiteLate does. Written by a small program (gen/sl.py). -/
import Derived.Test.YtboakoipdfmpcaaGreatMSiteD
namespace Go.Proofs.YtboakoipdfmpcaaGreat
open Go.RowKit
theorem tookS_no {s : SiteS} {b : BtS} (h : tookE s b ≠ 0) : tookS s b = s := by unfold tookS; rw [if_neg h]
theorem late6 {s r : SiteS} {p : Nat → Nat → Bool} : tookE (wantS s p) (syncB s r) = 6 := by
  unfold tookE
  rw [if_neg (show ¬ (syncB s r).site ≠ (wantS s p).me from fun h => h rfl), if_pos (show (syncB s r).stamp ≠ (wantS s p).stamp from fun h => by have h : s.stamp = s.stamp + 1 := h; omega)]
theorem late1 {s r q : SiteS} (h : s.me ≠ q.me) : tookE q (syncB s r) = 1 := by
  unfold tookE
  rw [if_pos (show (syncB s r).site ≠ q.me from h)]
set_option maxRecDepth 100000 in
set_option maxHeartbeats 8000000 in
theorem SiteLate_walk (fv gv lv : Value) (F G : Bxs) (l : List (List Int)) (w : World) (hF : BxsAt w fv F) (hG : BxsAt w gv G) (hl : RowAt vecE w lv l) :
    Calls Tryz.prog 8 #[fv, gv, lv] w fun e w' => e = .returned (.bool true) ∧ Below w.heap.size w w' := by
  obtain ⟨fa, fc, rfl⟩ := hF.shape
  obtain ⟨ga0, gc0, rfl⟩ := hG.shape
  obtain ⟨la, lc, rfl⟩ := hl.shape
  have HF := Lib.hid hF
  have HG := Lib.hid hG
  have HL := Lib.hid hl
  clear hF hG hl
  have LW := Lib.hid (Lw.refl w)
  go_enter Tryz.func8, Tryz.ntmps8
  go_wp2_with fail
  (with_reducible refine (siteBegun_c w).mono ?_)
  rintro e w1 ⟨rfl, hb⟩
  replace LW := Lib.hid (LW.out.below hb)
  clear hb
  go_wp2_with fail
  (with_reducible refine (fChk_c _ F w1 (BxsAt.sub HF.out LW.out.sub)).mono ?_)
  rintro e w2 ⟨rfl, hb⟩
  replace LW := Lib.hid (LW.out.below hb)
  clear hb
  by_cases hz : fChk F = 0
  rotate_left
  · have hd : decide (fChk F = 0) = false := by simpa using hz
    have hd2 : (fChk F != 0) = true := bne_iff_ne.2 hz
    have HB := Lib.hid LW.out.toBelow
    go_wp2
    go_ret
    exact ⟨rfl, HB.out⟩
  have ZF := Lib.hid hz
  rw [hz]
  clear hz
  go_wp2_with fail
  (with_reducible refine (fChk_c _ G w2 (BxsAt.sub HG.out LW.out.sub)).mono ?_)
  rintro e w3 ⟨rfl, hb⟩
  replace LW := Lib.hid (LW.out.below hb)
  clear hb
  by_cases hz : fChk G = 0
  rotate_left
  · have hd : decide (fChk G = 0) = false := by simpa using hz
    have hd2 : (fChk G != 0) = true := bne_iff_ne.2 hz
    have HB := Lib.hid LW.out.toBelow
    go_wp2
    go_ret
    exact ⟨rfl, HB.out⟩
  have ZG := Lib.hid hz
  rw [hz]
  clear hz
  go_wp2_with fail
  (with_reducible refine (everyS w3).mono ?_)
  rintro e w4 ⟨ev, rfl, hev, hb⟩
  obtain ⟨eva, evc, hev⟩ := (hev.at_ok every_chk).shape
  subst hev
  have HEVev := Lib.hid hev
  replace LW := Lib.hid (LW.out.below hb)
  clear hb hev
  go_wp2_with fail
  (with_reducible refine (stwo_c _ _ F everyB w4 (BxsAt.sub HF.out LW.out.sub) (HEVev.out.at_ok every_chk) ZF.out every_chk).mono ?_)
  rintro e w5 ⟨ga, gb, rfl, hsa, hsb, hlt, hb⟩
  have HS0 := Lib.hid LW.out.size
  have SA := Lib.hid (SiteAt.mono hsa HS0.out)
  have SB := Lib.hid (SiteAt.mono hsb HS0.out)
  have GEga := Lib.hid SA.out.ge
  have GEgb := Lib.hid SB.out.ge
  have NEgagb := Lib.hid hlt
  clear hsa hsb hlt HS0
  replace HEVev := Lib.hid (BxsOwn.below HEVev.out hb)
  replace LW := Lib.hid (LW.out.below hb)
  clear hb
  clear HEVev
  have HMD := Lib.hid (show (newS 1 (ptsOf everyB)).made ≤ 900 from (by decide : (0:Int) ≤ 900))
  have HSTL := Lib.hid (show (newS 0 (ptsOf F)).stamp < 1000000 from (by decide : (0:Int) < 1000000))
  have M0 := Lib.hid (made_new [] 1 (ptsOf everyB) Hx.nil (by simp))
  go_wp2_with fail
  (with_reducible refine (smakes_c gb _ (newS 1 (ptsOf everyB)) [] _ l w5 SB.out M0.out (by simp) HMD.out (fun w' hs => HL.out.sub (LW.out.one hs GEgb.out).sub)).mono ?_)
  rintro e w6 ⟨U2, s2, rfl, hgr, hs, hp⟩
  have Gs2 := Lib.hid hgr
  clear hgr
  replace SB := Lib.hid hs
  replace SA := Lib.hid (SA.out.stp hp (fun e => by have := NEgagb.out; omega))
  replace LW := Lib.hid (LW.out.one hp GEgb.out)
  clear hs hp
  have HM1 := Lib.hid (show (newS 0 (ptsOf F)).me ≠ s2.me by rw [Gs2.out.me]; exact (by decide : (0:Int) ≠ 1))
  go_wp2_with fail
  (with_reducible refine (ask_c ga _ (newS 0 (ptsOf F)) w6 SA.out).mono ?_)
  rintro e w7 ⟨afx, apx, rfl, hf, hp, hb⟩
  obtain ⟨alx, hl1, hl2, hl3⟩ := hf
  obtain ⟨APx, hA1, hA2, hA3⟩ := hp
  have hA30 : APx.length ≤ 30 := by have := SA.out.ok.klen; rw [← hA3, List.length_map] at this; exact this
  replace SA := Lib.hid (SA.out.below hb)
  replace SB := Lib.hid (SB.out.below hb)
  replace LW := Lib.hid (LW.out.below hb)
  have HGV := Lib.hid (sgive_c gb _ s2 (newS 0 (ptsOf F)).me (newS 0 (ptsOf F)).stamp afx apx alx APx w7 SB.out SA.out.ok.me SA.out.ok.stamp.1 (FOwn.at_ok hl1 hl2) hl2 (hA1.at_ (fun z hz => (hA2 z hz).1) (by omega)) (ptsChk_zero.2 ⟨hA30, fun z hz => (hA2 z hz).1⟩))
  have HEQ := Lib.hid (show giveB s2 (newS 0 (ptsOf F)).me (newS 0 (ptsOf F)).stamp (ptsOf alx) (APx.map sem) = syncB (newS 0 (ptsOf F)) s2 by
    unfold syncB; rw [hA3]
    exact giveB_congr SB.out.ok fun t n ht hn => by rw [ptsOf_in ht hn]; exact hl3 t n ht hn)
  obtain ⟨f8a, f8c, hfv⟩ := (FOwn.at_ok hl1 hl2).shape
  subst hfv
  obtain ⟨p8a, p8c, hpv⟩ := hA1.shape
  subst hpv
  clear hl1 hl2 hl3 hA1 hA2 hA3 hb hA30
  go_wp2_with fail
  (with_reducible refine (HGV.out).mono ?_)
  rintro e w8 ⟨vvx, gvx, pvx, rfl, hbt, hb⟩
  rw [HEQ.out] at hbt
  replace SA := Lib.hid (SA.out.below hb)
  replace SB := Lib.hid (SB.out.below hb)
  replace LW := Lib.hid (LW.out.below hb)
  obtain ⟨vxa, vxc, hvv⟩ := hbt.vers.shape
  obtain ⟨gxa, gxc, hgv⟩ := GOwn.shape hbt.gone
  obtain ⟨pxa, pxc, hpv⟩ := hbt.parts.shape
  subst hvv hgv hpv
  have HBOx := Lib.hid (syncB_ok SA.out.ok SB.out.ok)
  obtain ⟨BXx, hBX⟩ : ∃ BX, BX = w8.heap.size := ⟨_, rfl⟩
  obtain ⟨w9, hw3⟩ : ∃ w9, w9 = w8.alloc (.cells #[.int .i64 (newS 0 (ptsOf F)).me, .int .i64 (newS 0 (ptsOf F)).stamp, .slice vxa (syncB (newS 0 (ptsOf F)) s2).V.length vxc, .slice gxa (syncB (newS 0 (ptsOf F)) s2).G.length gxc, .slice pxa (syncB (newS 0 (ptsOf F)) s2).S.length pxc] 52) := ⟨_, rfl⟩
  have hb3 : Below w8.heap.size w8 w9 := by rw [hw3]; exact bal _
  have HBXx := Lib.hid (show w9.heap[BXx]? = some (Obj.cells #[.int .i64 (newS 0 (ptsOf F)).me, .int .i64 (newS 0 (ptsOf F)).stamp, .slice vxa (syncB (newS 0 (ptsOf F)) s2).V.length vxc, .slice gxa (syncB (newS 0 (ptsOf F)) s2).G.length gxc, .slice pxa (syncB (newS 0 (ptsOf F)) s2).S.length pxc] 52 (0, 0)) by rw [hw3]; exact alloc_new _ _ _ _ hBX)
  have HBTx := Lib.hid (hbt.below hb3)
  have HW3 := Lib.hid hw3
  have HBX0 := Lib.hid hBX
  have HLSAx := Lib.hid (show ga < BXx by rw [hBX]; exact SA.out.lt)
  have HLSBx := Lib.hid (show gb < BXx by rw [hBX]; exact SB.out.lt)
  replace SA := Lib.hid (SA.out.below hb3)
  replace SB := Lib.hid (SB.out.below hb3)
  replace LW := Lib.hid (LW.out.below hb3)
  clear hbt hb hb3 hBX hw3 HGV HEQ
  go_wp2_with fail
  rw [← HW3.out, ← HBX0.out]
  (with_reducible refine (swant_c ga _ _ _ G w9 SA.out (fun w' hs => BxsAt.sub HG.out (LW.out.one hs GEga.out).sub) ZG.out HSTL.out).mono ?_)
  rintro e w10 ⟨rfl, hs, hp⟩
  clear HW3 HBX0
  replace SA := Lib.hid hs
  replace SB := Lib.hid (SB.out.stp hp (fun e => by have := NEgagb.out; omega))
  replace HBTx := Lib.hid (BtOwn.stp HBTx.out hp)
  replace HBXx := Lib.hid (hp.block HBXx.out (by have := HLSAx.out; omega))
  replace LW := Lib.hid (LW.out.one hp GEga.out)
  clear hs hp
  have hbo := HBOx.out
  obtain ⟨PP, hP1, hP2, hP3⟩ := HBTx.out.parts
  have hPl : PP.length ≤ 30 := by have := hbo.ls; rw [← hP3, List.length_map] at this; exact this
  have HT := Lib.hid (show Calls Tryz.prog 37 #[.pointer (some ⟨ga, 0, none⟩), .agg #[.int .i64 _, .int .i64 _, .slice vxa (syncB (newS 0 (ptsOf F)) s2).V.length vxc, .slice gxa (syncB (newS 0 (ptsOf F)) s2).G.length gxc, .slice pxa (syncB (newS 0 (ptsOf F)) s2).S.length pxc]] w10 _ from stake_c ga _ (wantS (newS 0 (ptsOf F)) (ptsOf G)) (syncB (newS 0 (ptsOf F)) s2) PP _ _ _ w10 SA.out hbo (HBTx.out.vers.at_ (shok_bd hbo.V) (by have := hbo.lv; omega)) (GOwn.at_ HBTx.out.gone (fun z hz => gone_bd (hbo.G z hz)) (by have := hbo.lg; omega)) (hP1.at_ (fun z hz => (hP2 z hz).1) (by omega)) (fun z hz => (hP2 z hz).1) hP3)
  have e1 : (syncB (newS 0 (ptsOf F)) s2).site = (newS 0 (ptsOf F)).me := rfl
  have e2 : (syncB (newS 0 (ptsOf F)) s2).stamp = (newS 0 (ptsOf F)).stamp := rfl
  rw [e1, e2] at HT
  clear e1 e2
  clear hbo hP1 hP2 hP3 hPl
  have k0 := cell_of_block (j := 0) HBXx.out rfl
  have k1 := cell_of_block (j := 1) HBXx.out rfl
  have k2 := cell_of_block (j := 2) HBXx.out rfl
  have k3 := cell_of_block (j := 3) HBXx.out rfl
  have k4 := cell_of_block (j := 4) HBXx.out rfl
  have kl := hlt_of HBXx.out
  go_wp2_with fail
  clear k0 k1 k2 k3 k4 kl
  (with_reducible refine (HT.out).mono ?_)
  rintro e w11 ⟨rfl, hs, hp⟩
  clear HT
  rw [late6]
  rw [tookS_no (by rw [late6]; decide)] at hs
  replace SA := Lib.hid hs
  replace SB := Lib.hid (SB.out.stp hp (fun e => by have := NEgagb.out; omega))
  replace HBTx := Lib.hid (BtOwn.stp HBTx.out hp)
  replace HBXx := Lib.hid (hp.block HBXx.out (by have := HLSAx.out; omega))
  replace LW := Lib.hid (LW.out.one hp GEga.out)
  clear hs hp
  have HLL := Lib.hid (show (wantS (newS 0 (ptsOf F)) (ptsOf G)).L.length = 0 from rfl)
  go_wp2_with fail
  (with_reducible refine (sshelf_c ga _ _ w11 SA.out).mono ?_)
  rintro e w12 ⟨za, zc, rfl, -, hb⟩
  rw [HLL.out]
  replace SB := Lib.hid (SB.out.below hb)
  replace HBTx := Lib.hid (BtOwn.below HBTx.out hb)
  replace HBXx := Lib.hid (below_keep hb HBXx.out)
  replace SA := Lib.hid (SA.out.below hb)
  replace LW := Lib.hid (LW.out.below hb)
  clear hb
  have hbo := HBOx.out
  obtain ⟨PP, hP1, hP2, hP3⟩ := HBTx.out.parts
  have hPl : PP.length ≤ 30 := by have := hbo.ls; rw [← hP3, List.length_map] at this; exact this
  have HT := Lib.hid (show Calls Tryz.prog 37 #[.pointer (some ⟨gb, 0, none⟩), .agg #[.int .i64 _, .int .i64 _, .slice vxa (syncB (newS 0 (ptsOf F)) s2).V.length vxc, .slice gxa (syncB (newS 0 (ptsOf F)) s2).G.length gxc, .slice pxa (syncB (newS 0 (ptsOf F)) s2).S.length pxc]] w12 _ from stake_c gb _ s2 (syncB (newS 0 (ptsOf F)) s2) PP _ _ _ w12 SB.out hbo (HBTx.out.vers.at_ (shok_bd hbo.V) (by have := hbo.lv; omega)) (GOwn.at_ HBTx.out.gone (fun z hz => gone_bd (hbo.G z hz)) (by have := hbo.lg; omega)) (hP1.at_ (fun z hz => (hP2 z hz).1) (by omega)) (fun z hz => (hP2 z hz).1) hP3)
  have e1 : (syncB (newS 0 (ptsOf F)) s2).site = (newS 0 (ptsOf F)).me := rfl
  have e2 : (syncB (newS 0 (ptsOf F)) s2).stamp = (newS 0 (ptsOf F)).stamp := rfl
  rw [e1, e2] at HT
  clear e1 e2
  clear hbo hP1 hP2 hP3 hPl
  have k0 := cell_of_block (j := 0) HBXx.out rfl
  have k1 := cell_of_block (j := 1) HBXx.out rfl
  have k2 := cell_of_block (j := 2) HBXx.out rfl
  have k3 := cell_of_block (j := 3) HBXx.out rfl
  have k4 := cell_of_block (j := 4) HBXx.out rfl
  have kl := hlt_of HBXx.out
  go_wp2_with fail
  clear k0 k1 k2 k3 k4 kl
  (with_reducible refine (HT.out).mono ?_)
  rintro e w13 ⟨rfl, hs, hp⟩
  clear HT
  rw [late1 HM1.out]
  rw [tookS_no (by rw [late1 HM1.out]; decide)] at hs
  replace SB := Lib.hid hs
  replace HBTx := Lib.hid (BtOwn.stp HBTx.out hp)
  replace HBXx := Lib.hid (hp.block HBXx.out (by have := HLSBx.out; omega))
  replace SA := Lib.hid (SA.out.stp hp (fun e => by have := NEgagb.out; omega))
  replace LW := Lib.hid (LW.out.one hp GEgb.out)
  clear hs hp
  have HB := Lib.hid LW.out.toBelow
  go_wp2
  go_ret
  exact ⟨rfl, HB.out⟩
end Go.Proofs.YtboakoipdfmpcaaGreat
