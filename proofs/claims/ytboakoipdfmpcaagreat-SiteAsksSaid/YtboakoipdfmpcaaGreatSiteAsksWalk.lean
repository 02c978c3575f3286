/- What SiteAsks does. Written by a small program (gen/sl.py). -/
import Derived.Test.YtboakoipdfmpcaaGreatMSiteD
import Derived.Test.YtboakoipdfmpcaaGreatMShelf7
namespace Go.Proofs.YtboakoipdfmpcaaGreat
open Go.RowKit
theorem asks1 {U1 : List Ver} {p : Nat → Nat → Bool} {b1 : SiteS} (hU : Uni U1) (hsrc : Src U1 b1) (hme : b1.me = 1) (ha : SiteOk (newS 0 p)) (hb : SiteOk b1) :
    tookE (newS 0 p) (syncB (newS 0 p) b1) = 0 ∧ Synced (newS 0 p) b1 (tookS (newS 0 p) (syncB (newS 0 p) b1)) ∧ Fol U1 b1.made (tookS (newS 0 p) (syncB (newS 0 p) b1)) b1.me := by
  have h := sync_took hU ha hb (by simp [newS]) hsrc.made.sub (by rw [hsrc.S]; exact (by decide : (0:Nat) ≤ 28))
  have hf := follow hU hsrc (Fol.new (me := 0) (by rw [hme]; decide) p) (by simp) (fun x hx hc => by have := (dot_rng (hsrc.made.hx.ok x hx).dot).2.2.1; omega) ha hb hb.made.1 h
  exact ⟨h.e, h, hf.2.1⟩
theorem asks2 {U1 U2 : List Ver} {p : Nat → Nat → Bool} {b1 b2 a1 : SiteS} {k : Nat} (hU : Uni U2) (hs1 : Src U1 b1) (g : Grow U1 b1 U2 b2 k) (hb2 : SiteOk b2) (ha1 : SiteOk a1) (hP : a1.P = p) (hS : a1.S.length ≤ 2) (hf : Fol U1 b1.made a1 b1.me) (_hme : b1.me = 1) :
    tookE a1 (syncB a1 b2) = 0 ∧ (tookS a1 (syncB a1 b2)).L = wantL b2.L p ∧ tookE (tookS a1 (syncB a1 b2)) (syncB (tookS a1 (syncB a1 b2)) b2) = 0 ∧
      (tookS (tookS a1 (syncB a1 b2)) (syncB (tookS a1 (syncB a1 b2)) b2)).L = wantL b2.L p ∧ (syncB (tookS a1 (syncB a1 b2)) b2).V = [] := by
  obtain ⟨hs2, hlow, h12⟩ := hs1.grow hb2 g
  have hsubL : ∀ x ∈ a1.L, x ∈ U2 := fun x hx => h12 x ((hf.L x).1 hx).1
  have h := sync_took hU ha1 hb2 hsubL hs2.made.sub (by rw [hs2.S]; simp; omega)
  rw [← g.me] at hf
  obtain ⟨f1, f2, f3⟩ := follow hU hs2 hf h12 hlow ha1 hb2 g.len.2.1 h
  have hbt := syncB_ok ha1 hb2
  have ok2 := tookS_ok ha1 hbt
  generalize ha2 : tookS a1 (syncB a1 b2) = a2 at *
  have hlen := h.len
  rw [hs2.S] at hlen
  have h2 := sync_took hU ok2 hb2 (h.within hsubL hs2.made.sub) hs2.made.sub (by rw [hs2.S]; simp at hlen ⊢; omega)
  obtain ⟨q1, q2, q3⟩ := follow hU hs2 f2 (fun x hx => hx) (fun x hx _ => hx) ok2 hb2 (Int.le_refl _) h2
  rw [hP] at f1
  rw [h.P, hP] at q1
  refine ⟨h.e, f1, h2.e, q1, giveV_nil fun v hv hin => f3 v ((hs2.max v).1 hv).1 ?_⟩
  rw [← h.P]; exact hin
set_option maxRecDepth 100000 in
set_option maxHeartbeats 8000000 in
theorem SiteAsks_walk (fv lv mv : Value) (F : Bxs) (l m : List (List Int)) (w : World) (hF : BxsAt w fv F) (hl : RowAt vecE w lv l) (hm : RowAt vecE w mv m) :
    Calls Tryz.prog 11 #[fv, lv, mv] w fun e w' => e = .returned (.bool true) ∧ Below w.heap.size w w' := by
  obtain ⟨fa, fc, rfl⟩ := hF.shape
  obtain ⟨la, lc, rfl⟩ := hl.shape
  obtain ⟨ma, mc, rfl⟩ := hm.shape
  have HF := Lib.hid hF
  have HL := Lib.hid hl
  have HM := Lib.hid hm
  clear hF hl hm
  have LW := Lib.hid (Lw.refl w)
  go_enter Tryz.func11, Tryz.ntmps11
  go_wp2_with fail
  (with_reducible refine (siteBegun_c w).mono ?_)
  rintro e w1 ⟨rfl, hb⟩
  replace LW := Lib.hid (LW.out.below hb)
  clear hb
  go_wp2_with fail
  (with_reducible refine (fChk_c _ F w1 (BxsAt.sub HF.out LW.out.sub)).mono ?_)
  rintro e w2 ⟨rfl, hb⟩
  replace LW := Lib.hid (LW.out.below hb)
  clear hb
  by_cases hz : fChk F = 0
  rotate_left
  · have hd : decide (fChk F = 0) = false := by simpa using hz
    have hd2 : (fChk F != 0) = true := bne_iff_ne.2 hz
    have HB := Lib.hid LW.out.toBelow
    go_wp2
    go_ret
    exact ⟨rfl, HB.out⟩
  have ZF := Lib.hid hz
  rw [hz]
  clear hz
  go_wp2_with fail
  (with_reducible refine (everyS w2).mono ?_)
  rintro e w3 ⟨ev, rfl, hev, hb⟩
  obtain ⟨eva, evc, hev⟩ := (hev.at_ok every_chk).shape
  subst hev
  have HEVev := Lib.hid hev
  replace LW := Lib.hid (LW.out.below hb)
  clear hb hev
  go_wp2_with fail
  (with_reducible refine (stwo_c _ _ F everyB w3 (BxsAt.sub HF.out LW.out.sub) (HEVev.out.at_ok every_chk) ZF.out every_chk).mono ?_)
  rintro e w4 ⟨ga, gb, rfl, hsa, hsb, hlt, hb⟩
  have HS0 := Lib.hid LW.out.size
  have SA := Lib.hid (SiteAt.mono hsa HS0.out)
  have SB := Lib.hid (SiteAt.mono hsb HS0.out)
  have GEga := Lib.hid SA.out.ge
  have GEgb := Lib.hid SB.out.ge
  have NEgagb := Lib.hid hlt
  clear hsa hsb hlt HS0
  replace HEVev := Lib.hid (BxsOwn.below HEVev.out hb)
  replace LW := Lib.hid (LW.out.below hb)
  clear hb
  clear HEVev
  have HMB := Lib.hid (show (newS 1 (ptsOf everyB)).made ≤ 900 from (by decide : (0:Int) ≤ 900))
  have S0 := Lib.hid (Src.new 1 (ptsOf everyB))
  go_wp2_with fail
  (with_reducible refine (smakes_c gb _ (newS 1 (ptsOf everyB)) [] _ l w4 SB.out S0.out.made (by simp) HMB.out (fun w' hs => HL.out.sub (LW.out.one hs GEgb.out).sub)).mono ?_)
  rintro e w5 ⟨U1, b1, rfl, hgr, hs, hp⟩
  have Gb1 := Lib.hid hgr
  clear hgr
  replace SB := Lib.hid hs
  replace SA := Lib.hid (SA.out.stp hp (fun e => by have := NEgagb.out; omega))
  replace LW := Lib.hid (LW.out.one hp GEgb.out)
  clear hs hp
  have HS1 := Lib.hid (S0.out.grow SB.out.ok Gb1.out).1
  have HU1 := Lib.hid (show U1.length ≤ 12 by have := Gb1.out.len.1; simpa using this)
  have HME := Lib.hid (show b1.me = 1 from Gb1.out.me)
  have HA1 := Lib.hid (asks1 (HS1.out.made.hx.uni (by have := HU1.out; omega)) HS1.out HME.out SA.out.ok SB.out.ok)
  go_wp2_with fail
  (with_reducible refine (sync_ok ga gb _ (newS 0 (ptsOf F)) b1 w5 SA.out SB.out (by have := NEgagb.out; omega) HA1.out.1).mono ?_)
  rintro e w6 ⟨rfl, hs, hr, hp⟩
  replace SA := Lib.hid hs
  replace SB := Lib.hid hr
  replace LW := Lib.hid (LW.out.one hp GEga.out)
  clear hs hr hp
  generalize ha1 : tookS (newS 0 (ptsOf F)) (syncB (newS 0 (ptsOf F)) b1) = a1 at *
  have HEa1 := Lib.hid ha1
  clear ha1
  have HM9 := Lib.hid (show b1.made ≤ 900 by have := Gb1.out.len.2.2; have h0 : (newS 1 (ptsOf everyB)).made = 0 := rfl; omega)
  go_wp2_with fail
  (with_reducible refine (smakes_c gb _ b1 U1 _ m w6 SB.out HS1.out.made (by have := HU1.out; omega) HM9.out (fun w' hs => HM.out.sub (LW.out.one hs GEgb.out).sub)).mono ?_)
  rintro e w7 ⟨U2, b2, rfl, hgr, hs, hp⟩
  have Gb2 := Lib.hid hgr
  clear hgr
  replace SB := Lib.hid hs
  replace SA := Lib.hid (SA.out.stp hp (fun e => by have := NEgagb.out; omega))
  replace LW := Lib.hid (LW.out.one hp GEgb.out)
  clear hs hp
  have HU2 := Lib.hid ((HS1.out.grow SB.out.ok Gb2.out).1.made.hx.uni (show U2.length ≤ 60 by have := Gb2.out.len.1; have := HU1.out; omega))
  have HL1 := Lib.hid (show a1.S.length ≤ 2 by have h := HA1.out.2.1.len; have h1 := HS1.out.S; rw [h1] at h; have h2 : (newS 0 (ptsOf F)).S.length = 0 := rfl; simp at h; omega)
  have HA2 := Lib.hid (asks2 (p := ptsOf F) HU2.out HS1.out Gb2.out SB.out.ok SA.out.ok HA1.out.2.1.P HL1.out HA1.out.2.2 HME.out)
  go_wp2_with fail
  (with_reducible refine (sync_ok ga gb _ a1 b2 w7 SA.out SB.out (by have := NEgagb.out; omega) HA2.out.1).mono ?_)
  rintro e w8 ⟨rfl, hs, hr, hp⟩
  replace SA := Lib.hid hs
  replace SB := Lib.hid hr
  replace LW := Lib.hid (LW.out.one hp GEga.out)
  clear hs hr hp
  generalize ha2 : tookS a1 (syncB a1 b2) = a2 at *
  have HEa2 := Lib.hid ha2
  clear ha2
  go_wp2_with fail
  (with_reducible refine (sshelf_c ga _ _ w8 SA.out).mono ?_)
  rintro e w9 ⟨xa, xc, rfl, hv, hb⟩
  have XV := Lib.hid (VOwn.mono hv (Nat.zero_le _))
  replace SA := Lib.hid (SA.out.below hb)
  replace SB := Lib.hid (SB.out.below hb)
  replace LW := Lib.hid (LW.out.below hb)
  clear hv hb
  go_wp2_with fail
  (with_reducible refine (sshelf_c gb _ _ w9 SB.out).mono ?_)
  rintro e w10 ⟨ya, yc, rfl, hv, hb⟩
  have YV := Lib.hid (VOwn.mono hv (Nat.zero_le _))
  replace SA := Lib.hid (SA.out.below hb)
  replace SB := Lib.hid (SB.out.below hb)
  replace XV := Lib.hid (VOwn.below XV.out hb)
  replace LW := Lib.hid (LW.out.below hb)
  clear hv hb
  have hbo := SB.out.ok.L
  have HWN := Lib.hid (swanted_c _ _ b2.L F w10 (YV.out.at_ (shok_bd hbo.ok) (by have := hbo.len; omega)) hbo.ok hbo.len (BxsAt.sub HF.out LW.out.sub) ZF.out)
  clear hbo
  go_wp2_with fail
  (with_reducible refine (HWN.out).mono ?_)
  rintro e w11 ⟨za, zc, rfl, hz, hb⟩
  replace SA := Lib.hid (SA.out.below hb)
  replace SB := Lib.hid (SB.out.below hb)
  replace XV := Lib.hid (VOwn.below XV.out hb)
  replace YV := Lib.hid (VOwn.below YV.out hb)
  replace LW := Lib.hid (LW.out.below hb)
  have hao := SA.out.ok.L
  have HSM := Lib.hid (sameS_c _ _ a2.L (wantL b2.L (ptsOf F)) w11 (XV.out.at_ (shok_bd hao.ok) (by have := hao.len; omega)) hz)
  clear hao hz hb HWN
  clear XV
  clear YV
  go_wp2_with fail
  (with_reducible refine (HSM.out).mono ?_)
  rintro e w12 ⟨q, rfl, hq, hb⟩
  obtain rfl : q = true := hq.2 HA2.out.2.1
  clear hq HSM
  replace SA := Lib.hid (SA.out.below hb)
  replace SB := Lib.hid (SB.out.below hb)
  replace LW := Lib.hid (LW.out.below hb)
  clear hb
  go_wp2_with fail
  (with_reducible refine (ask_c ga _ a2 w12 SA.out).mono ?_)
  rintro e w13 ⟨afx, apx, rfl, hf, hp, hb⟩
  obtain ⟨alx, hl1, hl2, hl3⟩ := hf
  obtain ⟨APx, hA1, hA2, hA3⟩ := hp
  have hA30 : APx.length ≤ 30 := by have := SA.out.ok.klen; rw [← hA3, List.length_map] at this; exact this
  replace SA := Lib.hid (SA.out.below hb)
  replace SB := Lib.hid (SB.out.below hb)
  replace LW := Lib.hid (LW.out.below hb)
  have HGV := Lib.hid (sgive_c gb _ b2 a2.me a2.stamp afx apx alx APx w13 SB.out SA.out.ok.me SA.out.ok.stamp.1 (FOwn.at_ok hl1 hl2) hl2 (hA1.at_ (fun z hz => (hA2 z hz).1) (by omega)) (ptsChk_zero.2 ⟨hA30, fun z hz => (hA2 z hz).1⟩))
  have HEQ := Lib.hid (show giveB b2 a2.me a2.stamp (ptsOf alx) (APx.map sem) = syncB a2 b2 by
    unfold syncB; rw [hA3]
    exact giveB_congr SB.out.ok fun t n ht hn => by rw [ptsOf_in ht hn]; exact hl3 t n ht hn)
  obtain ⟨f8a, f8c, hfv⟩ := (FOwn.at_ok hl1 hl2).shape
  subst hfv
  obtain ⟨p8a, p8c, hpv⟩ := hA1.shape
  subst hpv
  clear hl1 hl2 hl3 hA1 hA2 hA3 hb hA30
  go_wp2_with fail
  (with_reducible refine (HGV.out).mono ?_)
  rintro e w14 ⟨vvx, gvx, pvx, rfl, hbt, hb⟩
  rw [HEQ.out] at hbt
  replace SA := Lib.hid (SA.out.below hb)
  replace SB := Lib.hid (SB.out.below hb)
  replace LW := Lib.hid (LW.out.below hb)
  obtain ⟨vxa, vxc, hvv⟩ := hbt.vers.shape
  obtain ⟨gxa, gxc, hgv⟩ := GOwn.shape hbt.gone
  obtain ⟨pxa, pxc, hpv⟩ := hbt.parts.shape
  subst hvv hgv hpv
  have HBOx := Lib.hid (syncB_ok SA.out.ok SB.out.ok)
  obtain ⟨BXx, hBX⟩ : ∃ BX, BX = w14.heap.size := ⟨_, rfl⟩
  obtain ⟨w15, hw3⟩ : ∃ w9, w9 = w14.alloc (.cells #[.int .i64 a2.me, .int .i64 a2.stamp, .slice vxa (syncB a2 b2).V.length vxc, .slice gxa (syncB a2 b2).G.length gxc, .slice pxa (syncB a2 b2).S.length pxc] 52) := ⟨_, rfl⟩
  have hb3 : Below w14.heap.size w14 w15 := by rw [hw3]; exact bal _
  have HBXx := Lib.hid (show w15.heap[BXx]? = some (Obj.cells #[.int .i64 a2.me, .int .i64 a2.stamp, .slice vxa (syncB a2 b2).V.length vxc, .slice gxa (syncB a2 b2).G.length gxc, .slice pxa (syncB a2 b2).S.length pxc] 52 (0, 0)) by rw [hw3]; exact alloc_new _ _ _ _ hBX)
  have HBTx := Lib.hid (hbt.below hb3)
  have HW3 := Lib.hid hw3
  have HBX0 := Lib.hid hBX
  have HLSAx := Lib.hid (show ga < BXx by rw [hBX]; exact SA.out.lt)
  have HLSBx := Lib.hid (show gb < BXx by rw [hBX]; exact SB.out.lt)
  replace SA := Lib.hid (SA.out.below hb3)
  replace SB := Lib.hid (SB.out.below hb3)
  replace LW := Lib.hid (LW.out.below hb3)
  clear hbt hb hb3 hBX hw3 HGV HEQ
  have kv : ((syncB a2 b2).V.length : Int) = 0 := by rw [HA2.out.2.2.2.2]; rfl
  have kv1 : (((syncB a2 b2).V.length : Int) == 0) = true := by rw [kv]; rfl
  have kv2 : decide (((syncB a2 b2).V.length : Int) = 0) = true := by rw [kv]; rfl
  clear kv
  have hbo := HBOx.out
  obtain ⟨PP, hP1, hP2, hP3⟩ := HBTx.out.parts
  have hPl : PP.length ≤ 30 := by have := hbo.ls; rw [← hP3, List.length_map] at this; exact this
  have HT := Lib.hid (show Calls Tryz.prog 37 #[.pointer (some ⟨ga, 0, none⟩), .agg #[.int .i64 _, .int .i64 _, .slice vxa (syncB a2 b2).V.length vxc, .slice gxa (syncB a2 b2).G.length gxc, .slice pxa (syncB a2 b2).S.length pxc]] w15 _ from stake_c ga _ a2 (syncB a2 b2) PP _ _ _ w15 SA.out hbo (HBTx.out.vers.at_ (shok_bd hbo.V) (by have := hbo.lv; omega)) (GOwn.at_ HBTx.out.gone (fun z hz => gone_bd (hbo.G z hz)) (by have := hbo.lg; omega)) (hP1.at_ (fun z hz => (hP2 z hz).1) (by omega)) (fun z hz => (hP2 z hz).1) hP3)
  have e1 : (syncB a2 b2).site = a2.me := rfl
  have e2 : (syncB a2 b2).stamp = a2.stamp := rfl
  rw [e1, e2] at HT
  clear e1 e2
  clear hbo hP1 hP2 hP3 hPl
  have k0 := cell_of_block (j := 0) HBXx.out rfl
  have k1 := cell_of_block (j := 1) HBXx.out rfl
  have k2 := cell_of_block (j := 2) HBXx.out rfl
  have k3 := cell_of_block (j := 3) HBXx.out rfl
  have k4 := cell_of_block (j := 4) HBXx.out rfl
  have kl := hlt_of HBXx.out
  rw [HW3.out, HBX0.out] at k0 k1 k2 k3 k4 kl
  go_wp2_with fail
  rw [← HW3.out, ← HBX0.out]
  clear HW3 HBX0
  clear k0 k1 k2 k3 k4 kl
  (with_reducible refine (HT.out).mono ?_)
  rintro e w16 ⟨rfl, hs, hp⟩
  clear HT
  rw [HA2.out.2.2.1]
  replace SA := Lib.hid hs
  replace SB := Lib.hid (SB.out.stp hp (fun e => by have := NEgagb.out; omega))
  replace HBTx := Lib.hid (BtOwn.stp HBTx.out hp)
  replace HBXx := Lib.hid (hp.block HBXx.out (by have := HLSAx.out; omega))
  replace LW := Lib.hid (LW.out.one hp GEga.out)
  clear hs hp
  generalize hg9 : tookS a2 (syncB a2 b2) = a3 at *
  have HEa3 := Lib.hid hg9
  clear hg9
  clear kv1 kv2
  go_wp2_with fail
  (with_reducible refine (sshelf_c ga _ _ w16 SA.out).mono ?_)
  rintro e w17 ⟨xa, xc, rfl, hv, hb⟩
  have XV := Lib.hid (VOwn.mono hv (Nat.zero_le _))
  replace SB := Lib.hid (SB.out.below hb)
  replace HBTx := Lib.hid (BtOwn.below HBTx.out hb)
  replace HBXx := Lib.hid (below_keep hb HBXx.out)
  replace SA := Lib.hid (SA.out.below hb)
  replace LW := Lib.hid (LW.out.below hb)
  clear hv hb
  go_wp2_with fail
  (with_reducible refine (sshelf_c gb _ _ w17 SB.out).mono ?_)
  rintro e w18 ⟨ya, yc, rfl, hv, hb⟩
  have YV := Lib.hid (VOwn.mono hv (Nat.zero_le _))
  replace SB := Lib.hid (SB.out.below hb)
  replace HBTx := Lib.hid (BtOwn.below HBTx.out hb)
  replace HBXx := Lib.hid (below_keep hb HBXx.out)
  replace SA := Lib.hid (SA.out.below hb)
  replace XV := Lib.hid (VOwn.below XV.out hb)
  replace LW := Lib.hid (LW.out.below hb)
  clear hv hb
  have hbo := SB.out.ok.L
  have HWN := Lib.hid (swanted_c _ _ b2.L F w18 (YV.out.at_ (shok_bd hbo.ok) (by have := hbo.len; omega)) hbo.ok hbo.len (BxsAt.sub HF.out LW.out.sub) ZF.out)
  clear hbo
  go_wp2_with fail
  (with_reducible refine (HWN.out).mono ?_)
  rintro e w19 ⟨za, zc, rfl, hz, hb⟩
  replace SB := Lib.hid (SB.out.below hb)
  replace HBTx := Lib.hid (BtOwn.below HBTx.out hb)
  replace HBXx := Lib.hid (below_keep hb HBXx.out)
  replace SA := Lib.hid (SA.out.below hb)
  replace XV := Lib.hid (VOwn.below XV.out hb)
  replace YV := Lib.hid (VOwn.below YV.out hb)
  replace LW := Lib.hid (LW.out.below hb)
  have hao := SA.out.ok.L
  have HSM := Lib.hid (sameS_c _ _ a3.L (wantL b2.L (ptsOf F)) w19 (XV.out.at_ (shok_bd hao.ok) (by have := hao.len; omega)) hz)
  clear hao hz hb HWN
  clear XV
  clear YV
  go_wp2_with fail
  (with_reducible refine (HSM.out).mono ?_)
  rintro e w20 ⟨q, rfl, hq, hb⟩
  obtain rfl : q = true := hq.2 HA2.out.2.2.2.1
  clear hq HSM
  replace SB := Lib.hid (SB.out.below hb)
  replace HBTx := Lib.hid (BtOwn.below HBTx.out hb)
  replace HBXx := Lib.hid (below_keep hb HBXx.out)
  replace SA := Lib.hid (SA.out.below hb)
  replace LW := Lib.hid (LW.out.below hb)
  clear hb
  have HB := Lib.hid LW.out.toBelow
  go_wp2
  go_ret
  exact ⟨rfl, HB.out⟩
end Go.Proofs.YtboakoipdfmpcaaGreat
