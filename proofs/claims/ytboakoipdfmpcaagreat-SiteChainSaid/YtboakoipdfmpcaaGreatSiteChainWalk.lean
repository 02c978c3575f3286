/- What SiteChain does. Written by a small program (gen/sl.py). -/
import Derived.Test.YtboakoipdfmpcaaGreatMSiteD
import Derived.Test.YtboakoipdfmpcaaGreatMShelf7
namespace Go.Proofs.YtboakoipdfmpcaaGreat
open Go.RowKit
structure ChainOk (a b c c1 a1 : SiteS) (p : Nat → Nat → Bool) : Prop where
  e1 : tookE c (syncB c b) = 0
  e2 : tookE a (syncB a c1) = 0
  L : a1.L = wantL b.L p
  V : (syncB a1 b).V = []
theorem chain_ok {U : List Ver} {b : SiteS} {p q : Nat → Nat → Bool} (hU : Uni U) (hsrc : Src U b) (ha : SiteOk (newS 0 p)) (hc : SiteOk (newS 2 q)) (hb : SiteOk b) (hme : b.me = 1) (hpq : ∀ t n, t < 16 → n < 32 → p t n = true → q t n = true) :
    ChainOk (newS 0 p) b (newS 2 q) (tookS (newS 2 q) (syncB (newS 2 q) b)) (tookS (newS 0 p) (syncB (newS 0 p) (tookS (newS 2 q) (syncB (newS 2 q) b)))) p := by
  have h1 := sync_took hU hc hb (by simp [newS]) hsrc.made.sub (by rw [hsrc.S]; exact (by decide : (0:Nat) ≤ 28))
  have f1 := follow hU hsrc (Fol.new (me := 2) (by rw [hme]; decide) q) (by simp) (fun x hx hcc => by have := (dot_rng (hsrc.made.hx.ok x hx).dot).2.2.1; omega) hc hb hb.made.1 h1
  have okc := tookS_ok hc (syncB_ok hc hb)
  generalize hc1 : tookS (newS 2 q) (syncB (newS 2 q) b) = c1 at *
  have hl1 := h1.len
  rw [hsrc.S] at hl1
  have hl0 : (newS 2 q).S.length = 0 := rfl
  have hwi := h1.within (U := U) (by simp [newS]) hsrc.made.sub
  have h2 := sync_took hU ha okc (by simp [newS]) hwi (by have : (newS 0 p).S.length = 0 := rfl; simp at hl1; omega)
  have e2 := fresh ha okc h2
  have oka := tookS_ok ha (syncB_ok ha okc)
  generalize ha1 : tookS (newS 0 p) (syncB (newS 0 p) c1) = a1 at *
  have hinq : ∀ v ∈ b.L, inP p v = true → inP q v = true := fun v hv h => by
    obtain ⟨p1, p2, p3, p4⟩ := pt_rng (hb.L.ok v hv).pt
    exact hpq _ _ (by omega) (by omega) h
  refine ⟨h1.e, h2.e, ?_, giveV_nil fun v hv hin => ?_⟩
  · rw [e2, f1.1]
    unfold wantL
    rw [List.filter_filter]
    refine List.filter_congr fun v hv => ?_
    show (inP p v && inP q v) = inP p v
    cases hp : inP p v
    · rfl
    · rw [hinq v hv hp]; rfl
  · have hvU := ((hsrc.max v).1 hv).1
    have hvv := hb.L.ok v hv
    have hin : inP p v = true := by rw [h2.P] at hin; exact hin
    rw [knV_eq oka hvv, h2.knV ha okc hvv, f1.2.2 v hvU (hinq v hv hin)]
    have : inP (newS 0 p).P v = true := hin
    rw [this]; simp
set_option maxRecDepth 100000 in
set_option maxHeartbeats 8000000 in
theorem SiteChain_walk (fv gv lv : Value) (F G : Bxs) (l : List (List Int)) (w : World) (hF : BxsAt w fv F) (hG : BxsAt w gv G) (hl : RowAt vecE w lv l) :
    Calls Tryz.prog 12 #[fv, gv, lv] w fun e w' => e = .returned (.bool true) ∧ Below w.heap.size w w' := by
  obtain ⟨fa, fc, rfl⟩ := hF.shape
  obtain ⟨ga0, gc0, rfl⟩ := hG.shape
  obtain ⟨la, lc, rfl⟩ := hl.shape
  have HF := Lib.hid hF
  have HG := Lib.hid hG
  have HL := Lib.hid hl
  clear hF hG hl
  have LW := Lib.hid (Lw.refl w)
  go_enter Tryz.func12, Tryz.ntmps12
  go_wp2_with fail
  (with_reducible refine (siteBegun_c w).mono ?_)
  rintro e w1 ⟨rfl, hb⟩
  replace LW := Lib.hid (LW.out.below hb)
  clear hb
  go_wp2_with fail
  (with_reducible refine (joinf_c _ _ F G w1 (BxsAt.sub HF.out LW.out.sub) (BxsAt.sub HG.out LW.out.sub)).mono ?_)
  rintro e w2 ⟨jv, rfl, hj, hb⟩
  replace LW := Lib.hid (LW.out.below hb)
  clear hb
  by_cases hz : fTwo F G = 0
  rotate_left
  · have hd : decide (fTwo F G = 0) = false := by simpa using hz
    have hd2 : (fTwo F G != 0) = true := bne_iff_ne.2 hz
    obtain rfl := hj.2 hz
    have HB := Lib.hid LW.out.toBelow
    clear hj
    go_wp2
    go_ret
    exact ⟨rfl, HB.out⟩
  obtain ⟨J, hj1, hj2⟩ := hj.1 hz
  have HJ := Lib.hid hj1
  have HJG := Lib.hid hj2
  have ZJ := Lib.hid hj2.chk
  obtain ⟨ja, jc, hjv⟩ := (FOwn.at_ok hj1 hj2.chk).shape
  subst hjv
  have ZF := Lib.hid (show fChk F = 0 by unfold fTwo at hz; split at hz <;> assumption)
  have ZG := Lib.hid (show fChk G = 0 by unfold fTwo at hz; rw [if_pos ZF.out] at hz; exact hz)
  rw [hz]
  clear hj hj1 hj2 hz
  have HPQ := Lib.hid (show ∀ t n, t < 16 → n < 32 → ptsOf F t n = true → ptsOf J t n = true from fun t n ht hn h => by
    rw [ptsOf_in ht hn] at h ⊢
    rw [HJG.out.pts t n ht hn, h]; rfl)
  go_wp2_with fail
  (with_reducible refine (everyS w2).mono ?_)
  rintro e w3 ⟨ev, rfl, hev, hb⟩
  obtain ⟨eva, evc, hev⟩ := (hev.at_ok every_chk).shape
  subst hev
  have HEVev := Lib.hid hev
  replace HJ := Lib.hid (BxsOwn.below HJ.out hb)
  replace LW := Lib.hid (LW.out.below hb)
  clear hb hev
  go_wp2_with fail
  (with_reducible refine (stwo_c _ _ F everyB w3 (BxsAt.sub HF.out LW.out.sub) (HEVev.out.at_ok every_chk) ZF.out every_chk).mono ?_)
  rintro e w4 ⟨ga, gb, rfl, hsa, hsb, hlt, hb⟩
  have HS0 := Lib.hid LW.out.size
  have SA := Lib.hid (SiteAt.mono hsa HS0.out)
  have SB := Lib.hid (SiteAt.mono hsb HS0.out)
  have GEga := Lib.hid SA.out.ge
  have GEgb := Lib.hid SB.out.ge
  have NEgagb := Lib.hid hlt
  clear hsa hsb hlt HS0
  replace HJ := Lib.hid (BxsOwn.below HJ.out hb)
  replace HEVev := Lib.hid (BxsOwn.below HEVev.out hb)
  replace LW := Lib.hid (LW.out.below hb)
  clear hb
  clear HEVev
  go_wp2_with fail
  (with_reducible refine (snew_c 2 _ J w4 ⟨by decide, by decide⟩ (FOwn.at_ok HJ.out ZJ.out) ZJ.out).mono ?_)
  rintro e w5 ⟨gc, rfl, hsc, hb⟩
  have NEgagc := Lib.hid (show ga < gc from Nat.lt_of_lt_of_le SA.out.lt hsc.ge)
  have NEgbgc := Lib.hid (show gb < gc from Nat.lt_of_lt_of_le SB.out.lt hsc.ge)
  have HS0 := Lib.hid LW.out.size
  have SC := Lib.hid (SiteAt.mono hsc HS0.out)
  have GEgc := Lib.hid SC.out.ge
  clear hsc HS0
  replace HJ := Lib.hid (BxsOwn.below HJ.out hb)
  replace SA := Lib.hid (SA.out.below hb)
  replace SB := Lib.hid (SB.out.below hb)
  replace LW := Lib.hid (LW.out.below hb)
  clear hb
  have HMB := Lib.hid (show (newS 1 (ptsOf everyB)).made ≤ 900 from (by decide : (0:Int) ≤ 900))
  have S0 := Lib.hid (Src.new 1 (ptsOf everyB))
  go_wp2_with fail
  (with_reducible refine (smakes_c gb _ (newS 1 (ptsOf everyB)) [] _ l w5 SB.out S0.out.made (by simp) HMB.out (fun w' hs => HL.out.sub (LW.out.one hs GEgb.out).sub)).mono ?_)
  rintro e w6 ⟨U1, b1, rfl, hgr, hs, hp⟩
  have Gb1 := Lib.hid hgr
  clear hgr
  replace SB := Lib.hid hs
  replace HJ := Lib.hid (FOwn.stp HJ.out hp)
  replace SA := Lib.hid (SA.out.stp hp (fun e => by have := NEgagb.out; omega))
  replace SC := Lib.hid (SC.out.stp hp (fun e => by have := NEgbgc.out; omega))
  replace LW := Lib.hid (LW.out.one hp GEgb.out)
  clear hs hp
  have HS1 := Lib.hid (S0.out.grow SB.out.ok Gb1.out).1
  have HU1 := Lib.hid (show U1.length ≤ 12 by have := Gb1.out.len.1; simpa using this)
  have HME := Lib.hid (show b1.me = 1 from Gb1.out.me)
  have HCH := Lib.hid (chain_ok (HS1.out.made.hx.uni (by have := HU1.out; omega)) HS1.out SA.out.ok SC.out.ok SB.out.ok HME.out HPQ.out)
  go_wp2_with fail
  (with_reducible refine (sync_ok gc gb _ (newS 2 (ptsOf J)) b1 w6 SC.out SB.out (by have := NEgbgc.out; omega) HCH.out.e1).mono ?_)
  rintro e w7 ⟨rfl, hs, hr, hp⟩
  replace SC := Lib.hid hs
  replace SB := Lib.hid hr
  replace HJ := Lib.hid (FOwn.stp HJ.out hp)
  replace SA := Lib.hid (SA.out.stp hp (fun e => by have := NEgagc.out; omega))
  replace LW := Lib.hid (LW.out.one hp GEgc.out)
  clear hs hr hp
  generalize hc1 : tookS (newS 2 (ptsOf J)) (syncB (newS 2 (ptsOf J)) b1) = c1 at *
  have HEc1 := Lib.hid hc1
  clear hc1
  go_wp2_with fail
  (with_reducible refine (sync_ok ga gc _ (newS 0 (ptsOf F)) c1 w7 SA.out SC.out (by have := NEgagc.out; omega) HCH.out.e2).mono ?_)
  rintro e w8 ⟨rfl, hs, hr, hp⟩
  replace SA := Lib.hid hs
  replace SC := Lib.hid hr
  replace HJ := Lib.hid (FOwn.stp HJ.out hp)
  replace SB := Lib.hid (SB.out.stp hp (fun e => by have := NEgagb.out; omega))
  replace LW := Lib.hid (LW.out.one hp GEga.out)
  clear hs hr hp
  generalize ha1 : tookS (newS 0 (ptsOf F)) (syncB (newS 0 (ptsOf F)) c1) = a1 at *
  have HEa1 := Lib.hid ha1
  clear ha1
  go_wp2_with fail
  (with_reducible refine (sshelf_c ga _ _ w8 SA.out).mono ?_)
  rintro e w9 ⟨xa, xc, rfl, hv, hb⟩
  have xV := Lib.hid (VOwn.mono hv (Nat.zero_le _))
  replace HJ := Lib.hid (BxsOwn.below HJ.out hb)
  replace SB := Lib.hid (SB.out.below hb)
  replace SA := Lib.hid (SA.out.below hb)
  replace SC := Lib.hid (SC.out.below hb)
  replace LW := Lib.hid (LW.out.below hb)
  clear hv hb
  go_wp2_with fail
  (with_reducible refine (sshelf_c gb _ _ w9 SB.out).mono ?_)
  rintro e w10 ⟨ya, yc, rfl, hv, hb⟩
  have yV := Lib.hid (VOwn.mono hv (Nat.zero_le _))
  replace HJ := Lib.hid (BxsOwn.below HJ.out hb)
  replace SB := Lib.hid (SB.out.below hb)
  replace SA := Lib.hid (SA.out.below hb)
  replace SC := Lib.hid (SC.out.below hb)
  replace xV := Lib.hid (VOwn.below xV.out hb)
  replace LW := Lib.hid (LW.out.below hb)
  clear hv hb
  have hbo := SB.out.ok.L
  have HWN := Lib.hid (swanted_c _ _ b1.L F w10 (yV.out.at_ (shok_bd hbo.ok) (by have := hbo.len; omega)) hbo.ok hbo.len (BxsAt.sub HF.out LW.out.sub) ZF.out)
  clear hbo
  go_wp2_with fail
  (with_reducible refine (HWN.out).mono ?_)
  rintro e w11 ⟨za, zc, rfl, hz, hb⟩
  replace HJ := Lib.hid (BxsOwn.below HJ.out hb)
  replace SB := Lib.hid (SB.out.below hb)
  replace SA := Lib.hid (SA.out.below hb)
  replace SC := Lib.hid (SC.out.below hb)
  replace xV := Lib.hid (VOwn.below xV.out hb)
  replace yV := Lib.hid (VOwn.below yV.out hb)
  replace LW := Lib.hid (LW.out.below hb)
  have hao := SA.out.ok.L
  have HSM := Lib.hid (sameS_c _ _ a1.L (wantL b1.L (ptsOf F)) w11 (xV.out.at_ (shok_bd hao.ok) (by have := hao.len; omega)) hz)
  clear hao hz hb HWN
  clear xV
  clear yV
  go_wp2_with fail
  (with_reducible refine (HSM.out).mono ?_)
  rintro e w12 ⟨q, rfl, hq, hb⟩
  obtain rfl : q = true := hq.2 HCH.out.L
  clear hq HSM
  replace HJ := Lib.hid (BxsOwn.below HJ.out hb)
  replace SB := Lib.hid (SB.out.below hb)
  replace SA := Lib.hid (SA.out.below hb)
  replace SC := Lib.hid (SC.out.below hb)
  replace LW := Lib.hid (LW.out.below hb)
  clear hb
  go_wp2_with fail
  (with_reducible refine (ask_c ga _ a1 w12 SA.out).mono ?_)
  rintro e w13 ⟨afx, apx, rfl, hf, hp, hb⟩
  obtain ⟨alx, hl1, hl2, hl3⟩ := hf
  obtain ⟨APx, hA1, hA2, hA3⟩ := hp
  have hA30 : APx.length ≤ 30 := by have := SA.out.ok.klen; rw [← hA3, List.length_map] at this; exact this
  replace HJ := Lib.hid (BxsOwn.below HJ.out hb)
  replace SB := Lib.hid (SB.out.below hb)
  replace SA := Lib.hid (SA.out.below hb)
  replace SC := Lib.hid (SC.out.below hb)
  replace LW := Lib.hid (LW.out.below hb)
  have HGV := Lib.hid (sgive_c gb _ b1 a1.me a1.stamp afx apx alx APx w13 SB.out SA.out.ok.me SA.out.ok.stamp.1 (FOwn.at_ok hl1 hl2) hl2 (hA1.at_ (fun z hz => (hA2 z hz).1) (by omega)) (ptsChk_zero.2 ⟨hA30, fun z hz => (hA2 z hz).1⟩))
  have HEQ := Lib.hid (show giveB b1 a1.me a1.stamp (ptsOf alx) (APx.map sem) = syncB a1 b1 by
    unfold syncB; rw [hA3]
    exact giveB_congr SB.out.ok fun t n ht hn => by rw [ptsOf_in ht hn]; exact hl3 t n ht hn)
  obtain ⟨f8a, f8c, hfv⟩ := (FOwn.at_ok hl1 hl2).shape
  subst hfv
  obtain ⟨p8a, p8c, hpv⟩ := hA1.shape
  subst hpv
  clear hl1 hl2 hl3 hA1 hA2 hA3 hb hA30
  go_wp2_with fail
  (with_reducible refine (HGV.out).mono ?_)
  rintro e w14 ⟨vvx, gvx, pvx, rfl, hbt, hb⟩
  rw [HEQ.out] at hbt
  replace HJ := Lib.hid (BxsOwn.below HJ.out hb)
  replace SB := Lib.hid (SB.out.below hb)
  replace SA := Lib.hid (SA.out.below hb)
  replace SC := Lib.hid (SC.out.below hb)
  replace LW := Lib.hid (LW.out.below hb)
  obtain ⟨vxa, vxc, hvv⟩ := hbt.vers.shape
  obtain ⟨gxa, gxc, hgv⟩ := GOwn.shape hbt.gone
  obtain ⟨pxa, pxc, hpv⟩ := hbt.parts.shape
  subst hvv hgv hpv
  have HBOx := Lib.hid (syncB_ok SA.out.ok SB.out.ok)
  obtain ⟨BXx, hBX⟩ : ∃ BX, BX = w14.heap.size := ⟨_, rfl⟩
  obtain ⟨w15, hw3⟩ : ∃ w9, w9 = w14.alloc (.cells #[.int .i64 a1.me, .int .i64 a1.stamp, .slice vxa (syncB a1 b1).V.length vxc, .slice gxa (syncB a1 b1).G.length gxc, .slice pxa (syncB a1 b1).S.length pxc] 52) := ⟨_, rfl⟩
  have hb3 : Below w14.heap.size w14 w15 := by rw [hw3]; exact bal _
  have HBXx := Lib.hid (show w15.heap[BXx]? = some (Obj.cells #[.int .i64 a1.me, .int .i64 a1.stamp, .slice vxa (syncB a1 b1).V.length vxc, .slice gxa (syncB a1 b1).G.length gxc, .slice pxa (syncB a1 b1).S.length pxc] 52 (0, 0)) by rw [hw3]; exact alloc_new _ _ _ _ hBX)
  have HBTx := Lib.hid (hbt.below hb3)
  have HW3 := Lib.hid hw3
  have HBX0 := Lib.hid hBX
  have HLSBx := Lib.hid (show gb < BXx by rw [hBX]; exact SB.out.lt)
  have HLSAx := Lib.hid (show ga < BXx by rw [hBX]; exact SA.out.lt)
  have HLSCx := Lib.hid (show gc < BXx by rw [hBX]; exact SC.out.lt)
  replace HJ := Lib.hid (BxsOwn.below HJ.out hb3)
  replace SB := Lib.hid (SB.out.below hb3)
  replace SA := Lib.hid (SA.out.below hb3)
  replace SC := Lib.hid (SC.out.below hb3)
  replace LW := Lib.hid (LW.out.below hb3)
  clear hbt hb hb3 hBX hw3 HGV HEQ
  have kv : ((syncB a1 b1).V.length : Int) = 0 := by rw [HCH.out.V]; rfl
  have kv1 : (((syncB a1 b1).V.length : Int) == 0) = true := by rw [kv]; rfl
  have kv2 : decide (((syncB a1 b1).V.length : Int) = 0) = true := by rw [kv]; rfl
  clear kv
  have k2 := cell_of_block (j := 2) HBXx.out rfl
  have kl := hlt_of HBXx.out
  rw [HW3.out, HBX0.out] at k2 kl
  have HB := Lib.hid LW.out.toBelow
  go_wp2
  rw [← HW3.out]
  go_ret
  exact ⟨rfl, HB.out⟩
end Go.Proofs.YtboakoipdfmpcaaGreat
