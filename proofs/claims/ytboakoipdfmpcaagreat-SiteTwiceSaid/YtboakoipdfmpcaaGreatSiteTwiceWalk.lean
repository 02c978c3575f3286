/- What SiteTwice does. Written by a small program (gen/sl.py). -/
import Derived.Test.YtboakoipdfmpcaaGreatMSiteD
import Derived.Test.YtboakoipdfmpcaaGreatMPart8
import Derived.Test.YtboakoipdfmpcaaGreatMShelf7
namespace Go.Proofs.YtboakoipdfmpcaaGreat
open Go.RowKit
structure TwiceOk (a b a1 a2 : SiteS) : Prop where
  e1 : tookE a (syncB a b) = 0
  e2 : tookE a1 (syncB a b) = 0
  L : a2.L = a1.L
  k1 : (knownS a1).length ≤ 30
  k2 : (knownS a2).length ≤ 30
  W : (withinS (knownS a2) (knownS a1) && withinS (knownS a1) (knownS a2)) = true
theorem few_iff {l : List SP} (h : ∀ x ∈ l, SPOk x) {t n : Nat} (ht : t < 16) (hn : n < 32) {s c : Int} (h0 : 0 ≤ s) (h5 : s < 5) (h1 : 1 ≤ c) (h2 : c ≤ 1000) : knowsS (fewS l) t n s c = knowsS l t n s c := few_knows l t n s c ht hn h0 h5 h1 h2 h
theorem twice_ok {U : List Ver} {a b : SiteS} (hU : Uni U) (ha : SiteOk a) (hb : SiteOk b) (hbt : BtSOk (syncB a b)) (haU : ∀ x ∈ a.L, x ∈ U) (hbU : ∀ x ∈ b.L, x ∈ U) (hla : a.S.length = 0) (hlb : b.S.length = 0) :
    TwiceOk a b (tookS a (syncB a b)) (tookS (tookS a (syncB a b)) (syncB a b)) := by
  have h := sync_took hU ha hb haU hbU (by omega)
  generalize ha1 : tookS a (syncB a b) = a1 at *
  have ok1 : SiteOk a1 := by rw [← ha1]; exact tookS_ok ha hbt
  have hV : ∀ x ∈ (syncB a b).V, x ∈ U := fun x hx => hbU x (List.mem_filter.1 hx).1
  have hW : ∀ x ∈ b.L.filter (fun v => !inP a.P v), x ∈ U := fun x hx => hbU x (List.mem_filter.1 hx).1
  obtain ⟨p1, p2⟩ := taken (V := (syncB a b).V) (W := b.L.filter fun v => !inP a.P v) hU ok1.L (h.within haU hbU) hV
  have h1 := h.len
  have hlen : (fewS (a1.S ++ (syncB a b).S)).length ≤ 29 := by
    have q1 := few_len (a1.S ++ (syncB a b).S)
    have q2 : (syncB a b).S.length ≤ (knownS b).length := narrow_len _ _
    have q3 : (knownS b).length ≤ (ownSP b :: b.S).length := few_len _
    rw [List.length_cons] at q3
    rw [List.length_append] at q1
    omega
  have e2 : tookE a1 (syncB a b) = 0 := tookE_zero.2 ⟨h.me.symm, h.stamp.symm, p1, hlen⟩
  have eS : tookS a1 (syncB a b) = { a1 with L := dropsL (laidOn a1.L (syncB a b).V) (syncB a b).G, S := fewS (a1.S ++ (syncB a b).S) } := by unfold tookS; rw [if_pos e2]
  have ok2 : SiteOk (tookS a1 (syncB a b)) := tookS_ok ok1 hbt
  have hL : (tookS a1 (syncB a b)).L = a1.L := by
    rw [eS]
    exact Taken.twice hU haU ha.L hV hW h.L p2
  refine ⟨h.e, e2, hL, ok1.klen, ok2.klen, ?_⟩
  have key : ∀ t n : Nat, t < 16 → n < 32 → ∀ s c : Int, 0 ≤ s → s < 5 → 1 ≤ c → c ≤ 1000 → knowsS (knownS (tookS a1 (syncB a b))) t n s c = knowsS (knownS a1) t n s c := fun t n ht hn s c h0 h5 h1 h2 => by
    rw [knows_known ok2 ht hn h0 h5 h1 h2, knows_known ok1 ht hn h0 h5 h1 h2, eS]
    show ((decide (s = a1.me) && decide (c ≤ a1.made)) || knowsS (fewS (a1.S ++ (syncB a b).S)) t n s c) = _
    rw [few_iff (fun x hx => (List.mem_append.1 hx).elim (ok1.S x) (hbt.S x)) ht hn h0 h5 h1 h2, knowsS_append, h.S]
    have e3 : knowsS (fewS (a.S ++ giveS b a.P)) t n s c = (knowsS a.S t n s c || knowsS (giveS b a.P) t n s c) := by
      have hbS : ∀ x ∈ giveS b a.P, SPOk x := hbt.S
      rw [few_iff (fun x hx => (List.mem_append.1 hx).elim (ha.S x) (hbS x)) ht hn h0 h5 h1 h2, knowsS_append]
    rw [e3]
    have e4 : (syncB a b).S = giveS b a.P := rfl
    rw [e4]
    cases knowsS (giveS b a.P) t n s c <;> simp
  rw [Bool.and_eq_true]
  exact ⟨withinS_iff.2 fun t n ht hn s c h0 h5 h1 h2 hk => by rw [← key t n ht hn s c h0 h5 h1 h2]; exact hk, withinS_iff.2 fun t n ht hn s c h0 h5 h1 h2 hk => by rw [key t n ht hn s c h0 h5 h1 h2]; exact hk⟩
set_option maxRecDepth 100000 in
set_option maxHeartbeats 8000000 in
theorem SiteTwice_walk (fv lv mv : Value) (F : Bxs) (l m : List (List Int)) (w : World) (hF : BxsAt w fv F) (hl : RowAt vecE w lv l) (hm : RowAt vecE w mv m) :
    Calls Tryz.prog 16 #[fv, lv, mv] w fun e w' => e = .returned (.bool true) ∧ Below w.heap.size w w' := by
  obtain ⟨fa, fc, rfl⟩ := hF.shape
  obtain ⟨la, lc, rfl⟩ := hl.shape
  obtain ⟨ma, mc, rfl⟩ := hm.shape
  have HF := Lib.hid hF
  have HL := Lib.hid hl
  have HM := Lib.hid hm
  clear hF hl hm
  have LW := Lib.hid (Lw.refl w)
  go_enter Tryz.func16, Tryz.ntmps16
  go_wp2_with fail
  (with_reducible refine (siteBegun_c w).mono ?_)
  rintro e w1 ⟨rfl, hb⟩
  replace LW := Lib.hid (LW.out.below hb)
  clear hb
  go_wp2_with fail
  (with_reducible refine (fChk_c _ F w1 (BxsAt.sub HF.out LW.out.sub)).mono ?_)
  rintro e w2 ⟨rfl, hb⟩
  replace LW := Lib.hid (LW.out.below hb)
  clear hb
  by_cases hz : fChk F = 0
  rotate_left
  · have hd : decide (fChk F = 0) = false := by simpa using hz
    have hd2 : (fChk F != 0) = true := bne_iff_ne.2 hz
    have HB := Lib.hid LW.out.toBelow
    go_wp2
    go_ret
    exact ⟨rfl, HB.out⟩
  have ZF := Lib.hid hz
  rw [hz]
  clear hz
  go_wp2_with fail
  (with_reducible refine (everyS w2).mono ?_)
  rintro e w3 ⟨ev, rfl, hev, hb⟩
  obtain ⟨eva, evc, hev⟩ := (hev.at_ok every_chk).shape
  subst hev
  have HEVev := Lib.hid hev
  replace LW := Lib.hid (LW.out.below hb)
  clear hb hev
  go_wp2_with fail
  (with_reducible refine (stwo_c _ _ F everyB w3 (BxsAt.sub HF.out LW.out.sub) (HEVev.out.at_ok every_chk) ZF.out every_chk).mono ?_)
  rintro e w4 ⟨ga, gb, rfl, hsa, hsb, hlt, hb⟩
  have HS0 := Lib.hid LW.out.size
  have SA := Lib.hid (SiteAt.mono hsa HS0.out)
  have SB := Lib.hid (SiteAt.mono hsb HS0.out)
  have GEga := Lib.hid SA.out.ge
  have GEgb := Lib.hid SB.out.ge
  have NEgagb := Lib.hid hlt
  clear hsa hsb hlt HS0
  replace HEVev := Lib.hid (BxsOwn.below HEVev.out hb)
  replace LW := Lib.hid (LW.out.below hb)
  clear hb
  clear HEVev
  have HMA := Lib.hid (show (newS 0 (ptsOf F)).made ≤ 900 from (by decide : (0:Int) ≤ 900))
  have HMB := Lib.hid (show (newS 1 (ptsOf everyB)).made ≤ 900 from (by decide : (0:Int) ≤ 900))
  have M0 := Lib.hid (made_new [] 0 (ptsOf F) Hx.nil (by simp))
  go_wp2_with fail
  (with_reducible refine (smakes_c ga _ (newS 0 (ptsOf F)) [] _ m w4 SA.out M0.out (by simp) HMA.out (fun w' hs => HM.out.sub (LW.out.one hs GEga.out).sub)).mono ?_)
  rintro e w5 ⟨U1, s1, rfl, hgr, hs, hp⟩
  have Gs1 := Lib.hid hgr
  clear hgr
  replace SA := Lib.hid hs
  replace SB := Lib.hid (SB.out.stp hp (fun e => by have := NEgagb.out; omega))
  replace LW := Lib.hid (LW.out.one hp GEga.out)
  clear hs hp
  have M1 := Lib.hid (made_other Gs1.out 1 (ptsOf everyB) (by exact (by decide : (0:Int) ≠ 1)))
  have HU1 := Lib.hid (show U1.length ≤ 47 by have := Gs1.out.len.1; simp at this; omega)
  go_wp2_with fail
  (with_reducible refine (smakes_c gb _ (newS 1 (ptsOf everyB)) U1 _ l w5 SB.out M1.out HU1.out HMB.out (fun w' hs => HL.out.sub (LW.out.one hs GEgb.out).sub)).mono ?_)
  rintro e w6 ⟨U2, s2, rfl, hgr, hs, hp⟩
  have Gs2 := Lib.hid hgr
  clear hgr
  replace SB := Lib.hid hs
  replace SA := Lib.hid (SA.out.stp hp (fun e => by have := NEgagb.out; omega))
  replace LW := Lib.hid (LW.out.one hp GEgb.out)
  clear hs hp
  have HUN := Lib.hid (show Uni U2 from Gs2.out.made.hx.uni (by have h1 := Gs1.out.len.1; have h2 := Gs2.out.len.1; simp at h1; omega))
  have HSUB := Lib.hid (show ∀ x ∈ s1.L, x ∈ U2 from fun x hx => Gs2.out.sub_of x (Gs1.out.made.sub x hx))
  have HBTO := Lib.hid (syncB_ok SA.out.ok SB.out.ok)
  have HTW := Lib.hid (twice_ok HUN.out SA.out.ok SB.out.ok HBTO.out HSUB.out Gs2.out.made.sub (by rw [Gs1.out.S]; rfl) (by rw [Gs2.out.S]; rfl))
  go_wp2_with fail
  (with_reducible refine (ask_c ga _ s1 w6 SA.out).mono ?_)
  rintro e w7 ⟨afx, apx, rfl, hf, hp, hb⟩
  obtain ⟨alx, hl1, hl2, hl3⟩ := hf
  obtain ⟨APx, hA1, hA2, hA3⟩ := hp
  have hA30 : APx.length ≤ 30 := by have := SA.out.ok.klen; rw [← hA3, List.length_map] at this; exact this
  replace SA := Lib.hid (SA.out.below hb)
  replace SB := Lib.hid (SB.out.below hb)
  replace LW := Lib.hid (LW.out.below hb)
  have HGV := Lib.hid (sgive_c gb _ s2 s1.me s1.stamp afx apx alx APx w7 SB.out SA.out.ok.me SA.out.ok.stamp.1 (FOwn.at_ok hl1 hl2) hl2 (hA1.at_ (fun z hz => (hA2 z hz).1) (by omega)) (ptsChk_zero.2 ⟨hA30, fun z hz => (hA2 z hz).1⟩))
  have HEQ := Lib.hid (show giveB s2 s1.me s1.stamp (ptsOf alx) (APx.map sem) = syncB s1 s2 by
    unfold syncB; rw [hA3]
    exact giveB_congr SB.out.ok fun t n ht hn => by rw [ptsOf_in ht hn]; exact hl3 t n ht hn)
  obtain ⟨f8a, f8c, hfv⟩ := (FOwn.at_ok hl1 hl2).shape
  subst hfv
  obtain ⟨p8a, p8c, hpv⟩ := hA1.shape
  subst hpv
  clear hl1 hl2 hl3 hA1 hA2 hA3 hb hA30
  go_wp2_with fail
  (with_reducible refine (HGV.out).mono ?_)
  rintro e w8 ⟨vvx, gvx, pvx, rfl, hbt, hb⟩
  rw [HEQ.out] at hbt
  replace SA := Lib.hid (SA.out.below hb)
  replace SB := Lib.hid (SB.out.below hb)
  replace LW := Lib.hid (LW.out.below hb)
  obtain ⟨vxa, vxc, hvv⟩ := hbt.vers.shape
  obtain ⟨gxa, gxc, hgv⟩ := GOwn.shape hbt.gone
  obtain ⟨pxa, pxc, hpv⟩ := hbt.parts.shape
  subst hvv hgv hpv
  have HBOx := Lib.hid (syncB_ok SA.out.ok SB.out.ok)
  obtain ⟨BXx, hBX⟩ : ∃ BX, BX = w8.heap.size := ⟨_, rfl⟩
  obtain ⟨w9, hw3⟩ : ∃ w9, w9 = w8.alloc (.cells #[.int .i64 s1.me, .int .i64 s1.stamp, .slice vxa (syncB s1 s2).V.length vxc, .slice gxa (syncB s1 s2).G.length gxc, .slice pxa (syncB s1 s2).S.length pxc] 52) := ⟨_, rfl⟩
  have hb3 : Below w8.heap.size w8 w9 := by rw [hw3]; exact bal _
  have HBXx := Lib.hid (show w9.heap[BXx]? = some (Obj.cells #[.int .i64 s1.me, .int .i64 s1.stamp, .slice vxa (syncB s1 s2).V.length vxc, .slice gxa (syncB s1 s2).G.length gxc, .slice pxa (syncB s1 s2).S.length pxc] 52 (0, 0)) by rw [hw3]; exact alloc_new _ _ _ _ hBX)
  have HBTx := Lib.hid (hbt.below hb3)
  have HW3 := Lib.hid hw3
  have HBX0 := Lib.hid hBX
  have HLSAx := Lib.hid (show ga < BXx by rw [hBX]; exact SA.out.lt)
  have HLSBx := Lib.hid (show gb < BXx by rw [hBX]; exact SB.out.lt)
  replace SA := Lib.hid (SA.out.below hb3)
  replace SB := Lib.hid (SB.out.below hb3)
  replace LW := Lib.hid (LW.out.below hb3)
  clear hbt hb hb3 hBX hw3 HGV HEQ
  have hbo := HBOx.out
  obtain ⟨PP, hP1, hP2, hP3⟩ := HBTx.out.parts
  have hPl : PP.length ≤ 30 := by have := hbo.ls; rw [← hP3, List.length_map] at this; exact this
  have HT := Lib.hid (show Calls Tryz.prog 37 #[.pointer (some ⟨ga, 0, none⟩), .agg #[.int .i64 _, .int .i64 _, .slice vxa (syncB s1 s2).V.length vxc, .slice gxa (syncB s1 s2).G.length gxc, .slice pxa (syncB s1 s2).S.length pxc]] w9 _ from stake_c ga _ s1 (syncB s1 s2) PP _ _ _ w9 SA.out hbo (HBTx.out.vers.at_ (shok_bd hbo.V) (by have := hbo.lv; omega)) (GOwn.at_ HBTx.out.gone (fun z hz => gone_bd (hbo.G z hz)) (by have := hbo.lg; omega)) (hP1.at_ (fun z hz => (hP2 z hz).1) (by omega)) (fun z hz => (hP2 z hz).1) hP3)
  have e1 : (syncB s1 s2).site = s1.me := rfl
  have e2 : (syncB s1 s2).stamp = s1.stamp := rfl
  rw [e1, e2] at HT
  clear e1 e2
  clear hbo hP1 hP2 hP3 hPl
  have k0 := cell_of_block (j := 0) HBXx.out rfl
  have k1 := cell_of_block (j := 1) HBXx.out rfl
  have k2 := cell_of_block (j := 2) HBXx.out rfl
  have k3 := cell_of_block (j := 3) HBXx.out rfl
  have k4 := cell_of_block (j := 4) HBXx.out rfl
  have kl := hlt_of HBXx.out
  rw [HW3.out, HBX0.out] at k0 k1 k2 k3 k4 kl
  go_wp2_with fail
  rw [← HW3.out, ← HBX0.out]
  clear HW3 HBX0
  clear k0 k1 k2 k3 k4 kl
  (with_reducible refine (HT.out).mono ?_)
  rintro e w10 ⟨rfl, hs, hp⟩
  clear HT
  rw [HTW.out.e1]
  replace SA := Lib.hid hs
  replace SB := Lib.hid (SB.out.stp hp (fun e => by have := NEgagb.out; omega))
  replace HBTx := Lib.hid (BtOwn.stp HBTx.out hp)
  replace HBXx := Lib.hid (hp.block HBXx.out (by have := HLSAx.out; omega))
  replace LW := Lib.hid (LW.out.one hp GEga.out)
  clear hs hp
  generalize hg9 : tookS s1 (syncB s1 s2) = t1 at *
  have HEt1 := Lib.hid hg9
  clear hg9
  go_wp2_with fail
  (with_reducible refine (sshelf_c ga _ _ w10 SA.out).mono ?_)
  rintro e w11 ⟨wa, wc, rfl, hv, hb⟩
  have WV := Lib.hid (VOwn.mono hv (Nat.zero_le _))
  replace SB := Lib.hid (SB.out.below hb)
  replace HBTx := Lib.hid (BtOwn.below HBTx.out hb)
  replace HBXx := Lib.hid (below_keep hb HBXx.out)
  replace SA := Lib.hid (SA.out.below hb)
  replace LW := Lib.hid (LW.out.below hb)
  clear hv hb
  go_wp2_with fail
  (with_reducible refine (parts_c ga _ _ w11 SA.out).mono ?_)
  rintro e w12 ⟨wp, rfl, hv, hb⟩
  obtain ⟨wpa, wpc, hwp⟩ := hv.shape
  subst hwp
  have WP := Lib.hid (PtsOwnA.mono hv (Nat.zero_le _))
  replace SB := Lib.hid (SB.out.below hb)
  replace HBTx := Lib.hid (BtOwn.below HBTx.out hb)
  replace HBXx := Lib.hid (below_keep hb HBXx.out)
  replace SA := Lib.hid (SA.out.below hb)
  replace WV := Lib.hid (VOwn.below WV.out hb)
  replace LW := Lib.hid (LW.out.below hb)
  clear hv hb
  have hbo := HBOx.out
  obtain ⟨PP, hP1, hP2, hP3⟩ := HBTx.out.parts
  have hPl : PP.length ≤ 30 := by have := hbo.ls; rw [← hP3, List.length_map] at this; exact this
  have HT := Lib.hid (show Calls Tryz.prog 37 #[.pointer (some ⟨ga, 0, none⟩), .agg #[.int .i64 _, .int .i64 _, .slice vxa (syncB s1 s2).V.length vxc, .slice gxa (syncB s1 s2).G.length gxc, .slice pxa (syncB s1 s2).S.length pxc]] w12 _ from stake_c ga _ t1 (syncB s1 s2) PP _ _ _ w12 SA.out hbo (HBTx.out.vers.at_ (shok_bd hbo.V) (by have := hbo.lv; omega)) (GOwn.at_ HBTx.out.gone (fun z hz => gone_bd (hbo.G z hz)) (by have := hbo.lg; omega)) (hP1.at_ (fun z hz => (hP2 z hz).1) (by omega)) (fun z hz => (hP2 z hz).1) hP3)
  have e1 : (syncB s1 s2).site = s1.me := rfl
  have e2 : (syncB s1 s2).stamp = s1.stamp := rfl
  rw [e1, e2] at HT
  clear e1 e2
  clear hbo hP1 hP2 hP3 hPl
  have k0 := cell_of_block (j := 0) HBXx.out rfl
  have k1 := cell_of_block (j := 1) HBXx.out rfl
  have k2 := cell_of_block (j := 2) HBXx.out rfl
  have k3 := cell_of_block (j := 3) HBXx.out rfl
  have k4 := cell_of_block (j := 4) HBXx.out rfl
  have kl := hlt_of HBXx.out
  go_wp2_with fail
  clear k0 k1 k2 k3 k4 kl
  (with_reducible refine (HT.out).mono ?_)
  rintro e w13 ⟨rfl, hs, hp⟩
  clear HT
  rw [HTW.out.e2]
  replace SA := Lib.hid hs
  replace SB := Lib.hid (SB.out.stp hp (fun e => by have := NEgagb.out; omega))
  replace HBTx := Lib.hid (BtOwn.stp HBTx.out hp)
  replace HBXx := Lib.hid (hp.block HBXx.out (by have := HLSAx.out; omega))
  replace WV := Lib.hid (VOwn.stp WV.out hp)
  replace WP := Lib.hid (PtsOwnA.stp WP.out hp)
  replace LW := Lib.hid (LW.out.one hp GEga.out)
  clear hs hp
  generalize hg9 : tookS t1 (syncB s1 s2) = t2 at *
  have HEt2 := Lib.hid hg9
  clear hg9
  go_wp2_with fail
  (with_reducible refine (sshelf_c ga _ _ w13 SA.out).mono ?_)
  rintro e w14 ⟨xa, xc, rfl, hv, hb⟩
  have XV := Lib.hid (VOwn.mono hv (Nat.zero_le _))
  replace SB := Lib.hid (SB.out.below hb)
  replace HBTx := Lib.hid (BtOwn.below HBTx.out hb)
  replace HBXx := Lib.hid (below_keep hb HBXx.out)
  replace WV := Lib.hid (VOwn.below WV.out hb)
  replace WP := Lib.hid (PtsOwnA.below WP.out hb)
  replace SA := Lib.hid (SA.out.below hb)
  replace LW := Lib.hid (LW.out.below hb)
  clear hv hb
  have EQL := Lib.hid HTW.out.L
  have hk1 := SA.out.ok.L.len
  have hsv := SA.out.ok.L.ok
  have hsw : ∀ v ∈ t1.L, VerOk v := by rw [← EQL.out]; exact hsv
  have hk2 : t1.L.length ≤ 60 := by rw [← EQL.out]; exact hk1
  have HSM := Lib.hid (sameS_c _ _ t2.L t1.L _ (XV.out.at_ (shok_bd hsv) (by omega)) (WV.out.at_ (shok_bd hsw) (by omega)))
  clear hk1 hsv hsw hk2
  go_wp2_with fail
  (with_reducible refine (HSM.out).mono ?_)
  rintro e w15 ⟨q, rfl, hq, hb⟩
  obtain rfl : q = true := hq.2 EQL.out
  clear hq HSM
  replace SB := Lib.hid (SB.out.below hb)
  replace HBTx := Lib.hid (BtOwn.below HBTx.out hb)
  replace HBXx := Lib.hid (below_keep hb HBXx.out)
  replace WV := Lib.hid (VOwn.below WV.out hb)
  replace WP := Lib.hid (PtsOwnA.below WP.out hb)
  replace SA := Lib.hid (SA.out.below hb)
  replace XV := Lib.hid (VOwn.below XV.out hb)
  replace LW := Lib.hid (LW.out.below hb)
  clear hb
  go_wp2_with fail
  (with_reducible refine (parts_c ga _ _ w15 SA.out).mono ?_)
  rintro e w16 ⟨yp, rfl, hv, hb⟩
  obtain ⟨ypa, ypc, hyp⟩ := hv.shape
  subst hyp
  have YP := Lib.hid (PtsOwnA.mono hv (Nat.zero_le _))
  replace SB := Lib.hid (SB.out.below hb)
  replace HBTx := Lib.hid (BtOwn.below HBTx.out hb)
  replace HBXx := Lib.hid (below_keep hb HBXx.out)
  replace WV := Lib.hid (VOwn.below WV.out hb)
  replace WP := Lib.hid (PtsOwnA.below WP.out hb)
  replace SA := Lib.hid (SA.out.below hb)
  replace XV := Lib.hid (VOwn.below XV.out hb)
  replace LW := Lib.hid (LW.out.below hb)
  clear hv hb
  have hk1 := HTW.out.k1
  have hk2 := HTW.out.k2
  have HBB := Lib.hid (pboth_s _ _ _ _ _ (YP.out.sem (by omega)) (WP.out.sem (by omega)) hk2 hk1)
  rw [HTW.out.W] at HBB
  clear hk1 hk2
  go_wp2_with fail
  (with_reducible refine (HBB.out).mono ?_)
  rintro e w17 ⟨rfl, hb⟩
  replace SB := Lib.hid (SB.out.below hb)
  replace HBTx := Lib.hid (BtOwn.below HBTx.out hb)
  replace HBXx := Lib.hid (below_keep hb HBXx.out)
  replace WV := Lib.hid (VOwn.below WV.out hb)
  replace WP := Lib.hid (PtsOwnA.below WP.out hb)
  replace SA := Lib.hid (SA.out.below hb)
  replace XV := Lib.hid (VOwn.below XV.out hb)
  replace YP := Lib.hid (PtsOwnA.below YP.out hb)
  replace LW := Lib.hid (LW.out.below hb)
  have HB := Lib.hid LW.out.toBelow
  clear hb HBB
  go_wp2
  go_ret
  exact ⟨rfl, HB.out⟩
end Go.Proofs.YtboakoipdfmpcaaGreat
