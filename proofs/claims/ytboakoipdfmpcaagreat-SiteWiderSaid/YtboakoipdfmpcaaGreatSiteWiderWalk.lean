/- What SiteWider does. Written by a small program (gen/sl.py). -/
import Derived.Test.YtboakoipdfmpcaaGreatSiteW
import Derived.Test.YtboakoipdfmpcaaGreatMShelf7
import Derived.Test.YtboakoipdfmpcaaGreatMClaims
import Derived.Test.YtboakoipdfmpcaaGreatPartS
import Derived.Test.YtboakoipdfmpcaaGreatMFilter4
namespace Go.Proofs.YtboakoipdfmpcaaGreat
open Go.RowKit
structure WiderOk (a0 b1 a1 a3 a4 : SiteS) (f g m : Nat → Nat → Bool) : Prop where
  e1 : tookE a0 (syncB a0 b1) = 0
  s1 : a1.stamp < 1000000
  s2 : (wantS a1 g).stamp < 1000000
  L3 : a3.L = wantL b1.L m
  k3 : (knownS a3).length ≤ 30
  has : ∀ t n, ptOk t n = true → 0 < b1.made → hasS (knownS a3) t n 1 1 = m t.toNat n.toNat
  e4 : tookE a3 (syncB a3 b1) = 0
  L4 : a4.L = wantL b1.L f
theorem wider_ok {U : List Ver} {b1 : SiteS} {f g m : Nat → Nat → Bool} (hU : Uni U) (hsrc : Src U b1) (hme : b1.me = 1) (ha0 : SiteOk (newS 0 f)) (hb : SiteOk b1) (hm : ∀ t n : Nat, t < 16 → n < 32 → m t n = (f t n && g t n)) :
    WiderOk (newS 0 f) b1 (tookS (newS 0 f) (syncB (newS 0 f) b1)) (wantS (wantS (tookS (newS 0 f) (syncB (newS 0 f) b1)) g) f) (tookS (wantS (wantS (tookS (newS 0 f) (syncB (newS 0 f) b1)) g) f) (syncB (wantS (wantS (tookS (newS 0 f) (syncB (newS 0 f) b1)) g) f) b1)) f g m := by
  have y1 := sync_took hU ha0 hb (by simp [newS]) hsrc.made.sub (by rw [hsrc.S]; exact (by decide : (0:Nat) ≤ 28))
  obtain ⟨f1, f2⟩ := followQ hU hsrc (FolQ.new (me := 0) (by rw [hme]; decide) f) (by simp) (fun x hx hcc => by have := (dot_rng (hsrc.made.hx.ok x hx).dot).2.2.1; omega) ha0 hb hb.made.1 y1
  have ok1 := tookS_ok ha0 (syncB_ok ha0 hb)
  have hw1 := y1.within (U := U) (by simp [newS]) hsrc.made.sub
  have hl1 := y1.len
  rw [hsrc.S] at hl1
  have hl0 : (newS 0 f).S.length = 0 := rfl
  generalize ha1 : tookS (newS 0 f) (syncB (newS 0 f) b1) = a1 at *
  have hst1 : a1.stamp = 0 := y1.stamp
  have hme1 : a1.me = 0 := y1.me
  have hUd : ∀ x ∈ U, x.ds = b1.me := fun x hx => (hsrc.ds x hx).1
  have s1 : a1.stamp < 1000000 := by omega
  have s2 : (wantS a1 g).stamp < 1000000 := by show a1.stamp + 1 < 1000000; omega
  have f3 := (f2.want ok1 hUd g).want (wantS_ok ok1 g s1) hUd f
  have ok3 := wantS_ok (wantS_ok ok1 g s1) f s2
  have hl3 : (wantS (wantS a1 g) f).S.length ≤ a1.S.length := Nat.le_trans (narrow_len _ _) (narrow_len _ _)
  have hw3 : ∀ x ∈ (wantS (wantS a1 g) f).L, x ∈ U := fun x hx => ((f3.L x).1 hx).1
  have hme3 : (wantS (wantS a1 g) f).me = 0 := hme1
  have hP3 : (wantS (wantS a1 g) f).P = f := rfl
  generalize ha3 : wantS (wantS a1 g) f = a3 at *
  have y2 := sync_took hU ok3 hb hw3 hsrc.made.sub (by rw [hsrc.S]; simp at hl1 ⊢; omega)
  obtain ⟨q1, -⟩ := followQ hU hsrc f3 (fun x hx => hx) (fun x hx _ => hx) ok3 hb (Int.le_refl _) y2
  rw [hP3] at q1
  have hpt : ∀ t n : Nat, t < 16 → n < 32 → ((((newS 0 f).P t n && g t n) && f t n) = m t n) := fun t n ht hn => by
    rw [hm t n ht hn]
    show ((f t n && g t n) && f t n) = _
    cases f t n <;> cases g t n <;> rfl
  refine ⟨y1.e, s1, s2, ?_, ok3.klen, fun t n hp hmd => ?_, y2.e, q1⟩
  · refine vsorted_ext ok3.L.ord (hb.L.ord.filter _) fun x => ?_
    unfold wantL
    rw [List.mem_filter, hsrc.max, f3.L]
    constructor
    · rintro ⟨h1, h2, h3⟩
      refine ⟨⟨h1, h3⟩, ?_⟩
      obtain ⟨p1, p2, p3, p4⟩ := pt_rng (hsrc.made.hx.ok x h1).pt
      have := hpt x.tg.toNat x.nm.toNat (by omega) (by omega)
      show m x.tg.toNat x.nm.toNat = true
      rw [← this]; exact h2
    · rintro ⟨⟨h1, h3⟩, h2⟩
      refine ⟨h1, ?_, h3⟩
      obtain ⟨p1, p2, p3, p4⟩ := pt_rng (hsrc.made.hx.ok x h1).pt
      have := hpt x.tg.toNat x.nm.toNat (by omega) (by omega)
      have h2' : m x.tg.toNat x.nm.toNat = true := h2
      show ((((newS 0 f).P _ _ && g _ _) && f _ _)) = true
      rw [this]; exact h2'
  · obtain ⟨p1, p2, p3, p4⟩ := pt_rng hp
    have hd : dotOk (1, 1) = true := by decide
    unfold hasS
    rw [hp, hd, Bool.true_and, Bool.true_and]
    rw [knows_known ok3 (by omega) (by omega) (by decide) (by decide) (by decide) (by decide), f3.kn _ _ _ _ (by omega) (by omega) (by decide) (by decide) (by decide) (by decide), hme3, hme, hpt _ _ (by omega) (by omega)]
    rw [decide_eq_true (show (1:Int) ≤ b1.made by omega)]
    simp
theorem hasB_pts {M : Bxs} {t n : Int} (hc : fChk M = 0) (h : ptOk t n = true) : hasB M t n = ptsOf M t.toNat n.toNat ∧ hasEr M t n = 0 := by
  obtain ⟨h1, h2, h3, h4⟩ := pt_rng h
  unfold hasB hasEr
  rw [if_pos hc, if_pos hc, if_pos h, if_pos h, ptsOf_in (by omega) (by omega), Int.toNat_of_nonneg h1, Int.toNat_of_nonneg h3]
  exact ⟨rfl, rfl⟩
def POw (w : World) (S : List SP) (v : Value) : Prop := ∃ a n c, v = .slice a n c ∧ PtsOwnA w 0 (.slice a n c) S
theorem POw.below {w w' : World} {S : List SP} {v : Value} (h : POw w S v) (hb : Below w.heap.size w w') : POw w' S v := by
  obtain ⟨a, n, c, h1, h2⟩ := h; exact ⟨a, n, c, h1, h2.below hb⟩
set_option maxRecDepth 100000 in
set_option maxHeartbeats 8000000 in
theorem SiteWider_walk (fv gv lv : Value) (F G : Bxs) (l : List (List Int)) (pt pn : Int) (w : World) (hF : BxsAt w fv F) (hG : BxsAt w gv G) (hl : RowAt vecE w lv l) :
    Calls Tryz.prog 15 #[fv, gv, lv, .agg #[.int .i64 pt, .int .i64 pn]] w fun e w' => e = .returned (.bool true) ∧ Below w.heap.size w w' := by
  obtain ⟨fa, fc, rfl⟩ := hF.shape
  obtain ⟨ga0, gc0, rfl⟩ := hG.shape
  obtain ⟨la, lc, rfl⟩ := hl.shape
  have HF := Lib.hid hF
  have HG := Lib.hid hG
  have HL := Lib.hid hl
  clear hF hG hl
  obtain ⟨B9, hB9⟩ : ∃ B, B = w.heap.size := ⟨_, rfl⟩
  obtain ⟨W0, hW0⟩ : ∃ W0, W0 = w.alloc (.cells #[.int .i64 pt, .int .i64 pn] 39) := ⟨_, rfl⟩
  have HP9 := Lib.hid (show W0.heap[B9]? = some (Obj.cells #[.int .i64 pt, .int .i64 pn] 39 (0, 0)) by rw [hW0]; exact alloc_new _ _ _ _ hB9)
  have HW0 := Lib.hid hW0
  have HB9 := Lib.hid hB9
  have hb := Lib.hid (show Below w.heap.size w W0 by rw [hW0]; exact bal _)
  clear hW0 hB9
  have LW := Lib.hid (Lw.refl w)
  replace LW := Lib.hid (LW.out.below hb.out)
  clear hb
  go_enter Tryz.func15, Tryz.ntmps15
  go_wp2_with fail
  rw [← HW0.out, ← HB9.out]
  clear HW0 HB9
  (with_reducible refine (siteBegun_c W0).mono ?_)
  rintro e w1 ⟨rfl, hb⟩
  replace HP9 := Lib.hid (below_keep hb HP9.out)
  replace LW := Lib.hid (LW.out.below hb)
  clear hb
  go_wp2_with fail
  (with_reducible refine (meetf_c _ _ F G w1 (BxsAt.sub HF.out LW.out.sub) (BxsAt.sub HG.out LW.out.sub)).mono ?_)
  rintro e w2 ⟨jv, rfl, hj, hb⟩
  replace HP9 := Lib.hid (below_keep hb HP9.out)
  replace LW := Lib.hid (LW.out.below hb)
  clear hb
  by_cases hz : fTwo F G = 0
  rotate_left
  · have hd : decide (fTwo F G = 0) = false := by simpa using hz
    have hd2 : (fTwo F G != 0) = true := bne_iff_ne.2 hz
    obtain rfl := hj.2 hz
    have HB := Lib.hid LW.out.toBelow
    clear hj
    go_wp2
    go_ret
    exact ⟨rfl, HB.out⟩
  obtain ⟨M, hj1, hj2⟩ := hj.1 hz
  have HJ := Lib.hid hj1
  have HJG := Lib.hid hj2
  have ZJ := Lib.hid hj2.chk
  obtain ⟨ja, jc, hjv⟩ := (FOwn.at_ok hj1 hj2.chk).shape
  subst hjv
  have ZF := Lib.hid (show fChk F = 0 by unfold fTwo at hz; split at hz <;> assumption)
  have ZG := Lib.hid (show fChk G = 0 by unfold fTwo at hz; rw [if_pos ZF.out] at hz; exact hz)
  rw [hz]
  clear hj hj1 hj2 hz
  have HMM := Lib.hid (show ∀ t n : Nat, t < 16 → n < 32 → ptsOf M t n = (ptsOf F t n && ptsOf G t n) from fun t n ht hn => by
    rw [ptsOf_in ht hn, ptsOf_in ht hn, ptsOf_in ht hn, HJG.out.pts t n ht hn])
  have k0 := cell_of_block (j := 0) HP9.out rfl
  have k1 := cell_of_block (j := 1) HP9.out rfl
  go_wp2_with fail
  (with_reducible refine (point_c pt pn w2).mono ?_)
  rintro e w3 ⟨rfl, hb⟩
  replace HP9 := Lib.hid (below_keep hb HP9.out)
  replace HJ := Lib.hid (BxsOwn.below HJ.out hb)
  replace LW := Lib.hid (LW.out.below hb)
  clear hb k0 k1
  cases hpt : ptOk pt pn
  · have HB := Lib.hid LW.out.toBelow
    go_wp2
    go_ret
    exact ⟨rfl, HB.out⟩
  have HPT := Lib.hid hpt
  clear hpt
  go_wp2_with fail
  (with_reducible refine (everyS w3).mono ?_)
  rintro e w4 ⟨ev, rfl, hev, hb⟩
  obtain ⟨eva, evc, hev⟩ := (hev.at_ok every_chk).shape
  subst hev
  have HEVev := Lib.hid hev
  replace HP9 := Lib.hid (below_keep hb HP9.out)
  replace HJ := Lib.hid (BxsOwn.below HJ.out hb)
  replace LW := Lib.hid (LW.out.below hb)
  clear hb hev
  go_wp2_with fail
  (with_reducible refine (stwo_c _ _ F everyB w4 (BxsAt.sub HF.out LW.out.sub) (FOwn.at_ok HEVev.out every_chk) ZF.out every_chk).mono ?_)
  rintro e w5 ⟨ga, gb, rfl, hsa, hsb, hlt, hb⟩
  have HS0 := Lib.hid LW.out.size
  have SA := Lib.hid (SiteAt.mono hsa HS0.out)
  have SB := Lib.hid (SiteAt.mono hsb HS0.out)
  have GEga := Lib.hid SA.out.ge
  have GEgb := Lib.hid SB.out.ge
  have NEgagb := Lib.hid hlt
  have HLSAP := Lib.hid (show B9 < ga from Nat.lt_of_lt_of_le (hlt_of HP9.out) hsa.ge)
  have HLSBP := Lib.hid (show B9 < gb from Nat.lt_of_lt_of_le (hlt_of HP9.out) hsb.ge)
  clear hsa hsb hlt HS0
  replace HP9 := Lib.hid (below_keep hb HP9.out)
  replace HJ := Lib.hid (BxsOwn.below HJ.out hb)
  replace HEVev := Lib.hid (BxsOwn.below HEVev.out hb)
  replace LW := Lib.hid (LW.out.below hb)
  clear hb
  clear HEVev
  have HMB := Lib.hid (show (newS 1 (ptsOf everyB)).made ≤ 900 from (by decide : (0:Int) ≤ 900))
  have S0 := Lib.hid (Src.new 1 (ptsOf everyB))
  go_wp2_with fail
  (with_reducible refine (smakes_c gb _ (newS 1 (ptsOf everyB)) [] _ l w5 SB.out S0.out.made (by simp) HMB.out (fun w' hs => HL.out.sub (LW.out.one hs GEgb.out).sub)).mono ?_)
  rintro e w6 ⟨U1, b1, rfl, hgr, hs, hp⟩
  have Gb1 := Lib.hid hgr
  clear hgr
  replace SB := Lib.hid hs
  replace HP9 := Lib.hid (hp.block HP9.out (by have := HLSBP.out; omega))
  replace HJ := Lib.hid (FOwn.stp HJ.out hp)
  replace SA := Lib.hid (SA.out.stp hp (fun e => by have := NEgagb.out; omega))
  replace LW := Lib.hid (LW.out.one hp GEgb.out)
  clear hs hp
  have HS1 := Lib.hid (S0.out.grow SB.out.ok Gb1.out).1
  have HU1 := Lib.hid (show U1.length ≤ 12 by have := Gb1.out.len.1; simpa using this)
  have HME := Lib.hid (show b1.me = 1 from Gb1.out.me)
  have HWO := Lib.hid (wider_ok (f := ptsOf F) (g := ptsOf G) (HS1.out.made.hx.uni (by have := HU1.out; omega)) HS1.out HME.out SA.out.ok SB.out.ok HMM.out)
  go_wp2_with fail
  (with_reducible refine (sync_ok ga gb _ (newS 0 (ptsOf F)) b1 w6 SA.out SB.out (by have := NEgagb.out; omega) HWO.out.e1).mono ?_)
  rintro e w7 ⟨rfl, hs, hr, hp⟩
  replace SA := Lib.hid hs
  replace SB := Lib.hid hr
  replace HP9 := Lib.hid (hp.block HP9.out (by have := HLSAP.out; omega))
  replace HJ := Lib.hid (FOwn.stp HJ.out hp)
  replace LW := Lib.hid (LW.out.one hp GEga.out)
  clear hs hr hp
  generalize ha1 : tookS (newS 0 (ptsOf F)) (syncB (newS 0 (ptsOf F)) b1) = a1 at *
  have HEa1 := Lib.hid ha1
  clear ha1
  go_wp2_with fail
  (with_reducible refine (swant_c ga _ a1 _ G w7 SA.out (fun w' hs => BxsAt.sub HG.out (LW.out.one hs GEga.out).sub) ZG.out HWO.out.s1).mono ?_)
  rintro e w8 ⟨rfl, hs, hp⟩
  replace SA := Lib.hid hs
  replace HP9 := Lib.hid (hp.block HP9.out (by have := HLSAP.out; omega))
  replace HJ := Lib.hid (FOwn.stp HJ.out hp)
  replace SB := Lib.hid (SB.out.stp hp (fun e => by have := NEgagb.out; omega))
  replace LW := Lib.hid (LW.out.one hp GEga.out)
  clear hs hp
  generalize hg9 : wantS a1 (ptsOf G) = a2 at *
  have HEa2 := Lib.hid hg9
  clear hg9
  go_wp2_with fail
  (with_reducible refine (swant_c ga _ a2 _ F w8 SA.out (fun w' hs => BxsAt.sub HF.out (LW.out.one hs GEga.out).sub) ZF.out (by rw [← HEa2.out]; exact HWO.out.s2)).mono ?_)
  rintro e w9 ⟨rfl, hs, hp⟩
  replace SA := Lib.hid hs
  replace HP9 := Lib.hid (hp.block HP9.out (by have := HLSAP.out; omega))
  replace HJ := Lib.hid (FOwn.stp HJ.out hp)
  replace SB := Lib.hid (SB.out.stp hp (fun e => by have := NEgagb.out; omega))
  replace LW := Lib.hid (LW.out.one hp GEga.out)
  clear hs hp
  generalize hg9 : wantS a2 (ptsOf F) = a3 at *
  have HEa3 := Lib.hid hg9
  clear hg9
  generalize hg9 : tookS a3 (syncB a3 b1) = a4 at *
  have HEa4 := Lib.hid hg9
  clear hg9
  go_wp2_with fail
  (with_reducible refine (sshelf_c ga _ _ w9 SA.out).mono ?_)
  rintro e w10 ⟨xa, xc, rfl, hv, hb⟩
  have xV := Lib.hid (VOwn.mono hv (Nat.zero_le _))
  replace HP9 := Lib.hid (below_keep hb HP9.out)
  replace HJ := Lib.hid (BxsOwn.below HJ.out hb)
  replace SB := Lib.hid (SB.out.below hb)
  replace SA := Lib.hid (SA.out.below hb)
  replace LW := Lib.hid (LW.out.below hb)
  clear hv hb
  go_wp2_with fail
  (with_reducible refine (sshelf_c gb _ _ w10 SB.out).mono ?_)
  rintro e w11 ⟨ya, yc, rfl, hv, hb⟩
  have yV := Lib.hid (VOwn.mono hv (Nat.zero_le _))
  replace HP9 := Lib.hid (below_keep hb HP9.out)
  replace HJ := Lib.hid (BxsOwn.below HJ.out hb)
  replace SB := Lib.hid (SB.out.below hb)
  replace SA := Lib.hid (SA.out.below hb)
  replace xV := Lib.hid (VOwn.below xV.out hb)
  replace LW := Lib.hid (LW.out.below hb)
  clear hv hb
  have hbo := SB.out.ok.L
  have HWN := Lib.hid (swanted_c _ _ b1.L M w11 (yV.out.at_ (shok_bd hbo.ok) (by have := hbo.len; omega)) hbo.ok hbo.len (FOwn.at_ok HJ.out ZJ.out) ZJ.out)
  clear hbo
  go_wp2_with fail
  (with_reducible refine (HWN.out).mono ?_)
  rintro e w12 ⟨za, zc, rfl, hz, hb⟩
  replace HP9 := Lib.hid (below_keep hb HP9.out)
  replace HJ := Lib.hid (BxsOwn.below HJ.out hb)
  replace SB := Lib.hid (SB.out.below hb)
  replace SA := Lib.hid (SA.out.below hb)
  replace xV := Lib.hid (VOwn.below xV.out hb)
  replace yV := Lib.hid (VOwn.below yV.out hb)
  replace LW := Lib.hid (LW.out.below hb)
  have hao := SA.out.ok.L
  have HSM := Lib.hid (sameS_c _ _ a3.L (wantL b1.L (ptsOf M)) w12 (xV.out.at_ (shok_bd hao.ok) (by have := hao.len; omega)) hz)
  clear hao hz hb HWN
  clear xV
  clear yV
  go_wp2_with fail
  (with_reducible refine (HSM.out).mono ?_)
  rintro e w13 ⟨q, rfl, hq, hb⟩
  obtain rfl : q = true := hq.2 HWO.out.L3
  clear hq HSM
  replace HP9 := Lib.hid (below_keep hb HP9.out)
  replace HJ := Lib.hid (BxsOwn.below HJ.out hb)
  replace SB := Lib.hid (SB.out.below hb)
  replace SA := Lib.hid (SA.out.below hb)
  replace LW := Lib.hid (LW.out.below hb)
  clear hb
  obtain ⟨X, hX⟩ : ∃ X, X = ptsOf M pt.toNat pn.toNat := ⟨_, rfl⟩
  have HX := Lib.hid hX
  clear hX
  have k0 := cell_of_block (j := 0) HP9.out rfl
  have k1 := cell_of_block (j := 1) HP9.out rfl
  go_wp2_with fail
  (with_reducible refine (hasf_c _ M pt pn w13 (FOwn.at_ok HJ.out ZJ.out)).mono ?_)
  rintro e w14 ⟨rfl, hb⟩
  rw [(hasB_pts ZJ.out HPT.out).1, (hasB_pts ZJ.out HPT.out).2, ← HX.out]
  replace HP9 := Lib.hid (below_keep hb HP9.out)
  replace HJ := Lib.hid (BxsOwn.below HJ.out hb)
  replace SB := Lib.hid (SB.out.below hb)
  replace SA := Lib.hid (SA.out.below hb)
  replace LW := Lib.hid (LW.out.below hb)
  clear hb k0 k1
  clear HJ
  go_wp2_with fail
  (with_reducible refine (smade_c gb _ b1 w14 SB.out).mono ?_)
  rintro e w15 ⟨rfl, hb⟩
  replace HP9 := Lib.hid (below_keep hb HP9.out)
  replace SB := Lib.hid (SB.out.below hb)
  replace SA := Lib.hid (SA.out.below hb)
  replace LW := Lib.hid (LW.out.below hb)
  clear hb
  by_cases hmd : 0 < b1.made
  rotate_left
  · have hd1 : decide (0 < b1.made) = false := decide_eq_false hmd
    go_wp2_with fail
    (with_reducible refine (sync_ok ga gb _ a3 b1 w15 SA.out SB.out (by have := NEgagb.out; omega) HWO.out.e4).mono ?_)
    rintro e w16 ⟨rfl, hs, hr, hp⟩
    rw [HEa4.out] at hs
    replace SA := Lib.hid hs
    replace SB := Lib.hid hr
    replace HP9 := Lib.hid (hp.block HP9.out (by have := HLSAP.out; omega))
    replace LW := Lib.hid (LW.out.one hp GEga.out)
    clear hs hr hp
    go_wp2_with fail
    (with_reducible refine (sshelf_c ga _ _ w16 SA.out).mono ?_)
    rintro e w17 ⟨xa, xc, rfl, hv, hb⟩
    have xV := Lib.hid (VOwn.mono hv (Nat.zero_le _))
    replace HP9 := Lib.hid (below_keep hb HP9.out)
    replace SA := Lib.hid (SA.out.below hb)
    replace SB := Lib.hid (SB.out.below hb)
    replace LW := Lib.hid (LW.out.below hb)
    clear hv hb
    go_wp2_with fail
    (with_reducible refine (sshelf_c gb _ _ w17 SB.out).mono ?_)
    rintro e w18 ⟨ya, yc, rfl, hv, hb⟩
    have yV := Lib.hid (VOwn.mono hv (Nat.zero_le _))
    replace HP9 := Lib.hid (below_keep hb HP9.out)
    replace SA := Lib.hid (SA.out.below hb)
    replace SB := Lib.hid (SB.out.below hb)
    replace xV := Lib.hid (VOwn.below xV.out hb)
    replace LW := Lib.hid (LW.out.below hb)
    clear hv hb
    have hbo := SB.out.ok.L
    have HWN := Lib.hid (swanted_c _ _ b1.L F w18 (yV.out.at_ (shok_bd hbo.ok) (by have := hbo.len; omega)) hbo.ok hbo.len (BxsAt.sub HF.out LW.out.sub) ZF.out)
    clear hbo
    go_wp2_with fail
    (with_reducible refine (HWN.out).mono ?_)
    rintro e w19 ⟨za, zc, rfl, hz, hb⟩
    replace HP9 := Lib.hid (below_keep hb HP9.out)
    replace SA := Lib.hid (SA.out.below hb)
    replace SB := Lib.hid (SB.out.below hb)
    replace xV := Lib.hid (VOwn.below xV.out hb)
    replace yV := Lib.hid (VOwn.below yV.out hb)
    replace LW := Lib.hid (LW.out.below hb)
    have hao := SA.out.ok.L
    have HSM := Lib.hid (sameS_c _ _ a4.L (wantL b1.L (ptsOf F)) w19 (xV.out.at_ (shok_bd hao.ok) (by have := hao.len; omega)) hz)
    clear hao hz hb HWN
    clear xV
    clear yV
    go_wp2_with fail
    (with_reducible refine (HSM.out).mono ?_)
    rintro e w20 ⟨q, rfl, hq, hb⟩
    obtain rfl : q = true := hq.2 HWO.out.L4
    clear hq HSM
    replace HP9 := Lib.hid (below_keep hb HP9.out)
    replace SA := Lib.hid (SA.out.below hb)
    replace SB := Lib.hid (SB.out.below hb)
    replace LW := Lib.hid (LW.out.below hb)
    clear hb
    have HB := Lib.hid LW.out.toBelow
    go_wp2
    go_ret
    exact ⟨rfl, HB.out⟩
  have hd1 : decide (0 < b1.made) = true := decide_eq_true hmd
  have HPH := Lib.hid (show ∀ (wx : World) (y : Value), PtsOwnA wx 0 y (knownS a3) → Calls Tryz.prog 54 #[y, .agg #[.int .i64 pt, .int .i64 pn], .agg #[.int .i64 1, .int .i64 1]] wx fun e w' => e = .returned (.tuple #[.bool X, .int .i64 0]) ∧ Below wx.heap.size wx w' from fun wx y ho => by
    have h := phas_s y (knownS a3) pt pn 1 1 wx (ho.sem (by have := HWO.out.k3; omega)) HWO.out.k3
    have e2 : hasSE pt pn 1 1 = 0 := by unfold hasSE; rw [HPT.out]; rfl
    rw [HWO.out.has pt pn HPT.out hmd, ← HX.out, e2] at h
    exact h)
  have HK0 := Lib.hid (cell_of_block (j := 0) HP9.out rfl : w15.cell? ⟨B9, 0, none⟩ = some (.int .i64 pt))
  have HK1 := Lib.hid (cell_of_block (j := 1) HP9.out rfl : w15.cell? ⟨B9, 1, none⟩ = some (.int .i64 pn))
  go_wp2
  refine Cl.region0 119 rfl [] (fun _ => True) (fun _ => []) (fun jq v ww => match jq with | 0 => v = .pointer (some ⟨ga, 0, none⟩) | 1 => POw ww (knownS a3) v | 2 => v = .agg #[.int .i64 pt, .int .i64 pn] | 3 => v = .agg #[.int .i64 1, .int .i64 1] | 4 => v = .tuple #[.bool X, .int .i64 0] | 5 => v = .tuple #[.bool X, .int .i64 0] | 6 => v = .bool X | 7 => v = .int .i64 0 | 8 => v = .bool X | 9 => v = .int .i64 0 | _ => True) (fun ww => Below w15.heap.size w15 ww) (fun jq ww ww' => Below ww.heap.size ww ww') Tryz.mixed (by decide +kernel) (Below.refl _ _).drew trivial ?_ (fun _ _ _ _ _ _ => trivial) ?_ ?_
  · intro q r v w w' hne hk hlt h hR
    match r, hk, hlt, h, hne with
    | 0, _, _, h, _ => exact h
    | 1, _, _, h, _ => exact h.below hR
    | 2, _, _, h, _ => exact h
    | 3, _, _, h, _ => exact h
    | 4, _, _, h, _ => exact h
    | 5, _, _, h, _ => exact h
    | 6, _, _, h, _ => exact h
    | 7, _, _, h, _ => exact h
    | 8, _, _, h, _ => exact h
    | 9, _, _, h, _ => exact h
    | _ + 10, _, _, _, _ => trivial
  · refine ⟨?_, ?_, ?_, ?_, ?_, ?_, ?_, ?_, ?_, ?_, trivial⟩
    · intro x wx hG
      have f11 := hG.old 11 (by decide +kernel)
      have hg := hG.good
      clear hG
      go_wp2
      exact ⟨_, rfl, rfl, hg, Below.refl _ _⟩
    · intro x wx hG
      have g0 : (x.tmps.getD 89 undef) = .pointer (some ⟨ga, 0, none⟩) := hG.claims 0 _ rfl (by decide +kernel) (by decide +kernel)
      have g0b := g0
      rw [Array.getD_eq_getD_getElem?] at g0b
      have hg := hG.good
      clear hG
      have HN9 := Lib.hid (parts_c ga _ _ wx (SA.out.below hg))
      go_wp2_with fail
      (with_reducible refine (HN9.out).mono ?_)
      rintro e wq ⟨y9, rfl, hv, hb⟩
      obtain ⟨ya9, yc9, hyv⟩ := hv.shape
      subst hyv
      have HV9 := Lib.hid (PtsOwnA.mono hv (Nat.zero_le _))
      have HBB := Lib.hid hb
      clear hb hv HN9
      go_wp2
      exact ⟨_, rfl, ⟨_, _, _, rfl, HV9.out⟩, bstep hg HBB.out, HBB.out⟩
    · intro x wx hG
      have f7 := hG.old 7 (by decide +kernel)
      have hg := hG.good
      clear hG
      have c_HK0 := ckeep hg HK0.out
      have c_HK1 := ckeep hg HK1.out
      go_wp2
      exact ⟨_, rfl, rfl, hg, Below.refl _ _⟩
    · intro x wx hG
      have hg := hG.good
      clear hG
      go_wp2
      exact ⟨_, rfl, rfl, hg, Below.refl _ _⟩
    · intro x wx hG
      have g1 : POw wx (knownS a3) (x.tmps.getD 90 undef) := hG.claims 1 _ rfl (by decide +kernel) (by decide +kernel)
      have g2 : (x.tmps.getD 91 undef) = .agg #[.int .i64 pt, .int .i64 pn] := hG.claims 2 _ rfl (by decide +kernel) (by decide +kernel)
      have g2b := g2
      rw [Array.getD_eq_getD_getElem?] at g2b
      have g3 : (x.tmps.getD 92 undef) = .agg #[.int .i64 1, .int .i64 1] := hG.claims 3 _ rfl (by decide +kernel) (by decide +kernel)
      have g3b := g3
      rw [Array.getD_eq_getD_getElem?] at g3b
      have hg := hG.good
      clear hG
      obtain ⟨ya9, yn9, yc9, hv, ho⟩ := g1
      have hvb := hv
      rw [Array.getD_eq_getD_getElem?] at hvb
      have HN9 := Lib.hid (HPH.out wx _ ho)
      clear ho
      go_wp2_with fail
      (with_reducible refine (HN9.out).mono ?_)
      rintro e wq ⟨rfl, hb⟩
      have HBB := Lib.hid hb
      clear hb HN9
      go_wp2
      exact ⟨_, rfl, rfl, bstep hg HBB.out, HBB.out⟩
    · intro x wx hG
      have g4 : (x.tmps.getD 93 undef) = .tuple #[.bool X, .int .i64 0] := hG.claims 4 _ rfl (by decide +kernel) (by decide +kernel)
      have g4b := g4
      rw [Array.getD_eq_getD_getElem?] at g4b
      have hg := hG.good
      clear hG
      go_wp2
      exact ⟨_, rfl, rfl, hg, Below.refl _ _⟩
    · intro x wx hG
      have g5 : (x.tmps.getD 88 undef) = .tuple #[.bool X, .int .i64 0] := hG.claims 5 _ rfl (by decide +kernel) (by decide +kernel)
      have g5b := g5
      rw [Array.getD_eq_getD_getElem?] at g5b
      have hg := hG.good
      clear hG
      go_wp2
      exact ⟨_, rfl, rfl, hg, Below.refl _ _⟩
    · intro x wx hG
      have g5 : (x.tmps.getD 88 undef) = .tuple #[.bool X, .int .i64 0] := hG.claims 5 _ rfl (by decide +kernel) (by decide +kernel)
      have g5b := g5
      rw [Array.getD_eq_getD_getElem?] at g5b
      have hg := hG.good
      clear hG
      go_wp2
      exact ⟨_, rfl, rfl, hg, Below.refl _ _⟩
    · intro x wx hG
      have g6 : (x.tmps.getD 94 undef) = .bool X := hG.claims 6 _ rfl (by decide +kernel) (by decide +kernel)
      have g6b := g6
      rw [Array.getD_eq_getD_getElem?] at g6b
      have hg := hG.good
      clear hG
      go_wp2
      exact ⟨_, rfl, rfl, hg, Below.refl _ _⟩
    · intro x wx hG
      have g7 : (x.tmps.getD 95 undef) = .int .i64 0 := hG.claims 7 _ rfl (by decide +kernel) (by decide +kernel)
      have g7b := g7
      rw [Array.getD_eq_getD_getElem?] at g7b
      have hg := hG.good
      clear hG
      go_wp2
      exact ⟨_, rfl, rfl, hg, Below.refl _ _⟩
  · intro vals wR hg hF
    obtain ⟨g0, g1, g2, g3, g4, g5, g6, g7, g8, g9, -⟩ := hF
    have e0 : vals 0 = .pointer (some ⟨ga, 0, none⟩) := g0 rfl
    have e2 : vals 2 = .agg #[.int .i64 pt, .int .i64 pn] := g2 rfl
    have e3 : vals 3 = .agg #[.int .i64 1, .int .i64 1] := g3 rfl
    have e4 : vals 4 = .tuple #[.bool X, .int .i64 0] := g4 rfl
    have e5 : vals 5 = .tuple #[.bool X, .int .i64 0] := g5 rfl
    have e6 : vals 6 = .bool X := g6 rfl
    have e7 : vals 7 = .int .i64 0 := g7 rfl
    have e8 : vals 8 = .bool X := g8 rfl
    have e9 : vals 9 = .int .i64 0 := g9 rfl
    simp only [Cl.puts, e0, e2, e3, e4, e5, e6, e7, e8, e9]
    clear e0 e2 e3 e4 e5 e6 e7 e8 e9 g0 g1 g2 g3 g4 g5 g6 g7 g8 g9
    go_simp
    have hb := hg
    clear hg HK0 HK1 HPH
    replace HP9 := Lib.hid (below_keep hb HP9.out)
    replace SB := Lib.hid (SB.out.below hb)
    replace SA := Lib.hid (SA.out.below hb)
    replace LW := Lib.hid (LW.out.below hb)
    clear hb
    generalize vals 90 = j90 at *
    go_wp2_with fail
    (with_reducible refine (sync_ok ga gb _ a3 b1 wR SA.out SB.out (by have := NEgagb.out; omega) HWO.out.e4).mono ?_)
    rintro e w16 ⟨rfl, hs, hr, hp⟩
    rw [HEa4.out] at hs
    replace SA := Lib.hid hs
    replace SB := Lib.hid hr
    replace HP9 := Lib.hid (hp.block HP9.out (by have := HLSAP.out; omega))
    replace LW := Lib.hid (LW.out.one hp GEga.out)
    clear hs hr hp
    go_wp2_with fail
    (with_reducible refine (sshelf_c ga _ _ w16 SA.out).mono ?_)
    rintro e w17 ⟨xa, xc, rfl, hv, hb⟩
    have xV := Lib.hid (VOwn.mono hv (Nat.zero_le _))
    replace HP9 := Lib.hid (below_keep hb HP9.out)
    replace SA := Lib.hid (SA.out.below hb)
    replace SB := Lib.hid (SB.out.below hb)
    replace LW := Lib.hid (LW.out.below hb)
    clear hv hb
    go_wp2_with fail
    (with_reducible refine (sshelf_c gb _ _ w17 SB.out).mono ?_)
    rintro e w18 ⟨ya, yc, rfl, hv, hb⟩
    have yV := Lib.hid (VOwn.mono hv (Nat.zero_le _))
    replace HP9 := Lib.hid (below_keep hb HP9.out)
    replace SA := Lib.hid (SA.out.below hb)
    replace SB := Lib.hid (SB.out.below hb)
    replace xV := Lib.hid (VOwn.below xV.out hb)
    replace LW := Lib.hid (LW.out.below hb)
    clear hv hb
    have hbo := SB.out.ok.L
    have HWN := Lib.hid (swanted_c _ _ b1.L F w18 (yV.out.at_ (shok_bd hbo.ok) (by have := hbo.len; omega)) hbo.ok hbo.len (BxsAt.sub HF.out LW.out.sub) ZF.out)
    clear hbo
    go_wp2_with fail
    (with_reducible refine (HWN.out).mono ?_)
    rintro e w19 ⟨za, zc, rfl, hz, hb⟩
    replace HP9 := Lib.hid (below_keep hb HP9.out)
    replace SA := Lib.hid (SA.out.below hb)
    replace SB := Lib.hid (SB.out.below hb)
    replace xV := Lib.hid (VOwn.below xV.out hb)
    replace yV := Lib.hid (VOwn.below yV.out hb)
    replace LW := Lib.hid (LW.out.below hb)
    have hao := SA.out.ok.L
    have HSM := Lib.hid (sameS_c _ _ a4.L (wantL b1.L (ptsOf F)) w19 (xV.out.at_ (shok_bd hao.ok) (by have := hao.len; omega)) hz)
    clear hao hz hb HWN
    clear xV
    clear yV
    go_wp2_with fail
    (with_reducible refine (HSM.out).mono ?_)
    rintro e w20 ⟨q, rfl, hq, hb⟩
    obtain rfl : q = true := hq.2 HWO.out.L4
    clear hq HSM
    replace HP9 := Lib.hid (below_keep hb HP9.out)
    replace SA := Lib.hid (SA.out.below hb)
    replace SB := Lib.hid (SB.out.below hb)
    replace LW := Lib.hid (LW.out.below hb)
    clear hb
    have HB := Lib.hid LW.out.toBelow
    go_wp2
    go_ret
    exact ⟨rfl, HB.out⟩
end Go.Proofs.YtboakoipdfmpcaaGreat
