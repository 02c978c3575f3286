/- What SiteReads does. Written by a small program (gen/sl.py). -/
import Derived.Test.YtboakoipdfmpcaaGreatMSiteD
import Derived.Test.YtboakoipdfmpcaaGreatMShelf7
import Derived.Test.YtboakoipdfmpcaaGreatMDots
namespace Go.Proofs.YtboakoipdfmpcaaGreat
open Go.RowKit
theorem sole {l : List Ver} {v : Ver} (h : l.Pairwise vlt) (hv : v ∈ l) (he : ∀ x ∈ l, x = v) : l = [v] := by
  match l, h, hv, he with
  | [a], _, _, he => rw [he a (by simp)]
  | a :: b :: _, h, _, he =>
    exfalso
    have := (List.pairwise_cons.1 h).1 b (by simp)
    rw [he a (by simp), he b (by simp)] at this
    exact vlt_irrefl _ this
structure ReadsOk (a1 b1 a2 : SiteS) : Prop where
  e1 : tookE a1 (syncB a1 b1) = 0
  em : ∀ id t n, idOk id = true → ptOk t n = true → madeE a2 id t n 5 = 0
  get : ∀ id t n, idOk id = true → ptOk t n = true → getL (madeS a2 id t n 5).L id = [madeV a2 id t n 5]
  keep : ∀ id t n, idOk id = true → ptOk t n = true → ∀ x ∈ a2.L, x.id ≠ id → x ∈ (madeS a2 id t n 5).L
theorem reads_ok {U1 U2 : List Ver} {a1 b1 : SiteS} {p : Nat → Nat → Bool} (ha0 : Grow [] (newS 0 p) U1 a1 12) (hb0 : Grow U1 (newS 1 (ptsOf everyB)) U2 b1 12) (ha : SiteOk a1) (hb : SiteOk b1) :
    ReadsOk a1 b1 (tookS a1 (syncB a1 b1)) := by
  obtain ⟨NA, hA1, hA2, hA3, hA4, -⟩ := ha0.new
  obtain ⟨NB, hB1, hB2, hB3, hB4, hB5⟩ := hb0.new
  rw [List.nil_append] at hA1
  have hame : a1.me = 0 := ha0.me
  have hbme : b1.me = 1 := hb0.me
  have haS : a1.S = [] := ha0.S
  have hbS : b1.S = [] := hb0.S
  have hU1l : U1.length ≤ 12 := by rw [hA1]; omega
  have hU2l : U2.length ≤ 24 := by rw [hB1, List.length_append]; omega
  have hHx := hb0.made.hx
  have hU := hHx.uni (by omega)
  have h12 : ∀ x ∈ U1, x ∈ U2 := hb0.sub_of
  have y1 := sync_took hU ha hb (fun x hx => h12 x (ha0.made.sub x hx)) hb0.made.sub (by rw [haS, hbS]; decide)
  have oka2 := tookS_ok ha (syncB_ok ha hb)
  have hsub := y1.within (fun x hx => h12 x (ha0.made.sub x hx)) hb0.made.sub
  generalize ha2 : tookS a1 (syncB a1 b1) = a2 at *
  have ha2me : a2.me = 0 := y1.me.trans hame
  have ha2md : a2.made = a1.made := y1.made
  have hMade : Made U2 a2 := ⟨hHx, hsub, fun x hx e => by
    rw [ha2me] at e
    rw [ha2md]
    rw [hB1] at hx
    rcases List.mem_append.1 hx with hx | hx
    · exact ha0.made.low x hx (by rw [hame]; exact e)
    · have h9 : x.ds = 1 := (hB4 x hx).1
      omega⟩
  have hmd := ha0.len.2.2
  have hmd0 : (newS 0 p).made = 0 := rfl
  have hm3 : a2.made < 1000 := by omega
  have hbz : ∀ t n, ptOk t n = true → madeB t n 5 = false := fun t n h => by
    unfold madeB; rw [h]; rfl
  refine ⟨y1.e, fun id t n hi hp => madeE_ok hMade oka2 (by omega) hm3 hi (hbz t n hp), fun id t n hi hp => ?_, fun id t n hi hp x hx hne => ?_⟩
  · have em := madeE_ok hMade oka2 (by omega) hm3 hi (hbz t n hp)
    have mm := made_mem hMade oka2 (by omega) hm3 hi (hbz t n hp)
    have ok3 := madeS_ok oka2 id t n 5
    have eS3 : (madeS a2 id t n 5).L = putL a2.L (madeV a2 id t n 5) := by unfold madeS; rw [if_pos em]
    refine sole (ok3.L.ord.filter _) (mem_get.2 ⟨by rw [eS3]; exact (mm _).2 (.inl rfl), rfl⟩) fun x hx => ?_
    obtain ⟨q1, q2⟩ := mem_get.1 hx
    rw [eS3, mm] at q1
    rcases q1 with q1 | ⟨-, q1⟩
    · exact q1
    · exact absurd q2 q1
  · have em := madeE_ok hMade oka2 (by omega) hm3 hi (hbz t n hp)
    have mm := made_mem hMade oka2 (by omega) hm3 hi (hbz t n hp)
    have eS3 : (madeS a2 id t n 5).L = putL a2.L (madeV a2 id t n 5) := by unfold madeS; rw [if_pos em]
    rw [eS3]
    exact (mm x).2 (.inr ⟨hx, hne⟩)
set_option maxRecDepth 100000 in
theorem reads1_p (B : Nat) (v : Ver) (y z : Value) (w : World) (hB : w.heap[B]? = some (Obj.cells (verC v y z) 75 (0, 0))) (hk : KnAt w y z v.past) :
    PredV VerOk 64 #[.pointer (some ⟨B, 0, none⟩)] (fun x => sameVB v x) w := by
  refine ⟨enters_of Tryz.func64 (by kernel_rfl) rfl, fun a u x W hok hbl ha => ?_⟩
  show Calls Tryz.prog 64 #[.agg (verC a u x), .pointer (some ⟨B, 0, none⟩)] W _
  have HB := Lib.hid (below_keep hbl hB)
  have HK := Lib.hid (hk.below hbl)
  clear hbl hB hk
  obtain ⟨xa, ca, rfl⟩ := ha.vec.shape
  obtain ⟨ya, da, rfl⟩ := ha.more.shape
  obtain ⟨xb, cb, hxb⟩ := HK.out.vec.shape
  obtain ⟨yb, db, hyb⟩ := HK.out.more.shape
  subst hxb hyb
  have hbel := bal (W := W) (.cells (verC a (.slice xa a.past.vec.length ca) (.slice ya a.past.more.length da)) 75)
  have HA := Lib.hid (ha.below hbel)
  have HK2 := Lib.hid (HK.out.below hbel)
  have HO := Lib.hid (sameV_c v a _ _ _ _ _ HK2.out HA.out)
  have hB2 := below_keep hbel HB.out
  have c0 := cell_of_block (j := 0) hB2 rfl
  have c1 := cell_of_block (j := 1) hB2 rfl
  have c2 := cell_of_block (j := 2) hB2 rfl
  have c3 := cell_of_block (j := 3) hB2 rfl
  have c4 := cell_of_block (j := 4) hB2 rfl
  have c5 := cell_of_block (j := 5) hB2 rfl
  have c6 := cell_of_block (j := 6) hB2 rfl
  have c7 := cell_of_block (j := 7) hB2 rfl
  clear ha hB2 HB HK
  unfold verC at *
  go_enter Tryz.func64, Tryz.ntmps64
  go_wp2_with fail
  (with_reducible refine (HO.out).mono ?_)
  rintro e w1 ⟨rfl, hb1⟩
  replace hbel := bstep hbel hb1
  clear hb1 c0 c1 c2 c3 c4 c5 c6 c7 HO
  go_wp2
  go_ret
  exact ⟨rfl, hbel⟩
theorem str_cell4 {w : World} {g i : Nat} (h : w.heap[g]? = some (Obj.cells #[.string ⟨#[97]⟩, .string ⟨#[98]⟩, .string ⟨#[99]⟩, .string ⟨#[100]⟩] 9 (0, 0))) (hi : i < 4) : w.cell? ⟨g, i, none⟩ = some (.string (sidA i)) := by
  refine cell_of_block h ?_
  match i, hi with
  | 0, _ => rfl
  | 1, _ => rfl
  | 2, _ => rfl
  | 3, _ => rfl
theorem sameVB_self (v : Ver) : sameVB v v = true := by
  unfold sameVB; simp
set_option maxRecDepth 100000 in
set_option maxHeartbeats 8000000 in
theorem SiteReads_walk (fv lv mv : Value) (F : Bxs) (l m : List (List Int)) (sx : ByteArray) (pt pn : Int) (w : World) (hF : BxsAt w fv F) (hl : RowAt vecE w lv l) (hm : RowAt vecE w mv m) :
    Calls Tryz.prog 10 #[fv, lv, mv, .string sx, .agg #[.int .i64 pt, .int .i64 pn]] w fun e w' => e = .returned (.bool true) ∧ Below w.heap.size w w' := by
  obtain ⟨fa, fc, rfl⟩ := hF.shape
  obtain ⟨la, lc, rfl⟩ := hl.shape
  obtain ⟨ma, mc, rfl⟩ := hm.shape
  have HF := Lib.hid hF
  have HL := Lib.hid hl
  have HM := Lib.hid hm
  clear hF hl hm
  obtain ⟨B9, hB9⟩ : ∃ B, B = w.heap.size := ⟨_, rfl⟩
  obtain ⟨W0, hW0⟩ : ∃ W0, W0 = w.alloc (.cells #[.int .i64 pt, .int .i64 pn] 39) := ⟨_, rfl⟩
  have HP9 := Lib.hid (show W0.heap[B9]? = some (Obj.cells #[.int .i64 pt, .int .i64 pn] 39 (0, 0)) by rw [hW0]; exact alloc_new _ _ _ _ hB9)
  have HW0 := Lib.hid hW0
  have HB9 := Lib.hid hB9
  have hb := Lib.hid (show Below w.heap.size w W0 by rw [hW0]; exact bal _)
  clear hW0 hB9
  have LW := Lib.hid (Lw.refl w)
  replace LW := Lib.hid (LW.out.below hb.out)
  clear hb
  go_enter Tryz.func10, Tryz.ntmps10
  go_wp2_with fail
  rw [← HW0.out, ← HB9.out]
  clear HW0 HB9
  (with_reducible refine (siteBegun_c W0).mono ?_)
  rintro e w1 ⟨rfl, hb⟩
  replace HP9 := Lib.hid (below_keep hb HP9.out)
  replace LW := Lib.hid (LW.out.below hb)
  clear hb
  go_wp2_with fail
  (with_reducible refine (fChk_c _ F w1 (BxsAt.sub HF.out LW.out.sub)).mono ?_)
  rintro e w2 ⟨rfl, hb⟩
  replace HP9 := Lib.hid (below_keep hb HP9.out)
  replace LW := Lib.hid (LW.out.below hb)
  clear hb
  by_cases hz : fChk F = 0
  rotate_left
  · have hd : decide (fChk F = 0) = false := by simpa using hz
    have hd2 : (fChk F != 0) = true := bne_iff_ne.2 hz
    have HB := Lib.hid LW.out.toBelow
    go_wp2
    go_ret
    exact ⟨rfl, HB.out⟩
  have ZF := Lib.hid hz
  rw [hz]
  clear hz
  have k0 := cell_of_block (j := 0) HP9.out rfl
  have k1 := cell_of_block (j := 1) HP9.out rfl
  go_wp2_with fail
  (with_reducible refine (point_c pt pn w2).mono ?_)
  rintro e w3 ⟨rfl, hb⟩
  replace HP9 := Lib.hid (below_keep hb HP9.out)
  replace LW := Lib.hid (LW.out.below hb)
  clear hb k0 k1
  cases hpt : ptOk pt pn
  · have HB := Lib.hid LW.out.toBelow
    go_wp2
    go_ret
    exact ⟨rfl, HB.out⟩
  have HPT := Lib.hid hpt
  clear hpt
  go_wp2_with fail
  (with_reducible refine (everyS w3).mono ?_)
  rintro e w4 ⟨ev, rfl, hev, hb⟩
  obtain ⟨eva, evc, hev⟩ := (hev.at_ok every_chk).shape
  subst hev
  have HEVev := Lib.hid hev
  replace HP9 := Lib.hid (below_keep hb HP9.out)
  replace LW := Lib.hid (LW.out.below hb)
  clear hb hev
  go_wp2_with fail
  (with_reducible refine (stwo_c _ _ F everyB w4 (BxsAt.sub HF.out LW.out.sub) (FOwn.at_ok HEVev.out every_chk) ZF.out every_chk).mono ?_)
  rintro e w5 ⟨ga, gb, rfl, hsa, hsb, hlt, hb⟩
  have HS0 := Lib.hid LW.out.size
  have SA := Lib.hid (SiteAt.mono hsa HS0.out)
  have SB := Lib.hid (SiteAt.mono hsb HS0.out)
  have GEga := Lib.hid SA.out.ge
  have GEgb := Lib.hid SB.out.ge
  have NEgagb := Lib.hid hlt
  have HLSAP := Lib.hid (show B9 < ga from Nat.lt_of_lt_of_le (hlt_of HP9.out) hsa.ge)
  have HLSBP := Lib.hid (show B9 < gb from Nat.lt_of_lt_of_le (hlt_of HP9.out) hsb.ge)
  clear hsa hsb hlt HS0
  replace HP9 := Lib.hid (below_keep hb HP9.out)
  replace HEVev := Lib.hid (BxsOwn.below HEVev.out hb)
  replace LW := Lib.hid (LW.out.below hb)
  clear hb
  clear HEVev
  have HMA := Lib.hid (show (newS 0 (ptsOf F)).made ≤ 900 from (by decide : (0:Int) ≤ 900))
  have HMB := Lib.hid (show (newS 1 (ptsOf everyB)).made ≤ 900 from (by decide : (0:Int) ≤ 900))
  have M0 := Lib.hid (made_new [] 0 (ptsOf F) Hx.nil (by simp))
  go_wp2_with fail
  (with_reducible refine (smakes_c ga _ (newS 0 (ptsOf F)) [] _ l w5 SA.out M0.out (by simp) HMA.out (fun w' hs => HL.out.sub (LW.out.one hs GEga.out).sub)).mono ?_)
  rintro e w6 ⟨U1, a1, rfl, hgr, hs, hp⟩
  have Ga1 := Lib.hid hgr
  clear hgr
  replace SA := Lib.hid hs
  replace HP9 := Lib.hid (hp.block HP9.out (by have := HLSAP.out; omega))
  replace SB := Lib.hid (SB.out.stp hp (fun e => by have := NEgagb.out; omega))
  replace LW := Lib.hid (LW.out.one hp GEga.out)
  clear hs hp
  have M1 := Lib.hid (made_other Ga1.out 1 (ptsOf everyB) (by exact (by decide : (0:Int) ≠ 1)))
  have HU1 := Lib.hid (show U1.length ≤ 47 by have := Ga1.out.len.1; simp at this; omega)
  go_wp2_with fail
  (with_reducible refine (smakes_c gb _ (newS 1 (ptsOf everyB)) U1 _ m w6 SB.out M1.out HU1.out HMB.out (fun w' hs => HM.out.sub (LW.out.one hs GEgb.out).sub)).mono ?_)
  rintro e w7 ⟨U2, b1, rfl, hgr, hs, hp⟩
  have Gb1 := Lib.hid hgr
  clear hgr
  replace SB := Lib.hid hs
  replace HP9 := Lib.hid (hp.block HP9.out (by have := HLSBP.out; omega))
  replace SA := Lib.hid (SA.out.stp hp (fun e => by have := NEgagb.out; omega))
  replace LW := Lib.hid (LW.out.one hp GEgb.out)
  clear hs hp
  have HRO := Lib.hid (reads_ok Ga1.out Gb1.out SA.out.ok SB.out.ok)
  go_wp2_with fail
  (with_reducible refine (sync_ok ga gb _ a1 b1 w7 SA.out SB.out (by have := NEgagb.out; omega) HRO.out.e1).mono ?_)
  rintro e w8 ⟨rfl, hs, hr, hp⟩
  replace SA := Lib.hid hs
  replace SB := Lib.hid hr
  replace HP9 := Lib.hid (hp.block HP9.out (by have := HLSAP.out; omega))
  replace LW := Lib.hid (LW.out.one hp GEga.out)
  clear hs hr hp
  generalize ha2 : tookS a1 (syncB a1 b1) = a2 at *
  have HEa2 := Lib.hid ha2
  clear ha2
  obtain ⟨i4, hi4⟩ : ∃ i4, i4 = wiN (sx.size : Int) 4 := ⟨_, rfl⟩
  have Li4 : i4 < 4 := by rw [hi4]; exact wiN_lt _ 4 (by decide)
  have HW4 := Lib.hid (fun w2 => (show Calls Tryz.prog 30 #[.int .i64 (sx.size : Int), .int .i64 4] w2 fun e w' => e = .returned (.int .i64 ((i4 : Nat) : Int)) ∧ Below w2.heap.size w2 w' by rw [hi4]; exact wiN_c (sx.size : Int) 4 w2 (by decide) (by decide)))
  obtain ⟨wS, hwS⟩ : ∃ wS, wS = w8.alloc (.cells #[.string ⟨#[97]⟩, .string ⟨#[98]⟩, .string ⟨#[99]⟩, .string ⟨#[100]⟩] 9) := ⟨_, rfl⟩
  obtain ⟨BS, hBS⟩ : ∃ BS, BS = w8.heap.size := ⟨_, rfl⟩
  have hb : Below w8.heap.size w8 wS := by rw [hwS]; exact bal _
  have HNB := Lib.hid (show wS.heap[BS]? = some (Obj.cells #[.string ⟨#[97]⟩, .string ⟨#[98]⟩, .string ⟨#[99]⟩, .string ⟨#[100]⟩] 9 (0, 0)) by rw [hwS]; exact alloc_new _ _ _ _ hBS)
  have HWS := Lib.hid hwS
  have HBS := Lib.hid hBS
  have HLSAN := Lib.hid (show ga < BS by rw [hBS]; exact SA.out.lt)
  clear hwS hBS hi4
  replace HP9 := Lib.hid (below_keep hb HP9.out)
  replace SA := Lib.hid (SA.out.below hb)
  replace SB := Lib.hid (SB.out.below hb)
  replace LW := Lib.hid (LW.out.below hb)
  clear hb
  go_wp2_with fail
  rw [← HWS.out, ← HBS.out]
  clear HWS HBS
  (with_reducible refine (HW4.out wS).mono ?_)
  rintro e w9 ⟨rfl, hb⟩
  replace HP9 := Lib.hid (below_keep hb HP9.out)
  replace SA := Lib.hid (SA.out.below hb)
  replace SB := Lib.hid (SB.out.below hb)
  replace HNB := Lib.hid (below_keep hb HNB.out)
  replace LW := Lib.hid (LW.out.below hb)
  clear hb
  have hst := str_cell4 HNB.out Li4
  have hib : decide ((i4 : Int) < 4) = true := by simp; omega
  have HSI := Lib.hid (sidA_ok i4)
  go_wp2_with fail
  generalize hsd : sidA i4 = sid at *
  clear hsd hst hib HW4
  (with_reducible refine (sshelf_c ga _ _ w9 SA.out).mono ?_)
  rintro e w10 ⟨za, zc, rfl, hv, hb⟩
  have zV := Lib.hid (VOwn.mono hv (Nat.zero_le _))
  replace HP9 := Lib.hid (below_keep hb HP9.out)
  replace SA := Lib.hid (SA.out.below hb)
  replace SB := Lib.hid (SB.out.below hb)
  replace HNB := Lib.hid (below_keep hb HNB.out)
  replace LW := Lib.hid (LW.out.below hb)
  clear hv hb
  have hao := SA.out.ok.L
  have hL60 := hao.len
  have HA2K := Lib.hid hao
  clear hao
  have HEM := Lib.hid (HRO.out.em sid pt pn HSI.out HPT.out)
  have HGT := Lib.hid (HRO.out.get sid pt pn HSI.out HPT.out)
  have HKP := Lib.hid (HRO.out.keep sid pt pn HSI.out HPT.out)
  have k0 := cell_of_block (j := 0) HP9.out rfl
  have k1 := cell_of_block (j := 1) HP9.out rfl
  clear HNB
  go_wp2_with fail
  (with_reducible refine (smake_c ga _ a2 sid pt pn 5 w10 SA.out).mono ?_)
  rintro e w11 ⟨rfl, hs, hp⟩
  clear k0 k1
  rw [if_pos HEM.out, if_pos HEM.out, HEM.out]
  replace SA := Lib.hid hs
  replace HP9 := Lib.hid (hp.block HP9.out (by have := HLSAP.out; omega))
  replace SB := Lib.hid (SB.out.stp hp (fun e => by have := NEgagb.out; omega))
  replace zV := Lib.hid (VOwn.stp zV.out hp)
  replace LW := Lib.hid (LW.out.one hp GEga.out)
  clear hs hp
  obtain ⟨wD, hwD⟩ : ∃ wD, wD = w11.alloc (.cells #[.int .i64 a2.me, .int .i64 (a2.made + 1)] 41) := ⟨_, rfl⟩
  obtain ⟨BD, hBD⟩ : ∃ BD, BD = w11.heap.size := ⟨_, rfl⟩
  have hb : Below w11.heap.size w11 wD := by rw [hwD]; exact bal _
  have HDD := Lib.hid (show wD.heap[BD]? = some (Obj.cells #[.int .i64 a2.me, .int .i64 (a2.made + 1)] 41 (0, 0)) by rw [hwD]; exact alloc_new _ _ _ _ hBD)
  have HWD := Lib.hid hwD
  have HBD := Lib.hid hBD
  clear hwD hBD
  replace HP9 := Lib.hid (below_keep hb HP9.out)
  replace SB := Lib.hid (SB.out.below hb)
  replace zV := Lib.hid (VOwn.below zV.out hb)
  replace SA := Lib.hid (SA.out.below hb)
  replace LW := Lib.hid (LW.out.below hb)
  clear hb
  go_wp2_with fail
  rw [← HWD.out, ← HBD.out]
  clear HWD HBD
  (with_reducible refine (sread_c ga _ (madeS a2 sid pt pn 5) sid wD SA.out).mono ?_)
  rintro e w12 ⟨ov, rfl, hv, hb⟩
  have he0 : getE (madeS a2 sid pt pn 5).L sid = 0 := by
    unfold getE
    rw [if_neg (by rw [shelfChk_zero.2 SA.out.ok.L]; decide), if_neg (by rw [HGT.out]; simp)]
  rw [he0]
  rw [getR_ok he0, HGT.out] at hv
  have HVN := Lib.hid (show VerOk (madeV a2 sid pt pn 5) from SA.out.ok.L.ok _ (mem_get.1 (show madeV a2 sid pt pn 5 ∈ getL (madeS a2 sid pt pn 5).L sid by rw [HGT.out]; simp)).1)
  obtain ⟨oa, oc, hov⟩ : ∃ oa oc, ov = .slice oa 1 oc := hv.shape
  subst hov
  have HRR := Lib.hid (hv.at_ (shok_bd (l := [madeV a2 sid pt pn 5]) (by intro x hx; rw [List.mem_singleton.1 hx]; exact HVN.out)) (by simp))
  clear hv he0
  replace HP9 := Lib.hid (below_keep hb HP9.out)
  replace SB := Lib.hid (SB.out.below hb)
  replace zV := Lib.hid (VOwn.below zV.out hb)
  replace SA := Lib.hid (SA.out.below hb)
  replace HDD := Lib.hid (below_keep hb HDD.out)
  replace LW := Lib.hid (LW.out.below hb)
  clear hb
  obtain ⟨a', cap', ha', -, -, -, hvl⟩ := HRR.out.open_
  simp only [Value.slice.injEq, true_and] at ha'
  obtain ⟨ha', -, rfl⟩ := ha'
  rcases hvl with hnil | ⟨b9, off, rfl, hb, hc⟩
  · exact absurd hnil (by simp)
  subst ha'
  obtain ⟨c, ⟨u, x, rfl, -⟩, hcc⟩ := hc 0 (by simp)
  have hcl := fun (i : Nat) (y : Value) (hy : (verC (madeV a2 sid pt pn 5) u x).toList[i]? = some y) => row8 (b := b9) (off := off) (i := 0) hcc hy
  have c1 := hcl 1 (.int .i64 a2.me) rfl
  have c2 := hcl 2 (.int .i64 (a2.made + 1)) rfl
  have c3 := hcl 3 (.int .i64 pt) rfl
  have c4 := hcl 4 (.int .i64 pn) rfl
  have c5 := hcl 5 (.int .i64 5) rfl
  simp only [Nat.zero_mul, Nat.zero_add, Nat.add_zero] at c1 c2 c3 c4 c5
  have d0 := cell_of_block (j := 0) HDD.out rfl
  have d1 := cell_of_block (j := 1) HDD.out rfl
  have p0 := cell_of_block (j := 0) HP9.out rfl
  have p1 := cell_of_block (j := 1) HP9.out rfl
  clear hc hcc hcl
  go_wp2
  go_quiet (fail)
  clear c1 c2 c3 c4 c5 d0 d1 p0 p1 HRR
  go_wp2
  clear HP9 HDD
  have hao : ShOk a2.L := HA2K.out
  have HVR := Lib.hid (zV.out.at_ (shok_bd hao.ok) (by omega))
  have HVO := Lib.hid hao.ok
  have HB := Lib.hid LW.out.toBelow
  clear hao
  go_loopw [112] (fun i wr => ∃ k : Nat, k ≤ a2.L.length ∧ i = .int .i64 k ∧ Below w12.heap.size w12 wr) (fun i _ => a2.L.length - (intOf i).toNat)
  case atStart => exact ⟨0, Nat.zero_le _, rfl, below_drewN (Below.refl _ _) _⟩
  case round =>
    obtain ⟨k, hk, rfl, hbl⟩ := hrel
    by_cases hlt : k < a2.L.length
    rotate_left
    · obtain rfl : k = a2.L.length := by omega
      have hkb : decide ((a2.L.length : Int) < (a2.L.length : Int)) = false := by simp
      have HB2 := Lib.hid (bstep HB.out hbl)
      go_wp2
      go_ret
      exact ⟨rfl, HB2.out⟩
    have SAr := Lib.hid (SA.out.below hbl)
    have HVr := Lib.hid (HVR.out.below hbl)
    have HBr := Lib.hid hbl
    obtain ⟨a', cap', ha', -, -, -, hvl⟩ := HVr.out.open_
    simp only [Value.slice.injEq, true_and] at ha'
    obtain ⟨ha', rfl⟩ := ha'
    rcases hvl with hnil | ⟨b8, off, rfl, hb, hc⟩
    · rw [hnil] at hlt; simp at hlt
    subst ha'
    obtain ⟨c, ⟨u, x, rfl, hk2⟩, hcc⟩ := hc k hlt
    obtain ⟨pa, pc, rfl⟩ := hk2.vec.shape
    obtain ⟨qa, qc, rfl⟩ := hk2.more.shape
    have hcl := fun (i : Nat) (y : Value) (hy : (verC a2.L[k] (.slice pa a2.L[k].past.vec.length pc) (.slice qa a2.L[k].past.more.length qc)).toList[i]? = some y) => row8 (b := b8) (off := off) (i := k) hcc hy
    have c0 := hcl 0 _ rfl
    have c1 := hcl 1 _ rfl
    have c2 := hcl 2 _ rfl
    have c3 := hcl 3 _ rfl
    have c4 := hcl 4 _ rfl
    have c5 := hcl 5 _ rfl
    have c6 := hcl 6 _ rfl
    have c7 := hcl 7 _ rfl
    rw [Nat.add_zero] at c0
    have hbx := bal (W := wr) (.cells (verC a2.L[k] (.slice pa a2.L[k].past.vec.length pc) (.slice qa a2.L[k].past.more.length qc)) 75)
    have hnew := alloc_new wr (verC a2.L[k] (.slice pa a2.L[k].past.vec.length pc) (.slice qa a2.L[k].past.more.length qc)) 75 _ rfl
    have hka := hk2.below hbx
    have HSH := Lib.hid (sshelf_c ga _ _ _ (SAr.out.below hbx))
    have HNEW := Lib.hid hnew
    have HKA := Lib.hid hka
    have HKK := Lib.hid (HKP.out _ (List.getElem_mem hlt))
    have HBX := Lib.hid hbx
    clear hc hcc hcl hk2 hbx hnew hka hbl
    generalize a2.L[k] = v1 at *
    have hltb : decide ((k : Int) < (a2.L.length : Int)) = true := by simp; omega
    by_cases hid : v1.id = sid
    · have hd1 : decide (v1.id = sid) = true := decide_eq_true hid
      unfold verC at HBX
      rw [hid] at HBX
      have HBE := Lib.hid (bstep HBr.out HBX.out)
      clear HSH HNEW HKA HKK HBX
      go_wp2
      go_roundw
      case rel => exact ⟨k + 1, by omega, by go_num, HBE.out⟩
      case measure => simp [intOf] <;> omega
    have hd2 : (v1.id.toList == sid.toList) = false := by rw [ids_eq, decide_eq_false hid]
    have hd3 : (v1.id.toList != sid.toList) = true := by unfold bne; rw [hd2]; rfl
    have hd4 : decide (v1.id.toList = sid.toList) = false := decide_eq_false fun h => by rw [beq_eq_false_iff_ne] at hd2; exact hd2 h
    have hany := List.any_eq_true.2 ⟨v1, HKK.out hid, sameVB_self v1⟩
    have HANY := Lib.hid hany
    clear hany
    unfold verC at HSH HNEW HBX
    clear hid
    go_wp2_with fail
    (with_reducible refine (HSH.out).mono ?_)
    rintro e w13 ⟨sa, sc, rfl, hv, hb1⟩
    have hb2 := shok_bd SA.out.ok.L.ok
    have hb3 := SA.out.ok.L.len
    have HCA := Lib.hid (containsV_c VerOk _ _ 64 _ _ _ (hv.at_ hb2 (by omega)) SA.out.ok.L.ok (reads1_p _ v1 _ _ _ (below_keep hb1 HNEW.out) (HKA.out.below hb1)))
    rw [HANY.out] at HCA
    have HBE := Lib.hid (bstep (bstep HBr.out HBX.out) hb1)
    clear hv hb1 hb2 hb3 HSH HBX HNEW HKA HKK c0 c1 c2 c3 c4 c5 c6 c7 hb
    go_wp2_with fail
    (with_reducible refine (HCA.out).mono ?_)
    rintro e w14 ⟨rfl, hb1⟩
    have HBE2 := Lib.hid (bstep HBE.out hb1)
    clear hb1 HCA
    go_wp2
    go_roundw
    case rel => exact ⟨k + 1, by omega, by go_num, HBE2.out⟩
    case measure => simp [intOf] <;> omega
end Go.Proofs.YtboakoipdfmpcaaGreat
