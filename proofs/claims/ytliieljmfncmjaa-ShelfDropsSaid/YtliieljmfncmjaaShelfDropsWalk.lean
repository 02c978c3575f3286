/- What ShelfDrops does: it returns true. -/
import Derived.Test.YtliieljmfncmjaaShelfLaw2
import Derived.Test.YtliieljmfncmjaaKnowLaw1
namespace Go.Proofs.Ytliieljmfncmjaa
open Go.RowKit
structure DrSt (w0 : World) (B1 B2 : Nat) (id : ByteArray) (u1 x1 u2 x2 xv : Value) (P Q : DPred) (X : List Ver) (w : World) : Prop where
  b1 : w.heap[B1]? = some (Obj.cells #[.string id, u1, x1] 91 (0, 0))
  b2 : w.heap[B2]? = some (Obj.cells #[.string id, u2, x2] 91 (0, 0))
  k1 : KV w u1 x1 P
  k2 : KV w u2 x2 Q
  x : RowAt verE w xv X
  bel : Below w0.heap.size w0 w
theorem DrSt.below {w0 : World} {B1 B2 : Nat} {id : ByteArray} {u1 x1 u2 x2 xv : Value} {P Q : DPred} {X : List Ver} {w w' : World} (h : DrSt w0 B1 B2 id u1 x1 u2 x2 xv P Q X w) (hb : Below w.heap.size w w') : DrSt w0 B1 B2 id u1 x1 u2 x2 xv P Q X w' :=
  ⟨below_keep hb h.b1, below_keep hb h.b2, h.k1.below hb, h.k2.below hb, h.x.below hb, bstep h.bel hb⟩
theorem goneAt {w : World} {B : Nat} {a b c : Value} (h : w.heap[B]? = some (Obj.cells #[a, b, c] 91 (0, 0))) : w.cell? ⟨B, 0, none⟩ = some a ∧ w.cell? ⟨B, 1, none⟩ = some b ∧ w.cell? ⟨B, 2, none⟩ = some c :=
  ⟨cell_of_block h rfl, cell_of_block h rfl, cell_of_block h rfl⟩
set_option maxRecDepth 100000 in
set_option maxHeartbeats 8000000 in
theorem ShelfDrops_walk (lv av bv : Value) (l la lb : List (List Int)) (sx : ByteArray) (w : World) (hl : RowAt vecE w lv l) (hla : RowAt vecE w av la) (hlb : RowAt vecE w bv lb) :
    Calls Try.prog 10 #[lv, av, bv, .string sx] w fun e w' => e = .returned (.bool true) ∧ Below w.heap.size w w' := by
  have HL := Lib.hid hl
  have HLA := Lib.hid hla
  have HLB := Lib.hid hlb
  obtain ⟨l1, l2, rfl⟩ := hl.shape
  obtain ⟨a1, a2, rfl⟩ := hla.shape
  obtain ⟨b1, b2, rfl⟩ := hlb.shape
  clear hl hla hlb
  go_enter Try.func10, Try.ntmps10
  go_wp2_with fail
  (with_reducible refine (shelfBegun_c _).mono ?_)
  rintro e w1 ⟨rfl, hb1⟩
  replace HL := Lib.hid (HL.out.below hb1)
  replace HLA := Lib.hid (HLA.out.below hb1)
  replace HLB := Lib.hid (HLB.out.below hb1)
  have HB := Lib.hid hb1
  clear hb1
  have HTD := Lib.hid (vtold_c _ l _ HL.out)
  go_wp2_with fail
  (with_reducible refine (HTD.out).mono ?_)
  rintro e w2 ⟨ov, U, rfl, hU, hU20, ho, hb1⟩
  replace HB := Lib.hid (bstep HB.out hb1)
  replace HLA := Lib.hid (HLA.out.below hb1)
  replace HLB := Lib.hid (HLB.out.below hb1)
  have HU := Lib.hid hU
  have HUN := Lib.hid (hU.uni (by omega))
  have HV := Lib.hid (ho.at_ (shok_bd hU.ok) (by omega))
  obtain ⟨a, cap, rfl⟩ := HV.out.shape
  have HX0 := Lib.hid (laid_shok HUN.out (fun _ h => h : ∀ x ∈ U, x ∈ U))
  have HXS := Lib.hid (laid_sub HUN.out (fun _ h => h : ∀ x ∈ U, x ∈ U))
  have HXL := Lib.hid (show (laidL U).length ≤ 20 from Nat.le_trans (laid_len HUN.out) hU20)
  have HLC := Lib.hid (laid_c _ U _ HV.out (laid_ok HUN.out U fun _ h => h))
  clear hU ho hb1 HL HTD
  go_wp2_with fail
  (with_reducible refine (HLC.out).mono ?_)
  rintro e w3 ⟨ox, rfl, ho, hb1⟩
  replace HB := Lib.hid (bstep HB.out hb1)
  replace HLA := Lib.hid (HLA.out.below hb1)
  replace HLB := Lib.hid (HLB.out.below hb1)
  have HX := Lib.hid (ho.at_ (shok_bd HX0.out.ok) (by have := HX0.out.len; omega))
  obtain ⟨xa, xc, rfl⟩ := HX.out.shape
  have HF1 := Lib.hid (fun (id : ByteArray) (k : Kn) => far_cmp HU.out hU20 (id := id) (s := 1) (bd := 0) (k := k))
  have HF2 := Lib.hid (fun (id : ByteArray) (k : Kn) => far_under HU.out hU20 (id := id) (s := 1) (bd := 0) (k := k) ⟨by decide, by decide⟩)
  have HG1 := Lib.hid (fun (id : ByteArray) (k : Kn) (w : Ver) (hw : w ∈ laidL U) => HF1.out id k w (HXS.out w hw))
  have HG2 := Lib.hid (fun (id : ByteArray) (k : Kn) (w : Ver) (hw : w ∈ laidL U) => HF2.out id k w (HXS.out w hw))
  clear hb1 HLC ho HV HF1 HF2 HXS HUN HU
  generalize laidL U = X at *
  obtain ⟨i2, hi2⟩ : ∃ i2, i2 = wiN (sx.size : Int) 2 := ⟨_, rfl⟩
  have Li2 : i2 < 2 := by rw [hi2]; exact wiN_lt _ 2 (by decide)
  have HW2 := Lib.hid (fun w2 => (show Calls Try.prog 22 #[.int .i64 (sx.size : Int), .int .i64 2] w2 fun e w' => e = .returned (.int .i64 ((i2 : Nat) : Int)) ∧ Below w2.heap.size w2 w' by rw [hi2]; exact wiN_c (sx.size : Int) 2 w2 (by decide) (by decide)))
  have hbx := bal (W := w3) (.cells #[.string ⟨#[97]⟩, .string ⟨#[98]⟩] 9)
  have hnb := alloc_new w3 #[.string ⟨#[97]⟩, .string ⟨#[98]⟩] 9 _ rfl
  have HBX := Lib.hid hbx
  have HNB := Lib.hid hnb
  clear hi2 hbx hnb
  go_wp2_with fail
  (with_reducible refine (HW2.out _).mono ?_)
  rintro e w4 ⟨rfl, hb1⟩
  have hst := str_cell (below_keep hb1 HNB.out) Li2
  have hbb := bstep HBX.out hb1
  replace HB := Lib.hid (bstep HB.out hbb)
  replace HLA := Lib.hid (HLA.out.below hbb)
  replace HLB := Lib.hid (HLB.out.below hbb)
  replace HX := Lib.hid (HX.out.below hbb)
  clear hb1 hbb HW2 HBX HNB
  have hib : decide ((i2 : Int) < 2) = true := by simp; omega
  have HSA := Lib.hid (set_c _ la w4 HLA.out)
  go_wp2_with fail
  (with_reducible refine (HSA.out).mono ?_)
  rintro e w5 ⟨u1, x1, rfl, hk, hb1⟩
  clear hst
  replace HB := Lib.hid (bstep HB.out hb1)
  replace HLB := Lib.hid (HLB.out.below hb1)
  replace HX := Lib.hid (HX.out.below hb1)
  have HK1 := Lib.hid (KV.of_own hk (setP_sm la))
  clear hk hb1 HSA HLA
  have HSB := Lib.hid (set_c _ lb w5 HLB.out)
  go_wp2_with fail
  (with_reducible refine (HSB.out).mono ?_)
  rintro e w6 ⟨u2, x2, rfl, hk, hb1⟩
  replace HB := Lib.hid (bstep HB.out hb1)
  replace HX := Lib.hid (HX.out.below hb1)
  replace HK1 := Lib.hid (HK1.out.below hb1)
  have HK2 := Lib.hid (KV.of_own hk (setP_sm lb))
  clear hk hb1 HSB HLB
  generalize setP la = P at *
  generalize setP lb = Q at *
  obtain ⟨p1, p2, rfl⟩ := HK1.out.at_.vec.shape
  obtain ⟨p3, p4, rfl⟩ := HK1.out.at_.more.shape
  obtain ⟨q1, q2, rfl⟩ := HK2.out.at_.vec.shape
  obtain ⟨q3, q4, rfl⟩ := HK2.out.at_.more.shape
  go_wp2_with fail
  obtain ⟨W, hW⟩ : ∃ W, W = (w6.alloc (.cells #[.string (sid i2), .slice p1 (formK P).vec.length p2, .slice p3 (formK P).more.length p4] 91)).alloc (.cells #[.string (sid i2), .slice q1 (formK Q).vec.length q2, .slice q3 (formK Q).more.length q4] 91) := ⟨_, rfl⟩
  have hbw : Below w6.heap.size w6 W := by rw [hW]; exact (bal _).alloc (by simp) _
  have M := Lib.hid (show DrSt w w6.heap.size (w6.heap.size + 1) (sid i2) (.slice p1 (formK P).vec.length p2) (.slice p3 (formK P).more.length p4) (.slice q1 (formK Q).vec.length q2) (.slice q3 (formK Q).more.length q4) (.slice xa X.length xc) P Q X W from
    ⟨by rw [hW]; exact alloc_keep _ (alloc_new _ _ _ _ rfl), by rw [hW]; exact alloc_new _ _ _ _ (by simp), HK1.out.below hbw, HK2.out.below hbw, HX.out.below hbw, bstep HB.out hbw⟩)
  obtain ⟨L1, hL1⟩ : ∃ L1, L1 = dropL X (sid i2) (formK P) := ⟨_, rfl⟩
  obtain ⟨L2, hL2⟩ : ∃ L2, L2 = dropL L1 (sid i2) (formK Q) := ⟨_, rfl⟩
  obtain ⟨L3, hL3⟩ : ∃ L3, L3 = dropL X (sid i2) (formK Q) := ⟨_, rfl⟩
  have hsm := HK1.out.sm.or HK2.out.sm
  have HL1 := Lib.hid hL1
  have HL2 := Lib.hid hL2
  have HL3 := Lib.hid hL3
  have HO1 := Lib.hid (show ShOk L1 by rw [hL1]; exact HX0.out.filter _)
  have HO2 := Lib.hid (show ShOk L2 by rw [hL2]; exact HO1.out.filter _)
  have HO3 := Lib.hid (show ShOk L3 by rw [hL3]; exact HX0.out.filter _)
  have HSW := Lib.hid (show dropL L3 (sid i2) (formK P) = L2 by rw [hL3, hL2, hL1]; exact drop_swap _ _ _ _)
  have HOR := Lib.hid (show dropL X (sid i2) (formK (orK P Q)) = L2 by rw [hL2, hL1]; exact drop_or HX0.out.ok _ _ _)
  have HSM := Lib.hid hsm
  have HFV := Lib.hid (far_ok (P := orK P Q) (s := 1) (bd := 0) (sid_ok i2) ⟨by decide, by decide⟩ ⟨by decide, by decide⟩ (small_len hsm) (small_far hsm ⟨by decide, by decide⟩))
  have HPD := Lib.hid (put_drop HX0.out HFV.out (HG1.out (sid i2) (formK (orK P Q))) (HG2.out (sid i2) (formK (orK P Q))))
  rw [HOR.out] at HPD
  have HZ1 := Lib.hid (put_zero HX0.out (by have := HXL.out; omega) HFV.out)
  have HZ2 := Lib.hid (put_zero HO2.out (by have h9 : L2.length ≤ X.length := (by rw [hL2, hL1]; exact Nat.le_trans (List.length_filter_le _ _) (List.length_filter_le _ _)); have := HXL.out; omega) HFV.out)
  rw [← hW]
  clear hW hbw HK1 HK2 HX HB hL1 hL2 hL3 hsm HG1 HG2
  obtain ⟨c0, c1, c2⟩ := goneAt M.out.b1
  have HD := Lib.hid (drop_c _ X (sid i2) (formK P) _ _ _ M.out.x M.out.k1.at_)
  have hdz := drop_zero (l := X) (id := sid i2) HX0.out (sid_ok i2) (chk_small M.out.k1.sm)
  rw [dropR_ok hdz, hdz, ← HL1.out] at HD
  clear hdz
  go_wp2_with fail
  (with_reducible refine (HD.out).mono ?_)
  rintro e w7 ⟨ov, rfl, ho, hb1⟩
  replace M := Lib.hid (M.out.below hb1)
  have Y1 := Lib.hid (ho.at_ (shok_bd HO1.out.ok) (by have := HO1.out.len; omega))
  obtain ⟨y1a, y1c, rfl⟩ := Y1.out.shape
  clear hb1 ho HD c0 c1 c2
  obtain ⟨c0, c1, c2⟩ := goneAt M.out.b2
  have HD := Lib.hid (drop_c _ L1 (sid i2) (formK Q) _ _ _ Y1.out M.out.k2.at_)
  have hdz := drop_zero (l := L1) (id := sid i2) HO1.out (sid_ok i2) (chk_small M.out.k2.sm)
  rw [dropR_ok hdz, hdz, ← HL2.out] at HD
  clear hdz
  go_wp2_with fail
  (with_reducible refine (HD.out).mono ?_)
  rintro e w8 ⟨ov, rfl, ho, hb1⟩
  replace M := Lib.hid (M.out.below hb1)
  have Y2 := Lib.hid (ho.at_ (shok_bd HO2.out.ok) (by have := HO2.out.len; omega))
  clear Y1
  obtain ⟨y2a, y2c, rfl⟩ := Y2.out.shape
  clear hb1 ho HD c0 c1 c2
  obtain ⟨c0, c1, c2⟩ := goneAt M.out.b2
  have HD := Lib.hid (drop_c _ X (sid i2) (formK Q) _ _ _ M.out.x M.out.k2.at_)
  have hdz := drop_zero (l := X) (id := sid i2) HX0.out (sid_ok i2) (chk_small M.out.k2.sm)
  rw [dropR_ok hdz, hdz, ← HL3.out] at HD
  clear hdz
  go_wp2_with fail
  (with_reducible refine (HD.out).mono ?_)
  rintro e w9 ⟨ov, rfl, ho, hb1⟩
  replace M := Lib.hid (M.out.below hb1)
  replace Y2 := Lib.hid (Y2.out.below hb1)
  have Z1 := Lib.hid (ho.at_ (shok_bd HO3.out.ok) (by have := HO3.out.len; omega))
  obtain ⟨z1a, z1c, rfl⟩ := Z1.out.shape
  clear hb1 ho HD c0 c1 c2
  obtain ⟨c0, c1, c2⟩ := goneAt M.out.b1
  have HD := Lib.hid (drop_c _ L3 (sid i2) (formK P) _ _ _ Z1.out M.out.k1.at_)
  have hdz := drop_zero (l := L3) (id := sid i2) HO3.out (sid_ok i2) (chk_small M.out.k1.sm)
  rw [dropR_ok hdz, hdz, HSW.out] at HD
  clear hdz
  go_wp2_with fail
  (with_reducible refine (HD.out).mono ?_)
  rintro e w10 ⟨ov, rfl, ho, hb1⟩
  replace M := Lib.hid (M.out.below hb1)
  replace Y2 := Lib.hid (Y2.out.below hb1)
  have Z2 := Lib.hid (ho.at_ (shok_bd HO2.out.ok) (by have := HO2.out.len; omega))
  clear Z1
  obtain ⟨z2a, z2c, rfl⟩ := Z2.out.shape
  clear hb1 ho HD c0 c1 c2
  obtain ⟨-, c1, c2⟩ := goneAt M.out.b1
  obtain ⟨-, d1, d2⟩ := goneAt M.out.b2
  have HJ := Lib.hid (join_s _ _ _ _ P Q _ M.out.k1 M.out.k2)
  go_wp2_with fail
  (with_reducible refine (HJ.out).mono ?_)
  rintro e w11 ⟨ja, jn, jc, jb, jm, jd, rfl, hk, hb1⟩
  replace M := Lib.hid (M.out.below hb1)
  replace Y2 := Lib.hid (Y2.out.below hb1)
  replace Z2 := Lib.hid (Z2.out.below hb1)
  have HK := Lib.hid hk
  clear hb1 HJ hk c1 c2 d1 d2
  obtain ⟨B3, hB3⟩ : ∃ B3, B3 = w11.heap.size := ⟨_, rfl⟩
  obtain ⟨w12, hw12⟩ : ∃ w12, w12 = w11.alloc (.cells #[.slice ja jn jc, .slice jb jm jd] 55) := ⟨_, rfl⟩
  have hb1 : Below w11.heap.size w11 w12 := by rw [hw12]; exact bal _
  replace M := Lib.hid (M.out.below hb1)
  replace Y2 := Lib.hid (Y2.out.below hb1)
  replace Z2 := Lib.hid (Z2.out.below hb1)
  replace HK := Lib.hid (HK.out.below hb1)
  have BK := Lib.hid (show w12.heap[B3]? = some (Obj.cells #[.slice ja jn jc, .slice jb jm jd] 55 (0, 0)) by rw [hw12]; exact alloc_new _ _ _ _ hB3)
  have HD := Lib.hid (drop_c _ X (sid i2) (formK (orK P Q)) _ _ _ M.out.x HK.out.at_)
  have hdz := drop_zero (l := X) (id := sid i2) HX0.out (sid_ok i2) (chk_small HSM.out)
  rw [dropR_ok hdz, hdz, HOR.out] at HD
  clear hb1 hdz
  go_wp2_with fail
  rw [← hB3, ← hw12]
  clear hB3 hw12
  (with_reducible refine (HD.out).mono ?_)
  rintro e w13 ⟨ov, rfl, ho, hb1⟩
  replace M := Lib.hid (M.out.below hb1)
  replace Y2 := Lib.hid (Y2.out.below hb1)
  replace Z2 := Lib.hid (Z2.out.below hb1)
  replace HK := Lib.hid (HK.out.below hb1)
  replace BK := Lib.hid (below_keep hb1 BK.out)
  have W2 := Lib.hid (ho.at_ (shok_bd HO2.out.ok) (by have := HO2.out.len; omega))
  obtain ⟨w2a, w2c, rfl⟩ := W2.out.shape
  clear hb1 ho HD
  have HS := Lib.hid (sameS_c _ _ _ _ w13 Y2.out Z2.out)
  go_wp2_with fail
  (with_reducible refine (HS.out).mono ?_)
  rintro e w14 ⟨b9, rfl, hb9, hb1⟩
  obtain rfl : b9 = true := hb9.2 (by trivial)
  replace M := Lib.hid (M.out.below hb1)
  replace Y2 := Lib.hid (Y2.out.below hb1)
  replace W2 := Lib.hid (W2.out.below hb1)
  replace HK := Lib.hid (HK.out.below hb1)
  replace BK := Lib.hid (below_keep hb1 BK.out)
  clear hb1 HS hb9 Z2
  have HS := Lib.hid (sameS_c _ _ _ _ w14 Y2.out W2.out)
  go_wp2_with fail
  (with_reducible refine (HS.out).mono ?_)
  rintro e w15 ⟨b9, rfl, hb9, hb1⟩
  obtain rfl : b9 = true := hb9.2 (by trivial)
  replace M := Lib.hid (M.out.below hb1)
  replace Y2 := Lib.hid (Y2.out.below hb1)
  replace HK := Lib.hid (HK.out.below hb1)
  replace BK := Lib.hid (below_keep hb1 BK.out)
  clear hb1 HS hb9 W2
  have c0 := cell_of_block (j := 0) BK.out rfl
  have c1 := cell_of_block (j := 1) BK.out rfl
  have HP1 := Lib.hid (put_c _ L2 (farV (sid i2) 1 0 (formK (orK P Q))) _ _ _ Y2.out HK.out.at_)
  rw [putR_ok HZ2.out, HZ2.out, HPD.out] at HP1
  have hpok := put_ok HX0.out HFV.out (putE_zero.1 HZ1.out).2.2
  generalize hpl : putL X (farV (sid i2) 1 0 (formK (orK P Q))) = pl at HP1 hpok
  have HPL := Lib.hid hpl
  have HPO := Lib.hid hpok
  clear hpl hpok
  unfold verC farV at HP1
  go_wp2_with fail
  (with_reducible refine (HP1.out).mono ?_)
  rintro e w16 ⟨ov, rfl, ho, hb1⟩
  replace M := Lib.hid (M.out.below hb1)
  replace HK := Lib.hid (HK.out.below hb1)
  replace BK := Lib.hid (below_keep hb1 BK.out)
  have U1 := Lib.hid (ho.at_ (shok_bd HPO.out.ok) (by have := HPO.out.len; omega))
  clear hb1 ho HP1 c0 c1 Y2
  have HP2 := Lib.hid (put_c _ X (farV (sid i2) 1 0 (formK (orK P Q))) _ _ _ M.out.x HK.out.at_)
  rw [putR_ok HZ1.out, HZ1.out, HPL.out] at HP2
  obtain ⟨u1a, u1c, rfl⟩ := U1.out.shape
  have c0 := cell_of_block (j := 0) BK.out rfl
  have c1 := cell_of_block (j := 1) BK.out rfl
  unfold verC farV at HP2
  go_wp2_with fail
  (with_reducible refine (HP2.out).mono ?_)
  rintro e w17 ⟨ov, rfl, ho, hb1⟩
  replace M := Lib.hid (M.out.below hb1)
  replace U1 := Lib.hid (U1.out.below hb1)
  have V1 := Lib.hid (ho.at_ (shok_bd HPO.out.ok) (by have := HPO.out.len; omega))
  obtain ⟨v1a, v1c, rfl⟩ := V1.out.shape
  clear hb1 ho HP2 c0 c1
  have HS := Lib.hid (sameS_c _ _ _ _ w17 U1.out V1.out)
  go_wp2_with fail
  (with_reducible refine (HS.out).mono ?_)
  rintro e w18 ⟨b9, rfl, hb9, hb1⟩
  obtain rfl : b9 = true := hb9.2 (by trivial)
  have hfin := bstep M.out.bel hb1
  clear hb1 HS hb9
  go_wp2
  go_ret
  exact ⟨rfl, hfin⟩
end Go.Proofs.Ytliieljmfncmjaa
