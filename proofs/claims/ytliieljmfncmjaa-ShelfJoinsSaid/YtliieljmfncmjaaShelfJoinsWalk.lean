/- What ShelfJoins does: it returns true. Written by a small program (gen/shelf_joins.py). -/
import Derived.Test.YtliieljmfncmjaaMShelf16
namespace Go.Proofs.Ytliieljmfncmjaa
open Go.RowKit
structure JSt4 (w0 : World) (va vx vy : Value) (U X Y : List Ver) (w : World) : Prop where
  v : RowAt verE w va U
  x : RowAt verE w vx X
  y : RowAt verE w vy Y
  bel : Below w0.heap.size w0 w
theorem JSt4.below {w0 w w' : World} {va vx vy : Value} {U X Y : List Ver} (h : JSt4 w0 va vx vy U X Y w) (hb : Below w.heap.size w w') : JSt4 w0 va vx vy U X Y w' :=
  ⟨h.v.below hb, h.x.below hb, h.y.below hb, bstep h.bel hb⟩
set_option maxRecDepth 100000 in
set_option maxHeartbeats 8000000 in
theorem ShelfJoins_walk (lv mv : Value) (l m : List (List Int)) (w : World) (hl : RowAt vecE w lv l) (hm : RowAt vecE w mv m) (hmb : m.length * 24 ≤ 140737488351232) :
    Calls Try.prog 7 #[lv, mv] w fun e w' => e = .returned (.bool true) ∧ Below w.heap.size w w' := by
  obtain ⟨la, lc, rfl⟩ := hl.shape
  obtain ⟨ma, mc, rfl⟩ := hm.shape
  have HL := Lib.hid hl
  have HM := Lib.hid hm
  have hlc := hl.cap_le'
  have hlm := hl.len
  clear hl hm
  obtain ⟨t, ht⟩ : ∃ t : Nat, t = min l.length 10 := ⟨_, rfl⟩
  have hmin : min (l.length : Int) 10 = (t : Int) := by omega
  have ht1 : t ≤ l.length := by omega
  have ht2 : t ≤ 10 := by omega
  have htc : t ≤ lc := by omega
  clear ht
  go_enter Try.func7, Try.ntmps7
  go_wp2_with fail
  (with_reducible refine (shelfBegun_c _).mono ?_)
  rintro e w1 ⟨rfl, hb1⟩
  replace HL := Lib.hid (HL.out.below hb1)
  replace HM := Lib.hid (HM.out.below hb1)
  have HB := Lib.hid hb1
  clear hb1
  have HCC := Lib.hid (cconcat_c w1 (RowAt.take HL.out t ht1) HM.out 22 (by rw [List.length_append, List.length_take, Nat.min_eq_left ht1]; omega))
  go_wp2_with fail
  (with_reducible refine (HCC.out).mono ?_)
  rintro e w2 ⟨cv, rfl, hcv, hb1⟩
  generalize l.take t ++ m = lm at hcv
  obtain ⟨ca, cc, rfl⟩ := hcv.shape
  replace HB := Lib.hid (bstep HB.out (ba1 hb1))
  have HTD := Lib.hid (vtold_c _ _ _ hcv)
  clear hcv hb1 HCC HL HM
  go_wp2_with fail
  (with_reducible refine (HTD.out).mono ?_)
  rintro e w3 ⟨ov, U, rfl, hU, hU20, ho, hb1⟩
  replace HB := Lib.hid (bstep HB.out hb1)
  have HUN := Lib.hid (hU.uni (by omega))
  have HV := Lib.hid (ho.at_ (shok_bd hU.ok) (by omega))
  obtain ⟨a, cap, rfl⟩ := HV.out.shape
  have hcap := HV.out.cap_le
  clear hU ho hb1 HTD
  obtain ⟨cut, hcut⟩ : ∃ cut : Nat, cut = min t U.length := ⟨_, rfl⟩
  have hite : (if (10 : Int) < (l.length : Int) then (10 : Int) else (l.length : Int)) = (t : Int) := by split <;> omega
  have hcase : (U.length : Int) < (t : Int) ∧ cut = U.length ∨ ¬ (U.length : Int) < (t : Int) ∧ cut = t := by omega
  have hcu : cut ≤ U.length := by omega
  have hcuc : cut ≤ cap := by omega
  clear hcut
  have hsp : ∀ x ∈ U.take cut, x ∈ U := fun x hx => List.mem_of_mem_take hx
  have hsq : ∀ x ∈ U.drop cut, x ∈ U := fun x hx => List.mem_of_mem_drop hx
  have HSX := Lib.hid (laid_sub HUN.out hsp)
  have HSY := Lib.hid (laid_sub HUN.out hsq)
  have HJ1 := Lib.hid (show laidL (laidL (U.take cut) ++ laidL (U.drop cut)) = laidL U by rw [laid_join HUN.out hsp hsq, List.take_append_drop])
  have HJ2 := Lib.hid (show laidL (laidL (U.drop cut) ++ laidL (U.take cut)) = laidL U by
    rw [laid_join HUN.out hsq hsp]
    exact (laid_same HUN.out (fun _ h => h) fun x => by
      constructor
      · intro h
        rw [← List.take_append_drop cut U] at h
        rcases List.mem_append.1 h with h | h
        · exact List.mem_append.2 (.inr h)
        · exact List.mem_append.2 (.inl h)
      · intro h
        rcases List.mem_append.1 h with h | h
        · exact hsq x h
        · exact hsp x h).symm)
  have HSU := Lib.hid (laid_sub HUN.out (fun _ h => h : ∀ x ∈ U, x ∈ U))
  have HSO := Lib.hid (laid_shok HUN.out (fun _ h => h : ∀ x ∈ U, x ∈ U))
  have HJ3 := Lib.hid (laid_self HUN.out HSU.out HSO.out)
  have HXO := Lib.hid (laid_shok HUN.out hsp)
  have HYO := Lib.hid (laid_shok HUN.out hsq)
  have HLX := Lib.hid (laid_ok HUN.out (U.take cut) hsp)
  have HLY := Lib.hid (laid_ok HUN.out (U.drop cut) hsq)
  have HLU := Lib.hid (laid_ok HUN.out U fun _ h => h)
  have HL1 := Lib.hid (laid_ok HUN.out (laidL (U.take cut) ++ laidL (U.drop cut)) fun x hx => by
    rcases List.mem_append.1 hx with h | h
    · exact HSX.out x h
    · exact HSY.out x h)
  have HL2 := Lib.hid (laid_ok HUN.out (laidL (U.drop cut) ++ laidL (U.take cut)) fun x hx => by
    rcases List.mem_append.1 hx with h | h
    · exact HSY.out x h
    · exact HSX.out x h)
  have HL3 := Lib.hid (laid_ok HUN.out (laidL U ++ laidL U) fun x hx => by
    rcases List.mem_append.1 hx with h | h
    · exact HSU.out x h
    · exact HSU.out x h)
  have HLA := Lib.hid (laid_c _ (U.take cut) _ (RowAt.take HV.out cut hcu) HLX.out)
  clear hsp hsq HSX HSY HSU
  rcases hcase with ⟨hut, hcc⟩ | ⟨hut, hcc⟩
  · have hcc2 : (U.length : Int) = (cut : Int) := by omega
    rw [hcc2] at hut
    clear hcc
    go_wp2_with fail
    (with_reducible refine (HLA.out).mono ?_)
    rintro e w4 ⟨ox, rfl, ho, hb1⟩
    replace HB := Lib.hid (bstep HB.out hb1)
    replace HV := Lib.hid (HV.out.below hb1)
    have HX := Lib.hid (ho.at_ (shok_bd HXO.out.ok) (by have := HXO.out.len; omega))
    obtain ⟨xa, xc, rfl⟩ := HX.out.shape
    clear hb1 HLA ho
    by_cases hct : cap = cut
    · have hct2 := hct.symm
      subst hct2
      have hd := RowAt.cut0 HV.out cut hcu rfl
      rw [show U.length - cut = 0 by omega] at hd
      have HLA := Lib.hid (laid_c _ (U.drop cut) _ hd HLY.out)
      clear hd
      go_wp2_with fail
      (with_reducible refine (HLA.out).mono ?_)
      rintro e w5 ⟨ox, rfl, ho, hb1⟩
      have HY := Lib.hid (ho.at_ (shok_bd HYO.out.ok) (by have := HYO.out.len; omega))
      obtain ⟨ya, yc, rfl⟩ := HY.out.shape
      have S := Lib.hid (show JSt4 w (.slice a U.length cut) (.slice xa (laidL (U.take cut)).length xc) (.slice ya (laidL (U.drop cut)).length yc) U (laidL (U.take cut)) (laidL (U.drop cut)) w5 from ⟨HV.out.below hb1, HX.out.below hb1, HY.out, bstep HB.out hb1⟩)
      clear hb1 HLA ho HY HX HV HB
      generalize laidL (U.take cut) = lx at *
      generalize laidL (U.drop cut) = ly at *
      have HCA := Lib.hid (CatAt.lit2 S.out.x S.out.y 29)
      have HCC := Lib.hid (vconcat_c _ _ _ HCA.out (by rw [List.length_append]; have := HXO.out.len; have := HYO.out.len; omega))
      go_wp2_with fail
      (with_reducible refine (HCC.out).mono ?_)
      rintro e w6 ⟨cv, rfl, hcv, hb1⟩
      obtain ⟨lg, hlg⟩ : ∃ lg, lg = lx ++ ly := ⟨_, rfl⟩
      rw [← hlg] at hcv
      obtain ⟨ka, kc, rfl⟩ := hcv.shape
      replace S := Lib.hid (S.out.below (ba1 hb1))
      have HLA := Lib.hid (laid_c _ lg _ hcv (by rw [hlg]; exact HL1.out))
      rw [show laidL lg = laidL U by rw [hlg]; exact HJ1.out] at HLA
      clear hb1 hcv HCA HCC hlg
      go_wp2_with fail
      (with_reducible refine (HLA.out).mono ?_)
      rintro e w7 ⟨ox, rfl, ho, hb1⟩
      replace S := Lib.hid (S.out.below hb1)
      have HA := Lib.hid (ho.at_ (shok_bd HSO.out.ok) (by have := HSO.out.len; omega))
      obtain ⟨aa, ac, rfl⟩ := HA.out.shape
      clear hb1 HLA ho
      have HCA := Lib.hid (CatAt.lit2 S.out.y S.out.x 29)
      have HCC := Lib.hid (vconcat_c _ _ _ HCA.out (by rw [List.length_append]; have := HYO.out.len; have := HXO.out.len; omega))
      go_wp2_with fail
      (with_reducible refine (HCC.out).mono ?_)
      rintro e w8 ⟨cv, rfl, hcv, hb1⟩
      obtain ⟨lg, hlg⟩ : ∃ lg, lg = ly ++ lx := ⟨_, rfl⟩
      rw [← hlg] at hcv
      obtain ⟨ka, kc, rfl⟩ := hcv.shape
      replace S := Lib.hid (S.out.below (ba1 hb1))
      replace HA := Lib.hid (HA.out.below (ba1 hb1))
      have HLA := Lib.hid (laid_c _ lg _ hcv (by rw [hlg]; exact HL2.out))
      rw [show laidL lg = laidL U by rw [hlg]; exact HJ2.out] at HLA
      clear hb1 hcv HCA HCC hlg
      go_wp2_with fail
      (with_reducible refine (HLA.out).mono ?_)
      rintro e w9 ⟨ox, rfl, ho, hb1⟩
      replace S := Lib.hid (S.out.below hb1)
      replace HA := Lib.hid (HA.out.below hb1)
      have HB := Lib.hid (ho.at_ (shok_bd HSO.out.ok) (by have := HSO.out.len; omega))
      obtain ⟨ba, bc, rfl⟩ := HB.out.shape
      clear hb1 HLA ho
      have HLA := Lib.hid (laid_c _ U _ S.out.v HLU.out)
      go_wp2_with fail
      (with_reducible refine (HLA.out).mono ?_)
      rintro e w10 ⟨ox, rfl, ho, hb1⟩
      replace S := Lib.hid (S.out.below hb1)
      replace HA := Lib.hid (HA.out.below hb1)
      replace HB := Lib.hid (HB.out.below hb1)
      have HD := Lib.hid (ho.at_ (shok_bd HSO.out.ok) (by have := HSO.out.len; omega))
      obtain ⟨da, dc, rfl⟩ := HD.out.shape
      clear hb1 HLA ho
      have HCA := Lib.hid (CatAt.lit2 HA.out HA.out 29)
      have HCC := Lib.hid (vconcat_c _ _ _ HCA.out (by rw [List.length_append]; have := HSO.out.len; have := HSO.out.len; omega))
      go_wp2_with fail
      (with_reducible refine (HCC.out).mono ?_)
      rintro e w11 ⟨cv, rfl, hcv, hb1⟩
      obtain ⟨lg, hlg⟩ : ∃ lg, lg = laidL U ++ laidL U := ⟨_, rfl⟩
      rw [← hlg] at hcv
      obtain ⟨ka, kc, rfl⟩ := hcv.shape
      replace S := Lib.hid (S.out.below (ba1 hb1))
      replace HA := Lib.hid (HA.out.below (ba1 hb1))
      replace HB := Lib.hid (HB.out.below (ba1 hb1))
      replace HD := Lib.hid (HD.out.below (ba1 hb1))
      have HLA := Lib.hid (laid_c _ lg _ hcv (by rw [hlg]; exact HL3.out))
      rw [show laidL lg = laidL U by rw [hlg]; exact HJ3.out] at HLA
      clear hb1 hcv HCA HCC hlg
      go_wp2_with fail
      (with_reducible refine (HLA.out).mono ?_)
      rintro e w12 ⟨ox, rfl, ho, hb1⟩
      replace S := Lib.hid (S.out.below hb1)
      replace HA := Lib.hid (HA.out.below hb1)
      replace HB := Lib.hid (HB.out.below hb1)
      replace HD := Lib.hid (HD.out.below hb1)
      have HC := Lib.hid (ho.at_ (shok_bd HSO.out.ok) (by have := HSO.out.len; omega))
      obtain ⟨ca, cc, rfl⟩ := HC.out.shape
      clear hb1 HLA ho
      generalize laidL U = lu at *
      have HS := Lib.hid (sameS_c _ _ _ _ w12 HA.out HD.out)
      go_wp2_with fail
      (with_reducible refine (HS.out).mono ?_)
      rintro e w13 ⟨b9, rfl, hb9, hb1⟩
      obtain rfl : b9 = true := hb9.2 (by trivial)
      replace S := Lib.hid (S.out.below hb1)
      replace HA := Lib.hid (HA.out.below hb1)
      replace HB := Lib.hid (HB.out.below hb1)
      replace HC := Lib.hid (HC.out.below hb1)
      replace HD := Lib.hid (HD.out.below hb1)
      clear hb1 HS hb9
      have HS := Lib.hid (sameS_c _ _ _ _ w13 HB.out HD.out)
      go_wp2_with fail
      (with_reducible refine (HS.out).mono ?_)
      rintro e w14 ⟨b9, rfl, hb9, hb1⟩
      obtain rfl : b9 = true := hb9.2 (by trivial)
      replace S := Lib.hid (S.out.below hb1)
      replace HA := Lib.hid (HA.out.below hb1)
      replace HC := Lib.hid (HC.out.below hb1)
      clear hb1 HS hb9 HB HD
      have HS := Lib.hid (sameS_c _ _ _ _ w14 HC.out HA.out)
      go_wp2_with fail
      (with_reducible refine (HS.out).mono ?_)
      rintro e w15 ⟨b9, rfl, hb9, hb1⟩
      obtain rfl : b9 = true := hb9.2 (by trivial)
      have hfin := bstep S.out.bel hb1
      clear hb1 HS hb9 HA HC S
      go_wp2
      go_ret
      exact ⟨rfl, hfin⟩
    · have hd := RowAt.drop_ HV.out cut hcu
      have HLA := Lib.hid (laid_c _ (U.drop cut) _ hd HLY.out)
      clear hd
      go_wp2_with fail
      (with_reducible refine (HLA.out).mono ?_)
      rintro e w5 ⟨ox, rfl, ho, hb1⟩
      have HY := Lib.hid (ho.at_ (shok_bd HYO.out.ok) (by have := HYO.out.len; omega))
      obtain ⟨ya, yc, rfl⟩ := HY.out.shape
      have S := Lib.hid (show JSt4 w (.slice a U.length cap) (.slice xa (laidL (U.take cut)).length xc) (.slice ya (laidL (U.drop cut)).length yc) U (laidL (U.take cut)) (laidL (U.drop cut)) w5 from ⟨HV.out.below hb1, HX.out.below hb1, HY.out, bstep HB.out hb1⟩)
      clear hb1 HLA ho HY HX HV HB
      generalize laidL (U.take cut) = lx at *
      generalize laidL (U.drop cut) = ly at *
      have HCA := Lib.hid (CatAt.lit2 S.out.x S.out.y 29)
      have HCC := Lib.hid (vconcat_c _ _ _ HCA.out (by rw [List.length_append]; have := HXO.out.len; have := HYO.out.len; omega))
      go_wp2_with fail
      (with_reducible refine (HCC.out).mono ?_)
      rintro e w6 ⟨cv, rfl, hcv, hb1⟩
      obtain ⟨lg, hlg⟩ : ∃ lg, lg = lx ++ ly := ⟨_, rfl⟩
      rw [← hlg] at hcv
      obtain ⟨ka, kc, rfl⟩ := hcv.shape
      replace S := Lib.hid (S.out.below (ba1 hb1))
      have HLA := Lib.hid (laid_c _ lg _ hcv (by rw [hlg]; exact HL1.out))
      rw [show laidL lg = laidL U by rw [hlg]; exact HJ1.out] at HLA
      clear hb1 hcv HCA HCC hlg
      go_wp2_with fail
      (with_reducible refine (HLA.out).mono ?_)
      rintro e w7 ⟨ox, rfl, ho, hb1⟩
      replace S := Lib.hid (S.out.below hb1)
      have HA := Lib.hid (ho.at_ (shok_bd HSO.out.ok) (by have := HSO.out.len; omega))
      obtain ⟨aa, ac, rfl⟩ := HA.out.shape
      clear hb1 HLA ho
      have HCA := Lib.hid (CatAt.lit2 S.out.y S.out.x 29)
      have HCC := Lib.hid (vconcat_c _ _ _ HCA.out (by rw [List.length_append]; have := HYO.out.len; have := HXO.out.len; omega))
      go_wp2_with fail
      (with_reducible refine (HCC.out).mono ?_)
      rintro e w8 ⟨cv, rfl, hcv, hb1⟩
      obtain ⟨lg, hlg⟩ : ∃ lg, lg = ly ++ lx := ⟨_, rfl⟩
      rw [← hlg] at hcv
      obtain ⟨ka, kc, rfl⟩ := hcv.shape
      replace S := Lib.hid (S.out.below (ba1 hb1))
      replace HA := Lib.hid (HA.out.below (ba1 hb1))
      have HLA := Lib.hid (laid_c _ lg _ hcv (by rw [hlg]; exact HL2.out))
      rw [show laidL lg = laidL U by rw [hlg]; exact HJ2.out] at HLA
      clear hb1 hcv HCA HCC hlg
      go_wp2_with fail
      (with_reducible refine (HLA.out).mono ?_)
      rintro e w9 ⟨ox, rfl, ho, hb1⟩
      replace S := Lib.hid (S.out.below hb1)
      replace HA := Lib.hid (HA.out.below hb1)
      have HB := Lib.hid (ho.at_ (shok_bd HSO.out.ok) (by have := HSO.out.len; omega))
      obtain ⟨ba, bc, rfl⟩ := HB.out.shape
      clear hb1 HLA ho
      have HLA := Lib.hid (laid_c _ U _ S.out.v HLU.out)
      go_wp2_with fail
      (with_reducible refine (HLA.out).mono ?_)
      rintro e w10 ⟨ox, rfl, ho, hb1⟩
      replace S := Lib.hid (S.out.below hb1)
      replace HA := Lib.hid (HA.out.below hb1)
      replace HB := Lib.hid (HB.out.below hb1)
      have HD := Lib.hid (ho.at_ (shok_bd HSO.out.ok) (by have := HSO.out.len; omega))
      obtain ⟨da, dc, rfl⟩ := HD.out.shape
      clear hb1 HLA ho
      have HCA := Lib.hid (CatAt.lit2 HA.out HA.out 29)
      have HCC := Lib.hid (vconcat_c _ _ _ HCA.out (by rw [List.length_append]; have := HSO.out.len; have := HSO.out.len; omega))
      go_wp2_with fail
      (with_reducible refine (HCC.out).mono ?_)
      rintro e w11 ⟨cv, rfl, hcv, hb1⟩
      obtain ⟨lg, hlg⟩ : ∃ lg, lg = laidL U ++ laidL U := ⟨_, rfl⟩
      rw [← hlg] at hcv
      obtain ⟨ka, kc, rfl⟩ := hcv.shape
      replace S := Lib.hid (S.out.below (ba1 hb1))
      replace HA := Lib.hid (HA.out.below (ba1 hb1))
      replace HB := Lib.hid (HB.out.below (ba1 hb1))
      replace HD := Lib.hid (HD.out.below (ba1 hb1))
      have HLA := Lib.hid (laid_c _ lg _ hcv (by rw [hlg]; exact HL3.out))
      rw [show laidL lg = laidL U by rw [hlg]; exact HJ3.out] at HLA
      clear hb1 hcv HCA HCC hlg
      go_wp2_with fail
      (with_reducible refine (HLA.out).mono ?_)
      rintro e w12 ⟨ox, rfl, ho, hb1⟩
      replace S := Lib.hid (S.out.below hb1)
      replace HA := Lib.hid (HA.out.below hb1)
      replace HB := Lib.hid (HB.out.below hb1)
      replace HD := Lib.hid (HD.out.below hb1)
      have HC := Lib.hid (ho.at_ (shok_bd HSO.out.ok) (by have := HSO.out.len; omega))
      obtain ⟨ca, cc, rfl⟩ := HC.out.shape
      clear hb1 HLA ho
      generalize laidL U = lu at *
      have HS := Lib.hid (sameS_c _ _ _ _ w12 HA.out HD.out)
      go_wp2_with fail
      (with_reducible refine (HS.out).mono ?_)
      rintro e w13 ⟨b9, rfl, hb9, hb1⟩
      obtain rfl : b9 = true := hb9.2 (by trivial)
      replace S := Lib.hid (S.out.below hb1)
      replace HA := Lib.hid (HA.out.below hb1)
      replace HB := Lib.hid (HB.out.below hb1)
      replace HC := Lib.hid (HC.out.below hb1)
      replace HD := Lib.hid (HD.out.below hb1)
      clear hb1 HS hb9
      have HS := Lib.hid (sameS_c _ _ _ _ w13 HB.out HD.out)
      go_wp2_with fail
      (with_reducible refine (HS.out).mono ?_)
      rintro e w14 ⟨b9, rfl, hb9, hb1⟩
      obtain rfl : b9 = true := hb9.2 (by trivial)
      replace S := Lib.hid (S.out.below hb1)
      replace HA := Lib.hid (HA.out.below hb1)
      replace HC := Lib.hid (HC.out.below hb1)
      clear hb1 HS hb9 HB HD
      have HS := Lib.hid (sameS_c _ _ _ _ w14 HC.out HA.out)
      go_wp2_with fail
      (with_reducible refine (HS.out).mono ?_)
      rintro e w15 ⟨b9, rfl, hb9, hb1⟩
      obtain rfl : b9 = true := hb9.2 (by trivial)
      have hfin := bstep S.out.bel hb1
      clear hb1 HS hb9 HA HC S
      go_wp2
      go_ret
      exact ⟨rfl, hfin⟩
  · subst hcc
    go_wp2_with fail
    (with_reducible refine (HLA.out).mono ?_)
    rintro e w4 ⟨ox, rfl, ho, hb1⟩
    replace HB := Lib.hid (bstep HB.out hb1)
    replace HV := Lib.hid (HV.out.below hb1)
    have HX := Lib.hid (ho.at_ (shok_bd HXO.out.ok) (by have := HXO.out.len; omega))
    obtain ⟨xa, xc, rfl⟩ := HX.out.shape
    clear hb1 HLA ho
    by_cases hct : cap = cut
    · have hct2 := hct.symm
      subst hct2
      have hd := RowAt.cut0 HV.out cut hcu rfl
      rw [show U.length - cut = 0 by omega] at hd
      have HLA := Lib.hid (laid_c _ (U.drop cut) _ hd HLY.out)
      clear hd
      go_wp2_with fail
      (with_reducible refine (HLA.out).mono ?_)
      rintro e w5 ⟨ox, rfl, ho, hb1⟩
      have HY := Lib.hid (ho.at_ (shok_bd HYO.out.ok) (by have := HYO.out.len; omega))
      obtain ⟨ya, yc, rfl⟩ := HY.out.shape
      have S := Lib.hid (show JSt4 w (.slice a U.length cut) (.slice xa (laidL (U.take cut)).length xc) (.slice ya (laidL (U.drop cut)).length yc) U (laidL (U.take cut)) (laidL (U.drop cut)) w5 from ⟨HV.out.below hb1, HX.out.below hb1, HY.out, bstep HB.out hb1⟩)
      clear hb1 HLA ho HY HX HV HB
      generalize laidL (U.take cut) = lx at *
      generalize laidL (U.drop cut) = ly at *
      have HCA := Lib.hid (CatAt.lit2 S.out.x S.out.y 29)
      have HCC := Lib.hid (vconcat_c _ _ _ HCA.out (by rw [List.length_append]; have := HXO.out.len; have := HYO.out.len; omega))
      go_wp2_with fail
      (with_reducible refine (HCC.out).mono ?_)
      rintro e w6 ⟨cv, rfl, hcv, hb1⟩
      obtain ⟨lg, hlg⟩ : ∃ lg, lg = lx ++ ly := ⟨_, rfl⟩
      rw [← hlg] at hcv
      obtain ⟨ka, kc, rfl⟩ := hcv.shape
      replace S := Lib.hid (S.out.below (ba1 hb1))
      have HLA := Lib.hid (laid_c _ lg _ hcv (by rw [hlg]; exact HL1.out))
      rw [show laidL lg = laidL U by rw [hlg]; exact HJ1.out] at HLA
      clear hb1 hcv HCA HCC hlg
      go_wp2_with fail
      (with_reducible refine (HLA.out).mono ?_)
      rintro e w7 ⟨ox, rfl, ho, hb1⟩
      replace S := Lib.hid (S.out.below hb1)
      have HA := Lib.hid (ho.at_ (shok_bd HSO.out.ok) (by have := HSO.out.len; omega))
      obtain ⟨aa, ac, rfl⟩ := HA.out.shape
      clear hb1 HLA ho
      have HCA := Lib.hid (CatAt.lit2 S.out.y S.out.x 29)
      have HCC := Lib.hid (vconcat_c _ _ _ HCA.out (by rw [List.length_append]; have := HYO.out.len; have := HXO.out.len; omega))
      go_wp2_with fail
      (with_reducible refine (HCC.out).mono ?_)
      rintro e w8 ⟨cv, rfl, hcv, hb1⟩
      obtain ⟨lg, hlg⟩ : ∃ lg, lg = ly ++ lx := ⟨_, rfl⟩
      rw [← hlg] at hcv
      obtain ⟨ka, kc, rfl⟩ := hcv.shape
      replace S := Lib.hid (S.out.below (ba1 hb1))
      replace HA := Lib.hid (HA.out.below (ba1 hb1))
      have HLA := Lib.hid (laid_c _ lg _ hcv (by rw [hlg]; exact HL2.out))
      rw [show laidL lg = laidL U by rw [hlg]; exact HJ2.out] at HLA
      clear hb1 hcv HCA HCC hlg
      go_wp2_with fail
      (with_reducible refine (HLA.out).mono ?_)
      rintro e w9 ⟨ox, rfl, ho, hb1⟩
      replace S := Lib.hid (S.out.below hb1)
      replace HA := Lib.hid (HA.out.below hb1)
      have HB := Lib.hid (ho.at_ (shok_bd HSO.out.ok) (by have := HSO.out.len; omega))
      obtain ⟨ba, bc, rfl⟩ := HB.out.shape
      clear hb1 HLA ho
      have HLA := Lib.hid (laid_c _ U _ S.out.v HLU.out)
      go_wp2_with fail
      (with_reducible refine (HLA.out).mono ?_)
      rintro e w10 ⟨ox, rfl, ho, hb1⟩
      replace S := Lib.hid (S.out.below hb1)
      replace HA := Lib.hid (HA.out.below hb1)
      replace HB := Lib.hid (HB.out.below hb1)
      have HD := Lib.hid (ho.at_ (shok_bd HSO.out.ok) (by have := HSO.out.len; omega))
      obtain ⟨da, dc, rfl⟩ := HD.out.shape
      clear hb1 HLA ho
      have HCA := Lib.hid (CatAt.lit2 HA.out HA.out 29)
      have HCC := Lib.hid (vconcat_c _ _ _ HCA.out (by rw [List.length_append]; have := HSO.out.len; have := HSO.out.len; omega))
      go_wp2_with fail
      (with_reducible refine (HCC.out).mono ?_)
      rintro e w11 ⟨cv, rfl, hcv, hb1⟩
      obtain ⟨lg, hlg⟩ : ∃ lg, lg = laidL U ++ laidL U := ⟨_, rfl⟩
      rw [← hlg] at hcv
      obtain ⟨ka, kc, rfl⟩ := hcv.shape
      replace S := Lib.hid (S.out.below (ba1 hb1))
      replace HA := Lib.hid (HA.out.below (ba1 hb1))
      replace HB := Lib.hid (HB.out.below (ba1 hb1))
      replace HD := Lib.hid (HD.out.below (ba1 hb1))
      have HLA := Lib.hid (laid_c _ lg _ hcv (by rw [hlg]; exact HL3.out))
      rw [show laidL lg = laidL U by rw [hlg]; exact HJ3.out] at HLA
      clear hb1 hcv HCA HCC hlg
      go_wp2_with fail
      (with_reducible refine (HLA.out).mono ?_)
      rintro e w12 ⟨ox, rfl, ho, hb1⟩
      replace S := Lib.hid (S.out.below hb1)
      replace HA := Lib.hid (HA.out.below hb1)
      replace HB := Lib.hid (HB.out.below hb1)
      replace HD := Lib.hid (HD.out.below hb1)
      have HC := Lib.hid (ho.at_ (shok_bd HSO.out.ok) (by have := HSO.out.len; omega))
      obtain ⟨ca, cc, rfl⟩ := HC.out.shape
      clear hb1 HLA ho
      generalize laidL U = lu at *
      have HS := Lib.hid (sameS_c _ _ _ _ w12 HA.out HD.out)
      go_wp2_with fail
      (with_reducible refine (HS.out).mono ?_)
      rintro e w13 ⟨b9, rfl, hb9, hb1⟩
      obtain rfl : b9 = true := hb9.2 (by trivial)
      replace S := Lib.hid (S.out.below hb1)
      replace HA := Lib.hid (HA.out.below hb1)
      replace HB := Lib.hid (HB.out.below hb1)
      replace HC := Lib.hid (HC.out.below hb1)
      replace HD := Lib.hid (HD.out.below hb1)
      clear hb1 HS hb9
      have HS := Lib.hid (sameS_c _ _ _ _ w13 HB.out HD.out)
      go_wp2_with fail
      (with_reducible refine (HS.out).mono ?_)
      rintro e w14 ⟨b9, rfl, hb9, hb1⟩
      obtain rfl : b9 = true := hb9.2 (by trivial)
      replace S := Lib.hid (S.out.below hb1)
      replace HA := Lib.hid (HA.out.below hb1)
      replace HC := Lib.hid (HC.out.below hb1)
      clear hb1 HS hb9 HB HD
      have HS := Lib.hid (sameS_c _ _ _ _ w14 HC.out HA.out)
      go_wp2_with fail
      (with_reducible refine (HS.out).mono ?_)
      rintro e w15 ⟨b9, rfl, hb9, hb1⟩
      obtain rfl : b9 = true := hb9.2 (by trivial)
      have hfin := bstep S.out.bel hb1
      clear hb1 HS hb9 HA HC S
      go_wp2
      go_ret
      exact ⟨rfl, hfin⟩
    · have hd := RowAt.drop_ HV.out cut hcu
      have HLA := Lib.hid (laid_c _ (U.drop cut) _ hd HLY.out)
      clear hd
      go_wp2_with fail
      (with_reducible refine (HLA.out).mono ?_)
      rintro e w5 ⟨ox, rfl, ho, hb1⟩
      have HY := Lib.hid (ho.at_ (shok_bd HYO.out.ok) (by have := HYO.out.len; omega))
      obtain ⟨ya, yc, rfl⟩ := HY.out.shape
      have S := Lib.hid (show JSt4 w (.slice a U.length cap) (.slice xa (laidL (U.take cut)).length xc) (.slice ya (laidL (U.drop cut)).length yc) U (laidL (U.take cut)) (laidL (U.drop cut)) w5 from ⟨HV.out.below hb1, HX.out.below hb1, HY.out, bstep HB.out hb1⟩)
      clear hb1 HLA ho HY HX HV HB
      generalize laidL (U.take cut) = lx at *
      generalize laidL (U.drop cut) = ly at *
      have HCA := Lib.hid (CatAt.lit2 S.out.x S.out.y 29)
      have HCC := Lib.hid (vconcat_c _ _ _ HCA.out (by rw [List.length_append]; have := HXO.out.len; have := HYO.out.len; omega))
      go_wp2_with fail
      (with_reducible refine (HCC.out).mono ?_)
      rintro e w6 ⟨cv, rfl, hcv, hb1⟩
      obtain ⟨lg, hlg⟩ : ∃ lg, lg = lx ++ ly := ⟨_, rfl⟩
      rw [← hlg] at hcv
      obtain ⟨ka, kc, rfl⟩ := hcv.shape
      replace S := Lib.hid (S.out.below (ba1 hb1))
      have HLA := Lib.hid (laid_c _ lg _ hcv (by rw [hlg]; exact HL1.out))
      rw [show laidL lg = laidL U by rw [hlg]; exact HJ1.out] at HLA
      clear hb1 hcv HCA HCC hlg
      go_wp2_with fail
      (with_reducible refine (HLA.out).mono ?_)
      rintro e w7 ⟨ox, rfl, ho, hb1⟩
      replace S := Lib.hid (S.out.below hb1)
      have HA := Lib.hid (ho.at_ (shok_bd HSO.out.ok) (by have := HSO.out.len; omega))
      obtain ⟨aa, ac, rfl⟩ := HA.out.shape
      clear hb1 HLA ho
      have HCA := Lib.hid (CatAt.lit2 S.out.y S.out.x 29)
      have HCC := Lib.hid (vconcat_c _ _ _ HCA.out (by rw [List.length_append]; have := HYO.out.len; have := HXO.out.len; omega))
      go_wp2_with fail
      (with_reducible refine (HCC.out).mono ?_)
      rintro e w8 ⟨cv, rfl, hcv, hb1⟩
      obtain ⟨lg, hlg⟩ : ∃ lg, lg = ly ++ lx := ⟨_, rfl⟩
      rw [← hlg] at hcv
      obtain ⟨ka, kc, rfl⟩ := hcv.shape
      replace S := Lib.hid (S.out.below (ba1 hb1))
      replace HA := Lib.hid (HA.out.below (ba1 hb1))
      have HLA := Lib.hid (laid_c _ lg _ hcv (by rw [hlg]; exact HL2.out))
      rw [show laidL lg = laidL U by rw [hlg]; exact HJ2.out] at HLA
      clear hb1 hcv HCA HCC hlg
      go_wp2_with fail
      (with_reducible refine (HLA.out).mono ?_)
      rintro e w9 ⟨ox, rfl, ho, hb1⟩
      replace S := Lib.hid (S.out.below hb1)
      replace HA := Lib.hid (HA.out.below hb1)
      have HB := Lib.hid (ho.at_ (shok_bd HSO.out.ok) (by have := HSO.out.len; omega))
      obtain ⟨ba, bc, rfl⟩ := HB.out.shape
      clear hb1 HLA ho
      have HLA := Lib.hid (laid_c _ U _ S.out.v HLU.out)
      go_wp2_with fail
      (with_reducible refine (HLA.out).mono ?_)
      rintro e w10 ⟨ox, rfl, ho, hb1⟩
      replace S := Lib.hid (S.out.below hb1)
      replace HA := Lib.hid (HA.out.below hb1)
      replace HB := Lib.hid (HB.out.below hb1)
      have HD := Lib.hid (ho.at_ (shok_bd HSO.out.ok) (by have := HSO.out.len; omega))
      obtain ⟨da, dc, rfl⟩ := HD.out.shape
      clear hb1 HLA ho
      have HCA := Lib.hid (CatAt.lit2 HA.out HA.out 29)
      have HCC := Lib.hid (vconcat_c _ _ _ HCA.out (by rw [List.length_append]; have := HSO.out.len; have := HSO.out.len; omega))
      go_wp2_with fail
      (with_reducible refine (HCC.out).mono ?_)
      rintro e w11 ⟨cv, rfl, hcv, hb1⟩
      obtain ⟨lg, hlg⟩ : ∃ lg, lg = laidL U ++ laidL U := ⟨_, rfl⟩
      rw [← hlg] at hcv
      obtain ⟨ka, kc, rfl⟩ := hcv.shape
      replace S := Lib.hid (S.out.below (ba1 hb1))
      replace HA := Lib.hid (HA.out.below (ba1 hb1))
      replace HB := Lib.hid (HB.out.below (ba1 hb1))
      replace HD := Lib.hid (HD.out.below (ba1 hb1))
      have HLA := Lib.hid (laid_c _ lg _ hcv (by rw [hlg]; exact HL3.out))
      rw [show laidL lg = laidL U by rw [hlg]; exact HJ3.out] at HLA
      clear hb1 hcv HCA HCC hlg
      go_wp2_with fail
      (with_reducible refine (HLA.out).mono ?_)
      rintro e w12 ⟨ox, rfl, ho, hb1⟩
      replace S := Lib.hid (S.out.below hb1)
      replace HA := Lib.hid (HA.out.below hb1)
      replace HB := Lib.hid (HB.out.below hb1)
      replace HD := Lib.hid (HD.out.below hb1)
      have HC := Lib.hid (ho.at_ (shok_bd HSO.out.ok) (by have := HSO.out.len; omega))
      obtain ⟨ca, cc, rfl⟩ := HC.out.shape
      clear hb1 HLA ho
      generalize laidL U = lu at *
      have HS := Lib.hid (sameS_c _ _ _ _ w12 HA.out HD.out)
      go_wp2_with fail
      (with_reducible refine (HS.out).mono ?_)
      rintro e w13 ⟨b9, rfl, hb9, hb1⟩
      obtain rfl : b9 = true := hb9.2 (by trivial)
      replace S := Lib.hid (S.out.below hb1)
      replace HA := Lib.hid (HA.out.below hb1)
      replace HB := Lib.hid (HB.out.below hb1)
      replace HC := Lib.hid (HC.out.below hb1)
      replace HD := Lib.hid (HD.out.below hb1)
      clear hb1 HS hb9
      have HS := Lib.hid (sameS_c _ _ _ _ w13 HB.out HD.out)
      go_wp2_with fail
      (with_reducible refine (HS.out).mono ?_)
      rintro e w14 ⟨b9, rfl, hb9, hb1⟩
      obtain rfl : b9 = true := hb9.2 (by trivial)
      replace S := Lib.hid (S.out.below hb1)
      replace HA := Lib.hid (HA.out.below hb1)
      replace HC := Lib.hid (HC.out.below hb1)
      clear hb1 HS hb9 HB HD
      have HS := Lib.hid (sameS_c _ _ _ _ w14 HC.out HA.out)
      go_wp2_with fail
      (with_reducible refine (HS.out).mono ?_)
      rintro e w15 ⟨b9, rfl, hb9, hb1⟩
      obtain rfl : b9 = true := hb9.2 (by trivial)
      have hfin := bstep S.out.bel hb1
      clear hb1 HS hb9 HA HC S
      go_wp2
      go_ret
      exact ⟨rfl, hfin⟩
end Go.Proofs.Ytliieljmfncmjaa
