/- What ShelfOrder does: it returns true. Written by a small program (gen/shelf_order.py). -/
import Derived.Test.YtliieljmfncmjaaMShelf16
namespace Go.Proofs.Ytliieljmfncmjaa
open Go.RowKit
theorem order_any {U : List Ver} (hU : Uni U) {a : Ver} (ha : a ∈ U) : (laidL U).any (fun x => sameVB a x) = !(U.any fun x => verOver x a) := by
  have h1 : (laidL U).any (fun x => sameVB a x) = true ↔ a ∈ laidL U := by
    rw [List.any_eq_true]
    constructor
    · rintro ⟨x, hx, h⟩; rw [(sameVB_iff a x).1 h]; exact hx
    · intro h; exact ⟨a, h, (sameVB_iff a a).2 rfl⟩
  have h2 := laid_under hU (fun _ h => h) ha
  cases h3 : U.any fun x => verOver x a
  · rw [h1.2 (h2.2 h3)]; rfl
  · cases h4 : (laidL U).any fun x => sameVB a x
    · rfl
    · have := h2.1 (h1.1 h4); rw [h3] at this; exact absurd this (by decide)
set_option maxRecDepth 100000 in
set_option maxHeartbeats 8000000 in
theorem ShelfOrder_walk (lv : Value) (l : List (List Int)) (n : Int) (w : World) (hl : RowAt vecE w lv l) :
    Calls Try.prog 6 #[lv, .int .i64 n] w fun e w' => e = .returned (.bool true) ∧ Below w.heap.size w w' := by
  obtain ⟨la, lc, rfl⟩ := hl.shape
  have HL := Lib.hid hl
  clear hl
  go_enter Try.func6, Try.ntmps6
  go_wp2_with fail
  (with_reducible refine (shelfBegun_c _).mono ?_)
  rintro e w1 ⟨rfl, hb1⟩
  replace HL := Lib.hid (HL.out.below hb1)
  have HB := Lib.hid hb1
  clear hb1
  have HTD := Lib.hid (vtold_c _ l _ HL.out)
  go_wp2_with fail
  (with_reducible refine (HTD.out).mono ?_)
  rintro e w2 ⟨ov, U, rfl, hU, hU20, ho, hb1⟩
  replace HB := Lib.hid (bstep HB.out hb1)
  have HU := Lib.hid hU
  have HUN := Lib.hid (hU.uni (by omega))
  have HV := Lib.hid (ho.at_ (shok_bd hU.ok) (by omega))
  obtain ⟨a, cap, rfl⟩ := HV.out.shape
  have HX0 := Lib.hid (laid_shok HUN.out (fun _ h => h : ∀ x ∈ U, x ∈ U))
  clear hU ho hb1 HL HTD
  obtain ⟨tt, htt0⟩ : ∃ tt, tt = wiN n (U.length + 1 : Nat) := ⟨_, rfl⟩
  have htt : tt ≤ U.length := by have := wiN_lt n (U.length + 1) (by omega); omega
  have HWT := Lib.hid (fun w2 => (show Calls Try.prog 22 #[.int .i64 n, .int .i64 ((U.length : Int) + 1)] w2 fun e w' => e = .returned (.int .i64 ((tt : Nat) : Int)) ∧ Below w2.heap.size w2 w' by rw [htt0]; exact wiN_c n ((U.length : Int) + 1) w2 (by omega) (by omega)))
  clear htt0
  have hwr : IntKind.i64.wrap ((U.length : Int) + 1) = (U.length : Int) + 1 := by rw [IntKind.wrap_i64]; omega
  go_wp2_with fail
  (with_reducible refine (HWT.out _).mono ?_)
  rintro e w3 ⟨rfl, hb1⟩
  replace HB := Lib.hid (bstep HB.out hb1)
  replace HV := Lib.hid (HV.out.below hb1)
  clear hb1 HWT hwr
  have HLA := Lib.hid (laid_c _ U _ HV.out (laid_ok HUN.out U fun _ h => h))
  go_wp2_with fail
  (with_reducible refine (HLA.out).mono ?_)
  rintro e w4 ⟨ox, rfl, ho, hb1⟩
  replace HB := Lib.hid (bstep HB.out hb1)
  replace HV := Lib.hid (HV.out.below hb1)
  have HX := Lib.hid (ho.at_ (shok_bd HX0.out.ok) (by have := HX0.out.len; omega))
  obtain ⟨xa, xc, rfl⟩ := HX.out.shape
  clear hb1 HLA ho
  obtain ⟨LL, hLL⟩ : ∃ LL, LL = U.drop tt ++ U ++ U.take tt := ⟨_, rfl⟩
  have hLm : ∀ x, x ∈ U ↔ x ∈ LL := fun x => by
    rw [hLL]
    constructor
    · intro h; simp [h]
    · intro h
      rcases List.mem_append.1 h with h | h
      · rcases List.mem_append.1 h with h | h
        · exact List.mem_of_mem_drop h
        · exact h
      · exact List.mem_of_mem_take h
  have HY0 := Lib.hid (show laidL LL = laidL U from (laid_same HUN.out (fun _ h => h) hLm).symm)
  have HLO := Lib.hid (laid_ok HUN.out LL fun x hx => (hLm x).2 hx)
  have hLl : LL.length ≤ 1000 := by rw [hLL, List.length_append, List.length_append, List.length_drop, List.length_take]; omega
  have HLL := Lib.hid hLL
  clear hLL hLm
  go_wp2_with fail
  refine Cl.region0 94 rfl [] (fun _ => True) (fun _ => []) (fun jq v ww => match jq with | 0 => v = .slice a U.length cap | 1 => v = .int .i64 (tt : Nat) | 2 => RowAt verE ww v (U.drop tt) | 3 => v = .slice a U.length cap | 4 => v = .slice a U.length cap | 5 => v = .int .i64 (tt : Nat) | 6 => RowAt verE ww v (U.take tt) | 7 => CatAt ww v LL | 8 => RowAt verE ww v LL | 9 => TupV ww v (laidL LL) | 10 => TupV ww v (laidL LL) | 11 => VOwn ww 0 v (laidL LL) | 12 => v = .bool true | 13 => VOwn ww 0 v (laidL LL) | 14 => v = .bool true | _ => True) (fun ww => Below w4.heap.size w4 ww) (fun jq ww ww' => Below ww.heap.size ww ww') Try.mixed (by decide +kernel) (Below.refl _ _).drew trivial ?_ (fun _ _ _ _ _ _ => trivial) ?_ ?_
  · intro q r v w w' hne hk hlt h hR
    match r, hk, hlt, h, hne with
    | 0, _, _, h, _ => exact h
    | 1, _, _, h, _ => exact h
    | 2, _, _, h, _ => exact RowAt.below h hR
    | 3, _, _, h, _ => exact h
    | 4, _, _, h, _ => exact h
    | 5, _, _, h, _ => exact h
    | 6, _, _, h, _ => exact RowAt.below h hR
    | 7, _, _, h, _ => exact CatAt.below h hR
    | 8, _, _, h, _ => exact RowAt.below h hR
    | 9, _, _, h, _ => exact TupV.below h hR
    | 10, _, _, h, _ => exact TupV.below h hR
    | 11, _, _, h, _ => exact VOwn.below h hR
    | 12, _, _, h, _ => exact h
    | 13, _, _, h, _ => exact VOwn.below h hR
    | 14, _, _, h, _ => exact h
    | _ + 15, _, _, _, _ => trivial
  · refine ⟨?_, ?_, ?_, ?_, ?_, ?_, ?_, ?_, ?_, ?_, ?_, ?_, ?_, ?_, ?_, trivial⟩
    · intro x wx hG
      have f5 := hG.old 5 (by decide +kernel)
      have hg := hG.good
      clear hG
      go_wp2
      exact ⟨_, rfl, rfl, hg, Below.refl _ _⟩
    · intro x wx hG
      have f1 := hG.old 1 (by decide +kernel)
      have hg := hG.good
      clear hG
      go_wp2
      exact ⟨_, rfl, rfl, hg, Below.refl _ _⟩
    · intro x wx hG
      have g0 : (x.tmps.getD 31 undef) = .slice a U.length cap := hG.claims 0 _ rfl (by decide +kernel) (by decide +kernel)
      have g1 : (x.tmps.getD 32 undef) = .int .i64 (tt : Nat) := hG.claims 1 _ rfl (by decide +kernel) (by decide +kernel)
      have hg := hG.good
      clear hG
      have HVX := Lib.hid (HV.out.below hg)
      by_cases hct : cap = tt
      · have hd := Lib.hid (RowAt.cut0 HVX.out tt htt hct)
        go_wp2
        exact ⟨_, rfl, hd.out, hg, Below.refl _ _⟩
      have hd := Lib.hid (RowAt.drop_ HVX.out tt htt)
      go_wp2
      exact ⟨_, rfl, hd.out, hg, Below.refl _ _⟩
    · intro x wx hG
      have f5 := hG.old 5 (by decide +kernel)
      have hg := hG.good
      clear hG
      go_wp2
      exact ⟨_, rfl, rfl, hg, Below.refl _ _⟩
    · intro x wx hG
      have f5 := hG.old 5 (by decide +kernel)
      have hg := hG.good
      clear hG
      go_wp2
      exact ⟨_, rfl, rfl, hg, Below.refl _ _⟩
    · intro x wx hG
      have f1 := hG.old 1 (by decide +kernel)
      have hg := hG.good
      clear hG
      go_wp2
      exact ⟨_, rfl, rfl, hg, Below.refl _ _⟩
    · intro x wx hG
      have g4 : (x.tmps.getD 35 undef) = .slice a U.length cap := hG.claims 4 _ rfl (by decide +kernel) (by decide +kernel)
      have g5 : (x.tmps.getD 36 undef) = .int .i64 (tt : Nat) := hG.claims 5 _ rfl (by decide +kernel) (by decide +kernel)
      have hg := hG.good
      clear hG
      have HVX := Lib.hid (HV.out.below hg)
      have hd := Lib.hid (RowAt.take HVX.out tt htt)
      have hcap := HVX.out.cap_le
      go_wp2
      exact ⟨_, rfl, hd.out, hg, Below.refl _ _⟩
    · intro x wx hG
      have g2 : RowAt verE wx (x.tmps.getD 33 undef) (U.drop tt) := hG.claims 2 _ rfl (by decide +kernel) (by decide +kernel)
      have g3 : (x.tmps.getD 34 undef) = .slice a U.length cap := hG.claims 3 _ rfl (by decide +kernel) (by decide +kernel)
      have g3b := g3
      rw [Array.getD_eq_getD_getElem?] at g3b
      have g6 : RowAt verE wx (x.tmps.getD 37 undef) (U.take tt) := hG.claims 6 _ rfl (by decide +kernel) (by decide +kernel)
      have hg := hG.good
      clear hG
      obtain ⟨pa, pc, ps⟩ := g2.shape
      rw [ps] at g2
      have pb := ps
      rw [Array.getD_eq_getD_getElem?] at pb
      have pH := Lib.hid g2
      clear g2
      have g3b := g3
      rw [Array.getD_eq_getD_getElem?] at g3b
      obtain ⟨qa, qc, qs⟩ := g6.shape
      rw [qs] at g6
      have qb := qs
      rw [Array.getD_eq_getD_getElem?] at qb
      have qH := Lib.hid g6
      clear g6
      have HVX := Lib.hid (HV.out.below hg)
      have HCA := Lib.hid (CatAt.lit3 pH.out HVX.out qH.out 29)
      rw [← HLL.out, List.length_drop, List.length_take, Nat.min_eq_left htt] at HCA
      go_wp2
      exact ⟨_, rfl, HCA.out, hg.alloc hg.size _, bal _⟩
    · intro x wx hG
      have g7 : CatAt wx (x.tmps.getD 38 undef) LL := hG.claims 7 _ rfl (by decide +kernel) (by decide +kernel)
      have hg := hG.good
      clear hG
      obtain ⟨cs9, hcs9⟩ := g7.shape
      rw [hcs9] at g7
      have hcsb := hcs9
      rw [Array.getD_eq_getD_getElem?] at hcsb
      have HCC := Lib.hid g7
      clear g7
      go_wp2_with fail
      (with_reducible refine (vconcat_c _ LL _ HCC.out hLl).mono ?_)
      rintro e wq ⟨v9, rfl, h9, hb⟩
      have H9 := Lib.hid h9
      clear h9
      go_wp2
      exact ⟨_, rfl, H9.out, bstep hg hb, hb⟩
    · intro x wx hG
      have g8 : RowAt verE wx (x.tmps.getD 39 undef) LL := hG.claims 8 _ rfl (by decide +kernel) (by decide +kernel)
      have hg := hG.good
      clear hG
      obtain ⟨pa, pc, ps⟩ := g8.shape
      rw [ps] at g8
      have pb := ps
      rw [Array.getD_eq_getD_getElem?] at pb
      have pH := Lib.hid g8
      clear g8
      go_wp2_with fail
      (with_reducible refine (laid_t _ LL _ pH.out HLO.out).mono ?_)
      rintro e wq ⟨v9, rfl, h9, hb⟩
      have H9 := Lib.hid h9
      clear h9
      go_wp2
      exact ⟨_, rfl, H9.out, bstep hg hb, hb⟩
    · intro x wx hG
      have g9 : TupV wx (x.tmps.getD 40 undef) (laidL LL) := hG.claims 9 _ rfl (by decide +kernel) (by decide +kernel)
      have hg := hG.good
      clear hG
      obtain ⟨ya, yn, yc, hy1, hy2⟩ := g9
      have HYY := Lib.hid hy2
      clear hy2
      go_wp2
      exact ⟨_, rfl, ⟨_, _, _, rfl, HYY.out⟩, hg, Below.refl _ _⟩
    · intro x wx hG
      have g10 : TupV wx (x.tmps.getD 30 undef) (laidL LL) := hG.claims 10 _ rfl (by decide +kernel) (by decide +kernel)
      have hg := hG.good
      clear hG
      obtain ⟨ya, yn, yc, hy1, hy2⟩ := g10
      have HYY := Lib.hid hy2
      clear hy2
      go_wp2
      exact ⟨_, rfl, HYY.out, hg, Below.refl _ _⟩
    · intro x wx hG
      have g10 : TupV wx (x.tmps.getD 30 undef) (laidL LL) := hG.claims 10 _ rfl (by decide +kernel) (by decide +kernel)
      have hg := hG.good
      clear hG
      obtain ⟨ya, yn, yc, hy1, hy2⟩ := g10
      have HYY := Lib.hid hy2
      clear hy2
      go_wp2
      exact ⟨_, rfl, rfl, hg, Below.refl _ _⟩
    · intro x wx hG
      have g11 : VOwn wx 0 (x.tmps.getD 41 undef) (laidL LL) := hG.claims 11 _ rfl (by decide +kernel) (by decide +kernel)
      have hg := hG.good
      clear hG
      obtain ⟨pa, pc, ps⟩ := g11.shape
      rw [ps] at g11
      have pb := ps
      rw [Array.getD_eq_getD_getElem?] at pb
      have pH := Lib.hid g11
      clear g11
      go_wp2
      exact ⟨_, rfl, pH.out, hg, Below.refl _ _⟩
    · intro x wx hG
      have g12 : (x.tmps.getD 42 undef) = .bool true := hG.claims 12 _ rfl (by decide +kernel) (by decide +kernel)
      have hg := hG.good
      clear hG
      go_wp2
      exact ⟨_, rfl, rfl, hg, Below.refl _ _⟩
  · intro vals w5 hg hF
    obtain ⟨g0, g1, g2, g3, g4, g5, g6, g7, g8, g9, g10, g11, g12, g13, g14, -⟩ := hF
    have e0 : vals 0 = .slice a U.length cap := g0 rfl
    have e1 : vals 1 = .int .i64 (tt : Nat) := g1 rfl
    have e3 : vals 3 = .slice a U.length cap := g3 rfl
    have e4 : vals 4 = .slice a U.length cap := g4 rfl
    have e5 : vals 5 = .int .i64 (tt : Nat) := g5 rfl
    have e12 : vals 12 = .bool true := g12 rfl
    replace g13 : VOwn w5 0 (vals 13) (laidL LL) := g13 rfl
    have e14 : vals 14 = .bool true := g14 rfl
    simp only [Cl.puts, e0, e1, e3, e4, e5, e12, e14]
    clear e0 e1 e3 e4 e5 e12 e14 g0 g1 g2 g3 g4 g5 g6 g7 g8 g9 g10 g11 g12 g14
    go_simp
    generalize vals 13 = y at *
    rw [HY0.out] at g13
    obtain ⟨ya, yc, hys⟩ := g13.shape
    subst hys
    replace HB := Lib.hid (bstep HB.out hg)
    replace HV := Lib.hid (HV.out.below hg)
    replace HX := Lib.hid (HX.out.below hg)
    have HY := Lib.hid (g13.at_ (shok_bd HX0.out.ok) (by have := HX0.out.len; omega))
    clear hg g13 HLO HLL hLl HY0
    go_wp2_with fail
    (with_reducible refine (vclone_c _ U w5 w5 HV.out (Below.refl _ _) (by omega)).mono ?_)
    rintro e w6 ⟨vb, rfl, hr6, hb6⟩
    obtain ⟨ba, bc, rfl⟩ := hr6.shape
    have HRV := Lib.hid (vrev_c w5 w6 _ U hb6 hr6 (by omega))
    clear hr6 hb6
    go_wp2_with fail
    (with_reducible refine (HRV.out).mono ?_)
    rintro e w7 ⟨rfl, hr7, hb7⟩
    replace HB := Lib.hid (bstep HB.out hb7)
    have HBK := Lib.hid (hr7.at_ (Sub.of_below hb7) (by rw [List.length_reverse]; omega))
    replace HV := Lib.hid (HV.out.below hb7)
    replace HX := Lib.hid (HX.out.below hb7)
    replace HY := Lib.hid (HY.out.below hb7)
    have HZ0 := Lib.hid (show laidL U.reverse = laidL U from (laid_same HUN.out (fun _ h => h) fun x => by rw [List.mem_reverse]).symm)
    have HLA := Lib.hid (laid_c _ U.reverse _ HBK.out (laid_ok HUN.out U.reverse fun x hx => by simpa using hx))
    rw [HZ0.out] at HLA
    clear hr7 hb7 HRV HBK HZ0
    go_wp2_with fail
    (with_reducible refine (HLA.out).mono ?_)
    rintro e w8 ⟨oz, rfl, ho, hb1⟩
    replace HB := Lib.hid (bstep HB.out hb1)
    replace HV := Lib.hid (HV.out.below hb1)
    replace HX := Lib.hid (HX.out.below hb1)
    replace HY := Lib.hid (HY.out.below hb1)
    have HZ := Lib.hid (ho.at_ (shok_bd HX0.out.ok) (by have := HX0.out.len; omega))
    obtain ⟨za, zc, rfl⟩ := HZ.out.shape
    clear hb1 HLA ho
    have HS := Lib.hid (sameS_c _ _ _ _ w8 HX.out HY.out)
    go_wp2_with fail
    (with_reducible refine (HS.out).mono ?_)
    rintro e w9 ⟨b9, rfl, hb9, hb1⟩
    obtain rfl : b9 = true := hb9.2 (by trivial)
    replace HB := Lib.hid (bstep HB.out hb1)
    replace HV := Lib.hid (HV.out.below hb1)
    replace HX := Lib.hid (HX.out.below hb1)
    replace HZ := Lib.hid (HZ.out.below hb1)
    clear hb1 HS hb9 HY
    have HS := Lib.hid (sameS_c _ _ _ _ w9 HX.out HZ.out)
    go_wp2_with fail
    (with_reducible refine (HS.out).mono ?_)
    rintro e w10 ⟨b9, rfl, hb9, hb1⟩
    obtain rfl : b9 = true := hb9.2 (by trivial)
    replace HB := Lib.hid (bstep HB.out hb1)
    replace HV := Lib.hid (HV.out.below hb1)
    replace HX := Lib.hid (HX.out.below hb1)
    clear hb1 HS hb9 HZ
    have HC := Lib.hid (shelfChk_c _ _ w10 HX.out)
    rw [shelfChk_zero.2 HX0.out] at HC
    go_wp2_with fail
    (with_reducible refine (HC.out).mono ?_)
    rintro e w11 ⟨rfl, hb1⟩
    replace HB := Lib.hid (bstep HB.out hb1)
    replace HV := Lib.hid (HV.out.below hb1)
    replace HX := Lib.hid (HX.out.below hb1)
    clear hb1 HC
    go_wp2
    go_loopw [81] (fun i wr => ∃ k : Nat, k ≤ U.length ∧ i = .int .i64 k ∧ Below w11.heap.size w11 wr) (fun i _ => U.length - (intOf i).toNat)
    case atStart => exact ⟨0, Nat.zero_le _, rfl, Below.refl _ _⟩
    case round =>
      obtain ⟨k, hk, rfl, hbl⟩ := hrel
      by_cases hlt : k < U.length
      · have HVr := Lib.hid (HV.out.below hbl)
        have HXr := Lib.hid (HX.out.below hbl)
        have HBr := Lib.hid hbl
        obtain ⟨a', cap', ha', -, -, -, hvl⟩ := HVr.out.open_
        simp only [Value.slice.injEq, true_and] at ha'
        obtain ⟨ha', rfl⟩ := ha'
        rcases hvl with hnil | ⟨b, off, rfl, hb, hc⟩
        · rw [hnil] at hlt; simp at hlt
        subst ha'
        obtain ⟨c, ⟨u, x, rfl, hk2⟩, hcc⟩ := hc k hlt
        obtain ⟨pa, pc, rfl⟩ := hk2.vec.shape
        obtain ⟨qa, qc, rfl⟩ := hk2.more.shape
        have hcl := fun (i : Nat) (y : Value) (hy : (verC U[k] (.slice pa U[k].past.vec.length pc) (.slice qa U[k].past.more.length qc)).toList[i]? = some y) => row8 (b := b) (off := off) (i := k) hcc hy
        have c0 := hcl 0 _ rfl
        have c1 := hcl 1 _ rfl
        have c2 := hcl 2 _ rfl
        have c3 := hcl 3 _ rfl
        have c4 := hcl 4 _ rfl
        have c5 := hcl 5 _ rfl
        have c6 := hcl 6 _ rfl
        have c7 := hcl 7 _ rfl
        rw [Nat.add_zero] at c0
        have HAN := Lib.hid (order_any HUN.out (List.getElem_mem hlt))
        have HOK := Lib.hid (HU.out.ok _ (List.getElem_mem hlt))
        have hbx := bal (W := wr) (.cells (verC U[k] (.slice pa U[k].past.vec.length pc) (.slice qa U[k].past.more.length qc)) 57)
        have hnew := alloc_new wr (verC U[k] (.slice pa U[k].past.vec.length pc) (.slice qa U[k].past.more.length qc)) 57 _ rfl
        have hka := hk2.below hbx
        have HP1 := Lib.hid (ord1_p _ U[k] _ _ _ hnew hka HOK.out.dot)
        have HP2 := Lib.hid (ord2_p _ U[k] _ _ _ hnew hka)
        have HCA := Lib.hid (containsV_c VerOk _ U 35 _ _ _ (HVr.out.below hbx) HU.out.ok HP1.out)
        have HBX := Lib.hid hbx
        clear hc hcc hcl hk2 hbx hnew hka hbl
        generalize U[k] = v1 at *
        unfold verC at HCA HP2 HBX
        have hltb : decide ((k : Int) < (U.length : Int)) = true := by simp; omega
        go_wp2_with fail
        (with_reducible refine (HCA.out).mono ?_)
        rintro e w12 ⟨rfl, hb1⟩
        have HCB := Lib.hid (containsV_c VerOk _ (laidL U) 37 _ _ _ ((HXr.out.below HBX.out).below hb1) HX0.out.ok (HP2.out.below hb1))
        rw [HAN.out] at HCB
        have HBB := Lib.hid (bstep HBX.out hb1)
        clear hb1 HCA HP1 HP2 HBX c0 c1 c2 c3 c4 c5 c6 c7 hb
        generalize (U.any fun x => verOver x v1) = ub at *
        go_wp2_with fail
        (with_reducible refine (HCB.out).mono ?_)
        rintro e w13 ⟨rfl, hb1⟩
        have HBE := Lib.hid (bstep (bstep HBr.out HBB.out) hb1)
        clear hb1 HCB HBB
        cases ub
        · go_wp2
          go_roundw
          case rel => exact ⟨k + 1, by omega, by go_num, HBE.out⟩
          case measure => simp [intOf] <;> omega
        · go_wp2
          go_roundw
          case rel => exact ⟨k + 1, by omega, by go_num, HBE.out⟩
          case measure => simp [intOf] <;> omega
      · obtain rfl : k = U.length := by omega
        have hfin := bstep HB.out hbl
        go_wp2
        go_ret
        exact ⟨rfl, hfin⟩
end Go.Proofs.Ytliieljmfncmjaa
