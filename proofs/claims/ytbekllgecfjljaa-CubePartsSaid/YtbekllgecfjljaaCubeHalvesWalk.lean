/- CubeHalves: plain laws on the pieces that cube.Less puts out, and the walk. -/
import Derived.Test.YtbekllgecfjljaaCubeLess
namespace Go.Proofs.Ytbekllgecfjljaa
open Go.RowKit

abbrev Cubes := List ((Nat → Bool) × (Nat → Bool))
/-- How many points cubes have, one by one. -/
def csum (l : Cubes) : Int := (l.map fun p => (2 : Int) ^ open4 p.1 p.2).sum
theorem csum_append (l m : Cubes) : csum (l ++ m) = csum l + csum m := by simp [csum, List.sum_append]
theorem csum_take (l : Cubes) (k : Nat) (hk : k < l.length) : csum (l.take (k + 1)) = csum (l.take k) + 2 ^ open4 l[k].1 l[k].2 := by
  rw [List.take_succ_eq_append_getElem hk, csum_append]; simp [csum]
theorem open4_le (Y N : Nat → Bool) : open4 Y N ≤ 4 := by
  unfold open4; split <;> split <;> split <;> split <;> omega
theorem pow_open (Y N : Nat → Bool) : 1 ≤ (2 : Int) ^ open4 Y N ∧ (2 : Int) ^ open4 Y N ≤ 16 := by
  have h := open4_le Y N
  obtain h | h | h | h | h : open4 Y N = 0 ∨ open4 Y N = 1 ∨ open4 Y N = 2 ∨ open4 Y N = 3 ∨ open4 Y N = 4 := by omega
  all_goals rw [h]; decide
theorem csum_bd (l : Cubes) (k : Nat) : 0 ≤ csum (l.take k) ∧ csum (l.take k) ≤ 16 * k := by
  induction k with
  | zero => simp [csum]
  | succ k ih =>
    by_cases hk : k < l.length
    · rw [csum_take l k hk]; have := pow_open l[k].1 l[k].2; omega
    · rw [List.take_of_length_le (by omega)]; rw [List.take_of_length_le (by omega)] at ih; omega
theorem open4_congr {Y N Y' N' : Nat → Bool} (h : ∀ i, i < 4 → (Y i || N i) = (Y' i || N' i)) : open4 Y N = open4 Y' N' := by
  unfold open4; rw [h 0 (by omega), h 1 (by omega), h 2 (by omega), h 3 (by omega)]
/-- One tag more that is told: half the points. -/
theorem open4_more {Y N Y' N' : Nat → Bool} {t : Nat} (ht : t < 4) (h0 : (Y t || N t) = false) (h1 : (Y' t || N' t) = true) (h : ∀ i, i < 4 → i ≠ t → (Y i || N i) = (Y' i || N' i)) : open4 Y N = open4 Y' N' + 1 := by
  obtain rfl | rfl | rfl | rfl : t = 0 ∨ t = 1 ∨ t = 2 ∨ t = 3 := by omega
  · unfold open4; rw [h0, h1, h 1 (by omega) (by omega), h 2 (by omega) (by omega), h 3 (by omega) (by omega)]; simp <;> omega
  · unfold open4; rw [h0, h1, h 0 (by omega) (by omega), h 2 (by omega) (by omega), h 3 (by omega) (by omega)]; simp <;> omega
  · unfold open4; rw [h0, h1, h 0 (by omega) (by omega), h 1 (by omega) (by omega), h 3 (by omega) (by omega)]; simp <;> omega
  · unfold open4; rw [h0, h1, h 0 (by omega) (by omega), h 1 (by omega) (by omega), h 2 (by omega) (by omega)]; simp <;> omega

theorem pieces_sum {Y N Y' N' : Nat → Bool} (ha : Apart Y N) (hm : meets Y N Y' N' = true) (t : Nat) (ht : t ≤ 4) : csum (pieces Y N Y' N' t) + 2 ^ open4 (lessY Y Y' t) (lessY N N' t) = 2 ^ open4 Y N := by
  induction t with
  | zero =>
    have e : open4 (lessY Y Y' 0) (lessY N N' 0) = open4 Y N := open4_congr fun i _ => by simp [lessY]
    rw [e]; simp [pieces, csum]
  | succ t ih =>
    have ih := ih (by omega)
    have a := (allF_iff _).1 ha t (by omega); have m := (allF_iff _).1 hm t (by omega)
    cases hc : cuts Y N Y' N' t
    · rw [(less_skip (by omega) ha hm hc).2.2]
      rw [show open4 (lessY Y Y' (t + 1)) (lessY N N' (t + 1)) = open4 (lessY Y Y' t) (lessY N N' t) from open4_congr fun i hi => ?_]
      · exact ih
      · unfold lessY
        by_cases hit : i = t
        · subst hit; unfold cuts at hc; cases hy : Y i <;> cases hn : N i <;> cases hy' : Y' i <;> cases hn' : N' i <;> simp_all
        · rw [show decide (i < t + 1) = decide (i < t) from by simp; omega]
    · unfold cuts at hc
      have h0 : (lessY Y Y' t t || lessY N N' t t) = false := by rw [lessY_at, lessY_at]; cases hy : Y t <;> cases hn : N t <;> simp_all
      have e1 : open4 (lessY Y Y' t) (lessY N N' t) = open4 (lessY Y Y' (t + 1)) (lessY N N' (t + 1)) + 1 := by
        refine open4_more (t := t) (by omega) h0 ?_ fun i hi hne => ?_
        · unfold lessY; cases hy : Y t <;> cases hn : N t <;> cases hy' : Y' t <;> cases hn' : N' t <;> simp_all
        · unfold lessY; rw [show decide (i < t + 1) = decide (i < t) from by simp; omega]
      have e2 : open4 (lessY Y Y' t) (lessY N N' t) = open4 (piece Y N Y' N' t).1 (piece Y N Y' N' t).2 + 1 := by
        refine open4_more (t := t) (by omega) h0 ?_ fun i hi hne => ?_
        · unfold piece; cases hy : Y t <;> cases hn : N t <;> cases hy' : Y' t <;> cases hn' : N' t <;> simp_all
        · unfold piece; simp [hne]
      have e3 : pieces Y N Y' N' (t + 1) = pieces Y N Y' N' t ++ [piece Y N Y' N' t] := by simp only [pieces, cuts, hc]; rfl
      have e4 : csum [piece Y N Y' N' t] = 2 ^ open4 (piece Y N Y' N' t).1 (piece Y N Y' N' t).2 := by simp [csum]
      rw [e3, csum_append, e4]
      rw [← ih, e1]
      have e5 : open4 (piece Y N Y' N' t).1 (piece Y N Y' N' t).2 = open4 (lessY Y Y' (t + 1)) (lessY N N' (t + 1)) := by omega
      rw [e5, Int.pow_succ]; omega
theorem pieces_apart {Y N Y' N' : Nat → Bool} (ha : Apart Y N) (hb : Apart Y' N') (hm : meets Y N Y' N' = true) (t : Nat) (ht : t ≤ 4) : ∀ p ∈ pieces Y N Y' N' t, Apart p.1 p.2 := by
  induction t with
  | zero => simp [pieces]
  | succ t ih =>
    intro p hp
    simp only [pieces] at hp
    split at hp
    · rename_i hc
      rcases List.mem_append.1 hp with hp | hp
      · exact ih (by omega) p hp
      · simp at hp; subst hp
        unfold Apart; rw [allF_iff]; intro i hi
        have a := (allF_iff _).1 ha i hi; have b := (allF_iff _).1 hb i hi; have m := (allF_iff _).1 hm i hi
        unfold cuts at hc
        by_cases hit : i = t
        · subst hit; unfold piece lessY; cases hy : Y i <;> cases hn : N i <;> cases hy' : Y' i <;> cases hn' : N' i <;> simp_all
        · unfold piece lessY; cases hy : Y i <;> cases hn : N i <;> cases hy' : Y' i <;> cases hn' : N' i <;> simp_all
    · exact ih (by omega) p hp

def ff : Nat → Bool := fun _ => false
theorem ff_apart : Apart ff ff := by unfold Apart; decide
theorem ff_enc : encF ff = 0 := by decide
theorem ff_meets {Y N : Nat → Bool} (h : Apart Y N) : meets ff ff Y N = true := by
  unfold meets ff; simpa [Apart] using h
theorem halves_sum {Y N : Nat → Bool} (h : Apart Y N) : csum (lessL ff ff Y N) + 2 ^ open4 Y N = 16 := by
  have hm := ff_meets h
  have e := pieces_sum ff_apart hm 4 (by omega)
  rw [lessL, hm, if_pos rfl]
  rw [show open4 (lessY ff Y 4) (lessY ff N 4) = open4 Y N from open4_congr fun i hi => by simp [lessY, ff, hi], show (2 : Int) ^ open4 ff ff = 16 from by decide] at e
  exact e
theorem halves_apart {Y N : Nat → Bool} (h : Apart Y N) : ∀ p ∈ lessL ff ff Y N, Apart p.1 p.2 := by
  rw [lessL, ff_meets h, if_pos rfl]; exact pieces_apart ff_apart h (ff_meets h) 4 (by omega)
theorem lessL_length (Y N Y' N' : Nat → Bool) : (lessL Y N Y' N').length ≤ 4 := by
  unfold lessL; split
  · exact pieces_length _ _ _ _ 4
  · simp
/-- How many tags below j are told. -/
def tcount (Y N : Nat → Bool) : Nat → Nat
  | 0 => 0
  | j + 1 => tcount Y N j + if Y j || N j then 1 else 0
theorem tcount_le (Y N : Nat → Bool) (j : Nat) : tcount Y N j ≤ j := by
  induction j with
  | zero => simp [tcount]
  | succ j ih => simp only [tcount]; split <;> omega
theorem tcount_open (Y N : Nat → Bool) : tcount Y N 4 + open4 Y N = 4 := by
  simp only [tcount, open4]
  cases Y 0 || N 0 <;> cases Y 1 || N 1 <;> cases Y 2 || N 2 <;> cases Y 3 || N 3 <;> simp
theorem shr_bit (p q : Nat → Bool) : (bits .and .i64 (bits .or .i64 (encF p) (encF q)) 1 == 1) = (p 0 || q 0) ∧ (bits .and .i64 (bits .or .i64 (encF p) (encF q) / 2) 1 == 1) = (p 1 || q 1) ∧
    (bits .and .i64 (bits .or .i64 (encF p) (encF q) / 4) 1 == 1) = (p 2 || q 2) ∧ (bits .and .i64 (bits .or .i64 (encF p) (encF q) / 8) 1 == 1) = (p 3 || q 3) := by
  rw [enc_or]; unfold encF
  show (bits .and .i64 (enc4 (p 0 || q 0) (p 1 || q 1) (p 2 || q 2) (p 3 || q 3)) 1 == 1) = (p 0 || q 0) ∧ (bits .and .i64 (enc4 (p 0 || q 0) (p 1 || q 1) (p 2 || q 2) (p 3 || q 3) / 2) 1 == 1) = (p 1 || q 1) ∧ (bits .and .i64 (enc4 (p 0 || q 0) (p 1 || q 1) (p 2 || q 2) (p 3 || q 3) / 4) 1 == 1) = (p 2 || q 2) ∧ (bits .and .i64 (enc4 (p 0 || q 0) (p 1 || q 1) (p 2 || q 2) (p 3 || q 3) / 8) 1 == 1) = (p 3 || q 3)
  generalize (p 0 || q 0) = a
  generalize (p 1 || q 1) = b
  generalize (p 2 || q 2) = c
  generalize (p 3 || q 3) = d
  revert a b c d; decide +kernel

set_option maxRecDepth 100000 in
set_option maxHeartbeats 8000000 in
theorem CubeHalves_walk (a t : Int) (w : World) :
    Calls Try.prog 12 #[.int .i64 a, .int .i64 t] w fun e w' => e = .returned (.bool true) ∧ Below w.heap.size w w' := by
  have hbel := Below.refl w.heap.size w
  have hop := tcount_open (dY a) (dN a)
  go_enter Try.func12, Try.ntmps12
  go_wp2_with fail
  (with_reducible refine (cubeCount_c 0 0 _).mono ?_)
  rintro e w1 ⟨rfl, hb⟩
  replace hbel := bstep hbel hb
  clear hb
  rw [show cubeCount 0 0 = 16 from by decide +kernel, show cubeChk 0 0 = 0 from by decide +kernel]
  go_wp2_with fail
  (with_reducible refine (oneM a _).mono ?_)
  rintro e w2 ⟨rfl, hb⟩
  replace hbel := bstep hbel hb
  clear hb
  go_wp2_with fail
  (with_reducible refine (withinInt_c t 4 (by decide) (by decide) _).mono ?_)
  rintro e wt ⟨rfl, rfl⟩
  obtain ⟨m, hm4, hm⟩ : ∃ m : Nat, m < 4 ∧ t % 18446744073709551616 % 4 = m := ⟨(t % 18446744073709551616 % 4).toNat, by omega, by omega⟩
  rw [hm]
  clear hm
  go_wp2_with fail
  (with_reducible refine (countM' (d_apart a) _).mono ?_)
  rintro e w3 ⟨rfl, hb⟩
  have c_x0 := ckeep hb (cat _ _ _ 0 (.int .i64 (encF (dY a))) rfl _ rfl)
  have c_x1 := ckeep hb (cat _ _ _ 1 (.int .i64 (encF (dN a))) rfl _ rfl)
  replace hbel := bstep hbel (ba1 hb)
  clear hb
  have hpo := pow_open (dY a) (dN a)
  obtain ⟨hp0, hp1⟩ := hpo
  have HOP := Lib.hid hop
  clear hop
  go_wp2_with fail
  go_loopw [10, 42] (fun u i wr => ∃ j : Nat, j ≤ 4 ∧ i = .int .i64 j ∧ u = .int .i64 (tcount (dY a) (dN a) j) ∧ wr = w3) (fun _ i _ => 4 - (intOf i).toNat)
  case atStart => exact ⟨0, by omega, rfl, rfl, rfl⟩
  case round =>
    obtain ⟨j, hj, rfl, rfl, rfl⟩ := hrel
    have htl := tcount_le (dY a) (dN a) j
    by_cases hlt : j < 4
    · have hsb := shr_bit (dY a) (dN a)
      obtain ⟨s0, s1, s2, s3⟩ := hsb
      have S := Lib.hid (show tcount (dY a) (dN a) (j + 1) = tcount (dY a) (dN a) j + if dY a j || dN a j then 1 else 0 from rfl)
      obtain rfl | rfl | rfl | rfl : j = 0 ∨ j = 1 ∨ j = 2 ∨ j = 3 := by omega
      · clear s1 s2 s3
        cases hk : (dY a 0 || dN a 0)
        · rw [hk] at s0
          have S' := Lib.hid (show tcount (dY a) (dN a) 1 = tcount (dY a) (dN a) 0 by rw [S.out, hk]; rfl)
          clear hk S
          go_wp2_with fail
          go_roundw
          case rel => exact ⟨1, by omega, rfl, by rw [S'.out], trivial⟩
          case measure => simp [intOf]
        · rw [hk] at s0
          have S' := Lib.hid (show tcount (dY a) (dN a) 1 = tcount (dY a) (dN a) 0 + 1 by rw [S.out, hk]; rfl)
          clear hk S
          go_wp2_with fail
          go_roundw
          case rel => exact ⟨1, by omega, rfl, by rw [S'.out]; go_num, trivial⟩
          case measure => simp [intOf]
      · clear s0 s2 s3
        cases hk : (dY a 1 || dN a 1)
        · rw [hk] at s1
          have S' := Lib.hid (show tcount (dY a) (dN a) 2 = tcount (dY a) (dN a) 1 by rw [S.out, hk]; rfl)
          clear hk S
          go_wp2_with fail
          go_roundw
          case rel => exact ⟨2, by omega, rfl, by rw [S'.out], trivial⟩
          case measure => simp [intOf]
        · rw [hk] at s1
          have S' := Lib.hid (show tcount (dY a) (dN a) 2 = tcount (dY a) (dN a) 1 + 1 by rw [S.out, hk]; rfl)
          clear hk S
          go_wp2_with fail
          go_roundw
          case rel => exact ⟨2, by omega, rfl, by rw [S'.out]; go_num, trivial⟩
          case measure => simp [intOf]
      · clear s0 s1 s3
        cases hk : (dY a 2 || dN a 2)
        · rw [hk] at s2
          have S' := Lib.hid (show tcount (dY a) (dN a) 3 = tcount (dY a) (dN a) 2 by rw [S.out, hk]; rfl)
          clear hk S
          go_wp2_with fail
          go_roundw
          case rel => exact ⟨3, by omega, rfl, by rw [S'.out], trivial⟩
          case measure => simp [intOf]
        · rw [hk] at s2
          have S' := Lib.hid (show tcount (dY a) (dN a) 3 = tcount (dY a) (dN a) 2 + 1 by rw [S.out, hk]; rfl)
          clear hk S
          go_wp2_with fail
          go_roundw
          case rel => exact ⟨3, by omega, rfl, by rw [S'.out]; go_num, trivial⟩
          case measure => simp [intOf]
      · clear s0 s1 s2
        cases hk : (dY a 3 || dN a 3)
        · rw [hk] at s3
          have S' := Lib.hid (show tcount (dY a) (dN a) 4 = tcount (dY a) (dN a) 3 by rw [S.out, hk]; rfl)
          clear hk S
          go_wp2_with fail
          go_roundw
          case rel => exact ⟨4, by omega, rfl, by rw [S'.out], trivial⟩
          case measure => simp [intOf]
        · rw [hk] at s3
          have S' := Lib.hid (show tcount (dY a) (dN a) 4 = tcount (dY a) (dN a) 3 + 1 by rw [S.out, hk]; rfl)
          clear hk S
          go_wp2_with fail
          go_roundw
          case rel => exact ⟨4, by omega, rfl, by rw [S'.out]; go_num, trivial⟩
          case measure => simp [intOf]
    · obtain rfl : j = 4 := by omega
      have hshr : ((2 : Int) ^ open4 (dY a) (dN a) != 16 / 2 ^ tcount (dY a) (dN a) 4) = false := by
        have h := HOP.out
        obtain ⟨e1, e2⟩ | ⟨e1, e2⟩ | ⟨e1, e2⟩ | ⟨e1, e2⟩ | ⟨e1, e2⟩ : (tcount (dY a) (dN a) 4 = 0 ∧ open4 (dY a) (dN a) = 4) ∨ (tcount (dY a) (dN a) 4 = 1 ∧ open4 (dY a) (dN a) = 3) ∨ (tcount (dY a) (dN a) 4 = 2 ∧ open4 (dY a) (dN a) = 2) ∨ (tcount (dY a) (dN a) 4 = 3 ∧ open4 (dY a) (dN a) = 1) ∨ (tcount (dY a) (dN a) 4 = 4 ∧ open4 (dY a) (dN a) = 0) := by omega
        all_goals rw [e1, e2]; decide
      have HL := Lib.hid (lessL_length ff ff (dY a) (dN a))
      have hs := halves_sum (d_apart a)
      have HAP := Lib.hid (halves_apart (d_apart a))
      have cl := cubeLess_c ff_apart (d_apart a)
      rw [ff_enc] at cl
      have CL := Lib.hid cl
      clear cl
      generalize lessL ff ff (dY a) (dN a) = L at *
      have HS := Lib.hid hs
      clear hs
      go_wp2_with fail
      (with_reducible refine (CL.out _).mono ?_)
      rintro e w4 ⟨v, rfl, hown, hb⟩
      have sv : SpansAt w4 v (ints L) := by
        have := CellsAt.of_owns hown (by have := HL.out; omega)
        rw [← ints_length] at this; exact this
      replace c_x0 := ckeep hb c_x0
      replace c_x1 := ckeep hb c_x1
      replace hbel := bstep hbel hb
      clear hb hown CL
      obtain ⟨xa, cap, rfl, hcap, hm', hl⟩ := sv.open_
      rw [ints_length] at hm' hcap ⊢
      clear sv
      go_wp2_with fail
      generalize hn : (2 : Int) ^ open4 (dY a) (dN a) = n at *
      have HN := Lib.hid hn
      clear hn HOP hshr
      go_loopw [11, 73] (fun u i wr => ∃ k : Nat, k ≤ L.length ∧ i = .int .i64 k ∧ u = .int .i64 (csum (L.take k)) ∧ Below w4.heap.size w4 wr) (fun _ i _ => L.length - (intOf i).toNat)
      case atStart => exact ⟨0, Nat.zero_le _, rfl, rfl, Below.refl _ _⟩
      case round =>
        obtain ⟨k, hk, rfl, rfl, hbl⟩ := hrel
        obtain ⟨s0, s1⟩ := csum_bd L k
        have hL4 := HL.out
        by_cases hlt : k < L.length
        · rcases hl with hnil | ⟨b, off, rfl, hb, hc⟩
          · have := congrArg List.length hnil; rw [ints_length] at this; simp at this; subst this; simp at hlt
          obtain ⟨c1, c2⟩ := hc k (by rw [ints_length]; exact hlt)
          have d1 := (hbl.cell (p := ⟨b, off + k * 2, none⟩) hb).trans c1
          have d2 := (hbl.cell (p := ⟨b, off + k * 2 + 1, none⟩) hb).trans c2
          simp only [ints, List.getElem_map] at d1 d2
          have HK := Lib.hid (HAP.out _ (List.getElem_mem hlt))
          have HT := Lib.hid (csum_take L k hlt)
          obtain ⟨q0, q1⟩ := pow_open L[k].1 L[k].2
          clear c1 c2 hc
          generalize L[k].1 = P1 at *
          generalize L[k].2 = P2 at *
          go_wp2_with fail
          (with_reducible refine (countM' HK.out _).mono ?_)
          rintro e w5 ⟨rfl, hb5⟩
          have hb6 := bstep hbl (ba1 hb5)
          clear hb5 d1 d2
          generalize (2 : Int) ^ open4 P1 P2 = q at *
          go_wp2
          go_roundw
          case rel => exact ⟨k + 1, by omega, by go_num, by rw [HT.out], hb6⟩
          case measure => simp [intOf]; omega
        · obtain rfl : k = L.length := by omega
          rw [List.take_length] at s0 s1 ⊢
          have hs := HS.out
          obtain ⟨s, hs'⟩ : ∃ s, s = csum L := ⟨_, rfl⟩
          rw [← hs'] at hs s0 s1 ⊢
          obtain rfl : s = 16 - n := by omega
          clear hs s0 s1 HS hs' hl HAP HL hL4 hk hlt hcap hm'
          replace c_x0 := ckeep hbl c_x0
          replace c_x1 := ckeep hbl c_x1
          replace hbel := bstep hbel hbl
          clear hbl
          have lx := blt c_x0
          have hsb := shr_bit (dY a) (dN a)
          obtain ⟨t0, t1, t2, t3⟩ := hsb
          obtain rfl | rfl | rfl | rfl : m = 0 ∨ m = 1 ∨ m = 2 ∨ m = 3 := by omega
          · clear t1 t2 t3
            cases hk : (dY a 0 || dN a 0)
            · rw [hk] at t0
              have HH := Lib.hid hk
              clear hk
              go_wp2
              go_region
              have HO := or_bit (dY a) 0 (by omega)
              rw [show (2 : Int) ^ 0 = 1 from by decide] at HO
              rw [HO]
              clear HO t0
              go_wp2_with fail
              have HA : Apart (fun i => dY a i || decide (i = 0)) (dN a) := by
                unfold Apart; rw [allF_iff]; intro i hi
                have h1 := (allF_iff _).1 (d_apart a) i hi
                have h2 := HH.out
                by_cases hij : i = 0
                · subst hij; cases hy : dY a 0 <;> cases hn : dN a 0 <;> simp_all
                · simpa [hij] using h1
              refine (countM' HA _).mono ?_
              rintro e w5 ⟨rfl, hb5⟩
              have hq : open4 (dY a) (dN a) = open4 (fun i => dY a i || decide (i = 0)) (dN a) + 1 := open4_more (t := 0) (by omega) HH.out (by simp) (fun i hi hne => by simp [hne])
              have hn := HN.out
              rw [hq, Int.pow_succ] at hn
              have hpw := pow_open (fun i => dY a i || decide (i = 0)) (dN a)
              generalize (2 : Int) ^ open4 (fun i => dY a i || decide (i = 0)) (dN a) = q at *
              obtain ⟨g0, g1⟩ := hpw
              clear HN HA HH hq
              obtain rfl : n = 2 * q := by omega
              clear hn
              go_wp2
              go_ret
              refine ⟨ret_bool (by simp), Below.trans ?_ (hb5.mono ?_)⟩
              · first | exact hbel.alloc hbel.size _ | exact (hbel.alloc hbel.size _).drew | exact below_drewN (hbel.alloc hbel.size _) _ | exact ((hbel.alloc hbel.size _).setCell (by simp; exact hbel.size) _).drew
              · simp; have := hbel.size; omega
            · rw [hk] at t0
              clear hk
              go_wp2
              go_ret
              exact ⟨ret_bool (by simp), hbel⟩
          · clear t0 t2 t3
            cases hk : (dY a 1 || dN a 1)
            · rw [hk] at t1
              have HH := Lib.hid hk
              clear hk
              go_wp2
              go_region
              have HO := or_bit (dY a) 1 (by omega)
              rw [show (2 : Int) ^ 1 = 2 from by decide] at HO
              rw [HO]
              clear HO t1
              go_wp2_with fail
              have HA : Apart (fun i => dY a i || decide (i = 1)) (dN a) := by
                unfold Apart; rw [allF_iff]; intro i hi
                have h1 := (allF_iff _).1 (d_apart a) i hi
                have h2 := HH.out
                by_cases hij : i = 1
                · subst hij; cases hy : dY a 1 <;> cases hn : dN a 1 <;> simp_all
                · simpa [hij] using h1
              refine (countM' HA _).mono ?_
              rintro e w5 ⟨rfl, hb5⟩
              have hq : open4 (dY a) (dN a) = open4 (fun i => dY a i || decide (i = 1)) (dN a) + 1 := open4_more (t := 1) (by omega) HH.out (by simp) (fun i hi hne => by simp [hne])
              have hn := HN.out
              rw [hq, Int.pow_succ] at hn
              have hpw := pow_open (fun i => dY a i || decide (i = 1)) (dN a)
              generalize (2 : Int) ^ open4 (fun i => dY a i || decide (i = 1)) (dN a) = q at *
              obtain ⟨g0, g1⟩ := hpw
              clear HN HA HH hq
              obtain rfl : n = 2 * q := by omega
              clear hn
              go_wp2
              go_ret
              refine ⟨ret_bool (by simp), Below.trans ?_ (hb5.mono ?_)⟩
              · first | exact hbel.alloc hbel.size _ | exact (hbel.alloc hbel.size _).drew | exact below_drewN (hbel.alloc hbel.size _) _ | exact ((hbel.alloc hbel.size _).setCell (by simp; exact hbel.size) _).drew
              · simp; have := hbel.size; omega
            · rw [hk] at t1
              clear hk
              go_wp2
              go_ret
              exact ⟨ret_bool (by simp), hbel⟩
          · clear t0 t1 t3
            cases hk : (dY a 2 || dN a 2)
            · rw [hk] at t2
              have HH := Lib.hid hk
              clear hk
              go_wp2
              go_region
              have HO := or_bit (dY a) 2 (by omega)
              rw [show (2 : Int) ^ 2 = 4 from by decide] at HO
              rw [HO]
              clear HO t2
              go_wp2_with fail
              have HA : Apart (fun i => dY a i || decide (i = 2)) (dN a) := by
                unfold Apart; rw [allF_iff]; intro i hi
                have h1 := (allF_iff _).1 (d_apart a) i hi
                have h2 := HH.out
                by_cases hij : i = 2
                · subst hij; cases hy : dY a 2 <;> cases hn : dN a 2 <;> simp_all
                · simpa [hij] using h1
              refine (countM' HA _).mono ?_
              rintro e w5 ⟨rfl, hb5⟩
              have hq : open4 (dY a) (dN a) = open4 (fun i => dY a i || decide (i = 2)) (dN a) + 1 := open4_more (t := 2) (by omega) HH.out (by simp) (fun i hi hne => by simp [hne])
              have hn := HN.out
              rw [hq, Int.pow_succ] at hn
              have hpw := pow_open (fun i => dY a i || decide (i = 2)) (dN a)
              generalize (2 : Int) ^ open4 (fun i => dY a i || decide (i = 2)) (dN a) = q at *
              obtain ⟨g0, g1⟩ := hpw
              clear HN HA HH hq
              obtain rfl : n = 2 * q := by omega
              clear hn
              go_wp2
              go_ret
              refine ⟨ret_bool (by simp), Below.trans ?_ (hb5.mono ?_)⟩
              · first | exact hbel.alloc hbel.size _ | exact (hbel.alloc hbel.size _).drew | exact below_drewN (hbel.alloc hbel.size _) _ | exact ((hbel.alloc hbel.size _).setCell (by simp; exact hbel.size) _).drew
              · simp; have := hbel.size; omega
            · rw [hk] at t2
              clear hk
              go_wp2
              go_ret
              exact ⟨ret_bool (by simp), hbel⟩
          · clear t0 t1 t2
            cases hk : (dY a 3 || dN a 3)
            · rw [hk] at t3
              have HH := Lib.hid hk
              clear hk
              go_wp2
              go_region
              have HO := or_bit (dY a) 3 (by omega)
              rw [show (2 : Int) ^ 3 = 8 from by decide] at HO
              rw [HO]
              clear HO t3
              go_wp2_with fail
              have HA : Apart (fun i => dY a i || decide (i = 3)) (dN a) := by
                unfold Apart; rw [allF_iff]; intro i hi
                have h1 := (allF_iff _).1 (d_apart a) i hi
                have h2 := HH.out
                by_cases hij : i = 3
                · subst hij; cases hy : dY a 3 <;> cases hn : dN a 3 <;> simp_all
                · simpa [hij] using h1
              refine (countM' HA _).mono ?_
              rintro e w5 ⟨rfl, hb5⟩
              have hq : open4 (dY a) (dN a) = open4 (fun i => dY a i || decide (i = 3)) (dN a) + 1 := open4_more (t := 3) (by omega) HH.out (by simp) (fun i hi hne => by simp [hne])
              have hn := HN.out
              rw [hq, Int.pow_succ] at hn
              have hpw := pow_open (fun i => dY a i || decide (i = 3)) (dN a)
              generalize (2 : Int) ^ open4 (fun i => dY a i || decide (i = 3)) (dN a) = q at *
              obtain ⟨g0, g1⟩ := hpw
              clear HN HA HH hq
              obtain rfl : n = 2 * q := by omega
              clear hn
              go_wp2
              go_ret
              refine ⟨ret_bool (by simp), Below.trans ?_ (hb5.mono ?_)⟩
              · first | exact hbel.alloc hbel.size _ | exact (hbel.alloc hbel.size _).drew | exact below_drewN (hbel.alloc hbel.size _) _ | exact ((hbel.alloc hbel.size _).setCell (by simp; exact hbel.size) _).drew
              · simp; have := hbel.size; omega
            · rw [hk] at t3
              clear hk
              go_wp2
              go_ret
              exact ⟨ret_bool (by simp), hbel⟩
end Go.Proofs.Ytbekllgecfjljaa
