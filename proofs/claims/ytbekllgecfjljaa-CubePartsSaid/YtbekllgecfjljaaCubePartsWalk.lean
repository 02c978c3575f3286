/- CubeParts: plain laws on what cube.Less puts out, and the walk. -/
import Derived.Test.YtbekllgecfjljaaCubeHalvesWalk
namespace Go.Proofs.Ytbekllgecfjljaa
open Go.RowKit

theorem mem_pieces {Y N Y' N' : Nat → Bool} {t : Nat} {p : (Nat → Bool) × (Nat → Bool)} (h : p ∈ pieces Y N Y' N' t) : ∃ s, s < t ∧ cuts Y N Y' N' s = true ∧ p = piece Y N Y' N' s := by
  induction t with
  | zero => simp [pieces] at h
  | succ t ih =>
    simp only [pieces] at h
    split at h
    · rename_i hc
      rcases List.mem_append.1 h with h | h
      · obtain ⟨s, a, b, c⟩ := ih h; exact ⟨s, by omega, b, c⟩
      · simp at h; exact ⟨t, by omega, hc, h⟩
    · obtain ⟨s, a, b, c⟩ := ih h; exact ⟨s, by omega, b, c⟩
theorem allF_at {f : Nat → Bool} {i : Nat} (hi : i < 4) (h : f i = false) : allF f = false := by
  rw [Bool.eq_false_iff]; intro k; have := (allF_iff _).1 k i hi; rw [h] at this; simp at this
theorem piece_within (Y N Y' N' : Nat → Bool) (t : Nat) : (allF fun i => (!Y i || (piece Y N Y' N' t).1 i) && (!N i || (piece Y N Y' N' t).2 i)) = true := by
  rw [allF_iff]; intro i _; unfold piece lessY; cases hy : Y i <;> cases hn : N i <;> simp_all
theorem piece_out {Y N Y' N' : Nat → Bool} {t : Nat} (ht : t < 4) (hc : cuts Y N Y' N' t = true) : meets (piece Y N Y' N' t).1 (piece Y N Y' N' t).2 Y' N' = false := by
  unfold meets; refine allF_at ht ?_
  unfold cuts at hc; unfold piece lessY
  cases hy : Y t <;> cases hn : N t <;> cases hy' : Y' t <;> cases hn' : N' t <;> simp_all
theorem piece_apart {Y N Y' N' : Nat → Bool} {s t : Nat} (hst : s < t) (ht : t < 4) (hc : cuts Y N Y' N' s = true) : meets (piece Y N Y' N' t).1 (piece Y N Y' N' t).2 (piece Y N Y' N' s).1 (piece Y N Y' N' s).2 = false := by
  unfold meets; refine allF_at (i := s) (by omega) ?_
  unfold cuts at hc; unfold piece lessY
  cases hy : Y s <;> cases hn : N s <;> cases hy' : Y' s <;> cases hn' : N' s <;> simp_all
theorem pieces_pair {Y N Y' N' : Nat → Bool} (t : Nat) (ht : t ≤ 4) : (pieces Y N Y' N' t).Pairwise fun p q => meets q.1 q.2 p.1 p.2 = false := by
  induction t with
  | zero => simp [pieces]
  | succ t ih =>
    simp only [pieces]
    split
    · rw [List.pairwise_append]
      refine ⟨ih (by omega), by simp, fun p hp q hq => ?_⟩
      simp at hq; subst hq
      obtain ⟨s, hs, hc, rfl⟩ := mem_pieces hp
      exact piece_apart hs (by omega) hc
    · exact ih (by omega)
/-- What CubeParts asks of the cubes that are put out. -/
structure LessFacts (Y N Y' N' : Nat → Bool) (L : Cubes) : Prop where
  len : L.length ≤ 4
  ap : ∀ p ∈ L, Apart p.1 p.2
  within : ∀ p ∈ L, (allF fun i => (!Y i || p.1 i) && (!N i || p.2 i)) = true
  out : ∀ p ∈ L, meets p.1 p.2 Y' N' = false
  pair : ∀ j k, (hj : j < k) → (hk : k < L.length) → meets L[k].1 L[k].2 L[j].1 L[j].2 = false
  sum : csum L + (if meets Y N Y' N' then 2 ^ open4 (fun i => Y i || Y' i) (fun i => N i || N' i) else 0) = 2 ^ open4 Y N
theorem lessFacts {Y N Y' N' : Nat → Bool} (ha : Apart Y N) (hb : Apart Y' N') : LessFacts Y N Y' N' (lessL Y N Y' N') := by
  cases hm : meets Y N Y' N'
  · have e : lessL Y N Y' N' = [(Y, N)] := by simp [lessL, hm]
    rw [e]
    refine ⟨by simp, ?_, ?_, ?_, ?_, ?_⟩
    · intro p hp; simp at hp; subst hp; exact ha
    · intro p hp; simp at hp; subst hp; rw [allF_iff]; intro i _; cases hy : Y i <;> cases hn : N i <;> simp_all
    · intro p hp; simp at hp; subst hp; exact hm
    · intro j k hj hk; simp at hk; omega
    · rw [hm]; simp [csum]
  · have e : lessL Y N Y' N' = pieces Y N Y' N' 4 := by simp [lessL, hm]
    have hlen := pieces_length Y N Y' N' 4
    have hap := pieces_apart ha hb hm 4 (by omega)
    have hpw := pieces_pair (Y := Y) (N := N) (Y' := Y') (N' := N') 4 (by omega)
    have hsum := pieces_sum ha hm 4 (by omega)
    rw [e]
    refine ⟨hlen, hap, ?_, ?_, ?_, ?_⟩
    · intro p hp; obtain ⟨s, _, _, rfl⟩ := mem_pieces hp; exact piece_within _ _ _ _ _
    · intro p hp; obtain ⟨s, hs, hc, rfl⟩ := mem_pieces hp; exact piece_out hs hc
    · intro j k hj hk; exact (List.pairwise_iff_getElem.1 hpw) j k (by omega) hk hj
    · rw [hm, if_pos rfl, ← hsum, show open4 (lessY Y Y' 4) (lessY N N' 4) = open4 (fun i => Y i || Y' i) (fun i => N i || N' i) from open4_congr fun i hi => by simp [lessY, hi]]

set_option maxRecDepth 100000 in
set_option maxHeartbeats 8000000 in
theorem CubeParts_walk (a b : Int) (w : World) :
    Calls Try.prog 13 #[.int .i64 a, .int .i64 b] w fun e w' => e = .returned (.bool true) ∧ Below w.heap.size w w' := by
  have hbel := Below.refl w.heap.size w
  go_enter Try.func13, Try.ntmps13
  go_wp2_with fail
  (with_reducible refine (cubeCount_c 1 0 _).mono ?_)
  rintro e w1 ⟨rfl, hb⟩
  replace hbel := bstep hbel hb
  clear hb
  rw [show cubeCount 1 0 = 8 from by decide +kernel, show cubeChk 1 0 = 0 from by decide +kernel]
  go_wp2_with fail
  (with_reducible refine (oneM a _).mono ?_)
  rintro e w2 ⟨rfl, hb⟩
  replace hbel := bstep hbel hb
  clear hb
  go_wp2_with fail
  (with_reducible refine (oneM b _).mono ?_)
  rintro e w3 ⟨rfl, hb⟩
  replace hbel := bstep hbel hb
  clear hb
  have LF := Lib.hid (lessFacts (d_apart a) (d_apart b))
  have CL := Lib.hid (cubeLess_c (d_apart a) (d_apart b))
  generalize lessL (dY a) (dN a) (dY b) (dN b) = L at *
  go_wp2_with fail
  (with_reducible refine (CL.out _).mono ?_)
  rintro e w4 ⟨v, rfl, hown, hb⟩
  obtain ⟨c_x0, c_x1, c_y0, c_y1, hb'⟩ := boxes2 hb
  have sv : SpansAt w4 v (ints L) := by
    have := CellsAt.of_owns hown (by have := LF.out.len; omega)
    rw [← ints_length] at this; exact this
  replace hbel := bstep hbel hb'
  clear hb hb' hown CL
  go_wp2_with fail
  (with_reducible refine (countM' (d_apart a) _).mono ?_)
  rintro e w5 ⟨rfl, hb⟩
  replace sv := sv.below hb
  replace c_x0 := ckeep hb c_x0
  replace c_x1 := ckeep hb c_x1
  replace c_y0 := ckeep hb c_y0
  replace c_y1 := ckeep hb c_y1
  replace hbel := bstep hbel hb
  clear hb
  obtain ⟨xa, cap, rfl, hcap, hm', hl⟩ := sv.open_
  rw [ints_length] at hm' hcap ⊢
  clear sv
  have hpo := pow_open (dY a) (dN a)
  generalize hn : (2 : Int) ^ open4 (dY a) (dN a) = n at *
  have HN := Lib.hid hn
  obtain ⟨n0, n1⟩ := hpo
  clear hn
  go_wp2_with fail
  go_loopw [13, 63] (fun u i wr => ∃ k : Nat, k ≤ L.length ∧ i = .int .i64 k ∧ u = .int .i64 (csum (L.take k)) ∧ Below w5.heap.size w5 wr) (fun _ i _ => L.length - (intOf i).toNat)
  case atStart => exact ⟨0, Nat.zero_le _, rfl, rfl, Below.refl _ _⟩
  case round =>
    obtain ⟨k, hk, rfl, rfl, hbl⟩ := hrel
    obtain ⟨s0, s1⟩ := csum_bd L k
    have hL4 := LF.out.len
    have x0 := ckeep hbl c_x0
    have x1 := ckeep hbl c_x1
    have y0 := ckeep hbl c_y0
    have y1 := ckeep hbl c_y1
    by_cases hlt : k < L.length
    · rcases hl with hnil | ⟨bb, off, rfl, hb, hc⟩
      · have := congrArg List.length hnil; rw [ints_length] at this; simp at this; subst this; simp at hlt
      clear c_x0 c_x1 c_y0 c_y1
      have HC := Lib.hid (show ∀ j (hj : j < L.length) (W : World), Below w5.heap.size w5 W → W.cell? ⟨bb, off + j * 2, none⟩ = some (.int .i64 (encF L[j].1)) ∧ W.cell? ⟨bb, off + j * 2 + 1, none⟩ = some (.int .i64 (encF L[j].2)) by
        intro j hj W hW
        obtain ⟨c1, c2⟩ := hc j (by rw [ints_length]; exact hj)
        have d1 := (hW.cell (p := ⟨bb, off + j * 2, none⟩) hb).trans c1
        have d2 := (hW.cell (p := ⟨bb, off + j * 2 + 1, none⟩) hb).trans c2
        simp only [ints, List.getElem_map] at d1 d2
        exact ⟨d1, d2⟩)
      clear hc
      obtain ⟨d1, d2⟩ := HC.out k hlt wr hbl
      have HK := Lib.hid (LF.out.ap _ (List.getElem_mem hlt))
      have HW := Lib.hid (LF.out.within _ (List.getElem_mem hlt))
      have HO := Lib.hid (LF.out.out _ (List.getElem_mem hlt))
      have HP := Lib.hid (fun j (hj : j < k) => LF.out.pair j k hj hlt)
      have HPA := Lib.hid (fun j (hj : j < L.length) => LF.out.ap _ (List.getElem_mem hj))
      have HT := Lib.hid (csum_take L k hlt)
      obtain ⟨q0, q1⟩ := pow_open L[k].1 L[k].2
      generalize L[k].1 = P1 at *
      generalize L[k].2 = P2 at *
      go_wp2_with fail
      (with_reducible refine (countM' HK.out _).mono ?_)
      rintro e w6 ⟨rfl, hb6⟩
      have p0 := ckeep hb6 (cat _ _ _ 0 (.int .i64 (encF P1)) rfl _ rfl)
      have p1 := ckeep hb6 (cat _ _ _ 1 (.int .i64 (encF P2)) rfl _ rfl)
      replace hb6 := ba1 hb6
      replace x0 := ckeep hb6 x0
      replace x1 := ckeep hb6 x1
      replace y0 := ckeep hb6 y0
      replace y1 := ckeep hb6 y1
      replace hbl := bstep hbl hb6
      clear hb6 d1 d2
      generalize (2 : Int) ^ open4 P1 P2 = q at *
      go_wp2_with fail
      (with_reducible refine (withinM' HK.out (d_apart a) _).mono ?_)
      rintro e w7 ⟨rfl, hb7⟩
      rw [HW.out]
      replace p0 := ckeep hb7 p0
      replace p1 := ckeep hb7 p1
      replace y0 := ckeep hb7 y0
      replace y1 := ckeep hb7 y1
      replace hbl := bstep hbl hb7
      clear hb7 x0 x1
      go_wp2_with fail
      (with_reducible refine (meetN HK.out (d_apart b) HO.out _).mono ?_)
      rintro e w8 ⟨rfl, hb8⟩
      replace p0 := ckeep hb8 p0
      replace p1 := ckeep hb8 p1
      replace hbl := bstep hbl hb8
      clear hb8 y0 y1
      have lp := blt p0
      have hkc : (k : Int) ≤ cap := by omega
      go_wp2_with fail
      go_loopw [103] (fun i wi => ∃ j : Nat, j ≤ k ∧ i = .int .i64 j ∧ Below w8.heap.size w8 wi) (fun i _ => k - (intOf i).toNat)
      case atStart => exact ⟨0, Nat.zero_le _, rfl, bal _⟩
      case round =>
        obtain ⟨j, hj, rfl, hbi⟩ := hrel
        have r0 := ckeep hbi p0
        have r1 := ckeep hbi p1
        by_cases hjk : j < k
        · obtain ⟨d1, d2⟩ := HC.out j (by omega) wr (bstep hbl hbi)
          have HPj := Lib.hid (HP.out j hjk)
          have HAj := Lib.hid (HPA.out j (by omega))
          have lr := blt r0
          generalize L[j].1 = D1 at *
          generalize L[j].2 = D2 at *
          go_wp2_with fail
          (with_reducible refine (meetN HK.out HAj.out HPj.out _).mono ?_)
          rintro e w9 ⟨rfl, hb9⟩
          have hb10 := bstep hbi (ba1 hb9)
          clear hb9
          go_wp2
          go_roundw
          case rel => exact ⟨j + 1, by omega, by go_num, hb10.alloc hb10.size _⟩
          case measure => simp [intOf]; omega
        · obtain rfl : j = k := by omega
          go_wp2
          go_roundw
          case rel => exact ⟨j + 1, by omega, by go_num, by rw [HT.out], bstep hbl hbi⟩
          case measure => simp [intOf]; omega
    · obtain rfl : k = L.length := by omega
      rw [List.take_length] at s0 s1 ⊢
      have hs := LF.out.sum
      rw [HN.out] at hs
      replace hbel := bstep hbel hbl
      clear c_x0 c_x1 c_y0 c_y1 hbl hl hL4 hk hlt hcap hm'
      obtain ⟨s, hs'⟩ : ∃ s, s = csum L := ⟨_, rfl⟩
      rw [← hs'] at hs s0 s1 ⊢
      clear hs' LF HN
      cases hm : meets (dY a) (dN a) (dY b) (dN b)
      · rw [hm] at hs
        obtain rfl : s = n := by simpa using hs
        have HM := Lib.hid hm
        clear hm hs
        go_wp2_with fail
        (with_reducible refine (meetN (d_apart a) (d_apart b) HM.out _).mono ?_)
        rintro e w6 ⟨rfl, hb6⟩
        replace hbel := bstep hbel hb6
        clear hb6 x0 x1 y0 y1
        go_wp2
        go_ret
        exact ⟨ret_bool (by simp), hbel.alloc hbel.size _⟩
      · rw [hm, if_pos rfl] at hs
        have HA := Lib.hid (show Apart (fun i => dY a i || dY b i) (fun i => dN a i || dN b i) from hm)
        have HM := Lib.hid hm
        have hpo := pow_open (fun i => dY a i || dY b i) (fun i => dN a i || dN b i)
        clear hm
        go_wp2_with fail
        (with_reducible refine (meetY (d_apart a) (d_apart b) HM.out _).mono ?_)
        rintro e w6 ⟨rfl, hb6⟩
        replace hbel := bstep hbel hb6
        clear hb6 x0 x1 y0 y1
        go_wp2_with fail
        (with_reducible refine (countM' HA.out _).mono ?_)
        rintro e w7 ⟨rfl, hb7⟩
        replace hbel := bstep hbel (ba1 hb7)
        clear hb7
        generalize (2 : Int) ^ open4 (fun i => dY a i || dY b i) (fun i => dN a i || dN b i) = q at *
        obtain ⟨g0, g1⟩ := hpo
        obtain rfl : s = n - q := by omega
        clear hs
        go_wp2
        go_ret
        exact ⟨ret_bool (by simp), hbel⟩
end Go.Proofs.Ytbekllgecfjljaa
