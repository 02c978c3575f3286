/- What the functions of package cube do: Meet, Count; and reedkeep.Within, reedkeep.one. -/
import Derived.Test.YtcanefjjpeoikaaCube1
namespace Go.Proofs.Ytcanefjjpeoikaa
open Go.RowKit

def cubeMeetE (y n y' n' : Int) : Int := if cubeTwo y n y' n' == 0 then (if bits .and .i64 (bits .or .i64 y y') (bits .or .i64 n n') == 0 then 0 else 4) else cubeTwo y n y' n'
def cubeMeetY (y n y' n' : Int) : Int := if cubeMeetE y n y' n' == 0 then bits .or .i64 y y' else 0
def cubeMeetN (y n y' n' : Int) : Int := if cubeMeetE y n y' n' == 0 then bits .or .i64 n n' else 0

theorem boxes3 {w w1 : World} {v0 v1 v2 v3 v4 v5 : Value} {t t' t'' : TypeId} (h : Below (((w.alloc (.cells #[v0, v1] t)).alloc (.cells #[v2, v3] t')).alloc (.cells #[v4, v5] t'')).heap.size (((w.alloc (.cells #[v0, v1] t)).alloc (.cells #[v2, v3] t')).alloc (.cells #[v4, v5] t'')) w1) :
    w1.cell? ⟨w.heap.size, 0, none⟩ = some v0 ∧ w1.cell? ⟨w.heap.size, 1, none⟩ = some v1 ∧ w1.cell? ⟨w.heap.size + 1, 0, none⟩ = some v2 ∧ w1.cell? ⟨w.heap.size + 1, 1, none⟩ = some v3 ∧
    w1.cell? ⟨w.heap.size + 1 + 1, 0, none⟩ = some v4 ∧ w1.cell? ⟨w.heap.size + 1 + 1, 1, none⟩ = some v5 ∧ w1.frozen? ⟨w.heap.size + 1 + 1, 0, none⟩ = false ∧ w1.frozen? ⟨w.heap.size + 1 + 1, 1, none⟩ = false ∧
    w.heap.size + 1 + 1 < w1.heap.size ∧ Below w.heap.size w w1 :=
  ⟨ckeep h (cpast _ (cpast _ (cat _ _ _ 0 _ rfl _ rfl))), ckeep h (cpast _ (cpast _ (cat _ _ _ 1 _ rfl _ rfl))), ckeep h (cpast _ (cat _ _ _ 0 _ rfl _ (by simp))), ckeep h (cpast _ (cat _ _ _ 1 _ rfl _ (by simp))),
    ckeep h (cat _ _ _ 0 _ rfl _ (by simp)), ckeep h (cat _ _ _ 1 _ rfl _ (by simp)), by rw [(bcell h).2 _ _ (by simp)]; exact World.frozen?_alloc_at _ _ _ _ (by simp), by rw [(bcell h).2 _ _ (by simp)]; exact World.frozen?_alloc_at _ _ _ _ (by simp),
    by have := h.size; simp only [World.size_alloc] at this; omega, ba3 h⟩

theorem ret_ae {a b c d : Int} {k : IntKind} {x y : Int} (h1 : a = b) (h2 : c = d) (h : x = y) : Ending.returned (.tuple #[.agg #[.int .i64 a, .int .i64 c], .int k x]) = .returned (.tuple #[.agg #[.int .i64 b, .int .i64 d], .int k y]) := by rw [h, h1, h2]

set_option maxRecDepth 100000 in
set_option maxHeartbeats 400000 in
theorem cubeMeet_c (y n y' n' : Int) (w : World) :
    Calls Try.prog 36 #[.agg #[.int .i64 y, .int .i64 n], .agg #[.int .i64 y', .int .i64 n']] w fun e w' => e = .returned (.tuple #[.agg #[.int .i64 (cubeMeetY y n y' n'), .int .i64 (cubeMeetN y n y' n')], .int .i64 (cubeMeetE y n y' n')]) ∧ Below w.heap.size w w' := by
  go_enter Try.func36, Try.ntmps36
  go_wp2_with fail
  refine (cubeTwo_c _ _ _ _ _).mono ?_
  rintro e w1 ⟨rfl, hb1⟩
  obtain ⟨c0, c1, c2, c3, c4, c5, f4, f5, hsz, hb⟩ := boxes3 hb1
  clear hb1
  cases hc : (cubeTwo y n y' n' == 0)
  · have H := Lib.hid (show cubeMeetE y n y' n' = cubeTwo y n y' n' ∧ cubeMeetY y n y' n' = 0 ∧ cubeMeetN y n y' n' = 0 by simp only [cubeMeetY, cubeMeetN, cubeMeetE, hc]; simp [hc])
    have h' : (cubeTwo y n y' n' != 0) = true := by simp [bne, hc]
    clear hc
    go_wp2
    refine bodyPost_ret (v := .tuple #[.agg #[_, _], _]) (by simp [results, Try.results36, go_sem, *]; exact ⟨⟨rfl, rfl⟩, rfl⟩) rfl ?_
    exact ⟨ret_ae H.out.2.1.symm H.out.2.2.symm H.out.1.symm, (hb.setCell (by simp; omega) _).setCell (by simp; omega) _⟩
  · have h0 : cubeTwo y n y' n' = 0 := by simpa using hc
    rw [h0]
    clear h0
    cases ho : (bits .and .i64 (bits .or .i64 y y') (bits .or .i64 n n') == 0)
    · have H := Lib.hid (show cubeMeetE y n y' n' = 4 ∧ cubeMeetY y n y' n' = 0 ∧ cubeMeetN y n y' n' = 0 by simp only [cubeMeetY, cubeMeetN, cubeMeetE, hc, ho]; simp)
      have h' : (bits .and .i64 (bits .or .i64 y y') (bits .or .i64 n n') != 0) = true := by simp [bne, ho]
      clear hc ho
      go_wp2
      refine bodyPost_ret (v := .tuple #[.agg #[_, _], _]) (by simp [results, Try.results36, go_sem, *]; exact ⟨⟨rfl, rfl⟩, rfl⟩) rfl ?_
      exact ⟨ret_ae H.out.2.1.symm H.out.2.2.symm H.out.1.symm, ((hb.setCell (by simp; omega) _).setCell (by simp; omega) _).alloc (by simp; omega) _⟩
    · have H := Lib.hid (show cubeMeetE y n y' n' = 0 ∧ cubeMeetY y n y' n' = bits .or .i64 y y' ∧ cubeMeetN y n y' n' = bits .or .i64 n n' by simp only [cubeMeetY, cubeMeetN, cubeMeetE, hc, ho]; simp)
      have h' : (bits .and .i64 (bits .or .i64 y y') (bits .or .i64 n n') != 0) = false := by simp [bne, ho]
      clear hc ho
      go_wp2
      refine bodyPost_ret (v := .tuple #[.agg #[_, _], _]) (by simp [results, Try.results36, go_sem, *]; exact ⟨⟨rfl, rfl⟩, rfl⟩) rfl ?_
      exact ⟨ret_ae H.out.2.1.symm H.out.2.2.symm H.out.1.symm, ((hb.setCell (by simp; omega) _).setCell (by simp; omega) _).alloc (by simp; omega) _⟩

theorem within_eq (k m : Int) (hm : 1 ≤ m) (hm2 : m ≤ 9223372036854775807) : wrap64 ((IntKind.u64.wrap k).tmod m) = k % 18446744073709551616 % m := by
  rw [IntKind.wrap_u64]
  have h0 : 0 ≤ k % 18446744073709551616 := Int.emod_nonneg _ (by decide)
  rw [Int.tmod_eq_emod_of_nonneg h0]
  have h1 := Int.emod_nonneg (k % 18446744073709551616) (show m ≠ 0 by omega)
  have h2 := Int.emod_lt_of_pos (k % 18446744073709551616) (show 0 < m by omega)
  exact IntWalk.wrap64_in _ (by omega)

set_option maxRecDepth 100000 in
set_option maxHeartbeats 400000 in
theorem withinInt_c (k m : Int) (hm : 1 ≤ m) (hm2 : m ≤ 9223372036854775807) (w : World) :
    Calls Try.prog 18 #[.int .i64 k, .int .i64 m] w fun e w' => e = .returned (.int .i64 (k % 18446744073709551616 % m)) ∧ w' = w := by
  go_enter Try.func18, Try.ntmps18
  go_wp2
  go_ret
  refine ⟨ret_int (within_eq k m hm hm2), rfl⟩

/-- How many bits of a number below 16. -/
def ones (k : Int) : Int := k % 2 + k / 2 % 2 + k / 4 % 2 + k / 8 % 2

set_option maxRecDepth 100000 in
set_option maxHeartbeats 400000 in
theorem ones64_c (k : Int) (hk : 0 ≤ k) (hk2 : k ≤ 15) (w : World) :
    Calls Try.prog 88 #[.int .u64 k] w fun e w' => e = .returned (.int .i64 (ones k)) ∧ w' = w := by
  go_enter Try.func88, Try.ntmps88
  go_wp2
  have h16 : k = 0 ∨ k = 1 ∨ k = 2 ∨ k = 3 ∨ k = 4 ∨ k = 5 ∨ k = 6 ∨ k = 7 ∨ k = 8 ∨ k = 9 ∨ k = 10 ∨ k = 11 ∨ k = 12 ∨ k = 13 ∨ k = 14 ∨ k = 15 := by omega
  go_ret
  refine ⟨ret_int ?_, rfl⟩
  clear hk hk2
  rcases h16 with rfl | rfl | rfl | rfl | rfl | rfl | rfl | rfl | rfl | rfl | rfl | rfl | rfl | rfl | rfl | rfl <;> decide +kernel

set_option maxRecDepth 100000 in
set_option maxHeartbeats 400000 in
theorem ones_c (k : Int) (hk : 0 ≤ k) (hk2 : k ≤ 15) (w : World) :
    Calls Try.prog 66 #[.int .u64 k] w fun e w' => e = .returned (.int .i64 (ones k)) ∧ w' = w := by
  go_enter Try.func66, Try.ntmps66
  go_wp2_with fail
  refine (ones64_c k hk hk2 _).mono ?_
  rintro e w1 ⟨rfl, rfl⟩
  go_wp2
  go_ret
  exact ⟨rfl, rfl⟩

def cubeCount (y n : Int) : Int := if cubeChk y n == 0 then 2 ^ (4 - ones (bits .or .i64 y n)).toNat else 0

theorem or_small (y n : Int) (hy : tagsB y = true) (hn : tagsB n = true) : 0 ≤ bits .or .i64 y n ∧ bits .or .i64 y n ≤ 15 := by
  simp only [tagsB, Bool.and_eq_true, decide_eq_true_eq] at hy hn
  obtain ⟨a, rfl⟩ : ∃ a : Fin 16, y = (a.val : Int) := ⟨⟨y.toNat, by omega⟩, by simp; omega⟩
  obtain ⟨b, rfl⟩ : ∃ b : Fin 16, n = (b.val : Int) := ⟨⟨n.toNat, by omega⟩, by simp; omega⟩
  clear hy hn
  revert a b
  decide +kernel
theorem ones_small (k : Int) (hk : 0 ≤ k) (hk2 : k ≤ 15) : 0 ≤ ones k ∧ ones k ≤ 4 := by unfold ones; omega
theorem chk_tags {y n : Int} (h : cubeChk y n = 0) : tagsB y = true ∧ tagsB n = true ∧ bits .and .i64 y n = 0 := by
  unfold cubeChk at h
  cases hy : tagsB y <;> cases hn : tagsB n <;> simp [hy, hn] at h ⊢
  exact h

set_option maxRecDepth 100000 in
set_option maxHeartbeats 400000 in
theorem cubeCount_c (y n : Int) (w : World) :
    Calls Try.prog 33 #[.agg #[.int .i64 y, .int .i64 n]] w fun e w' => e = .returned (.tuple #[.int .i64 (cubeCount y n), .int .i64 (cubeChk y n)]) ∧ Below w.heap.size w w' := by
  go_enter Try.func33, Try.ntmps33
  go_wp2_with fail
  refine (cubeChk_c _ _ _).mono ?_
  rintro e w1 ⟨rfl, hb1⟩
  have c0 := ckeep hb1 (cat w _ _ 0 (.int .i64 y) rfl _ rfl)
  have c1 := ckeep hb1 (cat w _ _ 1 (.int .i64 n) rfl _ rfl)
  have hb := ba1 hb1
  clear hb1
  cases hc : (cubeChk y n == 0)
  · have H := Lib.hid (show cubeCount y n = 0 by simp only [cubeCount, hc]; simp)
    have h' : (cubeChk y n != 0) = true := by simp [bne, hc]
    clear hc
    go_wp2
    go_ret2
    exact ⟨ret_ie H.out.symm rfl, hb⟩
  · have h0 : cubeChk y n = 0 := by simpa using hc
    obtain ⟨ty, tn, -⟩ := chk_tags h0
    obtain ⟨o0, o1⟩ := or_small y n ty tn
    obtain ⟨k0, k1⟩ := ones_small _ o0 o1
    have H := Lib.hid (show cubeCount y n = 2 ^ (4 - ones (bits .or .i64 y n)).toNat ∧ cubeChk y n = 0 by refine ⟨?_, h0⟩; simp only [cubeCount, hc]; simp)
    rw [h0]
    clear h0 hc ty tn
    have HW := IntWalk.u64_in (bits .or .i64 y n) (by omega)
    have HQ := Lib.hid (show ones (bits .or .i64 y n) = 0 ∨ ones (bits .or .i64 y n) = 1 ∨ ones (bits .or .i64 y n) = 2 ∨ ones (bits .or .i64 y n) = 3 ∨ ones (bits .or .i64 y n) = 4 by omega)
    go_wp2_with fail
    refine (ones_c _ o0 o1 _).mono ?_
    rintro e w2 ⟨rfl, rfl⟩
    clear HW o0 o1
    have h := H.out
    have hq := HQ.out
    clear H HQ
    generalize ones (bits .or .i64 y n) = q at *
    rcases hq with rfl | rfl | rfl | rfl | rfl
    all_goals
      have H := Lib.hid h
      clear h k0 k1
      go_wp2
      go_ret2
      exact ⟨ret_ie H.out.1.symm H.out.2.symm, hb⟩
end Go.Proofs.Ytcanefjjpeoikaa
