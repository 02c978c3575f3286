/- WireSums: the walk. -/
import Derived.Test.YtbekllgecfjljaaWireSum
namespace Go.Proofs.Ytbekllgecfjljaa
open Go.RowKit

set_option maxRecDepth 100000 in
set_option maxHeartbeats 2000000 in
theorem WireSums_walk (s0 : ByteArray) (i : Int) (hs0 : s0.size ≤ 140737488355328) (w : World) :
    Calls Try.prog 3 #[.string s0, .int .i64 i] w fun e w' => e = .returned (.bool true) ∧ Below w.heap.size w w' := by
  have hmin : min s0.size 5000 ≤ s0.size := Nat.min_le_left _ _
  go_enter Try.func3, Try.ntmps3
  go_wp2_with fail
  (with_reducible refine (sum_c _ (by decide) _).mono ?_)
  rintro e w1 ⟨rfl, rfl⟩
  rw [show sumOf ⟨#[]⟩ = 0 from by decide +kernel]
  go_wp2_with fail
  (with_reducible refine (sum_c _ (by decide) _).mono ?_)
  rintro e w1 ⟨rfl, rfl⟩
  rw [show sumOf ⟨#[1, 1]⟩ = 3 from by decide +kernel]
  go_wp2_with fail
  · obtain ⟨t, ht, hle⟩ : ∃ t : ByteArray, t = s0.extract 0 5000 ∧ t.size ≤ 5000 := ⟨_, rfl, by simp; omega⟩
    rw [← ht]
    clear ht
    have z2 : (t ++ (⟨#[0, 0]⟩ : ByteArray)).size ≤ 140737488355328 := by rw [ByteArray.size_append]; show t.size + _ ≤ _; simp only [ByteArray.size, List.size_toArray, List.length_cons, List.length_nil]; simp only [ByteArray.size] at hle; omega
    have z1 : (t ++ (⟨#[1]⟩ : ByteArray)).size ≤ 140737488355328 := by rw [ByteArray.size_append]; show t.size + _ ≤ _; simp only [ByteArray.size, List.size_toArray, List.length_cons, List.length_nil]; simp only [ByteArray.size] at hle; omega
    (with_reducible refine (sum_c _ z2 _).mono ?_)
    rintro e w1 ⟨rfl, rfl⟩
    rw [sum_zeros]
    go_wp2_with fail
    (with_reducible refine (sum_c _ (Nat.le_trans hle (by decide)) _).mono ?_)
    rintro e w1 ⟨rfl, rfl⟩
    go_wp2_with fail
    (with_reducible refine (sum_c _ z1 _).mono ?_)
    rintro e w1 ⟨rfl, rfl⟩
    rw [sum_one]
    go_wp2_with fail
    (with_reducible refine (sum_c _ (Nat.le_trans hle (by decide)) _).mono ?_)
    rintro e w1 ⟨rfl, rfl⟩
    have hbd := sumOf_bd t
    obtain ⟨b0, b1⟩ := hbd
    clear z1 z2
    by_cases h2 : t.size < 2
    · go_wp2
      go_ret
      exact ⟨rfl, Below.refl _ _⟩
    have h1 : (1 : Int) ≤ (t.size : Int) - 1 := by omega
    go_wp2_with fail
    (with_reducible refine (withinInt_c i _ h1 (by omega) _).mono ?_)
    rintro e w1 ⟨rfl, rfl⟩
    obtain ⟨m, hm4, hm⟩ : ∃ m : Nat, m + 1 < t.size ∧ i % 18446744073709551616 % ((t.size : Int) - 1) = m := by
      have q0 := Int.emod_nonneg (i % 18446744073709551616) (show (t.size : Int) - 1 ≠ 0 by omega)
      have q1 := Int.emod_lt_of_pos (i % 18446744073709551616) (show 0 < (t.size : Int) - 1 by omega)
      exact ⟨(i % 18446744073709551616 % ((t.size : Int) - 1)).toNat, by omega, by omega⟩
    rw [hm]
    clear hm
    have hw1 := IntWalk.i64_in ((m : Int) + 1) (by omega)
    have hw2 := IntWalk.i64_in ((m : Int) + 2) (by omega)
    have ht1 : ((m : Int) + 1).toNat = m + 1 := by omega
    have ht2 : ((m : Int) + 2).toNat = m + 2 := by omega
    have hc1 : (m : Int) + 1 < t.size := by omega
    have hc2 : (m : Int) + 2 ≤ t.size := by omega
    have hc3 : m + 2 ≤ t.size := by omega
    have hc4 : (0 : Int) ≤ (m : Int) + 1 := by omega
    have hc5 : (0 : Int) ≤ (m : Int) + 2 := by omega
    go_wp2
    go_quiet (fail)
    go_wp2
    have key := swap_key t m hm4
    have hus := swap_size t m hc3
    generalize t.extract 0 m ++ t.extract (m + 1) (m + 2) ++ t.extract m (m + 1) ++ t.extract (m + 2) t.size = u at *
    have hu : u.size ≤ 140737488355328 := by omega
    have htt : t.size ≤ 140737488355328 := by omega
    have KEY := Lib.hid key
    clear key hus hw2 ht2
    have hm0 : m < t.size := by omega
    have hm1 : (m : Int) < t.size := by omega
    have hb2 := below_drewN (Below.refl w1.heap.size w1) nq
    generalize w1.drewN nq = w2 at *
    go_quiet ((go_at_call 15; exact Calls.quiet_of_same (sum_c _ (by assumption) _)))
    go_wp2
    go_ret
    exact ⟨ret_bool (by rw [KEY.out]; simp), below_drewN hb2 _⟩
  · obtain ⟨t, ht, hle⟩ : ∃ t : ByteArray, t = s0 ∧ t.size ≤ 5000 := ⟨_, rfl, by omega⟩
    rw [← ht]
    clear ht
    have z2 : (t ++ (⟨#[0, 0]⟩ : ByteArray)).size ≤ 140737488355328 := by rw [ByteArray.size_append]; show t.size + _ ≤ _; simp only [ByteArray.size, List.size_toArray, List.length_cons, List.length_nil]; simp only [ByteArray.size] at hle; omega
    have z1 : (t ++ (⟨#[1]⟩ : ByteArray)).size ≤ 140737488355328 := by rw [ByteArray.size_append]; show t.size + _ ≤ _; simp only [ByteArray.size, List.size_toArray, List.length_cons, List.length_nil]; simp only [ByteArray.size] at hle; omega
    (with_reducible refine (sum_c _ z2 _).mono ?_)
    rintro e w1 ⟨rfl, rfl⟩
    rw [sum_zeros]
    go_wp2_with fail
    (with_reducible refine (sum_c _ (Nat.le_trans hle (by decide)) _).mono ?_)
    rintro e w1 ⟨rfl, rfl⟩
    go_wp2_with fail
    (with_reducible refine (sum_c _ z1 _).mono ?_)
    rintro e w1 ⟨rfl, rfl⟩
    rw [sum_one]
    go_wp2_with fail
    (with_reducible refine (sum_c _ (Nat.le_trans hle (by decide)) _).mono ?_)
    rintro e w1 ⟨rfl, rfl⟩
    have hbd := sumOf_bd t
    obtain ⟨b0, b1⟩ := hbd
    clear z1 z2
    by_cases h2 : t.size < 2
    · go_wp2
      go_ret
      exact ⟨rfl, Below.refl _ _⟩
    have h1 : (1 : Int) ≤ (t.size : Int) - 1 := by omega
    go_wp2_with fail
    (with_reducible refine (withinInt_c i _ h1 (by omega) _).mono ?_)
    rintro e w1 ⟨rfl, rfl⟩
    obtain ⟨m, hm4, hm⟩ : ∃ m : Nat, m + 1 < t.size ∧ i % 18446744073709551616 % ((t.size : Int) - 1) = m := by
      have q0 := Int.emod_nonneg (i % 18446744073709551616) (show (t.size : Int) - 1 ≠ 0 by omega)
      have q1 := Int.emod_lt_of_pos (i % 18446744073709551616) (show 0 < (t.size : Int) - 1 by omega)
      exact ⟨(i % 18446744073709551616 % ((t.size : Int) - 1)).toNat, by omega, by omega⟩
    rw [hm]
    clear hm
    have hw1 := IntWalk.i64_in ((m : Int) + 1) (by omega)
    have hw2 := IntWalk.i64_in ((m : Int) + 2) (by omega)
    have ht1 : ((m : Int) + 1).toNat = m + 1 := by omega
    have ht2 : ((m : Int) + 2).toNat = m + 2 := by omega
    have hc1 : (m : Int) + 1 < t.size := by omega
    have hc2 : (m : Int) + 2 ≤ t.size := by omega
    have hc3 : m + 2 ≤ t.size := by omega
    have hc4 : (0 : Int) ≤ (m : Int) + 1 := by omega
    have hc5 : (0 : Int) ≤ (m : Int) + 2 := by omega
    go_wp2
    go_quiet (fail)
    go_wp2
    have key := swap_key t m hm4
    have hus := swap_size t m hc3
    generalize t.extract 0 m ++ t.extract (m + 1) (m + 2) ++ t.extract m (m + 1) ++ t.extract (m + 2) t.size = u at *
    have hu : u.size ≤ 140737488355328 := by omega
    have htt : t.size ≤ 140737488355328 := by omega
    have KEY := Lib.hid key
    clear key hus hw2 ht2
    have hm0 : m < t.size := by omega
    have hm1 : (m : Int) < t.size := by omega
    have hb2 := below_drewN (Below.refl w1.heap.size w1) nq
    generalize w1.drewN nq = w2 at *
    go_quiet ((go_at_call 15; exact Calls.quiet_of_same (sum_c _ (by assumption) _)))
    go_wp2
    go_ret
    exact ⟨ret_bool (by rw [KEY.out]; simp), below_drewN hb2 _⟩
end Go.Proofs.Ytbekllgecfjljaa
