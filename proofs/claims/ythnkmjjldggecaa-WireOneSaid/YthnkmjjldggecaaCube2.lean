/- What the functions of package cube do: Meet, Count; and reedkeep.Within, reedkeep.one. -/
import Derived.Test.YthnkmjjldggecaaMForm
namespace Go.Proofs.Ythnkmjjldggecaa
open Go.RowKit

def cubeMeetE (y n y' n' : Int) : Int := if cubeTwo y n y' n' == 0 then (if bits .and .i64 (bits .or .i64 y y') (bits .or .i64 n n') == 0 then 0 else 4) else cubeTwo y n y' n'
def cubeMeetY (y n y' n' : Int) : Int := if cubeMeetE y n y' n' == 0 then bits .or .i64 y y' else 0
def cubeMeetN (y n y' n' : Int) : Int := if cubeMeetE y n y' n' == 0 then bits .or .i64 n n' else 0

theorem boxes3 {w w1 : World} {v0 v1 v2 v3 v4 v5 : Value} {t t' t'' : TypeId} (h : Below (((w.alloc (.cells #[v0, v1] t)).alloc (.cells #[v2, v3] t')).alloc (.cells #[v4, v5] t'')).heap.size (((w.alloc (.cells #[v0, v1] t)).alloc (.cells #[v2, v3] t')).alloc (.cells #[v4, v5] t'')) w1) :
    w1.cell? ⟨w.heap.size, 0, none⟩ = some v0 ∧ w1.cell? ⟨w.heap.size, 1, none⟩ = some v1 ∧ w1.cell? ⟨w.heap.size + 1, 0, none⟩ = some v2 ∧ w1.cell? ⟨w.heap.size + 1, 1, none⟩ = some v3 ∧
    w1.cell? ⟨w.heap.size + 1 + 1, 0, none⟩ = some v4 ∧ w1.cell? ⟨w.heap.size + 1 + 1, 1, none⟩ = some v5 ∧ w1.frozen? ⟨w.heap.size + 1 + 1, 0, none⟩ = false ∧ w1.frozen? ⟨w.heap.size + 1 + 1, 1, none⟩ = false ∧
    w.heap.size + 1 + 1 < w1.heap.size ∧ Below w.heap.size w w1 :=
  ⟨ckeep h (cpast _ (cpast _ (cat _ _ _ 0 _ rfl _ rfl))), ckeep h (cpast _ (cpast _ (cat _ _ _ 1 _ rfl _ rfl))), ckeep h (cpast _ (cat _ _ _ 0 _ rfl _ (by simp))), ckeep h (cpast _ (cat _ _ _ 1 _ rfl _ (by simp))),
    ckeep h (cat _ _ _ 0 _ rfl _ (by simp)), ckeep h (cat _ _ _ 1 _ rfl _ (by simp)), by rw [(bcell h).2 _ _ (by simp)]; exact World.frozen?_alloc_at _ _ _ _ (by simp), by rw [(bcell h).2 _ _ (by simp)]; exact World.frozen?_alloc_at _ _ _ _ (by simp),
    by have := h.size; simp only [World.size_alloc] at this; omega, ba3 h⟩

theorem ret_ae {a b c d : Int} {k : IntKind} {x y : Int} (h1 : a = b) (h2 : c = d) (h : x = y) : Ending.returned (.tuple #[.agg #[.int .i64 a, .int .i64 c], .int k x]) = .returned (.tuple #[.agg #[.int .i64 b, .int .i64 d], .int k y]) := by rw [h, h1, h2]

theorem within_eq (k m : Int) (hm : 1 ≤ m) (hm2 : m ≤ 9223372036854775807) : wrap64 ((IntKind.u64.wrap k).tmod m) = k % 18446744073709551616 % m := by
  rw [IntKind.wrap_u64]
  have h0 : 0 ≤ k % 18446744073709551616 := Int.emod_nonneg _ (by decide)
  rw [Int.tmod_eq_emod_of_nonneg h0]
  have h1 := Int.emod_nonneg (k % 18446744073709551616) (show m ≠ 0 by omega)
  have h2 := Int.emod_lt_of_pos (k % 18446744073709551616) (show 0 < m by omega)
  exact IntWalk.wrap64_in _ (by omega)

set_option maxRecDepth 100000 in
set_option maxHeartbeats 400000 in
theorem withinInt_c (k m : Int) (hm : 1 ≤ m) (hm2 : m ≤ 9223372036854775807) (w : World) :
    Calls Try.prog 37 #[.int .i64 k, .int .i64 m] w fun e w' => e = .returned (.int .i64 (k % 18446744073709551616 % m)) ∧ w' = w := by
  go_enter Try.func37, Try.ntmps37
  go_wp2
  go_ret
  refine ⟨ret_int (within_eq k m hm hm2), rfl⟩

/-- How many bits of a number below 16. -/
def ones (k : Int) : Int := k % 2 + k / 2 % 2 + k / 4 % 2 + k / 8 % 2

def cubeCount (y n : Int) : Int := if cubeChk y n == 0 then 2 ^ (4 - ones (bits .or .i64 y n)).toNat else 0

theorem or_small (y n : Int) (hy : tagsB y = true) (hn : tagsB n = true) : 0 ≤ bits .or .i64 y n ∧ bits .or .i64 y n ≤ 15 := by
  simp only [tagsB, Bool.and_eq_true, decide_eq_true_eq] at hy hn
  obtain ⟨a, rfl⟩ : ∃ a : Fin 16, y = (a.val : Int) := ⟨⟨y.toNat, by omega⟩, by simp; omega⟩
  obtain ⟨b, rfl⟩ : ∃ b : Fin 16, n = (b.val : Int) := ⟨⟨n.toNat, by omega⟩, by simp; omega⟩
  clear hy hn
  revert a b
  decide +kernel
theorem ones_small (k : Int) (hk : 0 ≤ k) (hk2 : k ≤ 15) : 0 ≤ ones k ∧ ones k ≤ 4 := by unfold ones; omega
theorem chk_tags {y n : Int} (h : cubeChk y n = 0) : tagsB y = true ∧ tagsB n = true ∧ bits .and .i64 y n = 0 := by
  unfold cubeChk at h
  cases hy : tagsB y <;> cases hn : tagsB n <;> simp [hy, hn] at h ⊢
  exact h

end Go.Proofs.Ythnkmjjldggecaa
