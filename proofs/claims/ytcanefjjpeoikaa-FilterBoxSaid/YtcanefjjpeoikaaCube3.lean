/- What reedkeep.one does: a cube out of a number's digits to the base 4. -/
import Derived.Test.YtcanefjjpeoikaaCube2
namespace Go.Proofs.Ytcanefjjpeoikaa
open Go.RowKit

def dig (k : Int) (i : Nat) : Int := k / 2 ^ (2 * i) % 4
def oneY (k : Int) : Nat → Int
  | 0 => 0
  | i + 1 => if dig k i == 1 then bits .or .i64 (oneY k i) (2 ^ i) else oneY k i
def oneN (k : Int) : Nat → Int
  | 0 => 0
  | i + 1 => if dig k i == 2 then bits .or .i64 (oneN k i) (2 ^ i) else oneN k i

theorem and3 (x : Int) : bits .and .i64 x 3 = x % 4 := by
  have h : ∀ m : Nat, ((BitVec.ofInt 64 x &&& BitVec.ofInt 64 3).toNat : Int) = x % 4 := by
    intro _
    rw [BitVec.toNat_and, BitVec.toNat_ofInt, BitVec.toNat_ofInt]
    have e3 : ((3 : Int) % ((2 ^ 64 : Nat) : Int)).toNat = 2 ^ 2 - 1 := by decide
    rw [e3, Nat.and_two_pow_sub_one_eq_mod]
    omega
  show IntKind.i64.wrap ((BitVec.ofInt 64 x &&& BitVec.ofInt 64 3).toNat : Int) = _
  rw [h 0]
  exact IntWalk.i64_in _ (by omega)
theorem dig_cases (k : Int) (j : Nat) : dig k j = 1 ∨ dig k j = 2 ∨ (dig k j == 1) = false ∧ (dig k j == 2) = false := by
  unfold dig; simp; omega

set_option maxRecDepth 100000 in
set_option maxHeartbeats 2000000 in
theorem one_c (k : Int) (w : World) :
    Calls Try.prog 31 #[.int .i64 k] w fun e w' => e = .returned (.agg #[.int .i64 (oneY k 4), .int .i64 (oneN k 4)]) ∧ Below w.heap.size w w' := by
  have hb0 : Below w.heap.size w ((w.alloc (.cells #[.int .i64 0, .int .i64 0] 49)).alloc (.cells #[.int .i64 0, .int .i64 0] 49)) := ((Below.refl _ _).alloc (Nat.le_refl _) _).alloc (by simp) _
  have r0 := Lib.hid (cpast (w := w.alloc (.cells #[.int .i64 0, .int .i64 0] 49)) (.cells #[.int .i64 0, .int .i64 0] 49) (cat w _ _ 0 (.int .i64 0) rfl _ rfl))
  go_enter Try.func31, Try.ntmps31
  go_wp2
  go_loopw [5] (fun i wr => ∃ j : Nat, j ≤ 4 ∧ i = .int .i64 j ∧ wr.cell? ⟨w.heap.size + 1, 0, none⟩ = some (.int .i64 (oneY k j)) ∧ wr.cell? ⟨w.heap.size + 1, 1, none⟩ = some (.int .i64 (oneN k j)) ∧
      wr.frozen? ⟨w.heap.size + 1, 0, none⟩ = false ∧ wr.frozen? ⟨w.heap.size + 1, 1, none⟩ = false ∧ wr.frozen? ⟨w.heap.size, 0, none⟩ = false ∧ wr.frozen? ⟨w.heap.size, 1, none⟩ = false ∧
      wr.cell? ⟨w.heap.size, 0, none⟩ = some (.int .i64 0) ∧ wr.cell? ⟨w.heap.size, 1, none⟩ = some (.int .i64 0) ∧ Below w.heap.size w wr) (fun i _ => 4 - (intOf i).toNat)
  case atStart => exact ⟨0, by omega, rfl, cat _ _ _ 0 _ rfl _ (by simp), cat _ _ _ 1 _ rfl _ (by simp), World.frozen?_alloc_at _ _ _ _ (by simp), World.frozen?_alloc_at _ _ _ _ (by simp), by rw [World.frozen?_alloc_past _ _ _ (by simp)]; exact World.frozen?_alloc_at _ _ _ _ rfl, by rw [World.frozen?_alloc_past _ _ _ (by simp)]; exact World.frozen?_alloc_at _ _ _ _ rfl, cpast _ (cat _ _ _ 0 _ rfl _ rfl), cpast _ (cat _ _ _ 1 _ rfl _ rfl), hb0⟩
  case round =>
    obtain ⟨j, hj, rfl, c0, c1, f0, f1, f2, f3, r1, r2, hbl⟩ := hrel
    by_cases hlt : j < 4
    · have hsz := hbl.size
      have hlt0 : w.heap.size < wr.heap.size := World.block_lt_of_cell? _ _ r1
      have hlt1 : w.heap.size + 1 < wr.heap.size := World.block_lt_of_cell? _ _ c0
      have hdig : bits .and .i64 (k / 2 ^ (2 * j)) 3 = dig k j := and3 _
      have hs : dig k j = 1 → oneY k (j + 1) = bits .or .i64 (oneY k j) (2 ^ j) ∧ oneN k (j + 1) = oneN k j := fun h => by simp [oneY, oneN, h]
      have hs2 : dig k j = 2 → oneN k (j + 1) = bits .or .i64 (oneN k j) (2 ^ j) ∧ oneY k (j + 1) = oneY k j := fun h => by simp [oneY, oneN, h]
      have hs3 : (dig k j == 1) = false → (dig k j == 2) = false → oneN k (j + 1) = oneN k j ∧ oneY k (j + 1) = oneY k j := fun h h' => by simp [oneY, oneN, h, h']
      rcases dig_cases k j with hd | hd | ⟨hd, hd'⟩
      · have H := Lib.hid (hs hd)
        rw [hd] at hdig
        clear hs hs2 hs3 hd
        obtain rfl | rfl | rfl | rfl : j = 0 ∨ j = 1 ∨ j = 2 ∨ j = 3 := by omega
        · simp only [Nat.mul_zero, Nat.mul_one, Nat.reduceMul, Int.pow_zero, Int.reducePow, Int.ediv_one] at hdig
          go_wp2
          go_region
          go_wp2
          go_roundw
          case rel => exact ⟨1, by omega, rfl, (World.cell?_setCell_same _ _ _ c0).trans (by rw [H.out.1]; rfl), (World.cell?_setCell_other _ _ _ _ (by simp)).trans (by rw [H.out.2]; exact c1), (World.frozen?_setCell _ _ _ _).trans f0, (World.frozen?_setCell _ _ _ _).trans f1, (World.frozen?_setCell _ _ _ _).trans f2, (World.frozen?_setCell _ _ _ _).trans f3, (World.cell?_setCell_other _ _ _ _ (by simp)).trans r1, (World.cell?_setCell_other _ _ _ _ (by simp)).trans r2, (hbl.setCell (by simp) _).drew⟩
          case measure => simp [intOf]
        · simp only [Nat.mul_zero, Nat.mul_one, Nat.reduceMul, Int.pow_zero, Int.reducePow, Int.ediv_one] at hdig
          go_wp2
          go_region
          go_wp2
          go_roundw
          case rel => exact ⟨2, by omega, rfl, (World.cell?_setCell_same _ _ _ c0).trans (by rw [H.out.1]; rfl), (World.cell?_setCell_other _ _ _ _ (by simp)).trans (by rw [H.out.2]; exact c1), (World.frozen?_setCell _ _ _ _).trans f0, (World.frozen?_setCell _ _ _ _).trans f1, (World.frozen?_setCell _ _ _ _).trans f2, (World.frozen?_setCell _ _ _ _).trans f3, (World.cell?_setCell_other _ _ _ _ (by simp)).trans r1, (World.cell?_setCell_other _ _ _ _ (by simp)).trans r2, (hbl.setCell (by simp) _).drew⟩
          case measure => simp [intOf]
        · simp only [Nat.mul_zero, Nat.mul_one, Nat.reduceMul, Int.pow_zero, Int.reducePow, Int.ediv_one] at hdig
          go_wp2
          go_region
          go_wp2
          go_roundw
          case rel => exact ⟨3, by omega, rfl, (World.cell?_setCell_same _ _ _ c0).trans (by rw [H.out.1]; rfl), (World.cell?_setCell_other _ _ _ _ (by simp)).trans (by rw [H.out.2]; exact c1), (World.frozen?_setCell _ _ _ _).trans f0, (World.frozen?_setCell _ _ _ _).trans f1, (World.frozen?_setCell _ _ _ _).trans f2, (World.frozen?_setCell _ _ _ _).trans f3, (World.cell?_setCell_other _ _ _ _ (by simp)).trans r1, (World.cell?_setCell_other _ _ _ _ (by simp)).trans r2, (hbl.setCell (by simp) _).drew⟩
          case measure => simp [intOf]
        · simp only [Nat.mul_zero, Nat.mul_one, Nat.reduceMul, Int.pow_zero, Int.reducePow, Int.ediv_one] at hdig
          go_wp2
          go_region
          go_wp2
          go_roundw
          case rel => exact ⟨4, by omega, rfl, (World.cell?_setCell_same _ _ _ c0).trans (by rw [H.out.1]; rfl), (World.cell?_setCell_other _ _ _ _ (by simp)).trans (by rw [H.out.2]; exact c1), (World.frozen?_setCell _ _ _ _).trans f0, (World.frozen?_setCell _ _ _ _).trans f1, (World.frozen?_setCell _ _ _ _).trans f2, (World.frozen?_setCell _ _ _ _).trans f3, (World.cell?_setCell_other _ _ _ _ (by simp)).trans r1, (World.cell?_setCell_other _ _ _ _ (by simp)).trans r2, (hbl.setCell (by simp) _).drew⟩
          case measure => simp [intOf]
      · have H := Lib.hid (hs2 hd)
        rw [hd] at hdig
        clear hs hs2 hs3 hd
        obtain rfl | rfl | rfl | rfl : j = 0 ∨ j = 1 ∨ j = 2 ∨ j = 3 := by omega
        · simp only [Nat.mul_zero, Nat.mul_one, Nat.reduceMul, Int.pow_zero, Int.reducePow, Int.ediv_one] at hdig
          go_wp2
          go_region
          go_wp2
          go_roundw
          case rel => exact ⟨1, by omega, rfl, (World.cell?_setCell_other _ _ _ _ (by simp)).trans (by rw [H.out.2]; exact c0), (World.cell?_setCell_same _ _ _ c1).trans (by rw [H.out.1]; rfl), (World.frozen?_setCell _ _ _ _).trans f0, (World.frozen?_setCell _ _ _ _).trans f1, (World.frozen?_setCell _ _ _ _).trans f2, (World.frozen?_setCell _ _ _ _).trans f3, (World.cell?_setCell_other _ _ _ _ (by simp)).trans r1, (World.cell?_setCell_other _ _ _ _ (by simp)).trans r2, (hbl.setCell (by simp) _).drew⟩
          case measure => simp [intOf]
        · simp only [Nat.mul_zero, Nat.mul_one, Nat.reduceMul, Int.pow_zero, Int.reducePow, Int.ediv_one] at hdig
          go_wp2
          go_region
          go_wp2
          go_roundw
          case rel => exact ⟨2, by omega, rfl, (World.cell?_setCell_other _ _ _ _ (by simp)).trans (by rw [H.out.2]; exact c0), (World.cell?_setCell_same _ _ _ c1).trans (by rw [H.out.1]; rfl), (World.frozen?_setCell _ _ _ _).trans f0, (World.frozen?_setCell _ _ _ _).trans f1, (World.frozen?_setCell _ _ _ _).trans f2, (World.frozen?_setCell _ _ _ _).trans f3, (World.cell?_setCell_other _ _ _ _ (by simp)).trans r1, (World.cell?_setCell_other _ _ _ _ (by simp)).trans r2, (hbl.setCell (by simp) _).drew⟩
          case measure => simp [intOf]
        · simp only [Nat.mul_zero, Nat.mul_one, Nat.reduceMul, Int.pow_zero, Int.reducePow, Int.ediv_one] at hdig
          go_wp2
          go_region
          go_wp2
          go_roundw
          case rel => exact ⟨3, by omega, rfl, (World.cell?_setCell_other _ _ _ _ (by simp)).trans (by rw [H.out.2]; exact c0), (World.cell?_setCell_same _ _ _ c1).trans (by rw [H.out.1]; rfl), (World.frozen?_setCell _ _ _ _).trans f0, (World.frozen?_setCell _ _ _ _).trans f1, (World.frozen?_setCell _ _ _ _).trans f2, (World.frozen?_setCell _ _ _ _).trans f3, (World.cell?_setCell_other _ _ _ _ (by simp)).trans r1, (World.cell?_setCell_other _ _ _ _ (by simp)).trans r2, (hbl.setCell (by simp) _).drew⟩
          case measure => simp [intOf]
        · simp only [Nat.mul_zero, Nat.mul_one, Nat.reduceMul, Int.pow_zero, Int.reducePow, Int.ediv_one] at hdig
          go_wp2
          go_region
          go_wp2
          go_roundw
          case rel => exact ⟨4, by omega, rfl, (World.cell?_setCell_other _ _ _ _ (by simp)).trans (by rw [H.out.2]; exact c0), (World.cell?_setCell_same _ _ _ c1).trans (by rw [H.out.1]; rfl), (World.frozen?_setCell _ _ _ _).trans f0, (World.frozen?_setCell _ _ _ _).trans f1, (World.frozen?_setCell _ _ _ _).trans f2, (World.frozen?_setCell _ _ _ _).trans f3, (World.cell?_setCell_other _ _ _ _ (by simp)).trans r1, (World.cell?_setCell_other _ _ _ _ (by simp)).trans r2, (hbl.setCell (by simp) _).drew⟩
          case measure => simp [intOf]
      · have H := Lib.hid (hs3 hd hd')
        have hd1 := hd
        have hd2 := hd'
        rw [← hdig] at hd1 hd2
        clear hs hs2 hs3 hd hd' hdig
        obtain rfl | rfl | rfl | rfl : j = 0 ∨ j = 1 ∨ j = 2 ∨ j = 3 := by omega
        · simp only [Nat.mul_zero, Nat.mul_one, Nat.reduceMul, Int.pow_zero, Int.reducePow, Int.ediv_one] at hd1 hd2
          go_wp2
          go_roundw
          case rel => exact ⟨1, by omega, rfl, by rw [H.out.2]; exact c0, by rw [H.out.1]; exact c1, f0, f1, f2, f3, r1, r2, hbl⟩
          case measure => simp [intOf]
        · simp only [Nat.mul_zero, Nat.mul_one, Nat.reduceMul, Int.pow_zero, Int.reducePow, Int.ediv_one] at hd1 hd2
          go_wp2
          go_roundw
          case rel => exact ⟨2, by omega, rfl, by rw [H.out.2]; exact c0, by rw [H.out.1]; exact c1, f0, f1, f2, f3, r1, r2, hbl⟩
          case measure => simp [intOf]
        · simp only [Nat.mul_zero, Nat.mul_one, Nat.reduceMul, Int.pow_zero, Int.reducePow, Int.ediv_one] at hd1 hd2
          go_wp2
          go_roundw
          case rel => exact ⟨3, by omega, rfl, by rw [H.out.2]; exact c0, by rw [H.out.1]; exact c1, f0, f1, f2, f3, r1, r2, hbl⟩
          case measure => simp [intOf]
        · simp only [Nat.mul_zero, Nat.mul_one, Nat.reduceMul, Int.pow_zero, Int.reducePow, Int.ediv_one] at hd1 hd2
          go_wp2
          go_roundw
          case rel => exact ⟨4, by omega, rfl, by rw [H.out.2]; exact c0, by rw [H.out.1]; exact c1, f0, f1, f2, f3, r1, r2, hbl⟩
          case measure => simp [intOf]
    · obtain rfl : j = 4 := by omega
      go_wp2
      refine bodyPost_ret (v := .agg #[_, _]) (by simp [results, Try.results31, go_sem, *]; exact ⟨rfl, rfl⟩) rfl ?_
      exact ⟨rfl, (hbl.setCell (by simp) _).setCell (by simp) _⟩
end Go.Proofs.Ytcanefjjpeoikaa
