/- What wire.Sum does to a text. -/
import Derived.Test.YtbekllgecfjljaaCube2
namespace Go.Proofs.Ytbekllgecfjljaa
open Go.RowKit

/-- The sum of the first k bytes of a text, each by its place. -/
def wsum (l : List UInt8) : Nat → Int
  | 0 => 0
  | k + 1 => (wsum l k + ((k : Int) + 1) * ((l[k]?.getD 0).toNat : Int)) % 65521
theorem wsum_bd (l : List UInt8) (k : Nat) : 0 ≤ wsum l k ∧ wsum l k < 65521 := by
  cases k with
  | zero => simp [wsum]
  | succ k => simp only [wsum]; omega
def sumOf (s : ByteArray) : Int := wsum s.data.toList s.size

theorem byte_get (s : ByteArray) (k : Nat) (h : k < s.size) : s.data.toList[k]?.getD 0 = s[k] := by
  have : k < s.data.toList.length := by simpa using h
  rw [List.getElem?_eq_getElem this]; rfl

set_option maxHeartbeats 1000000 in
theorem sum_c (s : ByteArray) (hs : s.size ≤ 140737488355328) (w : World) :
    Calls Try.prog 15 #[.string s] w fun e w' => e = .returned (.int .i64 (sumOf s)) ∧ w' = w := by
  go_enter Try.func15, Try.ntmps15
  go_wp2
  go_loop [3, 7] (fun n i => ∃ k : Nat, k ≤ s.size ∧ i = .int .i64 k ∧ n = .int .i64 (wsum s.data.toList k)) (fun _ i => s.size - (intOf i).toNat)
  case atStart => exact ⟨0, Nat.zero_le _, rfl, rfl⟩
  case round =>
    obtain ⟨k, hk, rfl, rfl⟩ := hrel
    have hbd := wsum_bd s.data.toList k
    obtain ⟨b0, b1⟩ := hbd
    by_cases hlt : k < s.size
    · have hstep : wsum s.data.toList (k + 1) = (wsum s.data.toList k + ((k : Int) + 1) * (s[k].toNat : Int)) % 65521 := by
        simp only [wsum, byte_get s k hlt]
      have HS := Lib.hid hstep
      clear hstep
      have hc : (s[k].toNat : Int) ≤ 255 := by have := s[k].toNat_lt; omega
      have hm0 : 0 ≤ ((k : Int) + 1) * (s[k].toNat : Int) := Int.mul_nonneg (by omega) (by omega)
      have hm1 : ((k : Int) + 1) * (s[k].toNat : Int) ≤ 140737488355328 * 255 := Int.mul_le_mul (by omega) hc (by omega) (by omega)
      go_wp2
      go_round
      case rel => exact ⟨k + 1, by omega, by go_num, by rw [HS.out]⟩
      case measure => simp [intOf]; omega
    · go_wp2
      go_ret
      obtain rfl : k = s.size := by omega
      exact ⟨rfl, rfl⟩

/-- The sum without the remainders, of bytes that stand behind off others. -/
def rs (off : Int) : List UInt8 → Int
  | [] => 0
  | c :: l => (off + 1) * (c.toNat : Int) + rs (off + 1) l
theorem rs_append (off : Int) (l m : List UInt8) : rs off (l ++ m) = rs off l + rs (off + l.length) m := by
  induction l generalizing off with
  | nil => simp [rs]
  | cons c l ih => simp only [List.cons_append, rs, ih, List.length_cons]; rw [show off + 1 + (l.length : Int) = off + ((l.length + 1 : Nat) : Int) from by omega]; omega
theorem wsum_rs (l : List UInt8) (k : Nat) (hk : k ≤ l.length) : wsum l k = rs 0 (l.take k) % 65521 := by
  induction k with
  | zero => simp [wsum, rs]
  | succ k ih =>
    have hlt : k < l.length := by omega
    have hl : (l.take k).length = k := by simp; omega
    rw [List.take_succ_eq_append_getElem hlt, rs_append, hl]
    simp only [wsum, ih (by omega), rs, List.getElem?_eq_getElem hlt, Option.getD_some]
    rw [show (0 : Int) + (k : Int) + 1 = (k : Int) + 1 from by omega]
    generalize ((k : Int) + 1) * (l[k].toNat : Int) = x
    omega
theorem sumOf_rs (s : ByteArray) : sumOf s = rs 0 s.data.toList % 65521 := by
  have h := wsum_rs s.data.toList s.size (by simp)
  rw [show s.data.toList.take s.size = s.data.toList from List.take_of_length_le (by simp)] at h
  exact h
theorem sumOf_bd (s : ByteArray) : 0 ≤ sumOf s ∧ sumOf s < 65521 := wsum_bd _ _
theorem sum_zeros (s : ByteArray) : sumOf (s ++ ⟨#[0, 0]⟩) = sumOf s := by
  rw [sumOf_rs, sumOf_rs]
  have e : (s ++ (⟨#[0, 0]⟩ : ByteArray)).data.toList = s.data.toList ++ [0, 0] := by simp
  rw [e, rs_append]; simp [rs]
theorem sum_one (s : ByteArray) : sumOf (s ++ ⟨#[1]⟩) = (sumOf s + (s.size : Int) + 1) % 65521 := by
  rw [sumOf_rs, sumOf_rs]
  have e : (s ++ (⟨#[1]⟩ : ByteArray)).data.toList = s.data.toList ++ [1] := by simp
  have hl : s.data.toList.length = s.size := by simp
  rw [e, rs_append, hl]; simp only [rs]
  have : ((1 : UInt8).toNat : Int) = 1 := rfl
  rw [this]; omega
theorem sum_swap (p q : List UInt8) (a b : UInt8) : (rs 0 (p ++ b :: a :: q) % 65521 = rs 0 (p ++ a :: b :: q) % 65521) ↔ a = b := by
  rw [rs_append, rs_append]; simp only [rs]
  have ha := a.toNat_lt; have hb := b.toNat_lt
  constructor
  · intro h
    have e : ((0 : Int) + p.length + 1) * (b.toNat : Int) + (((0 : Int) + p.length + 1 + 1) * (a.toNat : Int) + rs (0 + p.length + 1 + 1) q) = (((0 : Int) + p.length + 1) * (a.toNat : Int) + (((0 : Int) + p.length + 1 + 1) * (b.toNat : Int) + rs (0 + p.length + 1 + 1) q)) + ((a.toNat : Int) - b.toNat) := by
      simp only [Int.add_mul]; omega
    rw [e] at h
    have : (a.toNat : Int) = b.toNat := by omega
    exact UInt8.toNat_inj.1 (by omega)
  · rintro rfl; rfl

theorem quiet_add_same {P : Program} {f : FuncId} {args : Array Value} {w : World} {a n : Nat} {v : Value}
    (h : Calls P f args (w.drewN (a + n)) fun e w' => e = .returned v ∧ w' = w.drewN (a + n)) :
    Calls P f args (w.drewN (a + n)) fun e w'' => e = .returned v ∧ ∃ m, w'' = w.drewN (a + m) :=
  h.mono fun _ _ ⟨he, hm⟩ => ⟨he, n, hm⟩

theorem swap_size (t : ByteArray) (m : Nat) (hm : m + 2 ≤ t.size) : (t.extract 0 m ++ t.extract (m + 1) (m + 2) ++ t.extract m (m + 1) ++ t.extract (m + 2) t.size).size = t.size := by
  simp only [ByteArray.size_append, ByteArray.size_extract]; omega
theorem swap_key (t : ByteArray) (m : Nat) (hm : m + 1 < t.size) :
    (sumOf (t.extract 0 m ++ t.extract (m + 1) (m + 2) ++ t.extract m (m + 1) ++ t.extract (m + 2) t.size) == sumOf t) = ((t[m].toNat : Int) == (t[m + 1].toNat : Int)) := by
  have hl : t.data.toList.length = t.size := by simp
  have e0 : t.data.toList = t.data.toList.take m ++ t[m] :: t[m + 1] :: t.data.toList.drop (m + 2) := by
    have a1 : t.data.toList.drop m = t[m] :: t.data.toList.drop (m + 1) := by
      rw [List.drop_eq_getElem_cons (by rw [hl]; omega)]; rfl
    have a2 : t.data.toList.drop (m + 1) = t[m + 1] :: t.data.toList.drop (m + 2) := by
      rw [List.drop_eq_getElem_cons (by rw [hl]; omega)]; rfl
    rw [← a2, ← a1, List.take_append_drop]
  have e1 : (t.extract 0 m ++ t.extract (m + 1) (m + 2) ++ t.extract m (m + 1) ++ t.extract (m + 2) t.size).data.toList = t.data.toList.take m ++ t[m + 1] :: t[m] :: t.data.toList.drop (m + 2) := by
    simp only [ByteArray.data_append, ByteArray.data_extract, Array.toList_append, Array.toList_extract, List.extract]
    have b0 : (t.data.toList.drop 0).take (m - 0) = t.data.toList.take m := by simp
    have b1 : (t.data.toList.drop (m + 1)).take (m + 2 - (m + 1)) = [t[m + 1]] := by
      rw [List.drop_eq_getElem_cons (by rw [hl]; omega), show m + 2 - (m + 1) = 1 from by omega]; rfl
    have b2 : (t.data.toList.drop m).take (m + 1 - m) = [t[m]] := by
      rw [List.drop_eq_getElem_cons (by rw [hl]; omega), show m + 1 - m = 1 from by omega]; rfl
    have b3 : (t.data.toList.drop (m + 2)).take (t.size - (m + 2)) = t.data.toList.drop (m + 2) := List.take_of_length_le (by rw [List.length_drop, hl]; omega)
    rw [b0, b1, b2, b3]; simp
  rw [sumOf_rs, sumOf_rs, e1]
  have h := sum_swap (t.data.toList.take m) (t.data.toList.drop (m + 2)) t[m] t[m + 1]
  rw [← e0] at h
  rw [Bool.eq_iff_iff, beq_iff_eq, beq_iff_eq, h]
  exact ⟨fun e => by rw [e], fun e => UInt8.toNat_inj.1 (by omega)⟩
end Go.Proofs.Ytbekllgecfjljaa
