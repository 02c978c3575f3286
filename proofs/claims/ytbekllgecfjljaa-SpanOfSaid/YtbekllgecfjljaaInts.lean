/- Slices of integers: what slices.Index, slices.Contains and span.Of do to them. -/
import Derived.Test.YtbekllgecfjljaaSpanLaw0
import Derived.Test.YtbekllgecfjljaaBase2
namespace Go.Proofs.Ytbekllgecfjljaa
open Go.RowKit

def intsCells (l : List Int) : List Value := l.map (Value.int .i64)
def IntsAt (w : World) (v : Value) (l : List Int) : Prop := CellsAt w v l.length (intsCells l)
theorem IntsAt.below {w w' : World} {v : Value} {l : List Int} (h : IntsAt w v l) (hb : Below w.heap.size w w') : IntsAt w' v l := CellsAt.below h hb
theorem IntsAt.open_ {w : World} {v : Value} {l : List Int} (h : IntsAt w v l) : ∃ a cap, v = .slice a l.length cap ∧ l.length ≤ cap ∧ l.length ≤ 140737488355328 ∧ (a = none → cap = 0) ∧
    (l = [] ∨ ∃ b off, a = some ⟨b, off, none⟩ ∧ b < w.heap.size ∧ ∀ i (h : i < l.length), w.cell? ⟨b, off + i, none⟩ = some (.int .i64 l[i])) := by
  obtain ⟨a, cap, hv, hn, hm, h0, h⟩ := h
  refine ⟨a, cap, hv, hn, hm, h0, ?_⟩
  rcases h with h | ⟨b, off, ha, hlt, hc⟩
  · left; simpa [intsCells] using h
  · exact .inr ⟨b, off, ha, hlt, fun i hi => hc _ _ (by simp [intsCells, hi])⟩
theorem ints1 (l : List Int) : ∀ u ∈ intsCells l, u.oneCell' = true := by
  intro u hu; obtain ⟨z, -, rfl⟩ := List.mem_map.1 hu; rfl

/-- Where n stands first in l, or -1. -/
def idx (l : List Int) (n : Int) : Int := match l.findIdx? (· == n) with | some i => i | none => -1
theorem idx_hit (l : List Int) (n : Int) (k : Nat) (hk : k < l.length) (hno : ∀ j (h : j < k), l[j]'(by omega) ≠ n) (h : n = l[k]) : idx l n = k := by
  unfold idx
  have e : l.findIdx? (· == n) = some k := by
    rw [List.findIdx?_eq_some_iff_getElem]
    exact ⟨hk, by simp [h], fun j hj => by simpa using hno j hj⟩
  rw [e]
theorem idx_miss (l : List Int) (n : Int) (hno : ∀ j (h : j < l.length), l[j] ≠ n) : idx l n = -1 := by
  unfold idx
  have e : l.findIdx? (· == n) = none := by
    rw [List.findIdx?_eq_none_iff]
    intro x hx
    obtain ⟨j, hj, rfl⟩ := List.getElem_of_mem hx
    simpa using hno j hj
  rw [e]
theorem idx_contains (l : List Int) (n : Int) : decide (0 ≤ idx l n) = l.contains n := by
  unfold idx
  cases h : l.findIdx? (· == n) with
  | none =>
    rw [List.findIdx?_eq_none_iff] at h
    rw [Bool.eq_iff_iff]; simp
    intro hm; simpa using h n hm
  | some i =>
    rw [List.findIdx?_eq_some_iff_getElem] at h
    obtain ⟨hi, he, _⟩ := h
    rw [Bool.eq_iff_iff]; simp
    have : l[i] = n := by simpa using he
    rw [← this]; exact List.getElem_mem hi

set_option maxHeartbeats 400000 in
theorem index_c (v : Value) (l : List Int) (n : Int) (w : World) (hs : IntsAt w v l) :
    Calls Try.prog 54 #[v, .int .i64 n] w fun e w' => e = .returned (.int .i64 (idx l n)) ∧ w' = w := by
  obtain ⟨a, cap, rfl, hcap, hm, -, hl⟩ := hs.open_
  clear hs
  go_enter Try.func54, Try.ntmps54
  go_wp2
  go_loop [8] (fun i => ∃ k : Nat, k ≤ l.length ∧ i = .int .i64 k ∧ ∀ j (h : j < k) (h' : j < l.length), l[j] ≠ n) (fun i => l.length - (intOf i).toNat)
  case atStart => exact ⟨0, Nat.zero_le _, rfl, fun j h => by omega⟩
  case round =>
    obtain ⟨k, hk, rfl, hno⟩ := hrel
    have HN := Lib.hid hno
    clear hno
    by_cases hlt : k < l.length
    · rcases hl with rfl | ⟨b, off, rfl, hb, hc⟩
      · simp at hlt
      have d1 := hc k hlt
      clear hc
      by_cases he : n = l[k]
      · have HE := Lib.hid he
        have he' : (n == l[k]) = true := by simpa using he
        clear he
        go_wp2
        go_ret
        exact ⟨ret_int (idx_hit l n k hlt (fun j hj => HN.out j hj (by omega)) HE.out).symm, rfl⟩
      · have HE := Lib.hid he
        have he' : (n == l[k]) = false := by simpa using he
        clear he
        go_wp2
        go_round
        case rel => exact ⟨k + 1, by omega, by go_num, fun j hj h' => by
          by_cases hjk : j < k
          · exact HN.out j hjk h'
          · obtain rfl : j = k := by omega
            exact fun h => HE.out h.symm⟩
        case measure => simp [intOf]; omega
    · obtain rfl : k = l.length := by omega
      go_wp2
      go_ret
      exact ⟨ret_int (idx_miss l n fun j h => HN.out j h h).symm, rfl⟩

set_option maxHeartbeats 400000 in
theorem contains_c (v : Value) (l : List Int) (n : Int) (w : World) (hs : IntsAt w v l) :
    Calls Try.prog 38 #[v, .int .i64 n] w fun e w' => e = .returned (.bool (l.contains n)) ∧ w' = w := by
  have H := Lib.hid (idx_contains l n)
  go_enter Try.func38, Try.ntmps38
  go_wp2_with fail
  refine (index_c v l n _ hs).mono ?_
  rintro e w1 ⟨rfl, rfl⟩
  go_wp2
  go_ret
  exact ⟨ret_bool H.out, rfl⟩
end Go.Proofs.Ytbekllgecfjljaa
