/- What slices.Clone does at []int. Written by a small program (gen/clone.py). What slices.Clone does at []reedmace/api.Dot. Written by a small program (gen/clone.py). A slice of slices, as rows of cells. No program in sight. What slices.Grow and slices.Concat do at [][]int. Printed by a small program (gen/concat.py). -/
import Derived.Test.YthnkmjjldggecaaChecked
import Derived.Test.YthnkmjjldggecaaBase2
import Derived.Lib.AppendZeros
namespace Go.Proofs.Ythnkmjjldggecaa
open Go.RowKit
set_option maxRecDepth 100000 in
theorem IcTy.info : (Try.prog.info? 3).map (fun i => (i.zero, i.size, i.bytes)) = some (some (.int .i64 0), 1, 8) := by kernel_rfl
set_option maxRecDepth 100000 in
set_option maxHeartbeats 400000 in
theorem IcClone_c (v : Value) (n : Nat) (xs : List Value) (w : World) (hs : CellsAt w v n xs) (hl : xs.length = n * 1) (h1 : ∀ u ∈ xs, u.oneCell' = true) (hb : n * 8 ≤ 140737488355328) :
    Calls Try.prog 160 #[v] w fun e w' => ∃ v', e = .returned v' ∧ w'.ownsRow w.heap.size 3 1 v' n xs ∧ Below w.heap.size w w' := by
  obtain ⟨i0, hi, hz0, hz1, hz2⟩ := info_parts IcTy.info
  have hs0 := hs
  obtain ⟨a, cap, rfl, hn, hm, h0, hc⟩ := hs
  cases a with
  | none =>
    obtain rfl := h0 rfl
    obtain rfl : n = 0 := by omega
    obtain rfl : xs = [] := List.eq_nil_of_length_eq_zero (by simpa using hl)
    clear hc hs0 h0 hn hm hl
    have heq := Lib.run_eql_slice_nil (P := Try.prog) w 23 3 none 0 0 0 0 Try.underlying23
    go_enter Try.func160, Try.ntmps160
    go_wp2
    go_ret
    exact ⟨_, rfl, World.ownsRow_nil _ _ _ _, Below.refl _ _⟩
  | some ad =>
    have HS := Lib.hid (hs0.below (bal (.cells #[] 3)))
    have HO := Lib.hid (litOwn w w.heap.size 1 3 #[] 0 _ rfl (Nat.le_refl _) (by decide) rfl)
    have HL := Lib.hid hl
    clear hc hs0 h0 hl
    have heq := Lib.run_eql_slice_nil (P := Try.prog) w 23 3 (some ad) n cap 0 0 Try.underlying23
    go_enter Try.func160, Try.ntmps160
    go_wp2_with (at_builtin; refine wpList_append_cells (w0 := w) rfl (.tmp 5) (.tmp 6) 23 rfl w.heap.size 3 (.int .i64 0) 1 8 Try.underlying23 IcTy.info rfl (by decide) _ 0 [] rfl HO.out _ n xs rfl HS.out HL.out h1 (bal _) (by simp) (by unfold maxLen; omega) (by omega) ?_)
    intro v' w1 hown hb1
    go_wp2
    go_ret
    exact ⟨_, rfl, by simpa using hown, hb1⟩
end Go.Proofs.Ythnkmjjldggecaa
namespace Go.Proofs.Ythnkmjjldggecaa
open Go.RowKit
set_option maxRecDepth 100000 in
theorem DcTy.info : (Try.prog.info? 92).map (fun i => (i.zero, i.size, i.bytes)) = some (some (.agg #[.int .i64 0, .int .i64 0]), 2, 16) := by kernel_rfl
set_option maxRecDepth 100000 in
set_option maxHeartbeats 400000 in
theorem DcClone_c (v : Value) (n : Nat) (xs : List Value) (w : World) (hs : CellsAt w v n xs) (hl : xs.length = n * 2) (h1 : ∀ u ∈ xs, u.oneCell' = true) (hb : n * 16 ≤ 140737488355328) :
    Calls Try.prog 112 #[v] w fun e w' => ∃ v', e = .returned v' ∧ w'.ownsRow w.heap.size 92 2 v' n xs ∧ Below w.heap.size w w' := by
  obtain ⟨i0, hi, hz0, hz1, hz2⟩ := info_parts DcTy.info
  have hs0 := hs
  obtain ⟨a, cap, rfl, hn, hm, h0, hc⟩ := hs
  cases a with
  | none =>
    obtain rfl := h0 rfl
    obtain rfl : n = 0 := by omega
    obtain rfl : xs = [] := List.eq_nil_of_length_eq_zero (by simpa using hl)
    clear hc hs0 h0 hn hm hl
    have heq := Lib.run_eql_slice_nil (P := Try.prog) w 79 92 none 0 0 0 0 Try.underlying79
    go_enter Try.func112, Try.ntmps112
    go_wp2
    go_ret
    exact ⟨_, rfl, World.ownsRow_nil _ _ _ _, Below.refl _ _⟩
  | some ad =>
    have HS := Lib.hid (hs0.below (bal (.cells #[] 92)))
    have HO := Lib.hid (litOwn w w.heap.size 2 92 #[] 0 _ rfl (Nat.le_refl _) (by decide) rfl)
    have HL := Lib.hid hl
    clear hc hs0 h0 hl
    have heq := Lib.run_eql_slice_nil (P := Try.prog) w 79 92 (some ad) n cap 0 0 Try.underlying79
    go_enter Try.func112, Try.ntmps112
    go_wp2_with (at_builtin; refine wpList_append_cells (w0 := w) rfl (.tmp 5) (.tmp 6) 79 rfl w.heap.size 92 (.agg #[.int .i64 0, .int .i64 0]) 2 16 Try.underlying79 DcTy.info rfl (by decide) _ 0 [] rfl HO.out _ n xs rfl HS.out HL.out h1 (bal _) (by simp) (by unfold maxLen; omega) (by omega) ?_)
    intro v' w1 hown hb1
    go_wp2
    go_ret
    exact ⟨_, rfl, by simpa using hown, hb1⟩
end Go.Proofs.Ythnkmjjldggecaa
namespace Go.Proofs.Ythnkmjjldggecaa
open Go.RowKit

abbrev Rows3 := List (Value × Nat × List Value)
def flat (rs : Rows3) : List Value := rs.flatMap (·.2.2)
end Go.Proofs.Ythnkmjjldggecaa
namespace Go.Proofs.Ythnkmjjldggecaa
open Go.RowKit

set_option maxRecDepth 100000 in
theorem WlTy.info : (Try.prog.info? 23).map (fun i => (i.zero, i.size, i.bytes)) = some (some (.slice none 0 0), 1, 24) := by kernel_rfl

end Go.Proofs.Ythnkmjjldggecaa
