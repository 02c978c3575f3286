/- What slices.Clone does at []reedmace/api.Node. Written by a small program (gen/clone.py). -/
import Derived.Test.YthnkmjjldggecaaChecked
import Derived.Test.YthnkmjjldggecaaBase2
namespace Go.Proofs.Ythnkmjjldggecaa
open Go.RowKit
set_option maxRecDepth 100000 in
theorem NodeTy.info : (Try.prog.info? 30).map (fun i => (i.zero, i.size, i.bytes)) = some (some (.agg #[.int .i64 0, .int .i64 0, .int .i64 0]), 3, 24) := by kernel_rfl
set_option maxRecDepth 100000 in
set_option maxHeartbeats 400000 in
theorem NodeClone_c (v : Value) (n : Nat) (xs : List Value) (w : World) (hs : CellsAt w v n xs) (hl : xs.length = n * 3) (h1 : ∀ u ∈ xs, u.oneCell' = true) (hb : n * 24 ≤ 140737488355328) :
    Calls Try.prog 27 #[v] w fun e w' => ∃ v', e = .returned v' ∧ w'.ownsRow w.heap.size 30 3 v' n xs ∧ Below w.heap.size w w' := by
  obtain ⟨i0, hi, hz0, hz1, hz2⟩ := info_parts NodeTy.info
  have hs0 := hs
  obtain ⟨a, cap, rfl, hn, hm, h0, hc⟩ := hs
  cases a with
  | none =>
    obtain rfl := h0 rfl
    obtain rfl : n = 0 := by omega
    obtain rfl : xs = [] := List.eq_nil_of_length_eq_zero (by simpa using hl)
    clear hc hs0 h0 hn hm hl
    have heq := Lib.run_eql_slice_nil (P := Try.prog) w 24 30 none 0 0 0 0 Try.underlying24
    go_enter Try.func27, Try.ntmps27
    go_wp2
    go_ret
    exact ⟨_, rfl, World.ownsRow_nil _ _ _ _, Below.refl _ _⟩
  | some ad =>
    have HS := Lib.hid (hs0.below (bal (.cells #[] 30)))
    have HO := Lib.hid (litOwn w w.heap.size 3 30 #[] 0 _ rfl (Nat.le_refl _) (by decide) rfl)
    have HL := Lib.hid hl
    clear hc hs0 h0 hl
    have heq := Lib.run_eql_slice_nil (P := Try.prog) w 24 30 (some ad) n cap 0 0 Try.underlying24
    go_enter Try.func27, Try.ntmps27
    go_wp2_with (at_builtin; refine wpList_append_cells (w0 := w) rfl (.tmp 5) (.tmp 6) 24 rfl w.heap.size 30 (.agg #[.int .i64 0, .int .i64 0, .int .i64 0]) 3 24 Try.underlying24 NodeTy.info rfl (by decide) _ 0 [] rfl HO.out _ n xs rfl HS.out HL.out h1 (bal _) (by simp) (by unfold maxLen; omega) (by omega) ?_)
    intro v' w1 hown hb1
    go_wp2
    go_ret
    exact ⟨_, rfl, by simpa using hown, hb1⟩
end Go.Proofs.Ythnkmjjldggecaa
