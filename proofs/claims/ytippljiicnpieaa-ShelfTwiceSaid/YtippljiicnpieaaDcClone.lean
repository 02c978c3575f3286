/- What slices.Clone does at []reedmace/api.Dot. Written by a small program (gen/clone.py). -/
import Derived.Test.YtippljiicnpieaaChecked
import Derived.Test.YtippljiicnpieaaBase2
namespace Go.Proofs.Ytippljiicnpieaa
open Go.RowKit
set_option maxRecDepth 100000 in
theorem DcTy.info : (Try.prog.info? 24).map (fun i => (i.zero, i.size, i.bytes)) = some (some (.agg #[.int .i64 0, .int .i64 0]), 2, 16) := by kernel_rfl
set_option maxRecDepth 100000 in
set_option maxHeartbeats 400000 in
theorem DcClone_c (v : Value) (n : Nat) (xs : List Value) (w : World) (hs : CellsAt w v n xs) (hl : xs.length = n * 2) (h1 : ∀ u ∈ xs, u.oneCell' = true) (hb : n * 16 ≤ 140737488355328) :
    Calls Try.prog 132 #[v] w fun e w' => ∃ v', e = .returned v' ∧ w'.ownsRow w.heap.size 24 2 v' n xs ∧ Below w.heap.size w w' := by
  obtain ⟨i0, hi, hz0, hz1, hz2⟩ := info_parts DcTy.info
  have hs0 := hs
  obtain ⟨a, cap, rfl, hn, hm, h0, hc⟩ := hs
  cases a with
  | none =>
    obtain rfl := h0 rfl
    obtain rfl : n = 0 := by omega
    obtain rfl : xs = [] := List.eq_nil_of_length_eq_zero (by simpa using hl)
    clear hc hs0 h0 hn hm hl
    have heq := Lib.run_eql_slice_nil (P := Try.prog) w 28 24 none 0 0 0 0 Try.underlying28
    go_enter Try.func132, Try.ntmps132
    go_wp2
    go_ret
    exact ⟨_, rfl, World.ownsRow_nil _ _ _ _, Below.refl _ _⟩
  | some ad =>
    have HS := Lib.hid (hs0.below (bal (.cells #[] 24)))
    have HO := Lib.hid (litOwn w w.heap.size 2 24 #[] 0 _ rfl (Nat.le_refl _) (by decide) rfl)
    have HL := Lib.hid hl
    clear hc hs0 h0 hl
    have heq := Lib.run_eql_slice_nil (P := Try.prog) w 28 24 (some ad) n cap 0 0 Try.underlying28
    go_enter Try.func132, Try.ntmps132
    go_wp2_with (at_builtin; refine wpList_append_cells (w0 := w) rfl (.tmp 5) (.tmp 6) 28 rfl w.heap.size 24 (.agg #[.int .i64 0, .int .i64 0]) 2 16 Try.underlying28 DcTy.info rfl (by decide) _ 0 [] rfl HO.out _ n xs rfl HS.out HL.out h1 (bal _) (by simp) (by unfold maxLen; omega) (by omega) ?_)
    intro v' w1 hown hb1
    go_wp2
    go_ret
    exact ⟨_, rfl, by simpa using hown, hb1⟩
end Go.Proofs.Ytippljiicnpieaa
