/- What slices.Clone does at []reedmace/api.Version. Written by a small program (gen/clone.py). -/
import Derived.Test.YtippljiicnpieaaChecked
import Derived.Test.YtippljiicnpieaaBase2
namespace Go.Proofs.Ytippljiicnpieaa
open Go.RowKit
set_option maxRecDepth 100000 in
theorem VcTy.info : (Try.prog.info? 32).map (fun i => (i.zero, i.size, i.bytes)) = some (some (.agg #[.string ByteArray.empty, .int .i64 0, .int .i64 0, .int .i64 0, .int .i64 0, .int .i64 0, .slice none 0 0, .slice none 0 0]), 8, 104) := by kernel_rfl
set_option maxRecDepth 100000 in
set_option maxHeartbeats 400000 in
theorem VcClone_c (v : Value) (n : Nat) (xs : List Value) (w : World) (hs : CellsAt w v n xs) (hl : xs.length = n * 8) (h1 : ∀ u ∈ xs, u.oneCell' = true) (hb : n * 104 ≤ 140737488355328) :
    Calls Try.prog 38 #[v] w fun e w' => ∃ v', e = .returned v' ∧ w'.ownsRow w.heap.size 32 8 v' n xs ∧ Below w.heap.size w w' := by
  obtain ⟨i0, hi, hz0, hz1, hz2⟩ := info_parts VcTy.info
  have hs0 := hs
  obtain ⟨a, cap, rfl, hn, hm, h0, hc⟩ := hs
  cases a with
  | none =>
    obtain rfl := h0 rfl
    obtain rfl : n = 0 := by omega
    obtain rfl : xs = [] := List.eq_nil_of_length_eq_zero (by simpa using hl)
    clear hc hs0 h0 hn hm hl
    have heq := Lib.run_eql_slice_nil (P := Try.prog) w 22 32 none 0 0 0 0 Try.underlying22
    go_enter Try.func38, Try.ntmps38
    go_wp2
    go_ret
    exact ⟨_, rfl, World.ownsRow_nil _ _ _ _, Below.refl _ _⟩
  | some ad =>
    have HS := Lib.hid (hs0.below (bal (.cells #[] 32)))
    have HO := Lib.hid (litOwn w w.heap.size 8 32 #[] 0 _ rfl (Nat.le_refl _) (by decide) rfl)
    have HL := Lib.hid hl
    clear hc hs0 h0 hl
    have heq := Lib.run_eql_slice_nil (P := Try.prog) w 22 32 (some ad) n cap 0 0 Try.underlying22
    go_enter Try.func38, Try.ntmps38
    go_wp2_with (at_builtin; refine wpList_append_cells (w0 := w) rfl (.tmp 5) (.tmp 6) 22 rfl w.heap.size 32 (.agg #[.string ByteArray.empty, .int .i64 0, .int .i64 0, .int .i64 0, .int .i64 0, .int .i64 0, .slice none 0 0, .slice none 0 0]) 8 104 Try.underlying22 VcTy.info rfl (by decide) _ 0 [] rfl HO.out _ n xs rfl HS.out HL.out h1 (bal _) (by simp) (by unfold maxLen; omega) (by omega) ?_)
    intro v' w1 hown hb1
    go_wp2
    go_ret
    exact ⟨_, rfl, by simpa using hown, hb1⟩
end Go.Proofs.Ytippljiicnpieaa
