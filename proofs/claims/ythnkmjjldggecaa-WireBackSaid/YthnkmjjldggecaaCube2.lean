/- What the functions of package cube do: Meet, Count; and reedkeep.Within, reedkeep.one. -/
import Derived.Test.YthnkmjjldggecaaMForm
namespace Go.Proofs.Ythnkmjjldggecaa
open Go.RowKit

theorem within_eq (k m : Int) (hm : 1 ≤ m) (hm2 : m ≤ 9223372036854775807) : wrap64 ((IntKind.u64.wrap k).tmod m) = k % 18446744073709551616 % m := by
  rw [IntKind.wrap_u64]
  have h0 : 0 ≤ k % 18446744073709551616 := Int.emod_nonneg _ (by decide)
  rw [Int.tmod_eq_emod_of_nonneg h0]
  have h1 := Int.emod_nonneg (k % 18446744073709551616) (show m ≠ 0 by omega)
  have h2 := Int.emod_lt_of_pos (k % 18446744073709551616) (show 0 < m by omega)
  exact IntWalk.wrap64_in _ (by omega)

set_option maxRecDepth 100000 in
set_option maxHeartbeats 400000 in
theorem withinInt_c (k m : Int) (hm : 1 ≤ m) (hm2 : m ≤ 9223372036854775807) (w : World) :
    Calls Try.prog 37 #[.int .i64 k, .int .i64 m] w fun e w' => e = .returned (.int .i64 (k % 18446744073709551616 % m)) ∧ w' = w := by
  go_enter Try.func37, Try.ntmps37
  go_wp2
  go_ret
  refine ⟨ret_int (within_eq k m hm hm2), rfl⟩

end Go.Proofs.Ythnkmjjldggecaa
