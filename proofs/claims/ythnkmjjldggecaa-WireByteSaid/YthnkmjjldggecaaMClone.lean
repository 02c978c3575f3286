/- What slices.Clone does at []int. Written by a small program (gen/clone.py). What slices.Clone does at []reedmace/api.Dot. Written by a small program (gen/clone.py). A slice of slices, as rows of cells. No program in sight. What slices.Grow and slices.Concat do at []reedmace/api.Dot. Printed by a small program (gen/concat.py). -/
import Derived.Test.YthnkmjjldggecaaChecked
import Derived.Test.YthnkmjjldggecaaBase2
import Derived.Lib.AppendZeros
namespace Go.Proofs.Ythnkmjjldggecaa
open Go.RowKit
set_option maxRecDepth 100000 in
theorem IcTy.info : (Try.prog.info? 3).map (fun i => (i.zero, i.size, i.bytes)) = some (some (.int .i64 0), 1, 8) := by kernel_rfl
end Go.Proofs.Ythnkmjjldggecaa
namespace Go.Proofs.Ythnkmjjldggecaa
open Go.RowKit
set_option maxRecDepth 100000 in
theorem DcTy.info : (Try.prog.info? 92).map (fun i => (i.zero, i.size, i.bytes)) = some (some (.agg #[.int .i64 0, .int .i64 0]), 2, 16) := by kernel_rfl
end Go.Proofs.Ythnkmjjldggecaa
namespace Go.Proofs.Ythnkmjjldggecaa
open Go.RowKit

abbrev Rows3 := List (Value × Nat × List Value)
def flat (rs : Rows3) : List Value := rs.flatMap (·.2.2)
end Go.Proofs.Ythnkmjjldggecaa
namespace Go.Proofs.Ythnkmjjldggecaa
open Go.RowKit

set_option maxRecDepth 100000 in
theorem DlTy.info : (Try.prog.info? 92).map (fun i => (i.zero, i.size, i.bytes)) = some (some (.agg #[.int .i64 0, .int .i64 0]), 2, 16) := by kernel_rfl

end Go.Proofs.Ythnkmjjldggecaa
