/- That the program's orders are mixed. -/
import Derived.Test.YtboakoipdfmpcaaChecked
namespace Go.Proofs.Ytboakoipdfmpcaa
set_option maxRecDepth 100000 in
theorem Try.mixed : Try.prog.follows .mixedOrders = true := by kernel_rfl
end Go.Proofs.Ytboakoipdfmpcaa
