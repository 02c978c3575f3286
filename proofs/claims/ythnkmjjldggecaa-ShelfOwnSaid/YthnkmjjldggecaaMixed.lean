/- That the program's orders are mixed. -/
import Derived.Test.YthnkmjjldggecaaChecked
namespace Go.Proofs.Ythnkmjjldggecaa
set_option maxRecDepth 100000 in
theorem Try.mixed : Try.prog.follows .mixedOrders = true := by kernel_rfl
end Go.Proofs.Ythnkmjjldggecaa
