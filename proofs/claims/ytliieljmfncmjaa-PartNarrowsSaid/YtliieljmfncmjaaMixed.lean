/- That the program's orders are mixed. -/
import Derived.Test.YtliieljmfncmjaaChecked
namespace Go.Proofs.Ytliieljmfncmjaa
set_option maxRecDepth 100000 in
theorem Try.mixed : Try.prog.follows .mixedOrders = true := by kernel_rfl
end Go.Proofs.Ytliieljmfncmjaa
