/- What formula.Check does. -/
import Derived.Test.YtippljiicnpieaaChecked
import Derived.Test.YtippljiicnpieaaFormPure
import Derived.Deep.QuietTactic
import Derived.BigQuiet
namespace Go.Proofs.Ytippljiicnpieaa
open Go.RowKit

theorem kind_cases (k : Int) : k = 1 ∨ k = 2 ∨ k = 3 ∨ k = 4 ∨ k = 5 ∨ k = 6 ∨ ((k == 1) = false ∧ (k == 2) = false ∧ (k == 3) = false ∧ (k == 4) = false ∧ (k == 5) = false ∧ (k == 6) = false) := by
  simp; omega

end Go.Proofs.Ytippljiicnpieaa
