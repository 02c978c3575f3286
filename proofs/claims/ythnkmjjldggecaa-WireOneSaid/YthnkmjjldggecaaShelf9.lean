/- What the reference's Over does. Written by a small program (gen/shelf9.py). -/
import Derived.Test.YthnkmjjldggecaaMShelf1
import Derived.Test.YthnkmjjldggecaaMDots4
import Derived.Test.YthnkmjjldggecaaMClaims
import Derived.Deep.QuietTactic
import Derived.BigQuiet
namespace Go.Proofs.Ythnkmjjldggecaa
open Go.RowKit
def DotsV (v : Value) (k : Kn) : Prop := ∃ m, v = .agg (dotC m) ∧ DWord m ∧ Has1 m (allP k)
end Go.Proofs.Ythnkmjjldggecaa
