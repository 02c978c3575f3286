/- What slices.SortFunc does to dots of the call's own. -/
import Derived.Test.YthnkmjjldggecaaMixed
import Derived.Test.YthnkmjjldggecaaKnow1
import Derived.WalkArith
import Derived.Laws.Shifts
import Derived.Test.YthnkmjjldggecaaBase3
import Derived.Shelf.SlSortCmp.WholeK
import Derived.Ground.SlsfProg
import Derived.Test.YthnkmjjldggecaaProg
import Derived.Shelf.SlSortCmp.NoneTotal
namespace Go.Proofs.Ythnkmjjldggecaa
open Go.RowKit Go.Sort Go.Shelf Go.Lib
abbrev OkDot := { d : Int × Int // dotOk d = true }
instance : Inhabited OkDot := ⟨⟨(0, 1), by decide⟩⟩
end Go.Proofs.Ythnkmjjldggecaa
