/- What a writer of bytes does: numbers as three bytes each. -/
import Derived.Test.YthnkmjjldggecaaBase3
import Derived.Test.YthnkmjjldggecaaKnow1
import Derived.Lib.AppendStr
namespace Go.Proofs.Ythnkmjjldggecaa
open Go.RowKit
def b3 (n : Int) : List UInt8 := [UInt8.ofNat (n / 65536 % 256).toNat, UInt8.ofNat (n / 256 % 256).toNat, UInt8.ofNat (n % 256).toNat]
def nums (l : List Int) : List UInt8 := l.flatMap b3
end Go.Proofs.Ythnkmjjldggecaa
