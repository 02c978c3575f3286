/- What a writer of bytes does: numbers as three bytes each. -/
import Derived.Test.YtboakoipdfmpcaaMElt
import Derived.Test.YtboakoipdfmpcaaMKnow1
import Derived.Lib.AppendStr
namespace Go.Proofs.Ytboakoipdfmpcaa
open Go.RowKit
def b3 (n : Int) : List UInt8 := [UInt8.ofNat (n / 65536 % 256).toNat, UInt8.ofNat (n / 256 % 256).toNat, UInt8.ofNat (n % 256).toNat]
end Go.Proofs.Ytboakoipdfmpcaa
