/- What a writer of bytes does: numbers as three bytes each. -/
import Derived.Test.YtboakoipdfmpcaaGreatMElt
import Derived.Test.YtboakoipdfmpcaaGreatMKnow1
import Derived.Lib.AppendStr
namespace Go.Proofs.YtboakoipdfmpcaaGreat
open Go.RowKit
def b3 (n : Int) : List UInt8 := [UInt8.ofNat (n / 65536 % 256).toNat, UInt8.ofNat (n / 256 % 256).toNat, UInt8.ofNat (n % 256).toNat]
end Go.Proofs.YtboakoipdfmpcaaGreat
