/- What wire.Sum does to a text. -/
import Derived.Test.YtboakoipdfmpcaaGreatMForm
namespace Go.Proofs.YtboakoipdfmpcaaGreat
open Go.RowKit

/-- The sum without the remainders, of bytes that stand behind off others. -/
def rs (off : Int) : List UInt8 → Int
  | [] => 0
  | c :: l => (off + 1) * (c.toNat : Int) + rs (off + 1) l
end Go.Proofs.YtboakoipdfmpcaaGreat
