/- What wire.Sum does to a text. -/
import Derived.Test.YtgkgdedhicnohaaGreatMForm
namespace Go.Proofs.YtgkgdedhicnohaaGreat
open Go.RowKit
def rs (off:Int):List UInt8→Int
 | []=>0
 | c::l=>(off+1)*(c.toNat:Int)+rs (off+1) l
end Go.Proofs.YtgkgdedhicnohaaGreat
