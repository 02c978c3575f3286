/- What the reference's At does. -/
import Derived.Test.YtgkgdedhicnohaaGreatRef3
namespace Go.Proofs.YtgkgdedhicnohaaGreat
set_option maxRecDepth 100000
set_option maxHeartbeats 40000000
open Go.RowKit
theorem rat_c (p:Nat→Bool) (t n:Nat) (w:World) (ht:t < 16) (hn:n < 32):
  Calls Tryz.prog 91 #[.agg (boolC 512 p), .agg #[.int .i64 t, .int .i64 n]] w fun e w'=>e= .returned (.bool (p (32*t+n)))∧Below w.heap.size w w':=by
 have HBW:=jD (show Below w.heap.size w ((w.alloc (.cells (boolC 512 p) 158)).alloc (.cells #[.int .i64 t, .int .i64 n] 39)) from(bal _).alloc (by simp) _)
 have hg:(boolC 512 p)[32*t+n]? =some (.bool (p (32*t+n))):=boolC_get 512 p _ (by omega)
 have hw:IntKind.i64.wrap (32*(t:Int)+(n:Int))=32*(t:Int)+(n:Int):=by rw[IntKind.wrap_i64];omega
 go_enter Tryz.func91,Tryz.ntmps91
 go_wp2
 go_ret
 exact⟨rfl,HBW.out⟩
end Go.Proofs.YtgkgdedhicnohaaGreat
