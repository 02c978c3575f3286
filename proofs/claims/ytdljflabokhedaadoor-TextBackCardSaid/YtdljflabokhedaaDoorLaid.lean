/- The package-level variables that the rows list: what they give, and one start that fits. -/
import Derived.Test.YtdljflabokhedaaDoorFrame
import Derived.Test.YtdljflabokhedaaDoorText3
import Derived.Stop.LaidErr
import Derived.SizedLaws
import Derived.ChangeSame
import Derived.ChangeVars
import Derived.ChangeMaps5
import Derived.JoinedOf
import Derived.JoinedAt
import Derived.RowKit3
import Derived.RowKitTokens
import Derived.LaidLaws
namespace Go.Proofs.YtdljflabokhedaaDoor
open Go.ChangeShapes Go.WideShapes Go.ChangeAt Go.RowKit Go.Shelf
abbrev laidL : List (String × DataW Unit) := [("math/bits.deBruijn32tab", Rows.laid_math_bits_deBruijn32tab), ("math/bits.deBruijn64tab", Rows.laid_math_bits_deBruijn64tab), ("internal/strconv.uint64pow10", Rows.laid_internal_strconv_uint64pow10), ("strconv.ErrRange", Rows.laid_strconv_ErrRange), ("strconv.ErrSyntax", Rows.laid_strconv_ErrSyntax)]
set_option maxRecDepth 100000 in
theorem Tryd.gES : Tryd.prog.globalNamed "strconv.ErrSyntax" = some 1 := by kernel_rfl
set_option maxRecDepth 100000 in
theorem Tryd.gER : Tryd.prog.globalNamed "strconv.ErrRange" = some 2 := by kernel_rfl
set_option maxRecDepth 100000 in
theorem Tryd.gEST:(Tryd.prog.globals[1]?).map (·.type)=some 73:=by kernel_rfl
set_option maxRecDepth 100000 in
theorem Tryd.gERT:(Tryd.prog.globals[2]?).map (·.type)=some 73:=by kernel_rfl
set_option maxRecDepth 100000 in
theorem Tryd.cellsES:Tryd.prog.cellsOf 116=1:=by kernel_rfl
set_option maxRecDepth 100000 in
theorem Tryd.cellsStr:Tryd.prog.cellsOf 9=1:=by kernel_rfl
set_option maxRecDepth 100000 in
theorem Tryd.star : "*" ++ "errors.errorString" = "*errors.errorString" := by decide
set_option maxRecDepth 100000 in
theorem Tryd.rowES (u : TypeId) (h : Tryd.prog.typeName? 3 u = some "*errors.errorString") : u = 114 :=
 typeName_ptr_named (nm := "errors.errorString") (by rw [Tryd.star]; kernel_rfl) (by kernel_rfl) (by decide) u (by rw [Tryd.star]; exact h)
set_option maxRecDepth 100000 in
theorem gl_of_laid {W:World} (h:laidMet Tryd.prog laidL W):Gl W W.heap.size:=by
 obtain⟨a1,s1,hv1, -, -, -⟩:=laid_sentinel h.tail.tail.tail Tryd.gER Tryd.gERT Tryd.underlying73 Tryd.rowES Tryd.underlying114 Tryd.underlying116 rfl rfl Tryd.underlying9 Tryd.cellsES Tryd.cellsStr
 obtain⟨a0,s0,hv0, -, -, -⟩:=laid_sentinel h.tail.tail.tail.tail Tryd.gES Tryd.gEST Tryd.underlying73 Tryd.rowES Tryd.underlying114 Tryd.underlying116 rfl rfl Tryd.underlying9 Tryd.cellsES Tryd.cellsStr
 have c0:W.cell? ⟨1,0,none⟩=some (.iface 114 (.pointer (some a0))):=by have h0:=World.var?_cell Tryd.gES hv0 0;simpa using h0
 have c1:W.cell? ⟨2,0,none⟩=some (.iface 114 (.pointer (some a1))):=by have h0:=World.var?_cell Tryd.gER hv1 0;simpa using h0
 exact⟨⟨_,c0, .inr ⟨_,_,rfl⟩⟩,⟨_,c1, .inr ⟨_,_,rfl⟩⟩,World.block_lt_of_cell? W _ c0,World.block_lt_of_cell? W _ c1⟩
abbrev synS:ByteArray:= { data:= #[105,110,118,97,108,105,100,32,115,121,110,116,97,120] }
abbrev rngS:ByteArray:= { data:= #[118,97,108,117,101,32,111,117,116,32,111,102,32,114,97,110,103,101] }
def litVals:DataW Unit→Array Value
 | .agg l=>(l.map fun d=>match d with | .lit (.int k i)=>Value.int k i | _=>undef).toArray
 | _=> #[]
noncomputable def low:Nat:=(World.holding Tryd.prog default ⟨#[], #[],[]⟩).heap.size
noncomputable def setBlock (cs:Array Value):Obj→Obj
 | .cells _ t frozen=> .cells cs t frozen
 | o=>o
noncomputable def laidWorld (os:Os):World:=
 let w0:=World.holding Tryd.prog os ⟨#[.cells #[.string synS] 116, .cells #[.string rngS] 116], #[],[]⟩
 { w0 with heap:=((((w0.heap.modify 1 (setBlock #[.iface 114 (.pointer (some ⟨low,0,none⟩))])).modify 2 (setBlock #[.iface 114 (.pointer (some ⟨low+1,0,none⟩))])).modify 0 (setBlock (litVals Rows.laid_internal_strconv_uint64pow10))).modify 3 (setBlock (litVals Rows.laid_math_bits_deBruijn32tab))).modify 4 (setBlock (litVals Rows.laid_math_bits_deBruijn64tab)) }
set_option maxRecDepth 100000 in
theorem laidWorld_met (os:Os) (args:Array Value):laidMet Tryd.prog laidL ((laidWorld os).forCall (fun _ _=>0) ⟨#[],args,[]⟩).memory:=
 laidMet_of_run' 8 (by kernel_rfl) (by kernel_rfl)
end Go.Proofs.YtdljflabokhedaaDoor
