/- The package-level variables that the rows of the desk's laws list: what they give, and one start that fits. -/
import Derived.Test.YtajgndoiddmbmaaGreatDoorFrame
import Derived.Test.YtajgndoiddmbmaaGreatDoorText3
import Derived.Stop.LaidErr
import Derived.SizedLaws
import Derived.ChangeSame
import Derived.ChangeVars
import Derived.ChangeMaps5
import Derived.JoinedOf
import Derived.JoinedAt
import Derived.RowKit3
import Derived.RowKitTokens
import Derived.LaidLaws
namespace Go.Proofs.YtajgndoiddmbmaaGreatDoor
open Go.ChangeShapes Go.WideShapes Go.ChangeAt Go.RowKit Go.Shelf
abbrev laidL : List (String × DataW Unit) := [("math/bits.deBruijn32tab", Rows.laid_math_bits_deBruijn32tab), ("math/bits.deBruijn64tab", Rows.laid_math_bits_deBruijn64tab), ("internal/strconv.uint64pow10", Rows.laid_internal_strconv_uint64pow10), ("unicode/utf8.acceptRanges", Rows.laid_unicode_utf8_acceptRanges), ("strconv.ErrRange", Rows.laid_strconv_ErrRange), ("strconv.ErrSyntax", Rows.laid_strconv_ErrSyntax), ("unicode/utf8.first", Rows.laid_unicode_utf8_first)]
set_option maxRecDepth 100000 in
theorem Tryz.gES : Tryz.prog.globalNamed "strconv.ErrSyntax" = some 4 := by kernel_rfl
set_option maxRecDepth 100000 in
theorem Tryz.gER : Tryz.prog.globalNamed "strconv.ErrRange" = some 5 := by kernel_rfl
set_option maxRecDepth 100000 in
theorem Tryz.gEST:(Tryz.prog.globals[4]?).map (·.type)=some 47:=by kernel_rfl
set_option maxRecDepth 100000 in
theorem Tryz.gERT:(Tryz.prog.globals[5]?).map (·.type)=some 47:=by kernel_rfl
set_option maxRecDepth 100000 in
theorem Tryz.cellsES:Tryz.prog.cellsOf 271=1:=by kernel_rfl
set_option maxRecDepth 100000 in
theorem Tryz.cellsStr:Tryz.prog.cellsOf 9=1:=by kernel_rfl
set_option maxRecDepth 100000 in
theorem Tryz.star : "*" ++ "errors.errorString" = "*errors.errorString" := by decide
set_option maxRecDepth 100000 in
theorem Tryz.rowES (u : TypeId) (h : Tryz.prog.typeName? 3 u = some "*errors.errorString") : u = 269 :=
 typeName_ptr_named (nm := "errors.errorString") (by rw [Tryz.star]; kernel_rfl) (by kernel_rfl) (by decide) u (by rw [Tryz.star]; exact h)
set_option maxRecDepth 100000 in
theorem gl_of_laid {W:World} (h:laidMet Tryz.prog laidL W):Gl W W.heap.size:=by
 obtain⟨a1,s1,hv1, -, -, -⟩:=laid_sentinel h.tail.tail.tail.tail Tryz.gER Tryz.gERT Tryz.underlying47 Tryz.rowES Tryz.underlying269 Tryz.underlying271 rfl rfl Tryz.underlying9 Tryz.cellsES Tryz.cellsStr
 obtain⟨a0,s0,hv0, -, -, -⟩:=laid_sentinel h.tail.tail.tail.tail.tail Tryz.gES Tryz.gEST Tryz.underlying47 Tryz.rowES Tryz.underlying269 Tryz.underlying271 rfl rfl Tryz.underlying9 Tryz.cellsES Tryz.cellsStr
 have c0:W.cell? ⟨4,0,none⟩=some (.iface 269 (.pointer (some a0))):=by have h0:=World.var?_cell Tryz.gES hv0 0;simpa using h0
 have c1:W.cell? ⟨5,0,none⟩=some (.iface 269 (.pointer (some a1))):=by have h0:=World.var?_cell Tryz.gER hv1 0;simpa using h0
 exact⟨⟨_,c0, .inr ⟨_,_,rfl⟩⟩,⟨_,c1, .inr ⟨_,_,rfl⟩⟩,World.block_lt_of_cell? W _ c0,World.block_lt_of_cell? W _ c1⟩
abbrev synS:ByteArray:= { data:= #[105,110,118,97,108,105,100,32,115,121,110,116,97,120] }
abbrev rngS:ByteArray:= { data:= #[118,97,108,117,101,32,111,117,116,32,111,102,32,114,97,110,103,101] }
def litVal:DataW Unit→List Value
 | .lit (.int k i)=>[Value.int k i]
 | _=>[undef]
def litVals:DataW Unit→Array Value
 | .agg l=>(l.flatMap fun d=>match d with | .agg m=>m.flatMap litVal | d=>litVal d).toArray
 | _=> #[]
noncomputable def low:Nat:=(World.holding Tryz.prog default ⟨#[], #[],[]⟩).heap.size
noncomputable def setBlock (cs:Array Value):Obj→Obj
 | .cells _ t frozen=> .cells cs t frozen
 | o=>o
noncomputable def laidWorld (os:Os):World:=
 let w0:=World.holding Tryz.prog os ⟨#[.cells #[.string synS] 271, .cells #[.string rngS] 271], #[],[]⟩
 { w0 with heap:=(((((((w0.heap.modify 4 (setBlock #[.iface 269 (.pointer (some ⟨low,0,none⟩))])).modify 5 (setBlock #[.iface 269 (.pointer (some ⟨low+1,0,none⟩))])).modify 3 (setBlock (litVals Rows.laid_internal_strconv_uint64pow10))).modify 6 (setBlock (litVals Rows.laid_math_bits_deBruijn32tab))).modify 7 (setBlock (litVals Rows.laid_math_bits_deBruijn64tab))).modify 2 (setBlock (litVals Rows.laid_unicode_utf8_acceptRanges))).modify 1 (setBlock (litVals Rows.laid_unicode_utf8_first))) }
set_option maxRecDepth 100000 in
theorem laidWorld_met (os:Os) (args:Array Value):laidMet Tryz.prog laidL ((laidWorld os).forCall (fun _ _=>0) ⟨#[],args,[]⟩).memory:=
 laidMet_of_run' 8 (by kernel_rfl) (by kernel_rfl)
end Go.Proofs.YtajgndoiddmbmaaGreatDoor
