/- Towards what desk.Run answers. -/
import Derived.Test.YtajgndoiddmbmaaGreatDoorFrame
import Derived.Stop.LaidErr
import Derived.ChangeSame
import Derived.ChangeVars
import Derived.ChangeMaps5
import Derived.JoinedOf
import Derived.JoinedAt
import Derived.RowKit3
import Derived.RowKitTokens
import Derived.LaidLaws
import Derived.Test.YtajgndoiddmbmaaGreatDoorMDkR
import Derived.Test.YtajgndoiddmbmaaGreatDoorTie
import Derived.Test.YtajgndoiddmbmaaGreatDoorCards
import Derived.SevenTiedAt
import Derived.Deep.DeepHandedRow
import Derived.Deep.DeepWitnessRowRef
import Derived.Lib.LaidTab
namespace Go.Proofs.YtajgndoiddmbmaaGreatDoor
set_option maxRecDepth 100000
set_option maxHeartbeats 40000000
open Go.ChangeShapes Go.WideShapes Go.ChangeAt Go.RowKit Go.Shelf
abbrev zm : List (String × DataW Unit) := [("math/bits.deBruijn32tab", Rows.laid_math_bits_deBruijn32tab), ("math/bits.deBruijn64tab", Rows.laid_math_bits_deBruijn64tab), ("internal/strconv.uint64pow10", Rows.laid_internal_strconv_uint64pow10), ("unicode/utf8.acceptRanges", Rows.laid_unicode_utf8_acceptRanges), ("strconv.ErrRange", Rows.laid_strconv_ErrRange), ("strconv.ErrSyntax", Rows.laid_strconv_ErrSyntax), ("unicode/utf8.first", Rows.laid_unicode_utf8_first)]
theorem Tryz.gES : Tryz.prog.globalNamed "strconv.ErrSyntax" = some 4 := by kernel_rfl
theorem Tryz.gER : Tryz.prog.globalNamed "strconv.ErrRange" = some 5 := by kernel_rfl
theorem Tryz.gEST:(Tryz.prog.globals[4]?).map (·.type)=some 47:=by kernel_rfl
theorem Tryz.gERT:(Tryz.prog.globals[5]?).map (·.type)=some 47:=by kernel_rfl
theorem Tryz.cellsES:Tryz.prog.cellsOf 271=1:=by kernel_rfl
theorem Tryz.cellsStr:Tryz.prog.cellsOf 9=1:=by kernel_rfl
theorem Tryz.star : "*" ++ "errors.errorString" = "*errors.errorString" := by decide
theorem Tryz.rowES (u : TypeId) (h : Tryz.prog.typeName? 3 u = some "*errors.errorString") : u = 269 :=
 typeName_ptr_named (nm := "errors.errorString") (by rw [Tryz.star]; kernel_rfl) (by kernel_rfl) (by decide) u (by rw [Tryz.star]; exact h)
theorem N6 {W:World} (h:laidMet Tryz.prog zm W):Gl W W.heap.size:=by
 obtain⟨a1,s1,hv1, -, -, -⟩:=laid_sentinel h.tail.tail.tail.tail Tryz.gER Tryz.gERT Tryz.underlying47 Tryz.rowES Tryz.underlying269 Tryz.underlying271 rfl rfl Tryz.underlying9 Tryz.cellsES Tryz.cellsStr;obtain⟨a0,s0,hv0, -, -, -⟩:=laid_sentinel h.tail.tail.tail.tail.tail Tryz.gES Tryz.gEST Tryz.underlying47 Tryz.rowES Tryz.underlying269 Tryz.underlying271 rfl rfl Tryz.underlying9 Tryz.cellsES Tryz.cellsStr;have c0:W.cell? ⟨4,0,none⟩=some (.iface 269 (.pointer (some a0))):=by have h0:=World.var?_cell Tryz.gES hv0 0;simpa using h0
 have c1:W.cell? ⟨5,0,none⟩=some (.iface 269 (.pointer (some a1))):=by have h0:=World.var?_cell Tryz.gER hv1 0;simpa using h0
 exact⟨⟨_,c0, .inr ⟨_,_,rfl⟩⟩,⟨_,c1, .inr ⟨_,_,rfl⟩⟩,World.block_lt_of_cell? W _ c0,World.block_lt_of_cell? W _ c1⟩
abbrev aeJ:ByteArray:= { data:= #[105,110,118,97,108,105,100,32,115,121,110,116,97,120] }
abbrev aeP:ByteArray:= { data:= #[118,97,108,117,101,32,111,117,116,32,111,102,32,114,97,110,103,101] }
def litVal:DataW Unit→List Value
 | .lit (.int k i)=>[Value.int k i]
 | _=>[undef]
def wJ:DataW Unit→Array Value
 | .agg l=>(l.flatMap fun d=>match d with | .agg m=>m.flatMap litVal | d=>litVal d).toArray
 | _=> #[]
noncomputable def low:Nat:=(World.holding Tryz.prog default ⟨#[], #[],[]⟩).heap.size
noncomputable def setBlock (cs:Array Value):Obj→Obj
 | .cells _ t frozen=> .cells cs t frozen
 | o=>o
noncomputable def rU (os:Os):World:=
 let w0:=World.holding Tryz.prog os ⟨#[.cells #[.string aeJ] 271, .cells #[.string aeP] 271], #[],[]⟩
 { w0 with heap:=(((((((w0.heap.modify 4 (setBlock #[.iface 269 (.pointer (some ⟨low,0,none⟩))])).modify 5 (setBlock #[.iface 269 (.pointer (some ⟨low+1,0,none⟩))])).modify 3 (setBlock (wJ Rows.laid_internal_strconv_uint64pow10))).modify 6 (setBlock (wJ Rows.laid_math_bits_deBruijn32tab))).modify 7 (setBlock (wJ Rows.laid_math_bits_deBruijn64tab))).modify 2 (setBlock (wJ Rows.laid_unicode_utf8_acceptRanges))).modify 1 (setBlock (wJ Rows.laid_unicode_utf8_first))) }
theorem yj (os:Os) (args:Array Value):laidMet Tryz.prog zm ((rU os).forCall (fun _ _=>0) ⟨#[],args,[]⟩).memory:=
 laidMet_of_run' 8 (by kernel_rfl) (by kernel_rfl)
theorem Tryz.gP10 : Tryz.prog.globalNamed "internal/strconv.uint64pow10" = some 3 := by kernel_rfl
theorem Tryz.gP10T:(Tryz.prog.globals[3]?).map (·.type)=some 220:=by kernel_rfl
theorem Tryz.cellsU64:Tryz.prog.cellsOf 64=1:=by kernel_rfl
theorem Tryz.cells20:Tryz.prog.cellsOf 220=20:=by kernel_rfl
theorem ND:(Rows.laid_internal_strconv_uint64pow10:DataW Unit)=Lib.tabData .u64 Lib.pow10Tab:=rfl
theorem Dr {W:World} (h:laidMet Tryz.prog zm W):Gd W.heap.size W:=by
 refine⟨N6 h,Lib.tabBelow_of_tabIs ?_,Nat.le_refl _⟩;have h3:=h.tail.tail;rw[ND] at h3;exact Lib.tabIs_of_head Tryz.gP10 Tryz.gP10T Tryz.underlying220 Tryz.underlying64 Tryz.cellsU64 Tryz.cells20 h3
theorem Mq {H:Type} {bytes:List UInt8} {r:List (DataW H)} (h:Rows.uptoSmall H (.lit (.string bytes)::r)=true):bytes.length≤1048576:=by
 have h1:Rows.uptoBulkAll (DataW.lit (H:=H) (.string bytes)::r)≤1048576:=of_decide_eq_true h;simp only[Rows.uptoBulkAll,Rows.uptoBulk] at h1;omega
end Go.Proofs.YtajgndoiddmbmaaGreatDoor
