/-
  No cell of these rows narrows 'for every input' (looked for: loops, veiled, ifaces, maps, wideKeys, modest, calm, conditions, laid).
  DERIVED. THE GIVEN ROWS OF THIS SEAT. 12 by the template 'for every input the law returns true; each argument reads behind the call as it read before'; 0 by the template 'total and deterministic' (their statements: YtbekllgecfjljaaTotals.lean).
  GIVEN WITH THE SEED: the statements are not yours to turn. If you find one false, say at which input.
  Laid BY PROGRAM, IN A SANDBOX (cutbox-rows.mjs): the forced cells as the released guide's own fill.sh prints them over the translation 476c19a225f83dc0… (all of the seat's roots in one cut). By AI agents, Wed Nov 11 2026. No macro, syntax, notation, axiom, sorry.
-/
import Derived.Test.YtbekllgecfjljaaChecked
import GoSem.Claim
import GoSem.ClaimJoined
import GoSem.ClaimMapViews
import Derived.JoinedTies
import Derived.KernelRfl
namespace Go.Proofs.Ytbekllgecfjljaa
/- THE CELL 'sum', in the pinned program and in every row, IS THE sha256 OF THE DUMP (.gsa) THAT YtbekllgecfjljaaProg.lean LOADS. Nothing in Lean hashes anything: it is a label: what it is worth is what the hold of that sum in a sandbox is worth. -/
noncomputable def Try.pinned : Pinned := { name := "ytbekllgecfjljaa", sum := "476c19a225f83dc0f81f2910f89c24c33266a066736e899871f5f771b3fecfb6", checked := Try.checked }
namespace Rows
def none {H : Type} : Left H := { results := [], args := [] }

/-- 'reedkeep.WireSums': WHATEVER THE INPUT: true; the input reads as it did. -/
def wireSumsSpec : ChangeSpec := { name := "wireSums", fn := fun _ => fun
  | [d1, d2] => { results := [.lit (.bool true)], args := [d1, d2] }
  | _ => none }
def wireSumsRow : OpenClaim := { program := "ytbekllgecfjljaa", sum := "476c19a225f83dc0f81f2910f89c24c33266a066736e899871f5f771b3fecfb6", func := "reedmace/reedkeep.WireSums", spec := "wireSums", apart := false }
def WireSumsSaid : Prop := wireSumsRow.holds Try.pinned (OpenSpec.ofChange wireSumsSpec)

/-- ITS FALSE NEIGHBOUR: 'it returns false'. Refute it at one input. -/
def wireSumsWrong : ChangeSpec := { name := "wireSums", fn := fun _ => fun
  | [d1, d2] => { results := [.lit (.bool false)], args := [d1, d2] }
  | _ => none }
def WireSumsWrongFalsely : Prop := wireSumsRow.holds Try.pinned (OpenSpec.ofChange wireSumsWrong)

/-- 'reedkeep.CubeOrder': WHATEVER THE INPUT: true; the input reads as it did. -/
def cubeOrderSpec : ChangeSpec := { name := "cubeOrder", fn := fun _ => fun
  | [d1, d2, d3, d4] => { results := [.lit (.bool true)], args := [d1, d2, d3, d4] }
  | _ => none }
def cubeOrderRow : OpenClaim := { program := "ytbekllgecfjljaa", sum := "476c19a225f83dc0f81f2910f89c24c33266a066736e899871f5f771b3fecfb6", func := "reedmace/reedkeep.CubeOrder", spec := "cubeOrder", apart := false }
def CubeOrderSaid : Prop := cubeOrderRow.holds Try.pinned (OpenSpec.ofChange cubeOrderSpec)

/-- ITS FALSE NEIGHBOUR: 'it returns false'. Refute it at one input. -/
def cubeOrderWrong : ChangeSpec := { name := "cubeOrder", fn := fun _ => fun
  | [d1, d2, d3, d4] => { results := [.lit (.bool false)], args := [d1, d2, d3, d4] }
  | _ => none }
def CubeOrderWrongFalsely : Prop := cubeOrderRow.holds Try.pinned (OpenSpec.ofChange cubeOrderWrong)

/-- 'reedkeep.CubeMeets': WHATEVER THE INPUT: true; the input reads as it did. -/
def cubeMeetsSpec : ChangeSpec := { name := "cubeMeets", fn := fun _ => fun
  | [d1, d2, d3, d4] => { results := [.lit (.bool true)], args := [d1, d2, d3, d4] }
  | _ => none }
def cubeMeetsRow : OpenClaim := { program := "ytbekllgecfjljaa", sum := "476c19a225f83dc0f81f2910f89c24c33266a066736e899871f5f771b3fecfb6", func := "reedmace/reedkeep.CubeMeets", spec := "cubeMeets", apart := false }
def CubeMeetsSaid : Prop := cubeMeetsRow.holds Try.pinned (OpenSpec.ofChange cubeMeetsSpec)

/-- ITS FALSE NEIGHBOUR: 'it returns false'. Refute it at one input. -/
def cubeMeetsWrong : ChangeSpec := { name := "cubeMeets", fn := fun _ => fun
  | [d1, d2, d3, d4] => { results := [.lit (.bool false)], args := [d1, d2, d3, d4] }
  | _ => none }
def CubeMeetsWrongFalsely : Prop := cubeMeetsRow.holds Try.pinned (OpenSpec.ofChange cubeMeetsWrong)

/-- 'reedkeep.SpanBoole': WHATEVER THE INPUT: true; the input reads as it did. -/
def spanBooleSpec : ChangeSpec := { name := "spanBoole", fn := fun _ => fun
  | [d1, d2, d3] => { results := [.lit (.bool true)], args := [d1, d2, d3] }
  | _ => none }
def spanBooleRow : OpenClaim := { program := "ytbekllgecfjljaa", sum := "476c19a225f83dc0f81f2910f89c24c33266a066736e899871f5f771b3fecfb6", func := "reedmace/reedkeep.SpanBoole", spec := "spanBoole", unfollowed := true, recurses := true, apart := false }
def SpanBooleSaid : Prop := spanBooleRow.holds Try.pinned (OpenSpec.ofChange spanBooleSpec)

/-- ITS FALSE NEIGHBOUR: 'it returns false'. Refute it at one input. -/
def spanBooleWrong : ChangeSpec := { name := "spanBoole", fn := fun _ => fun
  | [d1, d2, d3] => { results := [.lit (.bool false)], args := [d1, d2, d3] }
  | _ => none }
def SpanBooleWrongFalsely : Prop := spanBooleRow.holds Try.pinned (OpenSpec.ofChange spanBooleWrong)

/-- 'reedkeep.SpanPoints': WHATEVER THE INPUT: true; the input reads as it did. -/
def spanPointsSpec : ChangeSpec := { name := "spanPoints", fn := fun _ => fun
  | [d1, d2, d3] => { results := [.lit (.bool true)], args := [d1, d2, d3] }
  | _ => none }
def spanPointsRow : OpenClaim := { program := "ytbekllgecfjljaa", sum := "476c19a225f83dc0f81f2910f89c24c33266a066736e899871f5f771b3fecfb6", func := "reedmace/reedkeep.SpanPoints", spec := "spanPoints", unfollowed := true, recurses := true, apart := false }
def SpanPointsSaid : Prop := spanPointsRow.holds Try.pinned (OpenSpec.ofChange spanPointsSpec)

/-- ITS FALSE NEIGHBOUR: 'it returns false'. Refute it at one input. -/
def spanPointsWrong : ChangeSpec := { name := "spanPoints", fn := fun _ => fun
  | [d1, d2, d3] => { results := [.lit (.bool false)], args := [d1, d2, d3] }
  | _ => none }
def SpanPointsWrongFalsely : Prop := spanPointsRow.holds Try.pinned (OpenSpec.ofChange spanPointsWrong)

/-- 'reedkeep.FormGrows': WHATEVER THE INPUT: true; the input reads as it did. -/
def formGrowsSpec : ChangeSpec := { name := "formGrows", fn := fun _ => fun
  | [d1, d2, d3, d4] => { results := [.lit (.bool true)], args := [d1, d2, d3, d4] }
  | _ => none }
def formGrowsRow : OpenClaim := { program := "ytbekllgecfjljaa", sum := "476c19a225f83dc0f81f2910f89c24c33266a066736e899871f5f771b3fecfb6", func := "reedmace/reedkeep.FormGrows", spec := "formGrows", apart := false }
def FormGrowsSaid : Prop := formGrowsRow.holds Try.pinned (OpenSpec.ofChange formGrowsSpec)

/-- ITS FALSE NEIGHBOUR: 'it returns false'. Refute it at one input. -/
def formGrowsWrong : ChangeSpec := { name := "formGrows", fn := fun _ => fun
  | [d1, d2, d3, d4] => { results := [.lit (.bool false)], args := [d1, d2, d3, d4] }
  | _ => none }
def FormGrowsWrongFalsely : Prop := formGrowsRow.holds Try.pinned (OpenSpec.ofChange formGrowsWrong)

/-- 'reedkeep.SpanWithin': WHATEVER THE INPUT: true; the input reads as it did. -/
def spanWithinSpec : ChangeSpec := { name := "spanWithin", fn := fun _ => fun
  | [d1, d2, d3] => { results := [.lit (.bool true)], args := [d1, d2, d3] }
  | _ => none }
def spanWithinRow : OpenClaim := { program := "ytbekllgecfjljaa", sum := "476c19a225f83dc0f81f2910f89c24c33266a066736e899871f5f771b3fecfb6", func := "reedmace/reedkeep.SpanWithin", spec := "spanWithin", unfollowed := true, recurses := true, apart := false }
def SpanWithinSaid : Prop := spanWithinRow.holds Try.pinned (OpenSpec.ofChange spanWithinSpec)

/-- ITS FALSE NEIGHBOUR: 'it returns false'. Refute it at one input. -/
def spanWithinWrong : ChangeSpec := { name := "spanWithin", fn := fun _ => fun
  | [d1, d2, d3] => { results := [.lit (.bool false)], args := [d1, d2, d3] }
  | _ => none }
def SpanWithinWrongFalsely : Prop := spanWithinRow.holds Try.pinned (OpenSpec.ofChange spanWithinWrong)

/-- 'reedkeep.SpanMorgan': WHATEVER THE INPUT: true; the input reads as it did. -/
def spanMorganSpec : ChangeSpec := { name := "spanMorgan", fn := fun _ => fun
  | [d1, d2] => { results := [.lit (.bool true)], args := [d1, d2] }
  | _ => none }
def spanMorganRow : OpenClaim := { program := "ytbekllgecfjljaa", sum := "476c19a225f83dc0f81f2910f89c24c33266a066736e899871f5f771b3fecfb6", func := "reedmace/reedkeep.SpanMorgan", spec := "spanMorgan", unfollowed := true, recurses := true, apart := false }
def SpanMorganSaid : Prop := spanMorganRow.holds Try.pinned (OpenSpec.ofChange spanMorganSpec)

/-- ITS FALSE NEIGHBOUR: 'it returns false'. Refute it at one input. -/
def spanMorganWrong : ChangeSpec := { name := "spanMorgan", fn := fun _ => fun
  | [d1, d2] => { results := [.lit (.bool false)], args := [d1, d2] }
  | _ => none }
def SpanMorganWrongFalsely : Prop := spanMorganRow.holds Try.pinned (OpenSpec.ofChange spanMorganWrong)

/-- 'reedkeep.SpanParts': WHATEVER THE INPUT: true; the input reads as it did. -/
def spanPartsSpec : ChangeSpec := { name := "spanParts", fn := fun _ => fun
  | [d1, d2] => { results := [.lit (.bool true)], args := [d1, d2] }
  | _ => none }
def spanPartsRow : OpenClaim := { program := "ytbekllgecfjljaa", sum := "476c19a225f83dc0f81f2910f89c24c33266a066736e899871f5f771b3fecfb6", func := "reedmace/reedkeep.SpanParts", spec := "spanParts", unfollowed := true, recurses := true, apart := false }
def SpanPartsSaid : Prop := spanPartsRow.holds Try.pinned (OpenSpec.ofChange spanPartsSpec)

/-- ITS FALSE NEIGHBOUR: 'it returns false'. Refute it at one input. -/
def spanPartsWrong : ChangeSpec := { name := "spanParts", fn := fun _ => fun
  | [d1, d2] => { results := [.lit (.bool false)], args := [d1, d2] }
  | _ => none }
def SpanPartsWrongFalsely : Prop := spanPartsRow.holds Try.pinned (OpenSpec.ofChange spanPartsWrong)

/-- 'reedkeep.CubeHalves': WHATEVER THE INPUT: true; the input reads as it did. -/
def cubeHalvesSpec : ChangeSpec := { name := "cubeHalves", fn := fun _ => fun
  | [d1, d2] => { results := [.lit (.bool true)], args := [d1, d2] }
  | _ => none }
def cubeHalvesRow : OpenClaim := { program := "ytbekllgecfjljaa", sum := "476c19a225f83dc0f81f2910f89c24c33266a066736e899871f5f771b3fecfb6", func := "reedmace/reedkeep.CubeHalves", spec := "cubeHalves", apart := false }
def CubeHalvesSaid : Prop := cubeHalvesRow.holds Try.pinned (OpenSpec.ofChange cubeHalvesSpec)

/-- ITS FALSE NEIGHBOUR: 'it returns false'. Refute it at one input. -/
def cubeHalvesWrong : ChangeSpec := { name := "cubeHalves", fn := fun _ => fun
  | [d1, d2] => { results := [.lit (.bool false)], args := [d1, d2] }
  | _ => none }
def CubeHalvesWrongFalsely : Prop := cubeHalvesRow.holds Try.pinned (OpenSpec.ofChange cubeHalvesWrong)

/-- 'reedkeep.CubeParts': WHATEVER THE INPUT: true; the input reads as it did. -/
def cubePartsSpec : ChangeSpec := { name := "cubeParts", fn := fun _ => fun
  | [d1, d2] => { results := [.lit (.bool true)], args := [d1, d2] }
  | _ => none }
def cubePartsRow : OpenClaim := { program := "ytbekllgecfjljaa", sum := "476c19a225f83dc0f81f2910f89c24c33266a066736e899871f5f771b3fecfb6", func := "reedmace/reedkeep.CubeParts", spec := "cubeParts", apart := false }
def CubePartsSaid : Prop := cubePartsRow.holds Try.pinned (OpenSpec.ofChange cubePartsSpec)

/-- ITS FALSE NEIGHBOUR: 'it returns false'. Refute it at one input. -/
def cubePartsWrong : ChangeSpec := { name := "cubeParts", fn := fun _ => fun
  | [d1, d2] => { results := [.lit (.bool false)], args := [d1, d2] }
  | _ => none }
def CubePartsWrongFalsely : Prop := cubePartsRow.holds Try.pinned (OpenSpec.ofChange cubePartsWrong)

/-- 'reedkeep.SpanOf': WHATEVER THE INPUT: true; the input reads as it did. -/
def spanOfSpec : ChangeSpec := { name := "spanOf", fn := fun _ => fun
  | [d1, d2, d3] => { results := [.lit (.bool true)], args := [d1, d2, d3] }
  | _ => none }
def spanOfRow : OpenClaim := { program := "ytbekllgecfjljaa", sum := "476c19a225f83dc0f81f2910f89c24c33266a066736e899871f5f771b3fecfb6", func := "reedmace/reedkeep.SpanOf", spec := "spanOf", unfollowed := true, recurses := true, apart := false }
def SpanOfSaid : Prop := spanOfRow.holds Try.pinned (OpenSpec.ofChange spanOfSpec)

/-- ITS FALSE NEIGHBOUR: 'it returns false'. Refute it at one input. -/
def spanOfWrong : ChangeSpec := { name := "spanOf", fn := fun _ => fun
  | [d1, d2, d3] => { results := [.lit (.bool false)], args := [d1, d2, d3] }
  | _ => none }
def SpanOfWrongFalsely : Prop := spanOfRow.holds Try.pinned (OpenSpec.ofChange spanOfWrong)

/- THE SECOND FORM. 'bulk': how many values and letters a reading holds, each counted each time it is reached (what is shared counts as often as it is met; a slice's spare places count too). A statement '..UptoSaid' is the law's where the arguments, and the package variables that the reading takes, are together of bulk at most 1048576: NARROWER than '..Said'. Prove '..Said' where nothing that the law and all that it calls make is longer than what came in: it says more and counts as full. Else prove '..UptoSaid'. A law counts once. -/
mutual
def uptoBulk {H : Type} : DataW H → Nat
  | .lit (.string bytes) => bytes.length + 1
  | .lit _ => 1
  | .nil => 1
  | .ptr d => uptoBulk d + 1
  | .slice elems spare => uptoBulkAll elems + uptoBulkAll spare + 1
  | .agg parts => uptoBulkAll parts + 1
  | .iface _ d => uptoBulk d + 1
  | .map entries => uptoBulkEntries entries + 1
  | .held _ => 1
def uptoBulkAll {H : Type} : List (DataW H) → Nat
  | [] => 0
  | d :: r => uptoBulk d + uptoBulkAll r
def uptoBulkEntries {H : Type} : List (Lit × DataW H) → Nat
  | [] => 0
  | x :: r => uptoBulkEntry x + uptoBulkEntries r
def uptoBulkEntry {H : Type} : Lit × DataW H → Nat
  | (.string bytes, d) => bytes.length + uptoBulk d + 1
  | (_, d) => uptoBulk d + 1
 end
def uptoSmall : (H : Type) → List (DataW H) → Bool := fun _ ds => decide (uptoBulkAll ds ≤ 1048576)
def OpenSpec.upto (s : _root_.Go.ChangeSpec) : _root_.Go.OpenSpec := { _root_.Go.OpenSpec.ofChange s with cond := some uptoSmall }

/-- 'reedkeep.WireSums', WHERE WHAT IT READS IS OF BULK AT MOST 1048576: true; the input reads as it did. -/
def wireSumsUptoRow : OpenClaim := { program := "ytbekllgecfjljaa", sum := "476c19a225f83dc0f81f2910f89c24c33266a066736e899871f5f771b3fecfb6", func := "reedmace/reedkeep.WireSums", spec := "wireSums", apart := false, narrowed := true }
def WireSumsUptoSaid : Prop := wireSumsUptoRow.holds Try.pinned (OpenSpec.upto wireSumsSpec)

/-- 'reedkeep.CubeOrder', WHERE WHAT IT READS IS OF BULK AT MOST 1048576: true; the input reads as it did. -/
def cubeOrderUptoRow : OpenClaim := { program := "ytbekllgecfjljaa", sum := "476c19a225f83dc0f81f2910f89c24c33266a066736e899871f5f771b3fecfb6", func := "reedmace/reedkeep.CubeOrder", spec := "cubeOrder", apart := false, narrowed := true }
def CubeOrderUptoSaid : Prop := cubeOrderUptoRow.holds Try.pinned (OpenSpec.upto cubeOrderSpec)

/-- 'reedkeep.CubeMeets', WHERE WHAT IT READS IS OF BULK AT MOST 1048576: true; the input reads as it did. -/
def cubeMeetsUptoRow : OpenClaim := { program := "ytbekllgecfjljaa", sum := "476c19a225f83dc0f81f2910f89c24c33266a066736e899871f5f771b3fecfb6", func := "reedmace/reedkeep.CubeMeets", spec := "cubeMeets", apart := false, narrowed := true }
def CubeMeetsUptoSaid : Prop := cubeMeetsUptoRow.holds Try.pinned (OpenSpec.upto cubeMeetsSpec)

/-- 'reedkeep.SpanBoole', WHERE WHAT IT READS IS OF BULK AT MOST 1048576: true; the input reads as it did. -/
def spanBooleUptoRow : OpenClaim := { program := "ytbekllgecfjljaa", sum := "476c19a225f83dc0f81f2910f89c24c33266a066736e899871f5f771b3fecfb6", func := "reedmace/reedkeep.SpanBoole", spec := "spanBoole", unfollowed := true, recurses := true, apart := false, narrowed := true }
def SpanBooleUptoSaid : Prop := spanBooleUptoRow.holds Try.pinned (OpenSpec.upto spanBooleSpec)

/-- 'reedkeep.SpanPoints', WHERE WHAT IT READS IS OF BULK AT MOST 1048576: true; the input reads as it did. -/
def spanPointsUptoRow : OpenClaim := { program := "ytbekllgecfjljaa", sum := "476c19a225f83dc0f81f2910f89c24c33266a066736e899871f5f771b3fecfb6", func := "reedmace/reedkeep.SpanPoints", spec := "spanPoints", unfollowed := true, recurses := true, apart := false, narrowed := true }
def SpanPointsUptoSaid : Prop := spanPointsUptoRow.holds Try.pinned (OpenSpec.upto spanPointsSpec)

/-- 'reedkeep.FormGrows', WHERE WHAT IT READS IS OF BULK AT MOST 1048576: true; the input reads as it did. -/
def formGrowsUptoRow : OpenClaim := { program := "ytbekllgecfjljaa", sum := "476c19a225f83dc0f81f2910f89c24c33266a066736e899871f5f771b3fecfb6", func := "reedmace/reedkeep.FormGrows", spec := "formGrows", apart := false, narrowed := true }
def FormGrowsUptoSaid : Prop := formGrowsUptoRow.holds Try.pinned (OpenSpec.upto formGrowsSpec)

/-- 'reedkeep.SpanWithin', WHERE WHAT IT READS IS OF BULK AT MOST 1048576: true; the input reads as it did. -/
def spanWithinUptoRow : OpenClaim := { program := "ytbekllgecfjljaa", sum := "476c19a225f83dc0f81f2910f89c24c33266a066736e899871f5f771b3fecfb6", func := "reedmace/reedkeep.SpanWithin", spec := "spanWithin", unfollowed := true, recurses := true, apart := false, narrowed := true }
def SpanWithinUptoSaid : Prop := spanWithinUptoRow.holds Try.pinned (OpenSpec.upto spanWithinSpec)

/-- 'reedkeep.SpanMorgan', WHERE WHAT IT READS IS OF BULK AT MOST 1048576: true; the input reads as it did. -/
def spanMorganUptoRow : OpenClaim := { program := "ytbekllgecfjljaa", sum := "476c19a225f83dc0f81f2910f89c24c33266a066736e899871f5f771b3fecfb6", func := "reedmace/reedkeep.SpanMorgan", spec := "spanMorgan", unfollowed := true, recurses := true, apart := false, narrowed := true }
def SpanMorganUptoSaid : Prop := spanMorganUptoRow.holds Try.pinned (OpenSpec.upto spanMorganSpec)

/-- 'reedkeep.SpanParts', WHERE WHAT IT READS IS OF BULK AT MOST 1048576: true; the input reads as it did. -/
def spanPartsUptoRow : OpenClaim := { program := "ytbekllgecfjljaa", sum := "476c19a225f83dc0f81f2910f89c24c33266a066736e899871f5f771b3fecfb6", func := "reedmace/reedkeep.SpanParts", spec := "spanParts", unfollowed := true, recurses := true, apart := false, narrowed := true }
def SpanPartsUptoSaid : Prop := spanPartsUptoRow.holds Try.pinned (OpenSpec.upto spanPartsSpec)

/-- 'reedkeep.CubeHalves', WHERE WHAT IT READS IS OF BULK AT MOST 1048576: true; the input reads as it did. -/
def cubeHalvesUptoRow : OpenClaim := { program := "ytbekllgecfjljaa", sum := "476c19a225f83dc0f81f2910f89c24c33266a066736e899871f5f771b3fecfb6", func := "reedmace/reedkeep.CubeHalves", spec := "cubeHalves", apart := false, narrowed := true }
def CubeHalvesUptoSaid : Prop := cubeHalvesUptoRow.holds Try.pinned (OpenSpec.upto cubeHalvesSpec)

/-- 'reedkeep.CubeParts', WHERE WHAT IT READS IS OF BULK AT MOST 1048576: true; the input reads as it did. -/
def cubePartsUptoRow : OpenClaim := { program := "ytbekllgecfjljaa", sum := "476c19a225f83dc0f81f2910f89c24c33266a066736e899871f5f771b3fecfb6", func := "reedmace/reedkeep.CubeParts", spec := "cubeParts", apart := false, narrowed := true }
def CubePartsUptoSaid : Prop := cubePartsUptoRow.holds Try.pinned (OpenSpec.upto cubePartsSpec)

/-- 'reedkeep.SpanOf', WHERE WHAT IT READS IS OF BULK AT MOST 1048576: true; the input reads as it did. -/
def spanOfUptoRow : OpenClaim := { program := "ytbekllgecfjljaa", sum := "476c19a225f83dc0f81f2910f89c24c33266a066736e899871f5f771b3fecfb6", func := "reedmace/reedkeep.SpanOf", spec := "spanOf", unfollowed := true, recurses := true, apart := false, narrowed := true }
def SpanOfUptoSaid : Prop := spanOfUptoRow.holds Try.pinned (OpenSpec.upto spanOfSpec)

end Rows
end Go.Proofs.Ytbekllgecfjljaa
