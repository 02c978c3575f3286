/-
  No cell of these rows narrows 'for every input' (looked for: loops, veiled, ifaces, maps, wideKeys, modest, calm, conditions, laid).
  DERIVED. THE GIVEN ROWS OF THIS SEAT. 12 by the template 'for every input the law returns true; each argument reads behind the call as it read before'; 0 by the template 'total and deterministic' (their statements: YtcanefjjpeoikaaTotals.lean).
  GIVEN WITH THE SEED: the statements are not yours to turn. If you find one false, say at which input.
  Laid BY PROGRAM, IN A SANDBOX (cutbox-rows.mjs): the forced cells as the released guide's own fill.sh prints them over the translation 40d11d12492c1284… (all of the seat's roots in one cut). By AI agents, Wed Nov 11 2026. No macro, syntax, notation, axiom, sorry.
-/
import Derived.Test.YtcanefjjpeoikaaChecked
import GoSem.Claim
import GoSem.ClaimJoined
import GoSem.ClaimMapViews
import Derived.JoinedTies
import Derived.KernelRfl
namespace Go.Proofs.Ytcanefjjpeoikaa
/- THE CELL 'sum', in the pinned program and in every row, IS THE sha256 OF THE DUMP (.gsa) THAT YtcanefjjpeoikaaProg.lean LOADS. Nothing in Lean hashes anything: it is a label: what it is worth is what the hold of that sum in a sandbox is worth. -/
noncomputable def Try.pinned : Pinned := { name := "ytcanefjjpeoikaa", sum := "40d11d12492c128440cb14d8986c9f39e3f707e68a77e12e6566adbbf53b1ac7", checked := Try.checked }
namespace Rows
def none {H : Type} : Left H := { results := [], args := [] }

/-- 'reedkeep.FormGrows': WHATEVER THE INPUT: true; the input reads as it did. -/
def formGrowsSpec : ChangeSpec := { name := "formGrows", fn := fun _ => fun
  | [d1, d2, d3, d4] => { results := [.lit (.bool true)], args := [d1, d2, d3, d4] }
  | _ => none }
def formGrowsRow : OpenClaim := { program := "ytcanefjjpeoikaa", sum := "40d11d12492c128440cb14d8986c9f39e3f707e68a77e12e6566adbbf53b1ac7", func := "reedmace/reedkeep.FormGrows", spec := "formGrows", apart := false }
def FormGrowsSaid : Prop := formGrowsRow.holds Try.pinned (OpenSpec.ofChange formGrowsSpec)

/-- ITS FALSE NEIGHBOUR: 'it returns false'. Refute it at one input. -/
def formGrowsWrong : ChangeSpec := { name := "formGrows", fn := fun _ => fun
  | [d1, d2, d3, d4] => { results := [.lit (.bool false)], args := [d1, d2, d3, d4] }
  | _ => none }
def FormGrowsWrongFalsely : Prop := formGrowsRow.holds Try.pinned (OpenSpec.ofChange formGrowsWrong)

/-- 'reedkeep.FilterBoole': WHATEVER THE INPUT: true; the input reads as it did. -/
def filterBooleSpec : ChangeSpec := { name := "filterBoole", fn := fun _ => fun
  | [d1, d2, d3] => { results := [.lit (.bool true)], args := [d1, d2, d3] }
  | _ => none }
def filterBooleRow : OpenClaim := { program := "ytcanefjjpeoikaa", sum := "40d11d12492c128440cb14d8986c9f39e3f707e68a77e12e6566adbbf53b1ac7", func := "reedmace/reedkeep.FilterBoole", spec := "filterBoole", unfollowed := true, recurses := true, apart := false }
def FilterBooleSaid : Prop := filterBooleRow.holds Try.pinned (OpenSpec.ofChange filterBooleSpec)

/-- ITS FALSE NEIGHBOUR: 'it returns false'. Refute it at one input. -/
def filterBooleWrong : ChangeSpec := { name := "filterBoole", fn := fun _ => fun
  | [d1, d2, d3] => { results := [.lit (.bool false)], args := [d1, d2, d3] }
  | _ => none }
def FilterBooleWrongFalsely : Prop := filterBooleRow.holds Try.pinned (OpenSpec.ofChange filterBooleWrong)

/-- 'reedkeep.FilterParts': WHATEVER THE INPUT: true; the input reads as it did. -/
def filterPartsSpec : ChangeSpec := { name := "filterParts", fn := fun _ => fun
  | [d1, d2] => { results := [.lit (.bool true)], args := [d1, d2] }
  | _ => none }
def filterPartsRow : OpenClaim := { program := "ytcanefjjpeoikaa", sum := "40d11d12492c128440cb14d8986c9f39e3f707e68a77e12e6566adbbf53b1ac7", func := "reedmace/reedkeep.FilterParts", spec := "filterParts", unfollowed := true, recurses := true, apart := false }
def FilterPartsSaid : Prop := filterPartsRow.holds Try.pinned (OpenSpec.ofChange filterPartsSpec)

/-- ITS FALSE NEIGHBOUR: 'it returns false'. Refute it at one input. -/
def filterPartsWrong : ChangeSpec := { name := "filterParts", fn := fun _ => fun
  | [d1, d2] => { results := [.lit (.bool false)], args := [d1, d2] }
  | _ => none }
def FilterPartsWrongFalsely : Prop := filterPartsRow.holds Try.pinned (OpenSpec.ofChange filterPartsWrong)

/-- 'reedkeep.FilterGrows': WHATEVER THE INPUT: true; the input reads as it did. -/
def filterGrowsSpec : ChangeSpec := { name := "filterGrows", fn := fun _ => fun
  | [d1, d2, d3] => { results := [.lit (.bool true)], args := [d1, d2, d3] }
  | _ => none }
def filterGrowsRow : OpenClaim := { program := "ytcanefjjpeoikaa", sum := "40d11d12492c128440cb14d8986c9f39e3f707e68a77e12e6566adbbf53b1ac7", func := "reedmace/reedkeep.FilterGrows", spec := "filterGrows", unfollowed := true, recurses := true, apart := false }
def FilterGrowsSaid : Prop := filterGrowsRow.holds Try.pinned (OpenSpec.ofChange filterGrowsSpec)

/-- ITS FALSE NEIGHBOUR: 'it returns false'. Refute it at one input. -/
def filterGrowsWrong : ChangeSpec := { name := "filterGrows", fn := fun _ => fun
  | [d1, d2, d3] => { results := [.lit (.bool false)], args := [d1, d2, d3] }
  | _ => none }
def FilterGrowsWrongFalsely : Prop := filterGrowsRow.holds Try.pinned (OpenSpec.ofChange filterGrowsWrong)

/-- 'reedkeep.FilterMorgan': WHATEVER THE INPUT: true; the input reads as it did. -/
def filterMorganSpec : ChangeSpec := { name := "filterMorgan", fn := fun _ => fun
  | [d1, d2] => { results := [.lit (.bool true)], args := [d1, d2] }
  | _ => none }
def filterMorganRow : OpenClaim := { program := "ytcanefjjpeoikaa", sum := "40d11d12492c128440cb14d8986c9f39e3f707e68a77e12e6566adbbf53b1ac7", func := "reedmace/reedkeep.FilterMorgan", spec := "filterMorgan", unfollowed := true, recurses := true, apart := false }
def FilterMorganSaid : Prop := filterMorganRow.holds Try.pinned (OpenSpec.ofChange filterMorganSpec)

/-- ITS FALSE NEIGHBOUR: 'it returns false'. Refute it at one input. -/
def filterMorganWrong : ChangeSpec := { name := "filterMorgan", fn := fun _ => fun
  | [d1, d2] => { results := [.lit (.bool false)], args := [d1, d2] }
  | _ => none }
def FilterMorganWrongFalsely : Prop := filterMorganRow.holds Try.pinned (OpenSpec.ofChange filterMorganWrong)

/-- 'reedkeep.FilterMoves': WHATEVER THE INPUT: true; the input reads as it did. -/
def filterMovesSpec : ChangeSpec := { name := "filterMoves", fn := fun _ => fun
  | [d1, d2, d3] => { results := [.lit (.bool true)], args := [d1, d2, d3] }
  | _ => none }
def filterMovesRow : OpenClaim := { program := "ytcanefjjpeoikaa", sum := "40d11d12492c128440cb14d8986c9f39e3f707e68a77e12e6566adbbf53b1ac7", func := "reedmace/reedkeep.FilterMoves", spec := "filterMoves", unfollowed := true, recurses := true, apart := false }
def FilterMovesSaid : Prop := filterMovesRow.holds Try.pinned (OpenSpec.ofChange filterMovesSpec)

/-- ITS FALSE NEIGHBOUR: 'it returns false'. Refute it at one input. -/
def filterMovesWrong : ChangeSpec := { name := "filterMoves", fn := fun _ => fun
  | [d1, d2, d3] => { results := [.lit (.bool false)], args := [d1, d2, d3] }
  | _ => none }
def FilterMovesWrongFalsely : Prop := filterMovesRow.holds Try.pinned (OpenSpec.ofChange filterMovesWrong)

/-- 'reedkeep.FilterPoints': WHATEVER THE INPUT: true; the input reads as it did. -/
def filterPointsSpec : ChangeSpec := { name := "filterPoints", fn := fun _ => fun
  | [d1, d2, d3] => { results := [.lit (.bool true)], args := [d1, d2, d3] }
  | _ => none }
def filterPointsRow : OpenClaim := { program := "ytcanefjjpeoikaa", sum := "40d11d12492c128440cb14d8986c9f39e3f707e68a77e12e6566adbbf53b1ac7", func := "reedmace/reedkeep.FilterPoints", spec := "filterPoints", unfollowed := true, recurses := true, apart := false }
def FilterPointsSaid : Prop := filterPointsRow.holds Try.pinned (OpenSpec.ofChange filterPointsSpec)

/-- ITS FALSE NEIGHBOUR: 'it returns false'. Refute it at one input. -/
def filterPointsWrong : ChangeSpec := { name := "filterPoints", fn := fun _ => fun
  | [d1, d2, d3] => { results := [.lit (.bool false)], args := [d1, d2, d3] }
  | _ => none }
def FilterPointsWrongFalsely : Prop := filterPointsRow.holds Try.pinned (OpenSpec.ofChange filterPointsWrong)

/-- 'reedkeep.FilterWithin': WHATEVER THE INPUT: true; the input reads as it did. -/
def filterWithinSpec : ChangeSpec := { name := "filterWithin", fn := fun _ => fun
  | [d1, d2, d3, d4] => { results := [.lit (.bool true)], args := [d1, d2, d3, d4] }
  | _ => none }
def filterWithinRow : OpenClaim := { program := "ytcanefjjpeoikaa", sum := "40d11d12492c128440cb14d8986c9f39e3f707e68a77e12e6566adbbf53b1ac7", func := "reedmace/reedkeep.FilterWithin", spec := "filterWithin", unfollowed := true, recurses := true, apart := false }
def FilterWithinSaid : Prop := filterWithinRow.holds Try.pinned (OpenSpec.ofChange filterWithinSpec)

/-- ITS FALSE NEIGHBOUR: 'it returns false'. Refute it at one input. -/
def filterWithinWrong : ChangeSpec := { name := "filterWithin", fn := fun _ => fun
  | [d1, d2, d3, d4] => { results := [.lit (.bool false)], args := [d1, d2, d3, d4] }
  | _ => none }
def FilterWithinWrongFalsely : Prop := filterWithinRow.holds Try.pinned (OpenSpec.ofChange filterWithinWrong)

/-- 'reedkeep.FilterBox': WHATEVER THE INPUT: true; the input reads as it did. -/
def filterBoxSpec : ChangeSpec := { name := "filterBox", fn := fun _ => fun
  | [d1, d2, d3, d4] => { results := [.lit (.bool true)], args := [d1, d2, d3, d4] }
  | _ => none }
def filterBoxRow : OpenClaim := { program := "ytcanefjjpeoikaa", sum := "40d11d12492c128440cb14d8986c9f39e3f707e68a77e12e6566adbbf53b1ac7", func := "reedmace/reedkeep.FilterBox", spec := "filterBox", unfollowed := true, recurses := true, apart := false }
def FilterBoxSaid : Prop := filterBoxRow.holds Try.pinned (OpenSpec.ofChange filterBoxSpec)

/-- ITS FALSE NEIGHBOUR: 'it returns false'. Refute it at one input. -/
def filterBoxWrong : ChangeSpec := { name := "filterBox", fn := fun _ => fun
  | [d1, d2, d3, d4] => { results := [.lit (.bool false)], args := [d1, d2, d3, d4] }
  | _ => none }
def FilterBoxWrongFalsely : Prop := filterBoxRow.holds Try.pinned (OpenSpec.ofChange filterBoxWrong)

/-- 'reedkeep.FormBoole': WHATEVER THE INPUT: true; the input reads as it did. -/
def formBooleSpec : ChangeSpec := { name := "formBoole", fn := fun _ => fun
  | [d1, d2] => { results := [.lit (.bool true)], args := [d1, d2] }
  | _ => none }
def formBooleRow : OpenClaim := { program := "ytcanefjjpeoikaa", sum := "40d11d12492c128440cb14d8986c9f39e3f707e68a77e12e6566adbbf53b1ac7", func := "reedmace/reedkeep.FormBoole", spec := "formBoole", unfollowed := true, recurses := true, apart := false }
def FormBooleSaid : Prop := formBooleRow.holds Try.pinned (OpenSpec.ofChange formBooleSpec)

/-- ITS FALSE NEIGHBOUR: 'it returns false'. Refute it at one input. -/
def formBooleWrong : ChangeSpec := { name := "formBoole", fn := fun _ => fun
  | [d1, d2] => { results := [.lit (.bool false)], args := [d1, d2] }
  | _ => none }
def FormBooleWrongFalsely : Prop := formBooleRow.holds Try.pinned (OpenSpec.ofChange formBooleWrong)

/-- 'reedkeep.FilterOwn': WHATEVER THE INPUT: true; the input reads as it did. -/
def filterOwnSpec : ChangeSpec := { name := "filterOwn", fn := fun _ => fun
  | [d1, d2, d3, d4] => { results := [.lit (.bool true)], args := [d1, d2, d3, d4] }
  | _ => none }
def filterOwnRow : OpenClaim := { program := "ytcanefjjpeoikaa", sum := "40d11d12492c128440cb14d8986c9f39e3f707e68a77e12e6566adbbf53b1ac7", func := "reedmace/reedkeep.FilterOwn", spec := "filterOwn", unfollowed := true, recurses := true, apart := false }
def FilterOwnSaid : Prop := filterOwnRow.holds Try.pinned (OpenSpec.ofChange filterOwnSpec)

/-- ITS FALSE NEIGHBOUR: 'it returns false'. Refute it at one input. -/
def filterOwnWrong : ChangeSpec := { name := "filterOwn", fn := fun _ => fun
  | [d1, d2, d3, d4] => { results := [.lit (.bool false)], args := [d1, d2, d3, d4] }
  | _ => none }
def FilterOwnWrongFalsely : Prop := filterOwnRow.holds Try.pinned (OpenSpec.ofChange filterOwnWrong)

/-- 'reedkeep.FormBack': WHATEVER THE INPUT: true; the input reads as it did. -/
def formBackSpec : ChangeSpec := { name := "formBack", fn := fun _ => fun
  | [d1, d2] => { results := [.lit (.bool true)], args := [d1, d2] }
  | _ => none }
def formBackRow : OpenClaim := { program := "ytcanefjjpeoikaa", sum := "40d11d12492c128440cb14d8986c9f39e3f707e68a77e12e6566adbbf53b1ac7", func := "reedmace/reedkeep.FormBack", spec := "formBack", unfollowed := true, recurses := true, apart := false }
def FormBackSaid : Prop := formBackRow.holds Try.pinned (OpenSpec.ofChange formBackSpec)

/-- ITS FALSE NEIGHBOUR: 'it returns false'. Refute it at one input. -/
def formBackWrong : ChangeSpec := { name := "formBack", fn := fun _ => fun
  | [d1, d2] => { results := [.lit (.bool false)], args := [d1, d2] }
  | _ => none }
def FormBackWrongFalsely : Prop := formBackRow.holds Try.pinned (OpenSpec.ofChange formBackWrong)

/- THE SECOND FORM. 'bulk': how many values and letters a reading holds, each counted each time it is reached (what is shared counts as often as it is met; a slice's spare places count too). A statement '..UptoSaid' is the law's where the arguments, and the package variables that the reading takes, are together of bulk at most 1048576: NARROWER than '..Said'. Prove '..Said' where nothing that the law and all that it calls make is longer than what came in: it says more and counts as full. Else prove '..UptoSaid'. A law counts once. -/
mutual
def uptoBulk {H : Type} : DataW H → Nat
  | .lit (.string bytes) => bytes.length + 1
  | .lit _ => 1
  | .nil => 1
  | .ptr d => uptoBulk d + 1
  | .slice elems spare => uptoBulkAll elems + uptoBulkAll spare + 1
  | .agg parts => uptoBulkAll parts + 1
  | .iface _ d => uptoBulk d + 1
  | .map entries => uptoBulkEntries entries + 1
  | .held _ => 1
def uptoBulkAll {H : Type} : List (DataW H) → Nat
  | [] => 0
  | d :: r => uptoBulk d + uptoBulkAll r
def uptoBulkEntries {H : Type} : List (Lit × DataW H) → Nat
  | [] => 0
  | x :: r => uptoBulkEntry x + uptoBulkEntries r
def uptoBulkEntry {H : Type} : Lit × DataW H → Nat
  | (.string bytes, d) => bytes.length + uptoBulk d + 1
  | (_, d) => uptoBulk d + 1
 end
def uptoSmall : (H : Type) → List (DataW H) → Bool := fun _ ds => decide (uptoBulkAll ds ≤ 1048576)
def OpenSpec.upto (s : _root_.Go.ChangeSpec) : _root_.Go.OpenSpec := { _root_.Go.OpenSpec.ofChange s with cond := some uptoSmall }

/-- 'reedkeep.FormGrows', WHERE WHAT IT READS IS OF BULK AT MOST 1048576: true; the input reads as it did. -/
def formGrowsUptoRow : OpenClaim := { program := "ytcanefjjpeoikaa", sum := "40d11d12492c128440cb14d8986c9f39e3f707e68a77e12e6566adbbf53b1ac7", func := "reedmace/reedkeep.FormGrows", spec := "formGrows", apart := false, narrowed := true }
def FormGrowsUptoSaid : Prop := formGrowsUptoRow.holds Try.pinned (OpenSpec.upto formGrowsSpec)

/-- 'reedkeep.FilterBoole', WHERE WHAT IT READS IS OF BULK AT MOST 1048576: true; the input reads as it did. -/
def filterBooleUptoRow : OpenClaim := { program := "ytcanefjjpeoikaa", sum := "40d11d12492c128440cb14d8986c9f39e3f707e68a77e12e6566adbbf53b1ac7", func := "reedmace/reedkeep.FilterBoole", spec := "filterBoole", unfollowed := true, recurses := true, apart := false, narrowed := true }
def FilterBooleUptoSaid : Prop := filterBooleUptoRow.holds Try.pinned (OpenSpec.upto filterBooleSpec)

/-- 'reedkeep.FilterParts', WHERE WHAT IT READS IS OF BULK AT MOST 1048576: true; the input reads as it did. -/
def filterPartsUptoRow : OpenClaim := { program := "ytcanefjjpeoikaa", sum := "40d11d12492c128440cb14d8986c9f39e3f707e68a77e12e6566adbbf53b1ac7", func := "reedmace/reedkeep.FilterParts", spec := "filterParts", unfollowed := true, recurses := true, apart := false, narrowed := true }
def FilterPartsUptoSaid : Prop := filterPartsUptoRow.holds Try.pinned (OpenSpec.upto filterPartsSpec)

/-- 'reedkeep.FilterGrows', WHERE WHAT IT READS IS OF BULK AT MOST 1048576: true; the input reads as it did. -/
def filterGrowsUptoRow : OpenClaim := { program := "ytcanefjjpeoikaa", sum := "40d11d12492c128440cb14d8986c9f39e3f707e68a77e12e6566adbbf53b1ac7", func := "reedmace/reedkeep.FilterGrows", spec := "filterGrows", unfollowed := true, recurses := true, apart := false, narrowed := true }
def FilterGrowsUptoSaid : Prop := filterGrowsUptoRow.holds Try.pinned (OpenSpec.upto filterGrowsSpec)

/-- 'reedkeep.FilterMorgan', WHERE WHAT IT READS IS OF BULK AT MOST 1048576: true; the input reads as it did. -/
def filterMorganUptoRow : OpenClaim := { program := "ytcanefjjpeoikaa", sum := "40d11d12492c128440cb14d8986c9f39e3f707e68a77e12e6566adbbf53b1ac7", func := "reedmace/reedkeep.FilterMorgan", spec := "filterMorgan", unfollowed := true, recurses := true, apart := false, narrowed := true }
def FilterMorganUptoSaid : Prop := filterMorganUptoRow.holds Try.pinned (OpenSpec.upto filterMorganSpec)

/-- 'reedkeep.FilterMoves', WHERE WHAT IT READS IS OF BULK AT MOST 1048576: true; the input reads as it did. -/
def filterMovesUptoRow : OpenClaim := { program := "ytcanefjjpeoikaa", sum := "40d11d12492c128440cb14d8986c9f39e3f707e68a77e12e6566adbbf53b1ac7", func := "reedmace/reedkeep.FilterMoves", spec := "filterMoves", unfollowed := true, recurses := true, apart := false, narrowed := true }
def FilterMovesUptoSaid : Prop := filterMovesUptoRow.holds Try.pinned (OpenSpec.upto filterMovesSpec)

/-- 'reedkeep.FilterPoints', WHERE WHAT IT READS IS OF BULK AT MOST 1048576: true; the input reads as it did. -/
def filterPointsUptoRow : OpenClaim := { program := "ytcanefjjpeoikaa", sum := "40d11d12492c128440cb14d8986c9f39e3f707e68a77e12e6566adbbf53b1ac7", func := "reedmace/reedkeep.FilterPoints", spec := "filterPoints", unfollowed := true, recurses := true, apart := false, narrowed := true }
def FilterPointsUptoSaid : Prop := filterPointsUptoRow.holds Try.pinned (OpenSpec.upto filterPointsSpec)

/-- 'reedkeep.FilterWithin', WHERE WHAT IT READS IS OF BULK AT MOST 1048576: true; the input reads as it did. -/
def filterWithinUptoRow : OpenClaim := { program := "ytcanefjjpeoikaa", sum := "40d11d12492c128440cb14d8986c9f39e3f707e68a77e12e6566adbbf53b1ac7", func := "reedmace/reedkeep.FilterWithin", spec := "filterWithin", unfollowed := true, recurses := true, apart := false, narrowed := true }
def FilterWithinUptoSaid : Prop := filterWithinUptoRow.holds Try.pinned (OpenSpec.upto filterWithinSpec)

/-- 'reedkeep.FilterBox', WHERE WHAT IT READS IS OF BULK AT MOST 1048576: true; the input reads as it did. -/
def filterBoxUptoRow : OpenClaim := { program := "ytcanefjjpeoikaa", sum := "40d11d12492c128440cb14d8986c9f39e3f707e68a77e12e6566adbbf53b1ac7", func := "reedmace/reedkeep.FilterBox", spec := "filterBox", unfollowed := true, recurses := true, apart := false, narrowed := true }
def FilterBoxUptoSaid : Prop := filterBoxUptoRow.holds Try.pinned (OpenSpec.upto filterBoxSpec)

/-- 'reedkeep.FormBoole', WHERE WHAT IT READS IS OF BULK AT MOST 1048576: true; the input reads as it did. -/
def formBooleUptoRow : OpenClaim := { program := "ytcanefjjpeoikaa", sum := "40d11d12492c128440cb14d8986c9f39e3f707e68a77e12e6566adbbf53b1ac7", func := "reedmace/reedkeep.FormBoole", spec := "formBoole", unfollowed := true, recurses := true, apart := false, narrowed := true }
def FormBooleUptoSaid : Prop := formBooleUptoRow.holds Try.pinned (OpenSpec.upto formBooleSpec)

/-- 'reedkeep.FilterOwn', WHERE WHAT IT READS IS OF BULK AT MOST 1048576: true; the input reads as it did. -/
def filterOwnUptoRow : OpenClaim := { program := "ytcanefjjpeoikaa", sum := "40d11d12492c128440cb14d8986c9f39e3f707e68a77e12e6566adbbf53b1ac7", func := "reedmace/reedkeep.FilterOwn", spec := "filterOwn", unfollowed := true, recurses := true, apart := false, narrowed := true }
def FilterOwnUptoSaid : Prop := filterOwnUptoRow.holds Try.pinned (OpenSpec.upto filterOwnSpec)

/-- 'reedkeep.FormBack', WHERE WHAT IT READS IS OF BULK AT MOST 1048576: true; the input reads as it did. -/
def formBackUptoRow : OpenClaim := { program := "ytcanefjjpeoikaa", sum := "40d11d12492c128440cb14d8986c9f39e3f707e68a77e12e6566adbbf53b1ac7", func := "reedmace/reedkeep.FormBack", spec := "formBack", unfollowed := true, recurses := true, apart := false, narrowed := true }
def FormBackUptoSaid : Prop := formBackUptoRow.holds Try.pinned (OpenSpec.upto formBackSpec)

end Rows
end Go.Proofs.Ytcanefjjpeoikaa
