/-
  No cell of these rows narrows 'for every input' (looked for: loops, veiled, ifaces, maps, wideKeys, modest, calm, conditions, laid).
  DERIVED. THE GIVEN ROWS OF THIS SEAT. 16 by the template 'for every input the law returns true; each argument reads behind the call as it read before'; 0 by the template 'total and deterministic' (their statements: YtliieljmfncmjaaTotals.lean).
  GIVEN WITH THE SEED: the statements are not yours to turn. If you find one false, say at which input.
  Laid BY PROGRAM, IN A SANDBOX (cutbox-rows.mjs): the forced cells as the released guide's own fill.sh prints them over the translation 4c2d7edbb4016a1d… (all of the seat's roots in one cut). By AI agents, Wed Nov 11 2026. No macro, syntax, notation, axiom, sorry.
-/
import Derived.Test.YtliieljmfncmjaaChecked
import GoSem.Claim
import GoSem.ClaimJoined
import GoSem.ClaimMapViews
import Derived.JoinedTies
import Derived.KernelRfl
namespace Go.Proofs.Ytliieljmfncmjaa
/- THE CELL 'sum', in the pinned program and in every row, IS THE sha256 OF THE DUMP (.gsa) THAT YtliieljmfncmjaaProg.lean LOADS. Nothing in Lean hashes anything: it is a label: what it is worth is what the hold of that sum in a sandbox is worth. -/
noncomputable def Try.pinned : Pinned := { name := "ytliieljmfncmjaa", sum := "4c2d7edbb4016a1dd68cd3c4e39daadbd9a9756850db76b285dc2a6ac880f7f8", checked := Try.checked }
namespace Rows
def none {H : Type} : Left H := { results := [], args := [] }

/-- 'reedkeep.WireByte': WHATEVER THE INPUT: true; the input reads as it did. -/
def wireByteSpec : ChangeSpec := { name := "wireByte", fn := fun _ => fun
  | [d1, d2, d3, d4, d5] => { results := [.lit (.bool true)], args := [d1, d2, d3, d4, d5] }
  | _ => none }
def wireByteRow : OpenClaim := { program := "ytliieljmfncmjaa", sum := "4c2d7edbb4016a1dd68cd3c4e39daadbd9a9756850db76b285dc2a6ac880f7f8", func := "reedmace/reedkeep.WireByte", spec := "wireByte", unfollowed := true, recurses := true, apart := false }
def WireByteSaid : Prop := wireByteRow.holds Try.pinned (OpenSpec.ofChange wireByteSpec)

/-- ITS FALSE NEIGHBOUR: 'it returns false'. Refute it at one input. -/
def wireByteWrong : ChangeSpec := { name := "wireByte", fn := fun _ => fun
  | [d1, d2, d3, d4, d5] => { results := [.lit (.bool false)], args := [d1, d2, d3, d4, d5] }
  | _ => none }
def WireByteWrongFalsely : Prop := wireByteRow.holds Try.pinned (OpenSpec.ofChange wireByteWrong)

/-- 'reedkeep.WireOne': WHATEVER THE INPUT: true; the input reads as it did. -/
def wireOneSpec : ChangeSpec := { name := "wireOne", fn := fun _ => fun
  | [d] => { results := [.lit (.bool true)], args := [d] }
  | _ => none }
def wireOneRow : OpenClaim := { program := "ytliieljmfncmjaa", sum := "4c2d7edbb4016a1dd68cd3c4e39daadbd9a9756850db76b285dc2a6ac880f7f8", func := "reedmace/reedkeep.WireOne", spec := "wireOne", unfollowed := true, recurses := true, apart := false }
def WireOneSaid : Prop := wireOneRow.holds Try.pinned (OpenSpec.ofChange wireOneSpec)

/-- ITS FALSE NEIGHBOUR: 'it returns false'. Refute it at one input. -/
def wireOneWrong : ChangeSpec := { name := "wireOne", fn := fun _ => fun
  | [d] => { results := [.lit (.bool false)], args := [d] }
  | _ => none }
def WireOneWrongFalsely : Prop := wireOneRow.holds Try.pinned (OpenSpec.ofChange wireOneWrong)

/-- 'reedkeep.WireCut': WHATEVER THE INPUT: true; the input reads as it did. -/
def wireCutSpec : ChangeSpec := { name := "wireCut", fn := fun _ => fun
  | [d1, d2, d3, d4] => { results := [.lit (.bool true)], args := [d1, d2, d3, d4] }
  | _ => none }
def wireCutRow : OpenClaim := { program := "ytliieljmfncmjaa", sum := "4c2d7edbb4016a1dd68cd3c4e39daadbd9a9756850db76b285dc2a6ac880f7f8", func := "reedmace/reedkeep.WireCut", spec := "wireCut", unfollowed := true, recurses := true, apart := false }
def WireCutSaid : Prop := wireCutRow.holds Try.pinned (OpenSpec.ofChange wireCutSpec)

/-- ITS FALSE NEIGHBOUR: 'it returns false'. Refute it at one input. -/
def wireCutWrong : ChangeSpec := { name := "wireCut", fn := fun _ => fun
  | [d1, d2, d3, d4] => { results := [.lit (.bool false)], args := [d1, d2, d3, d4] }
  | _ => none }
def WireCutWrongFalsely : Prop := wireCutRow.holds Try.pinned (OpenSpec.ofChange wireCutWrong)

/-- 'reedkeep.ShelfOrder': WHATEVER THE INPUT: true; the input reads as it did. -/
def shelfOrderSpec : ChangeSpec := { name := "shelfOrder", fn := fun _ => fun
  | [d1, d2] => { results := [.lit (.bool true)], args := [d1, d2] }
  | _ => none }
def shelfOrderRow : OpenClaim := { program := "ytliieljmfncmjaa", sum := "4c2d7edbb4016a1dd68cd3c4e39daadbd9a9756850db76b285dc2a6ac880f7f8", func := "reedmace/reedkeep.ShelfOrder", spec := "shelfOrder", inPlace := ["internal/bytealg.abigen_runtime_cmpstring", "slices.overlaps[reedmace/api.Version]"], unfollowed := true, recurses := true, apart := false }
def ShelfOrderSaid : Prop := shelfOrderRow.holds Try.pinned (OpenSpec.ofChange shelfOrderSpec)

/-- ITS FALSE NEIGHBOUR: 'it returns false'. Refute it at one input. -/
def shelfOrderWrong : ChangeSpec := { name := "shelfOrder", fn := fun _ => fun
  | [d1, d2] => { results := [.lit (.bool false)], args := [d1, d2] }
  | _ => none }
def ShelfOrderWrongFalsely : Prop := shelfOrderRow.holds Try.pinned (OpenSpec.ofChange shelfOrderWrong)

/-- 'reedkeep.ShelfJoins': WHATEVER THE INPUT: true; the input reads as it did. -/
def shelfJoinsSpec : ChangeSpec := { name := "shelfJoins", fn := fun _ => fun
  | [d1, d2] => { results := [.lit (.bool true)], args := [d1, d2] }
  | _ => none }
def shelfJoinsRow : OpenClaim := { program := "ytliieljmfncmjaa", sum := "4c2d7edbb4016a1dd68cd3c4e39daadbd9a9756850db76b285dc2a6ac880f7f8", func := "reedmace/reedkeep.ShelfJoins", spec := "shelfJoins", inPlace := ["internal/bytealg.abigen_runtime_cmpstring", "slices.overlaps[reedmace/api.Version]"], unfollowed := true, recurses := true, apart := false }
def ShelfJoinsSaid : Prop := shelfJoinsRow.holds Try.pinned (OpenSpec.ofChange shelfJoinsSpec)

/-- ITS FALSE NEIGHBOUR: 'it returns false'. Refute it at one input. -/
def shelfJoinsWrong : ChangeSpec := { name := "shelfJoins", fn := fun _ => fun
  | [d1, d2] => { results := [.lit (.bool false)], args := [d1, d2] }
  | _ => none }
def ShelfJoinsWrongFalsely : Prop := shelfJoinsRow.holds Try.pinned (OpenSpec.ofChange shelfJoinsWrong)

/-- 'reedkeep.ShelfPast': WHATEVER THE INPUT: true; the input reads as it did. -/
def shelfPastSpec : ChangeSpec := { name := "shelfPast", fn := fun _ => fun
  | [d1, d2, d3] => { results := [.lit (.bool true)], args := [d1, d2, d3] }
  | _ => none }
def shelfPastRow : OpenClaim := { program := "ytliieljmfncmjaa", sum := "4c2d7edbb4016a1dd68cd3c4e39daadbd9a9756850db76b285dc2a6ac880f7f8", func := "reedmace/reedkeep.ShelfPast", spec := "shelfPast", inPlace := ["internal/bytealg.abigen_runtime_cmpstring", "slices.overlaps[reedmace/api.Version]"], unfollowed := true, recurses := true, apart := false }
def ShelfPastSaid : Prop := shelfPastRow.holds Try.pinned (OpenSpec.ofChange shelfPastSpec)

/-- ITS FALSE NEIGHBOUR: 'it returns false'. Refute it at one input. -/
def shelfPastWrong : ChangeSpec := { name := "shelfPast", fn := fun _ => fun
  | [d1, d2, d3] => { results := [.lit (.bool false)], args := [d1, d2, d3] }
  | _ => none }
def ShelfPastWrongFalsely : Prop := shelfPastRow.holds Try.pinned (OpenSpec.ofChange shelfPastWrong)

/-- 'reedkeep.PartFew': WHATEVER THE INPUT: true; the input reads as it did. -/
def partFewSpec : ChangeSpec := { name := "partFew", fn := fun _ => fun
  | [d1, d2] => { results := [.lit (.bool true)], args := [d1, d2] }
  | _ => none }
def partFewRow : OpenClaim := { program := "ytliieljmfncmjaa", sum := "4c2d7edbb4016a1dd68cd3c4e39daadbd9a9756850db76b285dc2a6ac880f7f8", func := "reedmace/reedkeep.PartFew", spec := "partFew", unfollowed := true, recurses := true, apart := false }
def PartFewSaid : Prop := partFewRow.holds Try.pinned (OpenSpec.ofChange partFewSpec)

/-- ITS FALSE NEIGHBOUR: 'it returns false'. Refute it at one input. -/
def partFewWrong : ChangeSpec := { name := "partFew", fn := fun _ => fun
  | [d1, d2] => { results := [.lit (.bool false)], args := [d1, d2] }
  | _ => none }
def PartFewWrongFalsely : Prop := partFewRow.holds Try.pinned (OpenSpec.ofChange partFewWrong)

/-- 'reedkeep.ShelfDrops': WHATEVER THE INPUT: true; the input reads as it did. -/
def shelfDropsSpec : ChangeSpec := { name := "shelfDrops", fn := fun _ => fun
  | [d1, d2, d3, d4] => { results := [.lit (.bool true)], args := [d1, d2, d3, d4] }
  | _ => none }
def shelfDropsRow : OpenClaim := { program := "ytliieljmfncmjaa", sum := "4c2d7edbb4016a1dd68cd3c4e39daadbd9a9756850db76b285dc2a6ac880f7f8", func := "reedmace/reedkeep.ShelfDrops", spec := "shelfDrops", inPlace := ["internal/bytealg.abigen_runtime_cmpstring", "slices.overlaps[reedmace/api.Version]"], unfollowed := true, recurses := true, apart := false }
def ShelfDropsSaid : Prop := shelfDropsRow.holds Try.pinned (OpenSpec.ofChange shelfDropsSpec)

/-- ITS FALSE NEIGHBOUR: 'it returns false'. Refute it at one input. -/
def shelfDropsWrong : ChangeSpec := { name := "shelfDrops", fn := fun _ => fun
  | [d1, d2, d3, d4] => { results := [.lit (.bool false)], args := [d1, d2, d3, d4] }
  | _ => none }
def ShelfDropsWrongFalsely : Prop := shelfDropsRow.holds Try.pinned (OpenSpec.ofChange shelfDropsWrong)

/-- 'reedkeep.PartGalois': WHATEVER THE INPUT: true; the input reads as it did. -/
def partGaloisSpec : ChangeSpec := { name := "partGalois", fn := fun _ => fun
  | [d1, d2, d3, d4, d5, d6] => { results := [.lit (.bool true)], args := [d1, d2, d3, d4, d5, d6] }
  | _ => none }
def partGaloisRow : OpenClaim := { program := "ytliieljmfncmjaa", sum := "4c2d7edbb4016a1dd68cd3c4e39daadbd9a9756850db76b285dc2a6ac880f7f8", func := "reedmace/reedkeep.PartGalois", spec := "partGalois", unfollowed := true, recurses := true, apart := false }
def PartGaloisSaid : Prop := partGaloisRow.holds Try.pinned (OpenSpec.ofChange partGaloisSpec)

/-- ITS FALSE NEIGHBOUR: 'it returns false'. Refute it at one input. -/
def partGaloisWrong : ChangeSpec := { name := "partGalois", fn := fun _ => fun
  | [d1, d2, d3, d4, d5, d6] => { results := [.lit (.bool false)], args := [d1, d2, d3, d4, d5, d6] }
  | _ => none }
def PartGaloisWrongFalsely : Prop := partGaloisRow.holds Try.pinned (OpenSpec.ofChange partGaloisWrong)

/-- 'reedkeep.ShelfGets': WHATEVER THE INPUT: true; the input reads as it did. -/
def shelfGetsSpec : ChangeSpec := { name := "shelfGets", fn := fun _ => fun
  | [d] => { results := [.lit (.bool true)], args := [d] }
  | _ => none }
def shelfGetsRow : OpenClaim := { program := "ytliieljmfncmjaa", sum := "4c2d7edbb4016a1dd68cd3c4e39daadbd9a9756850db76b285dc2a6ac880f7f8", func := "reedmace/reedkeep.ShelfGets", spec := "shelfGets", inPlace := ["internal/bytealg.abigen_runtime_cmpstring", "slices.overlaps[reedmace/api.Version]"], unfollowed := true, recurses := true, apart := false }
def ShelfGetsSaid : Prop := shelfGetsRow.holds Try.pinned (OpenSpec.ofChange shelfGetsSpec)

/-- ITS FALSE NEIGHBOUR: 'it returns false'. Refute it at one input. -/
def shelfGetsWrong : ChangeSpec := { name := "shelfGets", fn := fun _ => fun
  | [d] => { results := [.lit (.bool false)], args := [d] }
  | _ => none }
def ShelfGetsWrongFalsely : Prop := shelfGetsRow.holds Try.pinned (OpenSpec.ofChange shelfGetsWrong)

/-- 'reedkeep.PartEnds': WHATEVER THE INPUT: true; the input reads as it did. -/
def partEndsSpec : ChangeSpec := { name := "partEnds", fn := fun _ => fun
  | [d1, d2, d3, d4] => { results := [.lit (.bool true)], args := [d1, d2, d3, d4] }
  | _ => none }
def partEndsRow : OpenClaim := { program := "ytliieljmfncmjaa", sum := "4c2d7edbb4016a1dd68cd3c4e39daadbd9a9756850db76b285dc2a6ac880f7f8", func := "reedmace/reedkeep.PartEnds", spec := "partEnds", unfollowed := true, recurses := true, apart := false }
def PartEndsSaid : Prop := partEndsRow.holds Try.pinned (OpenSpec.ofChange partEndsSpec)

/-- ITS FALSE NEIGHBOUR: 'it returns false'. Refute it at one input. -/
def partEndsWrong : ChangeSpec := { name := "partEnds", fn := fun _ => fun
  | [d1, d2, d3, d4] => { results := [.lit (.bool false)], args := [d1, d2, d3, d4] }
  | _ => none }
def PartEndsWrongFalsely : Prop := partEndsRow.holds Try.pinned (OpenSpec.ofChange partEndsWrong)

/-- 'reedkeep.KnowOwn': WHATEVER THE INPUT: true; the input reads as it did. -/
def knowOwnSpec : ChangeSpec := { name := "knowOwn", fn := fun _ => fun
  | [d1, d2, d3, d4] => { results := [.lit (.bool true)], args := [d1, d2, d3, d4] }
  | _ => none }
def knowOwnRow : OpenClaim := { program := "ytliieljmfncmjaa", sum := "4c2d7edbb4016a1dd68cd3c4e39daadbd9a9756850db76b285dc2a6ac880f7f8", func := "reedmace/reedkeep.KnowOwn", spec := "knowOwn", unfollowed := true, recurses := true, apart := false }
def KnowOwnSaid : Prop := knowOwnRow.holds Try.pinned (OpenSpec.ofChange knowOwnSpec)

/-- ITS FALSE NEIGHBOUR: 'it returns false'. Refute it at one input. -/
def knowOwnWrong : ChangeSpec := { name := "knowOwn", fn := fun _ => fun
  | [d1, d2, d3, d4] => { results := [.lit (.bool false)], args := [d1, d2, d3, d4] }
  | _ => none }
def KnowOwnWrongFalsely : Prop := knowOwnRow.holds Try.pinned (OpenSpec.ofChange knowOwnWrong)

/-- 'reedkeep.PartJoins': WHATEVER THE INPUT: true; the input reads as it did. -/
def partJoinsSpec : ChangeSpec := { name := "partJoins", fn := fun _ => fun
  | [d1, d2, d3, d4, d5, d6] => { results := [.lit (.bool true)], args := [d1, d2, d3, d4, d5, d6] }
  | _ => none }
def partJoinsRow : OpenClaim := { program := "ytliieljmfncmjaa", sum := "4c2d7edbb4016a1dd68cd3c4e39daadbd9a9756850db76b285dc2a6ac880f7f8", func := "reedmace/reedkeep.PartJoins", spec := "partJoins", unfollowed := true, recurses := true, apart := false }
def PartJoinsSaid : Prop := partJoinsRow.holds Try.pinned (OpenSpec.ofChange partJoinsSpec)

/-- ITS FALSE NEIGHBOUR: 'it returns false'. Refute it at one input. -/
def partJoinsWrong : ChangeSpec := { name := "partJoins", fn := fun _ => fun
  | [d1, d2, d3, d4, d5, d6] => { results := [.lit (.bool false)], args := [d1, d2, d3, d4, d5, d6] }
  | _ => none }
def PartJoinsWrongFalsely : Prop := partJoinsRow.holds Try.pinned (OpenSpec.ofChange partJoinsWrong)

/-- 'reedkeep.PartNarrows': WHATEVER THE INPUT: true; the input reads as it did. -/
def partNarrowsSpec : ChangeSpec := { name := "partNarrows", fn := fun _ => fun
  | [d1, d2, d3, d4, d5, d6] => { results := [.lit (.bool true)], args := [d1, d2, d3, d4, d5, d6] }
  | _ => none }
def partNarrowsRow : OpenClaim := { program := "ytliieljmfncmjaa", sum := "4c2d7edbb4016a1dd68cd3c4e39daadbd9a9756850db76b285dc2a6ac880f7f8", func := "reedmace/reedkeep.PartNarrows", spec := "partNarrows", unfollowed := true, recurses := true, apart := false }
def PartNarrowsSaid : Prop := partNarrowsRow.holds Try.pinned (OpenSpec.ofChange partNarrowsSpec)

/-- ITS FALSE NEIGHBOUR: 'it returns false'. Refute it at one input. -/
def partNarrowsWrong : ChangeSpec := { name := "partNarrows", fn := fun _ => fun
  | [d1, d2, d3, d4, d5, d6] => { results := [.lit (.bool false)], args := [d1, d2, d3, d4, d5, d6] }
  | _ => none }
def PartNarrowsWrongFalsely : Prop := partNarrowsRow.holds Try.pinned (OpenSpec.ofChange partNarrowsWrong)

/-- 'reedkeep.WireBack': WHATEVER THE INPUT: true; the input reads as it did. -/
def wireBackSpec : ChangeSpec := { name := "wireBack", fn := fun _ => fun
  | [d1, d2, d3, d4, d5] => { results := [.lit (.bool true)], args := [d1, d2, d3, d4, d5] }
  | _ => none }
def wireBackRow : OpenClaim := { program := "ytliieljmfncmjaa", sum := "4c2d7edbb4016a1dd68cd3c4e39daadbd9a9756850db76b285dc2a6ac880f7f8", func := "reedmace/reedkeep.WireBack", spec := "wireBack", unfollowed := true, recurses := true, apart := false }
def WireBackSaid : Prop := wireBackRow.holds Try.pinned (OpenSpec.ofChange wireBackSpec)

/-- ITS FALSE NEIGHBOUR: 'it returns false'. Refute it at one input. -/
def wireBackWrong : ChangeSpec := { name := "wireBack", fn := fun _ => fun
  | [d1, d2, d3, d4, d5] => { results := [.lit (.bool false)], args := [d1, d2, d3, d4, d5] }
  | _ => none }
def WireBackWrongFalsely : Prop := wireBackRow.holds Try.pinned (OpenSpec.ofChange wireBackWrong)

/-- 'reedkeep.ShelfOwn': WHATEVER THE INPUT: true; the input reads as it did. -/
def shelfOwnSpec : ChangeSpec := { name := "shelfOwn", fn := fun _ => fun
  | [d1, d2, d3, d4, d5] => { results := [.lit (.bool true)], args := [d1, d2, d3, d4, d5] }
  | _ => none }
def shelfOwnRow : OpenClaim := { program := "ytliieljmfncmjaa", sum := "4c2d7edbb4016a1dd68cd3c4e39daadbd9a9756850db76b285dc2a6ac880f7f8", func := "reedmace/reedkeep.ShelfOwn", spec := "shelfOwn", inPlace := ["internal/bytealg.abigen_runtime_cmpstring", "slices.overlaps[reedmace/api.Version]"], unfollowed := true, recurses := true, apart := false }
def ShelfOwnSaid : Prop := shelfOwnRow.holds Try.pinned (OpenSpec.ofChange shelfOwnSpec)

/-- ITS FALSE NEIGHBOUR: 'it returns false'. Refute it at one input. -/
def shelfOwnWrong : ChangeSpec := { name := "shelfOwn", fn := fun _ => fun
  | [d1, d2, d3, d4, d5] => { results := [.lit (.bool false)], args := [d1, d2, d3, d4, d5] }
  | _ => none }
def ShelfOwnWrongFalsely : Prop := shelfOwnRow.holds Try.pinned (OpenSpec.ofChange shelfOwnWrong)

/- THE SECOND FORM. 'bulk': how many values and letters a reading holds, each counted each time it is reached (what is shared counts as often as it is met; a slice's spare places count too). A statement '..UptoSaid' is the law's where the arguments, and the package variables that the reading takes, are together of bulk at most 1048576: NARROWER than '..Said'. Prove '..Said' where nothing that the law and all that it calls make is longer than what came in: it says more and counts as full. Else prove '..UptoSaid'. A law counts once. -/
mutual
def uptoBulk {H : Type} : DataW H → Nat
  | .lit (.string bytes) => bytes.length + 1
  | .lit _ => 1
  | .nil => 1
  | .ptr d => uptoBulk d + 1
  | .slice elems spare => uptoBulkAll elems + uptoBulkAll spare + 1
  | .agg parts => uptoBulkAll parts + 1
  | .iface _ d => uptoBulk d + 1
  | .map entries => uptoBulkEntries entries + 1
  | .held _ => 1
def uptoBulkAll {H : Type} : List (DataW H) → Nat
  | [] => 0
  | d :: r => uptoBulk d + uptoBulkAll r
def uptoBulkEntries {H : Type} : List (Lit × DataW H) → Nat
  | [] => 0
  | x :: r => uptoBulkEntry x + uptoBulkEntries r
def uptoBulkEntry {H : Type} : Lit × DataW H → Nat
  | (.string bytes, d) => bytes.length + uptoBulk d + 1
  | (_, d) => uptoBulk d + 1
 end
def uptoSmall : (H : Type) → List (DataW H) → Bool := fun _ ds => decide (uptoBulkAll ds ≤ 1048576)
def OpenSpec.upto (s : _root_.Go.ChangeSpec) : _root_.Go.OpenSpec := { _root_.Go.OpenSpec.ofChange s with cond := some uptoSmall }

/-- 'reedkeep.WireByte', WHERE WHAT IT READS IS OF BULK AT MOST 1048576: true; the input reads as it did. -/
def wireByteUptoRow : OpenClaim := { program := "ytliieljmfncmjaa", sum := "4c2d7edbb4016a1dd68cd3c4e39daadbd9a9756850db76b285dc2a6ac880f7f8", func := "reedmace/reedkeep.WireByte", spec := "wireByte", unfollowed := true, recurses := true, apart := false, narrowed := true }
def WireByteUptoSaid : Prop := wireByteUptoRow.holds Try.pinned (OpenSpec.upto wireByteSpec)

/-- 'reedkeep.WireOne', WHERE WHAT IT READS IS OF BULK AT MOST 1048576: true; the input reads as it did. -/
def wireOneUptoRow : OpenClaim := { program := "ytliieljmfncmjaa", sum := "4c2d7edbb4016a1dd68cd3c4e39daadbd9a9756850db76b285dc2a6ac880f7f8", func := "reedmace/reedkeep.WireOne", spec := "wireOne", unfollowed := true, recurses := true, apart := false, narrowed := true }
def WireOneUptoSaid : Prop := wireOneUptoRow.holds Try.pinned (OpenSpec.upto wireOneSpec)

/-- 'reedkeep.WireCut', WHERE WHAT IT READS IS OF BULK AT MOST 1048576: true; the input reads as it did. -/
def wireCutUptoRow : OpenClaim := { program := "ytliieljmfncmjaa", sum := "4c2d7edbb4016a1dd68cd3c4e39daadbd9a9756850db76b285dc2a6ac880f7f8", func := "reedmace/reedkeep.WireCut", spec := "wireCut", unfollowed := true, recurses := true, apart := false, narrowed := true }
def WireCutUptoSaid : Prop := wireCutUptoRow.holds Try.pinned (OpenSpec.upto wireCutSpec)

/-- 'reedkeep.ShelfOrder', WHERE WHAT IT READS IS OF BULK AT MOST 1048576: true; the input reads as it did. -/
def shelfOrderUptoRow : OpenClaim := { program := "ytliieljmfncmjaa", sum := "4c2d7edbb4016a1dd68cd3c4e39daadbd9a9756850db76b285dc2a6ac880f7f8", func := "reedmace/reedkeep.ShelfOrder", spec := "shelfOrder", inPlace := ["internal/bytealg.abigen_runtime_cmpstring", "slices.overlaps[reedmace/api.Version]"], unfollowed := true, recurses := true, apart := false, narrowed := true }
def ShelfOrderUptoSaid : Prop := shelfOrderUptoRow.holds Try.pinned (OpenSpec.upto shelfOrderSpec)

/-- 'reedkeep.ShelfJoins', WHERE WHAT IT READS IS OF BULK AT MOST 1048576: true; the input reads as it did. -/
def shelfJoinsUptoRow : OpenClaim := { program := "ytliieljmfncmjaa", sum := "4c2d7edbb4016a1dd68cd3c4e39daadbd9a9756850db76b285dc2a6ac880f7f8", func := "reedmace/reedkeep.ShelfJoins", spec := "shelfJoins", inPlace := ["internal/bytealg.abigen_runtime_cmpstring", "slices.overlaps[reedmace/api.Version]"], unfollowed := true, recurses := true, apart := false, narrowed := true }
def ShelfJoinsUptoSaid : Prop := shelfJoinsUptoRow.holds Try.pinned (OpenSpec.upto shelfJoinsSpec)

/-- 'reedkeep.ShelfPast', WHERE WHAT IT READS IS OF BULK AT MOST 1048576: true; the input reads as it did. -/
def shelfPastUptoRow : OpenClaim := { program := "ytliieljmfncmjaa", sum := "4c2d7edbb4016a1dd68cd3c4e39daadbd9a9756850db76b285dc2a6ac880f7f8", func := "reedmace/reedkeep.ShelfPast", spec := "shelfPast", inPlace := ["internal/bytealg.abigen_runtime_cmpstring", "slices.overlaps[reedmace/api.Version]"], unfollowed := true, recurses := true, apart := false, narrowed := true }
def ShelfPastUptoSaid : Prop := shelfPastUptoRow.holds Try.pinned (OpenSpec.upto shelfPastSpec)

/-- 'reedkeep.PartFew', WHERE WHAT IT READS IS OF BULK AT MOST 1048576: true; the input reads as it did. -/
def partFewUptoRow : OpenClaim := { program := "ytliieljmfncmjaa", sum := "4c2d7edbb4016a1dd68cd3c4e39daadbd9a9756850db76b285dc2a6ac880f7f8", func := "reedmace/reedkeep.PartFew", spec := "partFew", unfollowed := true, recurses := true, apart := false, narrowed := true }
def PartFewUptoSaid : Prop := partFewUptoRow.holds Try.pinned (OpenSpec.upto partFewSpec)

/-- 'reedkeep.ShelfDrops', WHERE WHAT IT READS IS OF BULK AT MOST 1048576: true; the input reads as it did. -/
def shelfDropsUptoRow : OpenClaim := { program := "ytliieljmfncmjaa", sum := "4c2d7edbb4016a1dd68cd3c4e39daadbd9a9756850db76b285dc2a6ac880f7f8", func := "reedmace/reedkeep.ShelfDrops", spec := "shelfDrops", inPlace := ["internal/bytealg.abigen_runtime_cmpstring", "slices.overlaps[reedmace/api.Version]"], unfollowed := true, recurses := true, apart := false, narrowed := true }
def ShelfDropsUptoSaid : Prop := shelfDropsUptoRow.holds Try.pinned (OpenSpec.upto shelfDropsSpec)

/-- 'reedkeep.PartGalois', WHERE WHAT IT READS IS OF BULK AT MOST 1048576: true; the input reads as it did. -/
def partGaloisUptoRow : OpenClaim := { program := "ytliieljmfncmjaa", sum := "4c2d7edbb4016a1dd68cd3c4e39daadbd9a9756850db76b285dc2a6ac880f7f8", func := "reedmace/reedkeep.PartGalois", spec := "partGalois", unfollowed := true, recurses := true, apart := false, narrowed := true }
def PartGaloisUptoSaid : Prop := partGaloisUptoRow.holds Try.pinned (OpenSpec.upto partGaloisSpec)

/-- 'reedkeep.ShelfGets', WHERE WHAT IT READS IS OF BULK AT MOST 1048576: true; the input reads as it did. -/
def shelfGetsUptoRow : OpenClaim := { program := "ytliieljmfncmjaa", sum := "4c2d7edbb4016a1dd68cd3c4e39daadbd9a9756850db76b285dc2a6ac880f7f8", func := "reedmace/reedkeep.ShelfGets", spec := "shelfGets", inPlace := ["internal/bytealg.abigen_runtime_cmpstring", "slices.overlaps[reedmace/api.Version]"], unfollowed := true, recurses := true, apart := false, narrowed := true }
def ShelfGetsUptoSaid : Prop := shelfGetsUptoRow.holds Try.pinned (OpenSpec.upto shelfGetsSpec)

/-- 'reedkeep.PartEnds', WHERE WHAT IT READS IS OF BULK AT MOST 1048576: true; the input reads as it did. -/
def partEndsUptoRow : OpenClaim := { program := "ytliieljmfncmjaa", sum := "4c2d7edbb4016a1dd68cd3c4e39daadbd9a9756850db76b285dc2a6ac880f7f8", func := "reedmace/reedkeep.PartEnds", spec := "partEnds", unfollowed := true, recurses := true, apart := false, narrowed := true }
def PartEndsUptoSaid : Prop := partEndsUptoRow.holds Try.pinned (OpenSpec.upto partEndsSpec)

/-- 'reedkeep.KnowOwn', WHERE WHAT IT READS IS OF BULK AT MOST 1048576: true; the input reads as it did. -/
def knowOwnUptoRow : OpenClaim := { program := "ytliieljmfncmjaa", sum := "4c2d7edbb4016a1dd68cd3c4e39daadbd9a9756850db76b285dc2a6ac880f7f8", func := "reedmace/reedkeep.KnowOwn", spec := "knowOwn", unfollowed := true, recurses := true, apart := false, narrowed := true }
def KnowOwnUptoSaid : Prop := knowOwnUptoRow.holds Try.pinned (OpenSpec.upto knowOwnSpec)

/-- 'reedkeep.PartJoins', WHERE WHAT IT READS IS OF BULK AT MOST 1048576: true; the input reads as it did. -/
def partJoinsUptoRow : OpenClaim := { program := "ytliieljmfncmjaa", sum := "4c2d7edbb4016a1dd68cd3c4e39daadbd9a9756850db76b285dc2a6ac880f7f8", func := "reedmace/reedkeep.PartJoins", spec := "partJoins", unfollowed := true, recurses := true, apart := false, narrowed := true }
def PartJoinsUptoSaid : Prop := partJoinsUptoRow.holds Try.pinned (OpenSpec.upto partJoinsSpec)

/-- 'reedkeep.PartNarrows', WHERE WHAT IT READS IS OF BULK AT MOST 1048576: true; the input reads as it did. -/
def partNarrowsUptoRow : OpenClaim := { program := "ytliieljmfncmjaa", sum := "4c2d7edbb4016a1dd68cd3c4e39daadbd9a9756850db76b285dc2a6ac880f7f8", func := "reedmace/reedkeep.PartNarrows", spec := "partNarrows", unfollowed := true, recurses := true, apart := false, narrowed := true }
def PartNarrowsUptoSaid : Prop := partNarrowsUptoRow.holds Try.pinned (OpenSpec.upto partNarrowsSpec)

/-- 'reedkeep.WireBack', WHERE WHAT IT READS IS OF BULK AT MOST 1048576: true; the input reads as it did. -/
def wireBackUptoRow : OpenClaim := { program := "ytliieljmfncmjaa", sum := "4c2d7edbb4016a1dd68cd3c4e39daadbd9a9756850db76b285dc2a6ac880f7f8", func := "reedmace/reedkeep.WireBack", spec := "wireBack", unfollowed := true, recurses := true, apart := false, narrowed := true }
def WireBackUptoSaid : Prop := wireBackUptoRow.holds Try.pinned (OpenSpec.upto wireBackSpec)

/-- 'reedkeep.ShelfOwn', WHERE WHAT IT READS IS OF BULK AT MOST 1048576: true; the input reads as it did. -/
def shelfOwnUptoRow : OpenClaim := { program := "ytliieljmfncmjaa", sum := "4c2d7edbb4016a1dd68cd3c4e39daadbd9a9756850db76b285dc2a6ac880f7f8", func := "reedmace/reedkeep.ShelfOwn", spec := "shelfOwn", inPlace := ["internal/bytealg.abigen_runtime_cmpstring", "slices.overlaps[reedmace/api.Version]"], unfollowed := true, recurses := true, apart := false, narrowed := true }
def ShelfOwnUptoSaid : Prop := shelfOwnUptoRow.holds Try.pinned (OpenSpec.upto shelfOwnSpec)

end Rows
end Go.Proofs.Ytliieljmfncmjaa
