/-
  No cell of these rows narrows 'for every input' (looked for: loops, veiled, ifaces, maps, wideKeys, modest, calm, conditions, laid).
  DERIVED. THE GIVEN ROWS OF THIS SEAT. 8 by the template 'for every input the law returns true; each argument reads behind the call as it read before'; 0 by the template 'total and deterministic' (their statements: YthnkmjjldggecaaTotals.lean).
  GIVEN WITH THE SEED: the statements are not yours to turn. If you find one false, say at which input.
  Laid BY PROGRAM, IN A SANDBOX (cutbox-rows.mjs): the forced cells as the released guide's own fill.sh prints them over the translation 633a3afd018ec4a3… (all of the seat's roots in one cut). By AI agents, Wed Nov 11 2026. No macro, syntax, notation, axiom, sorry.
-/
import Derived.Test.YthnkmjjldggecaaChecked
import GoSem.Claim
import GoSem.ClaimJoined
import GoSem.ClaimMapViews
import Derived.JoinedTies
import Derived.KernelRfl
namespace Go.Proofs.Ythnkmjjldggecaa
/- THE CELL 'sum', in the pinned program and in every row, IS THE sha256 OF THE DUMP (.gsa) THAT YthnkmjjldggecaaProg.lean LOADS. Nothing in Lean hashes anything: it is a label: what it is worth is what the hold of that sum in a sandbox is worth. -/
noncomputable def Try.pinned : Pinned := { name := "ythnkmjjldggecaa", sum := "633a3afd018ec4a34b4116972e84040ee38390c2a2e88371f128a52e7b14a097", checked := Try.checked }
namespace Rows
def none {H : Type} : Left H := { results := [], args := [] }

/-- 'reedkeep.FilterOwn': WHATEVER THE INPUT: true; the input reads as it did. -/
def filterOwnSpec : ChangeSpec := { name := "filterOwn", fn := fun _ => fun
  | [d1, d2, d3, d4] => { results := [.lit (.bool true)], args := [d1, d2, d3, d4] }
  | _ => none }
def filterOwnRow : OpenClaim := { program := "ythnkmjjldggecaa", sum := "633a3afd018ec4a34b4116972e84040ee38390c2a2e88371f128a52e7b14a097", func := "reedmace/reedkeep.FilterOwn", spec := "filterOwn", unfollowed := true, recurses := true, apart := false }
def FilterOwnSaid : Prop := filterOwnRow.holds Try.pinned (OpenSpec.ofChange filterOwnSpec)

/-- ITS FALSE NEIGHBOUR: 'it returns false'. Refute it at one input. -/
def filterOwnWrong : ChangeSpec := { name := "filterOwn", fn := fun _ => fun
  | [d1, d2, d3, d4] => { results := [.lit (.bool false)], args := [d1, d2, d3, d4] }
  | _ => none }
def FilterOwnWrongFalsely : Prop := filterOwnRow.holds Try.pinned (OpenSpec.ofChange filterOwnWrong)

/-- 'reedkeep.WireByte': WHATEVER THE INPUT: true; the input reads as it did. -/
def wireByteSpec : ChangeSpec := { name := "wireByte", fn := fun _ => fun
  | [d1, d2, d3, d4, d5] => { results := [.lit (.bool true)], args := [d1, d2, d3, d4, d5] }
  | _ => none }
def wireByteRow : OpenClaim := { program := "ythnkmjjldggecaa", sum := "633a3afd018ec4a34b4116972e84040ee38390c2a2e88371f128a52e7b14a097", func := "reedmace/reedkeep.WireByte", spec := "wireByte", unfollowed := true, recurses := true, apart := false }
def WireByteSaid : Prop := wireByteRow.holds Try.pinned (OpenSpec.ofChange wireByteSpec)

/-- ITS FALSE NEIGHBOUR: 'it returns false'. Refute it at one input. -/
def wireByteWrong : ChangeSpec := { name := "wireByte", fn := fun _ => fun
  | [d1, d2, d3, d4, d5] => { results := [.lit (.bool false)], args := [d1, d2, d3, d4, d5] }
  | _ => none }
def WireByteWrongFalsely : Prop := wireByteRow.holds Try.pinned (OpenSpec.ofChange wireByteWrong)

/-- 'reedkeep.WireOne': WHATEVER THE INPUT: true; the input reads as it did. -/
def wireOneSpec : ChangeSpec := { name := "wireOne", fn := fun _ => fun
  | [d] => { results := [.lit (.bool true)], args := [d] }
  | _ => none }
def wireOneRow : OpenClaim := { program := "ythnkmjjldggecaa", sum := "633a3afd018ec4a34b4116972e84040ee38390c2a2e88371f128a52e7b14a097", func := "reedmace/reedkeep.WireOne", spec := "wireOne", unfollowed := true, recurses := true, apart := false }
def WireOneSaid : Prop := wireOneRow.holds Try.pinned (OpenSpec.ofChange wireOneSpec)

/-- ITS FALSE NEIGHBOUR: 'it returns false'. Refute it at one input. -/
def wireOneWrong : ChangeSpec := { name := "wireOne", fn := fun _ => fun
  | [d] => { results := [.lit (.bool false)], args := [d] }
  | _ => none }
def WireOneWrongFalsely : Prop := wireOneRow.holds Try.pinned (OpenSpec.ofChange wireOneWrong)

/-- 'reedkeep.WireCut': WHATEVER THE INPUT: true; the input reads as it did. -/
def wireCutSpec : ChangeSpec := { name := "wireCut", fn := fun _ => fun
  | [d1, d2, d3, d4] => { results := [.lit (.bool true)], args := [d1, d2, d3, d4] }
  | _ => none }
def wireCutRow : OpenClaim := { program := "ythnkmjjldggecaa", sum := "633a3afd018ec4a34b4116972e84040ee38390c2a2e88371f128a52e7b14a097", func := "reedmace/reedkeep.WireCut", spec := "wireCut", unfollowed := true, recurses := true, apart := false }
def WireCutSaid : Prop := wireCutRow.holds Try.pinned (OpenSpec.ofChange wireCutSpec)

/-- ITS FALSE NEIGHBOUR: 'it returns false'. Refute it at one input. -/
def wireCutWrong : ChangeSpec := { name := "wireCut", fn := fun _ => fun
  | [d1, d2, d3, d4] => { results := [.lit (.bool false)], args := [d1, d2, d3, d4] }
  | _ => none }
def WireCutWrongFalsely : Prop := wireCutRow.holds Try.pinned (OpenSpec.ofChange wireCutWrong)

/-- 'reedkeep.PartFew': WHATEVER THE INPUT: true; the input reads as it did. -/
def partFewSpec : ChangeSpec := { name := "partFew", fn := fun _ => fun
  | [d1, d2] => { results := [.lit (.bool true)], args := [d1, d2] }
  | _ => none }
def partFewRow : OpenClaim := { program := "ythnkmjjldggecaa", sum := "633a3afd018ec4a34b4116972e84040ee38390c2a2e88371f128a52e7b14a097", func := "reedmace/reedkeep.PartFew", spec := "partFew", unfollowed := true, recurses := true, apart := false }
def PartFewSaid : Prop := partFewRow.holds Try.pinned (OpenSpec.ofChange partFewSpec)

/-- ITS FALSE NEIGHBOUR: 'it returns false'. Refute it at one input. -/
def partFewWrong : ChangeSpec := { name := "partFew", fn := fun _ => fun
  | [d1, d2] => { results := [.lit (.bool false)], args := [d1, d2] }
  | _ => none }
def PartFewWrongFalsely : Prop := partFewRow.holds Try.pinned (OpenSpec.ofChange partFewWrong)

/-- 'reedkeep.KnowOwn': WHATEVER THE INPUT: true; the input reads as it did. -/
def knowOwnSpec : ChangeSpec := { name := "knowOwn", fn := fun _ => fun
  | [d1, d2, d3, d4] => { results := [.lit (.bool true)], args := [d1, d2, d3, d4] }
  | _ => none }
def knowOwnRow : OpenClaim := { program := "ythnkmjjldggecaa", sum := "633a3afd018ec4a34b4116972e84040ee38390c2a2e88371f128a52e7b14a097", func := "reedmace/reedkeep.KnowOwn", spec := "knowOwn", unfollowed := true, recurses := true, apart := false }
def KnowOwnSaid : Prop := knowOwnRow.holds Try.pinned (OpenSpec.ofChange knowOwnSpec)

/-- ITS FALSE NEIGHBOUR: 'it returns false'. Refute it at one input. -/
def knowOwnWrong : ChangeSpec := { name := "knowOwn", fn := fun _ => fun
  | [d1, d2, d3, d4] => { results := [.lit (.bool false)], args := [d1, d2, d3, d4] }
  | _ => none }
def KnowOwnWrongFalsely : Prop := knowOwnRow.holds Try.pinned (OpenSpec.ofChange knowOwnWrong)

/-- 'reedkeep.WireBack': WHATEVER THE INPUT: true; the input reads as it did. -/
def wireBackSpec : ChangeSpec := { name := "wireBack", fn := fun _ => fun
  | [d1, d2, d3, d4, d5] => { results := [.lit (.bool true)], args := [d1, d2, d3, d4, d5] }
  | _ => none }
def wireBackRow : OpenClaim := { program := "ythnkmjjldggecaa", sum := "633a3afd018ec4a34b4116972e84040ee38390c2a2e88371f128a52e7b14a097", func := "reedmace/reedkeep.WireBack", spec := "wireBack", unfollowed := true, recurses := true, apart := false }
def WireBackSaid : Prop := wireBackRow.holds Try.pinned (OpenSpec.ofChange wireBackSpec)

/-- ITS FALSE NEIGHBOUR: 'it returns false'. Refute it at one input. -/
def wireBackWrong : ChangeSpec := { name := "wireBack", fn := fun _ => fun
  | [d1, d2, d3, d4, d5] => { results := [.lit (.bool false)], args := [d1, d2, d3, d4, d5] }
  | _ => none }
def WireBackWrongFalsely : Prop := wireBackRow.holds Try.pinned (OpenSpec.ofChange wireBackWrong)

/-- 'reedkeep.ShelfOwn': WHATEVER THE INPUT: true; the input reads as it did. -/
def shelfOwnSpec : ChangeSpec := { name := "shelfOwn", fn := fun _ => fun
  | [d1, d2, d3, d4, d5] => { results := [.lit (.bool true)], args := [d1, d2, d3, d4, d5] }
  | _ => none }
def shelfOwnRow : OpenClaim := { program := "ythnkmjjldggecaa", sum := "633a3afd018ec4a34b4116972e84040ee38390c2a2e88371f128a52e7b14a097", func := "reedmace/reedkeep.ShelfOwn", spec := "shelfOwn", inPlace := ["internal/bytealg.abigen_runtime_cmpstring", "slices.overlaps[reedmace/api.Version]"], unfollowed := true, recurses := true, apart := false }
def ShelfOwnSaid : Prop := shelfOwnRow.holds Try.pinned (OpenSpec.ofChange shelfOwnSpec)

/-- ITS FALSE NEIGHBOUR: 'it returns false'. Refute it at one input. -/
def shelfOwnWrong : ChangeSpec := { name := "shelfOwn", fn := fun _ => fun
  | [d1, d2, d3, d4, d5] => { results := [.lit (.bool false)], args := [d1, d2, d3, d4, d5] }
  | _ => none }
def ShelfOwnWrongFalsely : Prop := shelfOwnRow.holds Try.pinned (OpenSpec.ofChange shelfOwnWrong)

/- THE SECOND FORM. 'bulk': how many values and letters a reading holds, each counted each time it is reached (what is shared counts as often as it is met; a slice's spare places count too). A statement '..UptoSaid' is the law's where the arguments, and the package variables that the reading takes, are together of bulk at most 1048576: NARROWER than '..Said'. Prove '..Said' where nothing that the law and all that it calls make is longer than what came in: it says more and counts as full. Else prove '..UptoSaid'. A law counts once. -/
mutual
def uptoBulk {H : Type} : DataW H → Nat
  | .lit (.string bytes) => bytes.length + 1
  | .lit _ => 1
  | .nil => 1
  | .ptr d => uptoBulk d + 1
  | .slice elems spare => uptoBulkAll elems + uptoBulkAll spare + 1
  | .agg parts => uptoBulkAll parts + 1
  | .iface _ d => uptoBulk d + 1
  | .map entries => uptoBulkEntries entries + 1
  | .held _ => 1
def uptoBulkAll {H : Type} : List (DataW H) → Nat
  | [] => 0
  | d :: r => uptoBulk d + uptoBulkAll r
def uptoBulkEntries {H : Type} : List (Lit × DataW H) → Nat
  | [] => 0
  | x :: r => uptoBulkEntry x + uptoBulkEntries r
def uptoBulkEntry {H : Type} : Lit × DataW H → Nat
  | (.string bytes, d) => bytes.length + uptoBulk d + 1
  | (_, d) => uptoBulk d + 1
 end
def uptoSmall : (H : Type) → List (DataW H) → Bool := fun _ ds => decide (uptoBulkAll ds ≤ 1048576)
def OpenSpec.upto (s : _root_.Go.ChangeSpec) : _root_.Go.OpenSpec := { _root_.Go.OpenSpec.ofChange s with cond := some uptoSmall }

/-- 'reedkeep.FilterOwn', WHERE WHAT IT READS IS OF BULK AT MOST 1048576: true; the input reads as it did. -/
def filterOwnUptoRow : OpenClaim := { program := "ythnkmjjldggecaa", sum := "633a3afd018ec4a34b4116972e84040ee38390c2a2e88371f128a52e7b14a097", func := "reedmace/reedkeep.FilterOwn", spec := "filterOwn", unfollowed := true, recurses := true, apart := false, narrowed := true }
def FilterOwnUptoSaid : Prop := filterOwnUptoRow.holds Try.pinned (OpenSpec.upto filterOwnSpec)

/-- 'reedkeep.WireByte', WHERE WHAT IT READS IS OF BULK AT MOST 1048576: true; the input reads as it did. -/
def wireByteUptoRow : OpenClaim := { program := "ythnkmjjldggecaa", sum := "633a3afd018ec4a34b4116972e84040ee38390c2a2e88371f128a52e7b14a097", func := "reedmace/reedkeep.WireByte", spec := "wireByte", unfollowed := true, recurses := true, apart := false, narrowed := true }
def WireByteUptoSaid : Prop := wireByteUptoRow.holds Try.pinned (OpenSpec.upto wireByteSpec)

/-- 'reedkeep.WireOne', WHERE WHAT IT READS IS OF BULK AT MOST 1048576: true; the input reads as it did. -/
def wireOneUptoRow : OpenClaim := { program := "ythnkmjjldggecaa", sum := "633a3afd018ec4a34b4116972e84040ee38390c2a2e88371f128a52e7b14a097", func := "reedmace/reedkeep.WireOne", spec := "wireOne", unfollowed := true, recurses := true, apart := false, narrowed := true }
def WireOneUptoSaid : Prop := wireOneUptoRow.holds Try.pinned (OpenSpec.upto wireOneSpec)

/-- 'reedkeep.WireCut', WHERE WHAT IT READS IS OF BULK AT MOST 1048576: true; the input reads as it did. -/
def wireCutUptoRow : OpenClaim := { program := "ythnkmjjldggecaa", sum := "633a3afd018ec4a34b4116972e84040ee38390c2a2e88371f128a52e7b14a097", func := "reedmace/reedkeep.WireCut", spec := "wireCut", unfollowed := true, recurses := true, apart := false, narrowed := true }
def WireCutUptoSaid : Prop := wireCutUptoRow.holds Try.pinned (OpenSpec.upto wireCutSpec)

/-- 'reedkeep.PartFew', WHERE WHAT IT READS IS OF BULK AT MOST 1048576: true; the input reads as it did. -/
def partFewUptoRow : OpenClaim := { program := "ythnkmjjldggecaa", sum := "633a3afd018ec4a34b4116972e84040ee38390c2a2e88371f128a52e7b14a097", func := "reedmace/reedkeep.PartFew", spec := "partFew", unfollowed := true, recurses := true, apart := false, narrowed := true }
def PartFewUptoSaid : Prop := partFewUptoRow.holds Try.pinned (OpenSpec.upto partFewSpec)

/-- 'reedkeep.KnowOwn', WHERE WHAT IT READS IS OF BULK AT MOST 1048576: true; the input reads as it did. -/
def knowOwnUptoRow : OpenClaim := { program := "ythnkmjjldggecaa", sum := "633a3afd018ec4a34b4116972e84040ee38390c2a2e88371f128a52e7b14a097", func := "reedmace/reedkeep.KnowOwn", spec := "knowOwn", unfollowed := true, recurses := true, apart := false, narrowed := true }
def KnowOwnUptoSaid : Prop := knowOwnUptoRow.holds Try.pinned (OpenSpec.upto knowOwnSpec)

/-- 'reedkeep.WireBack', WHERE WHAT IT READS IS OF BULK AT MOST 1048576: true; the input reads as it did. -/
def wireBackUptoRow : OpenClaim := { program := "ythnkmjjldggecaa", sum := "633a3afd018ec4a34b4116972e84040ee38390c2a2e88371f128a52e7b14a097", func := "reedmace/reedkeep.WireBack", spec := "wireBack", unfollowed := true, recurses := true, apart := false, narrowed := true }
def WireBackUptoSaid : Prop := wireBackUptoRow.holds Try.pinned (OpenSpec.upto wireBackSpec)

/-- 'reedkeep.ShelfOwn', WHERE WHAT IT READS IS OF BULK AT MOST 1048576: true; the input reads as it did. -/
def shelfOwnUptoRow : OpenClaim := { program := "ythnkmjjldggecaa", sum := "633a3afd018ec4a34b4116972e84040ee38390c2a2e88371f128a52e7b14a097", func := "reedmace/reedkeep.ShelfOwn", spec := "shelfOwn", inPlace := ["internal/bytealg.abigen_runtime_cmpstring", "slices.overlaps[reedmace/api.Version]"], unfollowed := true, recurses := true, apart := false, narrowed := true }
def ShelfOwnUptoSaid : Prop := shelfOwnUptoRow.holds Try.pinned (OpenSpec.upto shelfOwnSpec)

end Rows
end Go.Proofs.Ythnkmjjldggecaa
