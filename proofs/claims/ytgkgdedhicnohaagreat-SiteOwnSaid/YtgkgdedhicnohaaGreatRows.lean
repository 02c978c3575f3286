/-
  No cell of these rows narrows 'for every input' (looked for: loops, veiled, ifaces, maps, wideKeys, modest, calm, conditions, laid).
  DERIVED. THE GIVEN ROWS OF THIS SEAT. 7 by the template 'for every input the law returns true; each argument reads behind the call as it read before'; 0 by the template 'total and deterministic' (their statements: YtgkgdedhicnohaaGreatTotals.lean).
  GIVEN WITH THE SEED: the statements are not yours to turn. If you find one false, say at which input.
  Laid BY PROGRAM, IN A SANDBOX (cutbox-rows.mjs): the forced cells as the released guide's own fill.sh prints them over the translation 882de96492821a47… (all of the seat's roots in one cut). By AI agents, Wed Nov 11 2026. No macro, syntax, notation, axiom, sorry.
-/
import Derived.Test.YtgkgdedhicnohaaGreatChecked
import GoSem.Claim
import GoSem.ClaimJoined
import GoSem.ClaimMapViews
import Derived.JoinedTies
import Derived.KernelRfl
namespace Go.Proofs.YtgkgdedhicnohaaGreat
/- THE CELL 'sum', in the pinned program and in every row, IS THE sha256 OF THE DUMP (.gsa) THAT YtgkgdedhicnohaaGreatProg.lean LOADS. Nothing in Lean hashes anything: it is a label: what it is worth is what the hold of that sum in a sandbox is worth. -/
noncomputable def Tryz.pinned : Pinned := { name := "ytgkgdedhicnohaagreat", sum := "882de96492821a47088b35f4a2a5863cafe1b78e6dc50b3c93241433388a565c", checked := Tryz.checked }
namespace Rows
def none {H : Type} : Left H := { results := [], args := [] }

/-- 'reedtop.TopTown': WHATEVER THE INPUT: true; the input reads as it did. -/
def topTownSpec : ChangeSpec := { name := "topTown", fn := fun _ => fun
  | [d1, d2] => { results := [.lit (.bool true)], args := [d1, d2] }
  | _ => none }
def topTownRow : OpenClaim := { program := "ytgkgdedhicnohaagreat", sum := "882de96492821a47088b35f4a2a5863cafe1b78e6dc50b3c93241433388a565c", func := "reedmace/reedtop.TopTown", spec := "topTown", inPlace := ["internal/bytealg.abigen_runtime_cmpstring", "slices.overlaps[reedmace/api.Version]"], unfollowed := true, recurses := true, apart := false }
def TopTownSaid : Prop := topTownRow.holds Tryz.pinned (OpenSpec.ofChange topTownSpec)

/-- ITS FALSE NEIGHBOUR: 'it returns false'. Refute it at one input. -/
def topTownWrong : ChangeSpec := { name := "topTown", fn := fun _ => fun
  | [d1, d2] => { results := [.lit (.bool false)], args := [d1, d2] }
  | _ => none }
def TopTownWrongFalsely : Prop := topTownRow.holds Tryz.pinned (OpenSpec.ofChange topTownWrong)

/-- 'reedtop.TopLess': WHATEVER THE INPUT: true; the input reads as it did. -/
def topLessSpec : ChangeSpec := { name := "topLess", fn := fun _ => fun
  | [d1, d2] => { results := [.lit (.bool true)], args := [d1, d2] }
  | _ => none }
def topLessRow : OpenClaim := { program := "ytgkgdedhicnohaagreat", sum := "882de96492821a47088b35f4a2a5863cafe1b78e6dc50b3c93241433388a565c", func := "reedmace/reedtop.TopLess", spec := "topLess", inPlace := ["internal/bytealg.abigen_runtime_cmpstring", "slices.overlaps[reedmace/api.Version]"], unfollowed := true, recurses := true, apart := false }
def TopLessSaid : Prop := topLessRow.holds Tryz.pinned (OpenSpec.ofChange topLessSpec)

/-- ITS FALSE NEIGHBOUR: 'it returns false'. Refute it at one input. -/
def topLessWrong : ChangeSpec := { name := "topLess", fn := fun _ => fun
  | [d1, d2] => { results := [.lit (.bool false)], args := [d1, d2] }
  | _ => none }
def TopLessWrongFalsely : Prop := topLessRow.holds Tryz.pinned (OpenSpec.ofChange topLessWrong)

/-- 'reedtop.TopQuiet': WHATEVER THE INPUT: true; the input reads as it did. -/
def topQuietSpec : ChangeSpec := { name := "topQuiet", fn := fun _ => fun
  | [d1, d2] => { results := [.lit (.bool true)], args := [d1, d2] }
  | _ => none }
def topQuietRow : OpenClaim := { program := "ytgkgdedhicnohaagreat", sum := "882de96492821a47088b35f4a2a5863cafe1b78e6dc50b3c93241433388a565c", func := "reedmace/reedtop.TopQuiet", spec := "topQuiet", inPlace := ["internal/bytealg.abigen_runtime_cmpstring", "slices.overlaps[reedmace/api.Version]"], unfollowed := true, recurses := true, apart := false }
def TopQuietSaid : Prop := topQuietRow.holds Tryz.pinned (OpenSpec.ofChange topQuietSpec)

/-- ITS FALSE NEIGHBOUR: 'it returns false'. Refute it at one input. -/
def topQuietWrong : ChangeSpec := { name := "topQuiet", fn := fun _ => fun
  | [d1, d2] => { results := [.lit (.bool false)], args := [d1, d2] }
  | _ => none }
def TopQuietWrongFalsely : Prop := topQuietRow.holds Tryz.pinned (OpenSpec.ofChange topQuietWrong)

/-- 'reedkeep.SiteKnows': WHATEVER THE INPUT: true; the input reads as it did. -/
def siteKnowsSpec : ChangeSpec := { name := "siteKnows", fn := fun _ => fun
  | [d1, d2, d3, d4] => { results := [.lit (.bool true)], args := [d1, d2, d3, d4] }
  | _ => none }
def siteKnowsRow : OpenClaim := { program := "ytgkgdedhicnohaagreat", sum := "882de96492821a47088b35f4a2a5863cafe1b78e6dc50b3c93241433388a565c", func := "reedmace/reedkeep.SiteKnows", spec := "siteKnows", inPlace := ["internal/bytealg.abigen_runtime_cmpstring", "slices.overlaps[reedmace/api.Version]"], unfollowed := true, recurses := true, apart := false }
def SiteKnowsSaid : Prop := siteKnowsRow.holds Tryz.pinned (OpenSpec.ofChange siteKnowsSpec)

/-- ITS FALSE NEIGHBOUR: 'it returns false'. Refute it at one input. -/
def siteKnowsWrong : ChangeSpec := { name := "siteKnows", fn := fun _ => fun
  | [d1, d2, d3, d4] => { results := [.lit (.bool false)], args := [d1, d2, d3, d4] }
  | _ => none }
def SiteKnowsWrongFalsely : Prop := siteKnowsRow.holds Tryz.pinned (OpenSpec.ofChange siteKnowsWrong)

/-- 'reedkeep.SiteWants': WHATEVER THE INPUT: true; the input reads as it did. -/
def siteWantsSpec : ChangeSpec := { name := "siteWants", fn := fun _ => fun
  | [d1, d2, d3, d4, d5] => { results := [.lit (.bool true)], args := [d1, d2, d3, d4, d5] }
  | _ => none }
def siteWantsRow : OpenClaim := { program := "ytgkgdedhicnohaagreat", sum := "882de96492821a47088b35f4a2a5863cafe1b78e6dc50b3c93241433388a565c", func := "reedmace/reedkeep.SiteWants", spec := "siteWants", inPlace := ["internal/bytealg.abigen_runtime_cmpstring", "slices.overlaps[reedmace/api.Version]"], unfollowed := true, recurses := true, apart := false }
def SiteWantsSaid : Prop := siteWantsRow.holds Tryz.pinned (OpenSpec.ofChange siteWantsSpec)

/-- ITS FALSE NEIGHBOUR: 'it returns false'. Refute it at one input. -/
def siteWantsWrong : ChangeSpec := { name := "siteWants", fn := fun _ => fun
  | [d1, d2, d3, d4, d5] => { results := [.lit (.bool false)], args := [d1, d2, d3, d4, d5] }
  | _ => none }
def SiteWantsWrongFalsely : Prop := siteWantsRow.holds Tryz.pinned (OpenSpec.ofChange siteWantsWrong)

/-- 'reedkeep.SiteOwn': WHATEVER THE INPUT: true; the input reads as it did. -/
def siteOwnSpec : ChangeSpec := { name := "siteOwn", fn := fun _ => fun
  | [d1, d2, d3] => { results := [.lit (.bool true)], args := [d1, d2, d3] }
  | _ => none }
def siteOwnRow : OpenClaim := { program := "ytgkgdedhicnohaagreat", sum := "882de96492821a47088b35f4a2a5863cafe1b78e6dc50b3c93241433388a565c", func := "reedmace/reedkeep.SiteOwn", spec := "siteOwn", inPlace := ["internal/bytealg.abigen_runtime_cmpstring", "slices.overlaps[reedmace/api.Version]"], unfollowed := true, recurses := true, apart := false }
def SiteOwnSaid : Prop := siteOwnRow.holds Tryz.pinned (OpenSpec.ofChange siteOwnSpec)

/-- ITS FALSE NEIGHBOUR: 'it returns false'. Refute it at one input. -/
def siteOwnWrong : ChangeSpec := { name := "siteOwn", fn := fun _ => fun
  | [d1, d2, d3] => { results := [.lit (.bool false)], args := [d1, d2, d3] }
  | _ => none }
def SiteOwnWrongFalsely : Prop := siteOwnRow.holds Tryz.pinned (OpenSpec.ofChange siteOwnWrong)

/-- 'reedtop.TopKnown': WHATEVER THE INPUT: true; the input reads as it did. -/
def topKnownSpec : ChangeSpec := { name := "topKnown", fn := fun _ => fun
  | [d1, d2] => { results := [.lit (.bool true)], args := [d1, d2] }
  | _ => none }
def topKnownRow : OpenClaim := { program := "ytgkgdedhicnohaagreat", sum := "882de96492821a47088b35f4a2a5863cafe1b78e6dc50b3c93241433388a565c", func := "reedmace/reedtop.TopKnown", spec := "topKnown", inPlace := ["internal/bytealg.abigen_runtime_cmpstring", "slices.overlaps[reedmace/api.Version]"], unfollowed := true, recurses := true, apart := false }
def TopKnownSaid : Prop := topKnownRow.holds Tryz.pinned (OpenSpec.ofChange topKnownSpec)

/-- ITS FALSE NEIGHBOUR: 'it returns false'. Refute it at one input. -/
def topKnownWrong : ChangeSpec := { name := "topKnown", fn := fun _ => fun
  | [d1, d2] => { results := [.lit (.bool false)], args := [d1, d2] }
  | _ => none }
def TopKnownWrongFalsely : Prop := topKnownRow.holds Tryz.pinned (OpenSpec.ofChange topKnownWrong)

/- THE SECOND FORM. 'bulk': how many values and letters a reading holds, each counted each time it is reached (what is shared counts as often as it is met; a slice's spare places count too). A statement '..UptoSaid' is the law's where the arguments, and the package variables that the reading takes, are together of bulk at most 1048576: NARROWER than '..Said'. Prove '..Said' where nothing that the law and all that it calls make is longer than what came in: it says more and counts as full. Else prove '..UptoSaid'. A law counts once. -/
mutual
def uptoBulk {H : Type} : DataW H → Nat
  | .lit (.string bytes) => bytes.length + 1
  | .lit _ => 1
  | .nil => 1
  | .ptr d => uptoBulk d + 1
  | .slice elems spare => uptoBulkAll elems + uptoBulkAll spare + 1
  | .agg parts => uptoBulkAll parts + 1
  | .iface _ d => uptoBulk d + 1
  | .map entries => uptoBulkEntries entries + 1
  | .held _ => 1
def uptoBulkAll {H : Type} : List (DataW H) → Nat
  | [] => 0
  | d :: r => uptoBulk d + uptoBulkAll r
def uptoBulkEntries {H : Type} : List (Lit × DataW H) → Nat
  | [] => 0
  | x :: r => uptoBulkEntry x + uptoBulkEntries r
def uptoBulkEntry {H : Type} : Lit × DataW H → Nat
  | (.string bytes, d) => bytes.length + uptoBulk d + 1
  | (_, d) => uptoBulk d + 1
 end
def uptoSmall : (H : Type) → List (DataW H) → Bool := fun _ ds => decide (uptoBulkAll ds ≤ 1048576)
def OpenSpec.upto (s : _root_.Go.ChangeSpec) : _root_.Go.OpenSpec := { _root_.Go.OpenSpec.ofChange s with cond := some uptoSmall }

/-- 'reedtop.TopTown', WHERE WHAT IT READS IS OF BULK AT MOST 1048576: true; the input reads as it did. -/
def topTownUptoRow : OpenClaim := { program := "ytgkgdedhicnohaagreat", sum := "882de96492821a47088b35f4a2a5863cafe1b78e6dc50b3c93241433388a565c", func := "reedmace/reedtop.TopTown", spec := "topTown", inPlace := ["internal/bytealg.abigen_runtime_cmpstring", "slices.overlaps[reedmace/api.Version]"], unfollowed := true, recurses := true, apart := false, narrowed := true }
def TopTownUptoSaid : Prop := topTownUptoRow.holds Tryz.pinned (OpenSpec.upto topTownSpec)

/-- 'reedtop.TopLess', WHERE WHAT IT READS IS OF BULK AT MOST 1048576: true; the input reads as it did. -/
def topLessUptoRow : OpenClaim := { program := "ytgkgdedhicnohaagreat", sum := "882de96492821a47088b35f4a2a5863cafe1b78e6dc50b3c93241433388a565c", func := "reedmace/reedtop.TopLess", spec := "topLess", inPlace := ["internal/bytealg.abigen_runtime_cmpstring", "slices.overlaps[reedmace/api.Version]"], unfollowed := true, recurses := true, apart := false, narrowed := true }
def TopLessUptoSaid : Prop := topLessUptoRow.holds Tryz.pinned (OpenSpec.upto topLessSpec)

/-- 'reedtop.TopQuiet', WHERE WHAT IT READS IS OF BULK AT MOST 1048576: true; the input reads as it did. -/
def topQuietUptoRow : OpenClaim := { program := "ytgkgdedhicnohaagreat", sum := "882de96492821a47088b35f4a2a5863cafe1b78e6dc50b3c93241433388a565c", func := "reedmace/reedtop.TopQuiet", spec := "topQuiet", inPlace := ["internal/bytealg.abigen_runtime_cmpstring", "slices.overlaps[reedmace/api.Version]"], unfollowed := true, recurses := true, apart := false, narrowed := true }
def TopQuietUptoSaid : Prop := topQuietUptoRow.holds Tryz.pinned (OpenSpec.upto topQuietSpec)

/-- 'reedkeep.SiteKnows', WHERE WHAT IT READS IS OF BULK AT MOST 1048576: true; the input reads as it did. -/
def siteKnowsUptoRow : OpenClaim := { program := "ytgkgdedhicnohaagreat", sum := "882de96492821a47088b35f4a2a5863cafe1b78e6dc50b3c93241433388a565c", func := "reedmace/reedkeep.SiteKnows", spec := "siteKnows", inPlace := ["internal/bytealg.abigen_runtime_cmpstring", "slices.overlaps[reedmace/api.Version]"], unfollowed := true, recurses := true, apart := false, narrowed := true }
def SiteKnowsUptoSaid : Prop := siteKnowsUptoRow.holds Tryz.pinned (OpenSpec.upto siteKnowsSpec)

/-- 'reedkeep.SiteWants', WHERE WHAT IT READS IS OF BULK AT MOST 1048576: true; the input reads as it did. -/
def siteWantsUptoRow : OpenClaim := { program := "ytgkgdedhicnohaagreat", sum := "882de96492821a47088b35f4a2a5863cafe1b78e6dc50b3c93241433388a565c", func := "reedmace/reedkeep.SiteWants", spec := "siteWants", inPlace := ["internal/bytealg.abigen_runtime_cmpstring", "slices.overlaps[reedmace/api.Version]"], unfollowed := true, recurses := true, apart := false, narrowed := true }
def SiteWantsUptoSaid : Prop := siteWantsUptoRow.holds Tryz.pinned (OpenSpec.upto siteWantsSpec)

/-- 'reedkeep.SiteOwn', WHERE WHAT IT READS IS OF BULK AT MOST 1048576: true; the input reads as it did. -/
def siteOwnUptoRow : OpenClaim := { program := "ytgkgdedhicnohaagreat", sum := "882de96492821a47088b35f4a2a5863cafe1b78e6dc50b3c93241433388a565c", func := "reedmace/reedkeep.SiteOwn", spec := "siteOwn", inPlace := ["internal/bytealg.abigen_runtime_cmpstring", "slices.overlaps[reedmace/api.Version]"], unfollowed := true, recurses := true, apart := false, narrowed := true }
def SiteOwnUptoSaid : Prop := siteOwnUptoRow.holds Tryz.pinned (OpenSpec.upto siteOwnSpec)

/-- 'reedtop.TopKnown', WHERE WHAT IT READS IS OF BULK AT MOST 1048576: true; the input reads as it did. -/
def topKnownUptoRow : OpenClaim := { program := "ytgkgdedhicnohaagreat", sum := "882de96492821a47088b35f4a2a5863cafe1b78e6dc50b3c93241433388a565c", func := "reedmace/reedtop.TopKnown", spec := "topKnown", inPlace := ["internal/bytealg.abigen_runtime_cmpstring", "slices.overlaps[reedmace/api.Version]"], unfollowed := true, recurses := true, apart := false, narrowed := true }
def TopKnownUptoSaid : Prop := topKnownUptoRow.holds Tryz.pinned (OpenSpec.upto topKnownSpec)

end Rows
end Go.Proofs.YtgkgdedhicnohaaGreat
