/-
  No cell of these rows narrows 'for every input' (looked for: loops, veiled, ifaces, maps, wideKeys, modest, calm, conditions, laid).
  DERIVED. THE GIVEN ROWS OF THIS SEAT. 21 by the template 'for every input the law returns true; each argument reads behind the call as it read before'; 0 by the template 'total and deterministic' (their statements: YtboakoipdfmpcaaGreatTotals.lean).
  GIVEN WITH THE SEED: the statements are not yours to turn. If you find one false, say at which input.
  Laid BY PROGRAM, IN A SANDBOX (cutbox-rows.mjs): the forced cells as the released guide's own fill.sh prints them over the translation 1eb182cb8724966e… (all of the seat's roots in one cut). By AI agents, Wed Nov 11 2026. No macro, syntax, notation, axiom, sorry.
-/
import Derived.Test.YtboakoipdfmpcaaGreatChecked
import GoSem.Claim
import GoSem.ClaimJoined
import GoSem.ClaimMapViews
import Derived.JoinedTies
import Derived.KernelRfl
namespace Go.Proofs.YtboakoipdfmpcaaGreat
/- THE CELL 'sum', in the pinned program and in every row, IS THE sha256 OF THE DUMP (.gsa) THAT YtboakoipdfmpcaaGreatProg.lean LOADS. Nothing in Lean hashes anything: it is a label: what it is worth is what the hold of that sum in a sandbox is worth. -/
noncomputable def Tryz.pinned : Pinned := { name := "ytboakoipdfmpcaagreat", sum := "1eb182cb8724966e6fd6f56de0e8909314a4484f63be6a00b7a9b15eb06c16a4", checked := Tryz.checked }
namespace Rows
def none {H : Type} : Left H := { results := [], args := [] }

/-- 'reedtop.TopTown': WHATEVER THE INPUT: true; the input reads as it did. -/
def topTownSpec : ChangeSpec := { name := "topTown", fn := fun _ => fun
  | [d1, d2] => { results := [.lit (.bool true)], args := [d1, d2] }
  | _ => none }
def topTownRow : OpenClaim := { program := "ytboakoipdfmpcaagreat", sum := "1eb182cb8724966e6fd6f56de0e8909314a4484f63be6a00b7a9b15eb06c16a4", func := "reedmace/reedtop.TopTown", spec := "topTown", inPlace := ["internal/bytealg.abigen_runtime_cmpstring", "slices.overlaps[reedmace/api.Version]"], unfollowed := true, recurses := true, apart := false }
def TopTownSaid : Prop := topTownRow.holds Tryz.pinned (OpenSpec.ofChange topTownSpec)

/-- ITS FALSE NEIGHBOUR: 'it returns false'. Refute it at one input. -/
def topTownWrong : ChangeSpec := { name := "topTown", fn := fun _ => fun
  | [d1, d2] => { results := [.lit (.bool false)], args := [d1, d2] }
  | _ => none }
def TopTownWrongFalsely : Prop := topTownRow.holds Tryz.pinned (OpenSpec.ofChange topTownWrong)

/-- 'reedtop.TopLess': WHATEVER THE INPUT: true; the input reads as it did. -/
def topLessSpec : ChangeSpec := { name := "topLess", fn := fun _ => fun
  | [d1, d2] => { results := [.lit (.bool true)], args := [d1, d2] }
  | _ => none }
def topLessRow : OpenClaim := { program := "ytboakoipdfmpcaagreat", sum := "1eb182cb8724966e6fd6f56de0e8909314a4484f63be6a00b7a9b15eb06c16a4", func := "reedmace/reedtop.TopLess", spec := "topLess", inPlace := ["internal/bytealg.abigen_runtime_cmpstring", "slices.overlaps[reedmace/api.Version]"], unfollowed := true, recurses := true, apart := false }
def TopLessSaid : Prop := topLessRow.holds Tryz.pinned (OpenSpec.ofChange topLessSpec)

/-- ITS FALSE NEIGHBOUR: 'it returns false'. Refute it at one input. -/
def topLessWrong : ChangeSpec := { name := "topLess", fn := fun _ => fun
  | [d1, d2] => { results := [.lit (.bool false)], args := [d1, d2] }
  | _ => none }
def TopLessWrongFalsely : Prop := topLessRow.holds Tryz.pinned (OpenSpec.ofChange topLessWrong)

/-- 'reedtop.TopQuiet': WHATEVER THE INPUT: true; the input reads as it did. -/
def topQuietSpec : ChangeSpec := { name := "topQuiet", fn := fun _ => fun
  | [d1, d2] => { results := [.lit (.bool true)], args := [d1, d2] }
  | _ => none }
def topQuietRow : OpenClaim := { program := "ytboakoipdfmpcaagreat", sum := "1eb182cb8724966e6fd6f56de0e8909314a4484f63be6a00b7a9b15eb06c16a4", func := "reedmace/reedtop.TopQuiet", spec := "topQuiet", inPlace := ["internal/bytealg.abigen_runtime_cmpstring", "slices.overlaps[reedmace/api.Version]"], unfollowed := true, recurses := true, apart := false }
def TopQuietSaid : Prop := topQuietRow.holds Tryz.pinned (OpenSpec.ofChange topQuietSpec)

/-- ITS FALSE NEIGHBOUR: 'it returns false'. Refute it at one input. -/
def topQuietWrong : ChangeSpec := { name := "topQuiet", fn := fun _ => fun
  | [d1, d2] => { results := [.lit (.bool false)], args := [d1, d2] }
  | _ => none }
def TopQuietWrongFalsely : Prop := topQuietRow.holds Tryz.pinned (OpenSpec.ofChange topQuietWrong)

/-- 'reedkeep.SiteDots': WHATEVER THE INPUT: true; the input reads as it did. -/
def siteDotsSpec : ChangeSpec := { name := "siteDots", fn := fun _ => fun
  | [d1, d2, d3] => { results := [.lit (.bool true)], args := [d1, d2, d3] }
  | _ => none }
def siteDotsRow : OpenClaim := { program := "ytboakoipdfmpcaagreat", sum := "1eb182cb8724966e6fd6f56de0e8909314a4484f63be6a00b7a9b15eb06c16a4", func := "reedmace/reedkeep.SiteDots", spec := "siteDots", inPlace := ["internal/bytealg.abigen_runtime_cmpstring", "slices.overlaps[reedmace/api.Version]"], unfollowed := true, recurses := true, apart := false }
def SiteDotsSaid : Prop := siteDotsRow.holds Tryz.pinned (OpenSpec.ofChange siteDotsSpec)

/-- ITS FALSE NEIGHBOUR: 'it returns false'. Refute it at one input. -/
def siteDotsWrong : ChangeSpec := { name := "siteDots", fn := fun _ => fun
  | [d1, d2, d3] => { results := [.lit (.bool false)], args := [d1, d2, d3] }
  | _ => none }
def SiteDotsWrongFalsely : Prop := siteDotsRow.holds Tryz.pinned (OpenSpec.ofChange siteDotsWrong)

/-- 'reedkeep.SiteNothing': WHATEVER THE INPUT: true; the input reads as it did. -/
def siteNothingSpec : ChangeSpec := { name := "siteNothing", fn := fun _ => fun
  | [d] => { results := [.lit (.bool true)], args := [d] }
  | _ => none }
def siteNothingRow : OpenClaim := { program := "ytboakoipdfmpcaagreat", sum := "1eb182cb8724966e6fd6f56de0e8909314a4484f63be6a00b7a9b15eb06c16a4", func := "reedmace/reedkeep.SiteNothing", spec := "siteNothing", inPlace := ["internal/bytealg.abigen_runtime_cmpstring", "slices.overlaps[reedmace/api.Version]"], unfollowed := true, recurses := true, apart := false }
def SiteNothingSaid : Prop := siteNothingRow.holds Tryz.pinned (OpenSpec.ofChange siteNothingSpec)

/-- ITS FALSE NEIGHBOUR: 'it returns false'. Refute it at one input. -/
def siteNothingWrong : ChangeSpec := { name := "siteNothing", fn := fun _ => fun
  | [d] => { results := [.lit (.bool false)], args := [d] }
  | _ => none }
def SiteNothingWrongFalsely : Prop := siteNothingRow.holds Tryz.pinned (OpenSpec.ofChange siteNothingWrong)

/-- 'reedkeep.SiteLate': WHATEVER THE INPUT: true; the input reads as it did. -/
def siteLateSpec : ChangeSpec := { name := "siteLate", fn := fun _ => fun
  | [d1, d2, d3] => { results := [.lit (.bool true)], args := [d1, d2, d3] }
  | _ => none }
def siteLateRow : OpenClaim := { program := "ytboakoipdfmpcaagreat", sum := "1eb182cb8724966e6fd6f56de0e8909314a4484f63be6a00b7a9b15eb06c16a4", func := "reedmace/reedkeep.SiteLate", spec := "siteLate", inPlace := ["internal/bytealg.abigen_runtime_cmpstring", "slices.overlaps[reedmace/api.Version]"], unfollowed := true, recurses := true, apart := false }
def SiteLateSaid : Prop := siteLateRow.holds Tryz.pinned (OpenSpec.ofChange siteLateSpec)

/-- ITS FALSE NEIGHBOUR: 'it returns false'. Refute it at one input. -/
def siteLateWrong : ChangeSpec := { name := "siteLate", fn := fun _ => fun
  | [d1, d2, d3] => { results := [.lit (.bool false)], args := [d1, d2, d3] }
  | _ => none }
def SiteLateWrongFalsely : Prop := siteLateRow.holds Tryz.pinned (OpenSpec.ofChange siteLateWrong)

/-- 'reedkeep.SiteKnows': WHATEVER THE INPUT: true; the input reads as it did. -/
def siteKnowsSpec : ChangeSpec := { name := "siteKnows", fn := fun _ => fun
  | [d1, d2, d3, d4] => { results := [.lit (.bool true)], args := [d1, d2, d3, d4] }
  | _ => none }
def siteKnowsRow : OpenClaim := { program := "ytboakoipdfmpcaagreat", sum := "1eb182cb8724966e6fd6f56de0e8909314a4484f63be6a00b7a9b15eb06c16a4", func := "reedmace/reedkeep.SiteKnows", spec := "siteKnows", inPlace := ["internal/bytealg.abigen_runtime_cmpstring", "slices.overlaps[reedmace/api.Version]"], unfollowed := true, recurses := true, apart := false }
def SiteKnowsSaid : Prop := siteKnowsRow.holds Tryz.pinned (OpenSpec.ofChange siteKnowsSpec)

/-- ITS FALSE NEIGHBOUR: 'it returns false'. Refute it at one input. -/
def siteKnowsWrong : ChangeSpec := { name := "siteKnows", fn := fun _ => fun
  | [d1, d2, d3, d4] => { results := [.lit (.bool false)], args := [d1, d2, d3, d4] }
  | _ => none }
def SiteKnowsWrongFalsely : Prop := siteKnowsRow.holds Tryz.pinned (OpenSpec.ofChange siteKnowsWrong)

/-- 'reedkeep.SiteReads': WHATEVER THE INPUT: true; the input reads as it did. -/
def siteReadsSpec : ChangeSpec := { name := "siteReads", fn := fun _ => fun
  | [d1, d2, d3, d4, d5] => { results := [.lit (.bool true)], args := [d1, d2, d3, d4, d5] }
  | _ => none }
def siteReadsRow : OpenClaim := { program := "ytboakoipdfmpcaagreat", sum := "1eb182cb8724966e6fd6f56de0e8909314a4484f63be6a00b7a9b15eb06c16a4", func := "reedmace/reedkeep.SiteReads", spec := "siteReads", inPlace := ["internal/bytealg.abigen_runtime_cmpstring", "slices.overlaps[reedmace/api.Version]"], unfollowed := true, recurses := true, apart := false }
def SiteReadsSaid : Prop := siteReadsRow.holds Tryz.pinned (OpenSpec.ofChange siteReadsSpec)

/-- ITS FALSE NEIGHBOUR: 'it returns false'. Refute it at one input. -/
def siteReadsWrong : ChangeSpec := { name := "siteReads", fn := fun _ => fun
  | [d1, d2, d3, d4, d5] => { results := [.lit (.bool false)], args := [d1, d2, d3, d4, d5] }
  | _ => none }
def SiteReadsWrongFalsely : Prop := siteReadsRow.holds Tryz.pinned (OpenSpec.ofChange siteReadsWrong)

/-- 'reedkeep.SiteAsks': WHATEVER THE INPUT: true; the input reads as it did. -/
def siteAsksSpec : ChangeSpec := { name := "siteAsks", fn := fun _ => fun
  | [d1, d2, d3] => { results := [.lit (.bool true)], args := [d1, d2, d3] }
  | _ => none }
def siteAsksRow : OpenClaim := { program := "ytboakoipdfmpcaagreat", sum := "1eb182cb8724966e6fd6f56de0e8909314a4484f63be6a00b7a9b15eb06c16a4", func := "reedmace/reedkeep.SiteAsks", spec := "siteAsks", inPlace := ["internal/bytealg.abigen_runtime_cmpstring", "slices.overlaps[reedmace/api.Version]"], unfollowed := true, recurses := true, apart := false }
def SiteAsksSaid : Prop := siteAsksRow.holds Tryz.pinned (OpenSpec.ofChange siteAsksSpec)

/-- ITS FALSE NEIGHBOUR: 'it returns false'. Refute it at one input. -/
def siteAsksWrong : ChangeSpec := { name := "siteAsks", fn := fun _ => fun
  | [d1, d2, d3] => { results := [.lit (.bool false)], args := [d1, d2, d3] }
  | _ => none }
def SiteAsksWrongFalsely : Prop := siteAsksRow.holds Tryz.pinned (OpenSpec.ofChange siteAsksWrong)

/-- 'reedkeep.SiteChain': WHATEVER THE INPUT: true; the input reads as it did. -/
def siteChainSpec : ChangeSpec := { name := "siteChain", fn := fun _ => fun
  | [d1, d2, d3] => { results := [.lit (.bool true)], args := [d1, d2, d3] }
  | _ => none }
def siteChainRow : OpenClaim := { program := "ytboakoipdfmpcaagreat", sum := "1eb182cb8724966e6fd6f56de0e8909314a4484f63be6a00b7a9b15eb06c16a4", func := "reedmace/reedkeep.SiteChain", spec := "siteChain", inPlace := ["internal/bytealg.abigen_runtime_cmpstring", "slices.overlaps[reedmace/api.Version]"], unfollowed := true, recurses := true, apart := false }
def SiteChainSaid : Prop := siteChainRow.holds Tryz.pinned (OpenSpec.ofChange siteChainSpec)

/-- ITS FALSE NEIGHBOUR: 'it returns false'. Refute it at one input. -/
def siteChainWrong : ChangeSpec := { name := "siteChain", fn := fun _ => fun
  | [d1, d2, d3] => { results := [.lit (.bool false)], args := [d1, d2, d3] }
  | _ => none }
def SiteChainWrongFalsely : Prop := siteChainRow.holds Tryz.pinned (OpenSpec.ofChange siteChainWrong)

/-- 'reedkeep.SiteBoth': WHATEVER THE INPUT: true; the input reads as it did. -/
def siteBothSpec : ChangeSpec := { name := "siteBoth", fn := fun _ => fun
  | [d1, d2] => { results := [.lit (.bool true)], args := [d1, d2] }
  | _ => none }
def siteBothRow : OpenClaim := { program := "ytboakoipdfmpcaagreat", sum := "1eb182cb8724966e6fd6f56de0e8909314a4484f63be6a00b7a9b15eb06c16a4", func := "reedmace/reedkeep.SiteBoth", spec := "siteBoth", inPlace := ["internal/bytealg.abigen_runtime_cmpstring", "slices.overlaps[reedmace/api.Version]"], unfollowed := true, recurses := true, apart := false }
def SiteBothSaid : Prop := siteBothRow.holds Tryz.pinned (OpenSpec.ofChange siteBothSpec)

/-- ITS FALSE NEIGHBOUR: 'it returns false'. Refute it at one input. -/
def siteBothWrong : ChangeSpec := { name := "siteBoth", fn := fun _ => fun
  | [d1, d2] => { results := [.lit (.bool false)], args := [d1, d2] }
  | _ => none }
def SiteBothWrongFalsely : Prop := siteBothRow.holds Tryz.pinned (OpenSpec.ofChange siteBothWrong)

/-- 'reedkeep.SiteWants': WHATEVER THE INPUT: true; the input reads as it did. -/
def siteWantsSpec : ChangeSpec := { name := "siteWants", fn := fun _ => fun
  | [d1, d2, d3, d4, d5] => { results := [.lit (.bool true)], args := [d1, d2, d3, d4, d5] }
  | _ => none }
def siteWantsRow : OpenClaim := { program := "ytboakoipdfmpcaagreat", sum := "1eb182cb8724966e6fd6f56de0e8909314a4484f63be6a00b7a9b15eb06c16a4", func := "reedmace/reedkeep.SiteWants", spec := "siteWants", inPlace := ["internal/bytealg.abigen_runtime_cmpstring", "slices.overlaps[reedmace/api.Version]"], unfollowed := true, recurses := true, apart := false }
def SiteWantsSaid : Prop := siteWantsRow.holds Tryz.pinned (OpenSpec.ofChange siteWantsSpec)

/-- ITS FALSE NEIGHBOUR: 'it returns false'. Refute it at one input. -/
def siteWantsWrong : ChangeSpec := { name := "siteWants", fn := fun _ => fun
  | [d1, d2, d3, d4, d5] => { results := [.lit (.bool false)], args := [d1, d2, d3, d4, d5] }
  | _ => none }
def SiteWantsWrongFalsely : Prop := siteWantsRow.holds Tryz.pinned (OpenSpec.ofChange siteWantsWrong)

/-- 'reedkeep.SiteWider': WHATEVER THE INPUT: true; the input reads as it did. -/
def siteWiderSpec : ChangeSpec := { name := "siteWider", fn := fun _ => fun
  | [d1, d2, d3, d4] => { results := [.lit (.bool true)], args := [d1, d2, d3, d4] }
  | _ => none }
def siteWiderRow : OpenClaim := { program := "ytboakoipdfmpcaagreat", sum := "1eb182cb8724966e6fd6f56de0e8909314a4484f63be6a00b7a9b15eb06c16a4", func := "reedmace/reedkeep.SiteWider", spec := "siteWider", inPlace := ["internal/bytealg.abigen_runtime_cmpstring", "slices.overlaps[reedmace/api.Version]"], unfollowed := true, recurses := true, apart := false }
def SiteWiderSaid : Prop := siteWiderRow.holds Tryz.pinned (OpenSpec.ofChange siteWiderSpec)

/-- ITS FALSE NEIGHBOUR: 'it returns false'. Refute it at one input. -/
def siteWiderWrong : ChangeSpec := { name := "siteWider", fn := fun _ => fun
  | [d1, d2, d3, d4] => { results := [.lit (.bool false)], args := [d1, d2, d3, d4] }
  | _ => none }
def SiteWiderWrongFalsely : Prop := siteWiderRow.holds Tryz.pinned (OpenSpec.ofChange siteWiderWrong)

/-- 'reedkeep.SiteTwice': WHATEVER THE INPUT: true; the input reads as it did. -/
def siteTwiceSpec : ChangeSpec := { name := "siteTwice", fn := fun _ => fun
  | [d1, d2, d3] => { results := [.lit (.bool true)], args := [d1, d2, d3] }
  | _ => none }
def siteTwiceRow : OpenClaim := { program := "ytboakoipdfmpcaagreat", sum := "1eb182cb8724966e6fd6f56de0e8909314a4484f63be6a00b7a9b15eb06c16a4", func := "reedmace/reedkeep.SiteTwice", spec := "siteTwice", inPlace := ["internal/bytealg.abigen_runtime_cmpstring", "slices.overlaps[reedmace/api.Version]"], unfollowed := true, recurses := true, apart := false }
def SiteTwiceSaid : Prop := siteTwiceRow.holds Tryz.pinned (OpenSpec.ofChange siteTwiceSpec)

/-- ITS FALSE NEIGHBOUR: 'it returns false'. Refute it at one input. -/
def siteTwiceWrong : ChangeSpec := { name := "siteTwice", fn := fun _ => fun
  | [d1, d2, d3] => { results := [.lit (.bool false)], args := [d1, d2, d3] }
  | _ => none }
def SiteTwiceWrongFalsely : Prop := siteTwiceRow.holds Tryz.pinned (OpenSpec.ofChange siteTwiceWrong)

/-- 'reedkeep.TownAlone': WHATEVER THE INPUT: true; the input reads as it did. -/
def townAloneSpec : ChangeSpec := { name := "townAlone", fn := fun _ => fun
  | [d] => { results := [.lit (.bool true)], args := [d] }
  | _ => none }
def townAloneRow : OpenClaim := { program := "ytboakoipdfmpcaagreat", sum := "1eb182cb8724966e6fd6f56de0e8909314a4484f63be6a00b7a9b15eb06c16a4", func := "reedmace/reedkeep.TownAlone", spec := "townAlone", inPlace := ["internal/bytealg.abigen_runtime_cmpstring", "slices.overlaps[reedmace/api.Version]"], unfollowed := true, recurses := true, apart := false }
def TownAloneSaid : Prop := townAloneRow.holds Tryz.pinned (OpenSpec.ofChange townAloneSpec)

/-- ITS FALSE NEIGHBOUR: 'it returns false'. Refute it at one input. -/
def townAloneWrong : ChangeSpec := { name := "townAlone", fn := fun _ => fun
  | [d] => { results := [.lit (.bool false)], args := [d] }
  | _ => none }
def TownAloneWrongFalsely : Prop := townAloneRow.holds Tryz.pinned (OpenSpec.ofChange townAloneWrong)

/-- 'reedkeep.TownOwn': WHATEVER THE INPUT: true; the input reads as it did. -/
def townOwnSpec : ChangeSpec := { name := "townOwn", fn := fun _ => fun
  | [d1, d2] => { results := [.lit (.bool true)], args := [d1, d2] }
  | _ => none }
def townOwnRow : OpenClaim := { program := "ytboakoipdfmpcaagreat", sum := "1eb182cb8724966e6fd6f56de0e8909314a4484f63be6a00b7a9b15eb06c16a4", func := "reedmace/reedkeep.TownOwn", spec := "townOwn", inPlace := ["internal/bytealg.abigen_runtime_cmpstring", "slices.overlaps[reedmace/api.Version]"], unfollowed := true, recurses := true, apart := false }
def TownOwnSaid : Prop := townOwnRow.holds Tryz.pinned (OpenSpec.ofChange townOwnSpec)

/-- ITS FALSE NEIGHBOUR: 'it returns false'. Refute it at one input. -/
def townOwnWrong : ChangeSpec := { name := "townOwn", fn := fun _ => fun
  | [d1, d2] => { results := [.lit (.bool false)], args := [d1, d2] }
  | _ => none }
def TownOwnWrongFalsely : Prop := townOwnRow.holds Tryz.pinned (OpenSpec.ofChange townOwnWrong)

/-- 'reedkeep.TownShelves': WHATEVER THE INPUT: true; the input reads as it did. -/
def townShelvesSpec : ChangeSpec := { name := "townShelves", fn := fun _ => fun
  | [d1, d2] => { results := [.lit (.bool true)], args := [d1, d2] }
  | _ => none }
def townShelvesRow : OpenClaim := { program := "ytboakoipdfmpcaagreat", sum := "1eb182cb8724966e6fd6f56de0e8909314a4484f63be6a00b7a9b15eb06c16a4", func := "reedmace/reedkeep.TownShelves", spec := "townShelves", inPlace := ["internal/bytealg.abigen_runtime_cmpstring", "slices.overlaps[reedmace/api.Version]"], unfollowed := true, recurses := true, apart := false }
def TownShelvesSaid : Prop := townShelvesRow.holds Tryz.pinned (OpenSpec.ofChange townShelvesSpec)

/-- ITS FALSE NEIGHBOUR: 'it returns false'. Refute it at one input. -/
def townShelvesWrong : ChangeSpec := { name := "townShelves", fn := fun _ => fun
  | [d1, d2] => { results := [.lit (.bool false)], args := [d1, d2] }
  | _ => none }
def TownShelvesWrongFalsely : Prop := townShelvesRow.holds Tryz.pinned (OpenSpec.ofChange townShelvesWrong)

/-- 'reedkeep.TownLetters': WHATEVER THE INPUT: true; the input reads as it did. -/
def townLettersSpec : ChangeSpec := { name := "townLetters", fn := fun _ => fun
  | [d1, d2, d3, d4] => { results := [.lit (.bool true)], args := [d1, d2, d3, d4] }
  | _ => none }
def townLettersRow : OpenClaim := { program := "ytboakoipdfmpcaagreat", sum := "1eb182cb8724966e6fd6f56de0e8909314a4484f63be6a00b7a9b15eb06c16a4", func := "reedmace/reedkeep.TownLetters", spec := "townLetters", inPlace := ["internal/bytealg.abigen_runtime_cmpstring", "slices.overlaps[reedmace/api.Version]"], unfollowed := true, recurses := true, apart := false }
def TownLettersSaid : Prop := townLettersRow.holds Tryz.pinned (OpenSpec.ofChange townLettersSpec)

/-- ITS FALSE NEIGHBOUR: 'it returns false'. Refute it at one input. -/
def townLettersWrong : ChangeSpec := { name := "townLetters", fn := fun _ => fun
  | [d1, d2, d3, d4] => { results := [.lit (.bool false)], args := [d1, d2, d3, d4] }
  | _ => none }
def TownLettersWrongFalsely : Prop := townLettersRow.holds Tryz.pinned (OpenSpec.ofChange townLettersWrong)

/-- 'reedkeep.SiteOwn': WHATEVER THE INPUT: true; the input reads as it did. -/
def siteOwnSpec : ChangeSpec := { name := "siteOwn", fn := fun _ => fun
  | [d1, d2, d3] => { results := [.lit (.bool true)], args := [d1, d2, d3] }
  | _ => none }
def siteOwnRow : OpenClaim := { program := "ytboakoipdfmpcaagreat", sum := "1eb182cb8724966e6fd6f56de0e8909314a4484f63be6a00b7a9b15eb06c16a4", func := "reedmace/reedkeep.SiteOwn", spec := "siteOwn", inPlace := ["internal/bytealg.abigen_runtime_cmpstring", "slices.overlaps[reedmace/api.Version]"], unfollowed := true, recurses := true, apart := false }
def SiteOwnSaid : Prop := siteOwnRow.holds Tryz.pinned (OpenSpec.ofChange siteOwnSpec)

/-- ITS FALSE NEIGHBOUR: 'it returns false'. Refute it at one input. -/
def siteOwnWrong : ChangeSpec := { name := "siteOwn", fn := fun _ => fun
  | [d1, d2, d3] => { results := [.lit (.bool false)], args := [d1, d2, d3] }
  | _ => none }
def SiteOwnWrongFalsely : Prop := siteOwnRow.holds Tryz.pinned (OpenSpec.ofChange siteOwnWrong)

/-- 'reedkeep.TownSound': WHATEVER THE INPUT: true; the input reads as it did. -/
def townSoundSpec : ChangeSpec := { name := "townSound", fn := fun _ => fun
  | [d1, d2] => { results := [.lit (.bool true)], args := [d1, d2] }
  | _ => none }
def townSoundRow : OpenClaim := { program := "ytboakoipdfmpcaagreat", sum := "1eb182cb8724966e6fd6f56de0e8909314a4484f63be6a00b7a9b15eb06c16a4", func := "reedmace/reedkeep.TownSound", spec := "townSound", inPlace := ["internal/bytealg.abigen_runtime_cmpstring", "slices.overlaps[reedmace/api.Version]"], unfollowed := true, recurses := true, apart := false }
def TownSoundSaid : Prop := townSoundRow.holds Tryz.pinned (OpenSpec.ofChange townSoundSpec)

/-- ITS FALSE NEIGHBOUR: 'it returns false'. Refute it at one input. -/
def townSoundWrong : ChangeSpec := { name := "townSound", fn := fun _ => fun
  | [d1, d2] => { results := [.lit (.bool false)], args := [d1, d2] }
  | _ => none }
def TownSoundWrongFalsely : Prop := townSoundRow.holds Tryz.pinned (OpenSpec.ofChange townSoundWrong)

/-- 'reedtop.TopKnown': WHATEVER THE INPUT: true; the input reads as it did. -/
def topKnownSpec : ChangeSpec := { name := "topKnown", fn := fun _ => fun
  | [d1, d2] => { results := [.lit (.bool true)], args := [d1, d2] }
  | _ => none }
def topKnownRow : OpenClaim := { program := "ytboakoipdfmpcaagreat", sum := "1eb182cb8724966e6fd6f56de0e8909314a4484f63be6a00b7a9b15eb06c16a4", func := "reedmace/reedtop.TopKnown", spec := "topKnown", inPlace := ["internal/bytealg.abigen_runtime_cmpstring", "slices.overlaps[reedmace/api.Version]"], unfollowed := true, recurses := true, apart := false }
def TopKnownSaid : Prop := topKnownRow.holds Tryz.pinned (OpenSpec.ofChange topKnownSpec)

/-- ITS FALSE NEIGHBOUR: 'it returns false'. Refute it at one input. -/
def topKnownWrong : ChangeSpec := { name := "topKnown", fn := fun _ => fun
  | [d1, d2] => { results := [.lit (.bool false)], args := [d1, d2] }
  | _ => none }
def TopKnownWrongFalsely : Prop := topKnownRow.holds Tryz.pinned (OpenSpec.ofChange topKnownWrong)

/- THE SECOND FORM. 'bulk': how many values and letters a reading holds, each counted each time it is reached (what is shared counts as often as it is met; a slice's spare places count too). A statement '..UptoSaid' is the law's where the arguments, and the package variables that the reading takes, are together of bulk at most 1048576: NARROWER than '..Said'. Prove '..Said' where nothing that the law and all that it calls make is longer than what came in: it says more and counts as full. Else prove '..UptoSaid'. A law counts once. -/
mutual
def uptoBulk {H : Type} : DataW H → Nat
  | .lit (.string bytes) => bytes.length + 1
  | .lit _ => 1
  | .nil => 1
  | .ptr d => uptoBulk d + 1
  | .slice elems spare => uptoBulkAll elems + uptoBulkAll spare + 1
  | .agg parts => uptoBulkAll parts + 1
  | .iface _ d => uptoBulk d + 1
  | .map entries => uptoBulkEntries entries + 1
  | .held _ => 1
def uptoBulkAll {H : Type} : List (DataW H) → Nat
  | [] => 0
  | d :: r => uptoBulk d + uptoBulkAll r
def uptoBulkEntries {H : Type} : List (Lit × DataW H) → Nat
  | [] => 0
  | x :: r => uptoBulkEntry x + uptoBulkEntries r
def uptoBulkEntry {H : Type} : Lit × DataW H → Nat
  | (.string bytes, d) => bytes.length + uptoBulk d + 1
  | (_, d) => uptoBulk d + 1
 end
def uptoSmall : (H : Type) → List (DataW H) → Bool := fun _ ds => decide (uptoBulkAll ds ≤ 1048576)
def OpenSpec.upto (s : _root_.Go.ChangeSpec) : _root_.Go.OpenSpec := { _root_.Go.OpenSpec.ofChange s with cond := some uptoSmall }

/-- 'reedtop.TopTown', WHERE WHAT IT READS IS OF BULK AT MOST 1048576: true; the input reads as it did. -/
def topTownUptoRow : OpenClaim := { program := "ytboakoipdfmpcaagreat", sum := "1eb182cb8724966e6fd6f56de0e8909314a4484f63be6a00b7a9b15eb06c16a4", func := "reedmace/reedtop.TopTown", spec := "topTown", inPlace := ["internal/bytealg.abigen_runtime_cmpstring", "slices.overlaps[reedmace/api.Version]"], unfollowed := true, recurses := true, apart := false, narrowed := true }
def TopTownUptoSaid : Prop := topTownUptoRow.holds Tryz.pinned (OpenSpec.upto topTownSpec)

/-- 'reedtop.TopLess', WHERE WHAT IT READS IS OF BULK AT MOST 1048576: true; the input reads as it did. -/
def topLessUptoRow : OpenClaim := { program := "ytboakoipdfmpcaagreat", sum := "1eb182cb8724966e6fd6f56de0e8909314a4484f63be6a00b7a9b15eb06c16a4", func := "reedmace/reedtop.TopLess", spec := "topLess", inPlace := ["internal/bytealg.abigen_runtime_cmpstring", "slices.overlaps[reedmace/api.Version]"], unfollowed := true, recurses := true, apart := false, narrowed := true }
def TopLessUptoSaid : Prop := topLessUptoRow.holds Tryz.pinned (OpenSpec.upto topLessSpec)

/-- 'reedtop.TopQuiet', WHERE WHAT IT READS IS OF BULK AT MOST 1048576: true; the input reads as it did. -/
def topQuietUptoRow : OpenClaim := { program := "ytboakoipdfmpcaagreat", sum := "1eb182cb8724966e6fd6f56de0e8909314a4484f63be6a00b7a9b15eb06c16a4", func := "reedmace/reedtop.TopQuiet", spec := "topQuiet", inPlace := ["internal/bytealg.abigen_runtime_cmpstring", "slices.overlaps[reedmace/api.Version]"], unfollowed := true, recurses := true, apart := false, narrowed := true }
def TopQuietUptoSaid : Prop := topQuietUptoRow.holds Tryz.pinned (OpenSpec.upto topQuietSpec)

/-- 'reedkeep.SiteDots', WHERE WHAT IT READS IS OF BULK AT MOST 1048576: true; the input reads as it did. -/
def siteDotsUptoRow : OpenClaim := { program := "ytboakoipdfmpcaagreat", sum := "1eb182cb8724966e6fd6f56de0e8909314a4484f63be6a00b7a9b15eb06c16a4", func := "reedmace/reedkeep.SiteDots", spec := "siteDots", inPlace := ["internal/bytealg.abigen_runtime_cmpstring", "slices.overlaps[reedmace/api.Version]"], unfollowed := true, recurses := true, apart := false, narrowed := true }
def SiteDotsUptoSaid : Prop := siteDotsUptoRow.holds Tryz.pinned (OpenSpec.upto siteDotsSpec)

/-- 'reedkeep.SiteNothing', WHERE WHAT IT READS IS OF BULK AT MOST 1048576: true; the input reads as it did. -/
def siteNothingUptoRow : OpenClaim := { program := "ytboakoipdfmpcaagreat", sum := "1eb182cb8724966e6fd6f56de0e8909314a4484f63be6a00b7a9b15eb06c16a4", func := "reedmace/reedkeep.SiteNothing", spec := "siteNothing", inPlace := ["internal/bytealg.abigen_runtime_cmpstring", "slices.overlaps[reedmace/api.Version]"], unfollowed := true, recurses := true, apart := false, narrowed := true }
def SiteNothingUptoSaid : Prop := siteNothingUptoRow.holds Tryz.pinned (OpenSpec.upto siteNothingSpec)

/-- 'reedkeep.SiteLate', WHERE WHAT IT READS IS OF BULK AT MOST 1048576: true; the input reads as it did. -/
def siteLateUptoRow : OpenClaim := { program := "ytboakoipdfmpcaagreat", sum := "1eb182cb8724966e6fd6f56de0e8909314a4484f63be6a00b7a9b15eb06c16a4", func := "reedmace/reedkeep.SiteLate", spec := "siteLate", inPlace := ["internal/bytealg.abigen_runtime_cmpstring", "slices.overlaps[reedmace/api.Version]"], unfollowed := true, recurses := true, apart := false, narrowed := true }
def SiteLateUptoSaid : Prop := siteLateUptoRow.holds Tryz.pinned (OpenSpec.upto siteLateSpec)

/-- 'reedkeep.SiteKnows', WHERE WHAT IT READS IS OF BULK AT MOST 1048576: true; the input reads as it did. -/
def siteKnowsUptoRow : OpenClaim := { program := "ytboakoipdfmpcaagreat", sum := "1eb182cb8724966e6fd6f56de0e8909314a4484f63be6a00b7a9b15eb06c16a4", func := "reedmace/reedkeep.SiteKnows", spec := "siteKnows", inPlace := ["internal/bytealg.abigen_runtime_cmpstring", "slices.overlaps[reedmace/api.Version]"], unfollowed := true, recurses := true, apart := false, narrowed := true }
def SiteKnowsUptoSaid : Prop := siteKnowsUptoRow.holds Tryz.pinned (OpenSpec.upto siteKnowsSpec)

/-- 'reedkeep.SiteReads', WHERE WHAT IT READS IS OF BULK AT MOST 1048576: true; the input reads as it did. -/
def siteReadsUptoRow : OpenClaim := { program := "ytboakoipdfmpcaagreat", sum := "1eb182cb8724966e6fd6f56de0e8909314a4484f63be6a00b7a9b15eb06c16a4", func := "reedmace/reedkeep.SiteReads", spec := "siteReads", inPlace := ["internal/bytealg.abigen_runtime_cmpstring", "slices.overlaps[reedmace/api.Version]"], unfollowed := true, recurses := true, apart := false, narrowed := true }
def SiteReadsUptoSaid : Prop := siteReadsUptoRow.holds Tryz.pinned (OpenSpec.upto siteReadsSpec)

/-- 'reedkeep.SiteAsks', WHERE WHAT IT READS IS OF BULK AT MOST 1048576: true; the input reads as it did. -/
def siteAsksUptoRow : OpenClaim := { program := "ytboakoipdfmpcaagreat", sum := "1eb182cb8724966e6fd6f56de0e8909314a4484f63be6a00b7a9b15eb06c16a4", func := "reedmace/reedkeep.SiteAsks", spec := "siteAsks", inPlace := ["internal/bytealg.abigen_runtime_cmpstring", "slices.overlaps[reedmace/api.Version]"], unfollowed := true, recurses := true, apart := false, narrowed := true }
def SiteAsksUptoSaid : Prop := siteAsksUptoRow.holds Tryz.pinned (OpenSpec.upto siteAsksSpec)

/-- 'reedkeep.SiteChain', WHERE WHAT IT READS IS OF BULK AT MOST 1048576: true; the input reads as it did. -/
def siteChainUptoRow : OpenClaim := { program := "ytboakoipdfmpcaagreat", sum := "1eb182cb8724966e6fd6f56de0e8909314a4484f63be6a00b7a9b15eb06c16a4", func := "reedmace/reedkeep.SiteChain", spec := "siteChain", inPlace := ["internal/bytealg.abigen_runtime_cmpstring", "slices.overlaps[reedmace/api.Version]"], unfollowed := true, recurses := true, apart := false, narrowed := true }
def SiteChainUptoSaid : Prop := siteChainUptoRow.holds Tryz.pinned (OpenSpec.upto siteChainSpec)

/-- 'reedkeep.SiteBoth', WHERE WHAT IT READS IS OF BULK AT MOST 1048576: true; the input reads as it did. -/
def siteBothUptoRow : OpenClaim := { program := "ytboakoipdfmpcaagreat", sum := "1eb182cb8724966e6fd6f56de0e8909314a4484f63be6a00b7a9b15eb06c16a4", func := "reedmace/reedkeep.SiteBoth", spec := "siteBoth", inPlace := ["internal/bytealg.abigen_runtime_cmpstring", "slices.overlaps[reedmace/api.Version]"], unfollowed := true, recurses := true, apart := false, narrowed := true }
def SiteBothUptoSaid : Prop := siteBothUptoRow.holds Tryz.pinned (OpenSpec.upto siteBothSpec)

/-- 'reedkeep.SiteWants', WHERE WHAT IT READS IS OF BULK AT MOST 1048576: true; the input reads as it did. -/
def siteWantsUptoRow : OpenClaim := { program := "ytboakoipdfmpcaagreat", sum := "1eb182cb8724966e6fd6f56de0e8909314a4484f63be6a00b7a9b15eb06c16a4", func := "reedmace/reedkeep.SiteWants", spec := "siteWants", inPlace := ["internal/bytealg.abigen_runtime_cmpstring", "slices.overlaps[reedmace/api.Version]"], unfollowed := true, recurses := true, apart := false, narrowed := true }
def SiteWantsUptoSaid : Prop := siteWantsUptoRow.holds Tryz.pinned (OpenSpec.upto siteWantsSpec)

/-- 'reedkeep.SiteWider', WHERE WHAT IT READS IS OF BULK AT MOST 1048576: true; the input reads as it did. -/
def siteWiderUptoRow : OpenClaim := { program := "ytboakoipdfmpcaagreat", sum := "1eb182cb8724966e6fd6f56de0e8909314a4484f63be6a00b7a9b15eb06c16a4", func := "reedmace/reedkeep.SiteWider", spec := "siteWider", inPlace := ["internal/bytealg.abigen_runtime_cmpstring", "slices.overlaps[reedmace/api.Version]"], unfollowed := true, recurses := true, apart := false, narrowed := true }
def SiteWiderUptoSaid : Prop := siteWiderUptoRow.holds Tryz.pinned (OpenSpec.upto siteWiderSpec)

/-- 'reedkeep.SiteTwice', WHERE WHAT IT READS IS OF BULK AT MOST 1048576: true; the input reads as it did. -/
def siteTwiceUptoRow : OpenClaim := { program := "ytboakoipdfmpcaagreat", sum := "1eb182cb8724966e6fd6f56de0e8909314a4484f63be6a00b7a9b15eb06c16a4", func := "reedmace/reedkeep.SiteTwice", spec := "siteTwice", inPlace := ["internal/bytealg.abigen_runtime_cmpstring", "slices.overlaps[reedmace/api.Version]"], unfollowed := true, recurses := true, apart := false, narrowed := true }
def SiteTwiceUptoSaid : Prop := siteTwiceUptoRow.holds Tryz.pinned (OpenSpec.upto siteTwiceSpec)

/-- 'reedkeep.TownAlone', WHERE WHAT IT READS IS OF BULK AT MOST 1048576: true; the input reads as it did. -/
def townAloneUptoRow : OpenClaim := { program := "ytboakoipdfmpcaagreat", sum := "1eb182cb8724966e6fd6f56de0e8909314a4484f63be6a00b7a9b15eb06c16a4", func := "reedmace/reedkeep.TownAlone", spec := "townAlone", inPlace := ["internal/bytealg.abigen_runtime_cmpstring", "slices.overlaps[reedmace/api.Version]"], unfollowed := true, recurses := true, apart := false, narrowed := true }
def TownAloneUptoSaid : Prop := townAloneUptoRow.holds Tryz.pinned (OpenSpec.upto townAloneSpec)

/-- 'reedkeep.TownOwn', WHERE WHAT IT READS IS OF BULK AT MOST 1048576: true; the input reads as it did. -/
def townOwnUptoRow : OpenClaim := { program := "ytboakoipdfmpcaagreat", sum := "1eb182cb8724966e6fd6f56de0e8909314a4484f63be6a00b7a9b15eb06c16a4", func := "reedmace/reedkeep.TownOwn", spec := "townOwn", inPlace := ["internal/bytealg.abigen_runtime_cmpstring", "slices.overlaps[reedmace/api.Version]"], unfollowed := true, recurses := true, apart := false, narrowed := true }
def TownOwnUptoSaid : Prop := townOwnUptoRow.holds Tryz.pinned (OpenSpec.upto townOwnSpec)

/-- 'reedkeep.TownShelves', WHERE WHAT IT READS IS OF BULK AT MOST 1048576: true; the input reads as it did. -/
def townShelvesUptoRow : OpenClaim := { program := "ytboakoipdfmpcaagreat", sum := "1eb182cb8724966e6fd6f56de0e8909314a4484f63be6a00b7a9b15eb06c16a4", func := "reedmace/reedkeep.TownShelves", spec := "townShelves", inPlace := ["internal/bytealg.abigen_runtime_cmpstring", "slices.overlaps[reedmace/api.Version]"], unfollowed := true, recurses := true, apart := false, narrowed := true }
def TownShelvesUptoSaid : Prop := townShelvesUptoRow.holds Tryz.pinned (OpenSpec.upto townShelvesSpec)

/-- 'reedkeep.TownLetters', WHERE WHAT IT READS IS OF BULK AT MOST 1048576: true; the input reads as it did. -/
def townLettersUptoRow : OpenClaim := { program := "ytboakoipdfmpcaagreat", sum := "1eb182cb8724966e6fd6f56de0e8909314a4484f63be6a00b7a9b15eb06c16a4", func := "reedmace/reedkeep.TownLetters", spec := "townLetters", inPlace := ["internal/bytealg.abigen_runtime_cmpstring", "slices.overlaps[reedmace/api.Version]"], unfollowed := true, recurses := true, apart := false, narrowed := true }
def TownLettersUptoSaid : Prop := townLettersUptoRow.holds Tryz.pinned (OpenSpec.upto townLettersSpec)

/-- 'reedkeep.SiteOwn', WHERE WHAT IT READS IS OF BULK AT MOST 1048576: true; the input reads as it did. -/
def siteOwnUptoRow : OpenClaim := { program := "ytboakoipdfmpcaagreat", sum := "1eb182cb8724966e6fd6f56de0e8909314a4484f63be6a00b7a9b15eb06c16a4", func := "reedmace/reedkeep.SiteOwn", spec := "siteOwn", inPlace := ["internal/bytealg.abigen_runtime_cmpstring", "slices.overlaps[reedmace/api.Version]"], unfollowed := true, recurses := true, apart := false, narrowed := true }
def SiteOwnUptoSaid : Prop := siteOwnUptoRow.holds Tryz.pinned (OpenSpec.upto siteOwnSpec)

/-- 'reedkeep.TownSound', WHERE WHAT IT READS IS OF BULK AT MOST 1048576: true; the input reads as it did. -/
def townSoundUptoRow : OpenClaim := { program := "ytboakoipdfmpcaagreat", sum := "1eb182cb8724966e6fd6f56de0e8909314a4484f63be6a00b7a9b15eb06c16a4", func := "reedmace/reedkeep.TownSound", spec := "townSound", inPlace := ["internal/bytealg.abigen_runtime_cmpstring", "slices.overlaps[reedmace/api.Version]"], unfollowed := true, recurses := true, apart := false, narrowed := true }
def TownSoundUptoSaid : Prop := townSoundUptoRow.holds Tryz.pinned (OpenSpec.upto townSoundSpec)

/-- 'reedtop.TopKnown', WHERE WHAT IT READS IS OF BULK AT MOST 1048576: true; the input reads as it did. -/
def topKnownUptoRow : OpenClaim := { program := "ytboakoipdfmpcaagreat", sum := "1eb182cb8724966e6fd6f56de0e8909314a4484f63be6a00b7a9b15eb06c16a4", func := "reedmace/reedtop.TopKnown", spec := "topKnown", inPlace := ["internal/bytealg.abigen_runtime_cmpstring", "slices.overlaps[reedmace/api.Version]"], unfollowed := true, recurses := true, apart := false, narrowed := true }
def TopKnownUptoSaid : Prop := topKnownUptoRow.holds Tryz.pinned (OpenSpec.upto topKnownSpec)

end Rows
end Go.Proofs.YtboakoipdfmpcaaGreat
