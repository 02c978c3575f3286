/- Two sentences with a sign and brackets; one with a ! ahead: what is read, and what it says. No program in sight. -/
import Derived.Test.YtajgndoiddmbmaaGreatDoorText6
namespace Go.Proofs.YtajgndoiddmbmaaGreatDoor
open Go.RowKit
def wellN (i:Nat) (n:Nd):Prop:=n.k=1∨n.k=2∨n.k=3∨(n.k=4∧0≤n.a∧n.a < i)∨((n.k=5∨n.k=6)∧0≤n.a∧n.a < i∧0≤n.b∧n.b < i)
def wellL (l:Nds):Prop:= ∀k (h:k < l.length),wellN k l[k]
end Go.Proofs.YtajgndoiddmbmaaGreatDoor
