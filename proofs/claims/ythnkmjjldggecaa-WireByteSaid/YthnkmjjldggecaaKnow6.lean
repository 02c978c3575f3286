/- What know.told, Join, Add do. Written by a small program (gen/know6.py). -/
import Derived.Test.YthnkmjjldggecaaMKnow3
import Derived.Test.YthnkmjjldggecaaKnow5
import Derived.Test.YthnkmjjldggecaaMPure
import Derived.Test.YthnkmjjldggecaaMClone
namespace Go.Proofs.Ythnkmjjldggecaa
open Go.RowKit
/-- A set that was answered: it is the call's own; or an error. -/
def KnRes (w : World) (base : Nat) (u v : Value) (E : Int) (k : Kn) : Prop := (E = 0 ∧ KnOwn w base u v k) ∨ (E ≠ 0 ∧ u = .slice none 0 0 ∧ v = .slice none 0 0)
theorem KnRes.below {w w' : World} {base : Nat} {u v : Value} {E : Int} {k : Kn} (h : KnRes w base u v E k) (hb : Below w.heap.size w w') : KnRes w' base u v E k := h.imp (fun h => ⟨h.1, h.2.below hb⟩) id
theorem KnRes.mono {w : World} {base base' : Nat} {u v : Value} {E : Int} {k : Kn} (h : KnRes w base u v E k) (hb : base' ≤ base) : KnRes w base' u v E k := h.imp (fun h => ⟨h.1, h.2.mono hb⟩) id
theorem KnRes.shape {w : World} {base : Nat} {u v : Value} {E : Int} {k : Kn} (h : KnRes w base u v E k) : ∃ a n c b m d, u = .slice a n c ∧ v = .slice b m d := by
  rcases h with ⟨-, h⟩ | ⟨-, rfl, rfl⟩
  · obtain ⟨a, c, rfl⟩ := owns_slice h.vec; obtain ⟨b, d, rfl⟩ := owns_slice h.more; exact ⟨_, _, _, _, _, _, rfl, rfl⟩
  · exact ⟨none, 0, 0, none, 0, 0, rfl, rfl⟩
theorem KnRes.set {w : World} {base g j : Nat} {u v x : Value} {E : Int} {k : Kn} {cs : Array Value} (h : KnRes w base u v E k) (hg : w.heap[g]? = some (Obj.cells cs 81 (0, 0))) : KnRes (w.setCell ⟨g, j, none⟩ x) base u v E k :=
  h.imp (fun h => ⟨h.1, own_set h.2.vec hg (by decide), own_set h.2.more hg (by decide)⟩) id
def orK (P Q : DPred) : DPred := fun s c => P s c || Q s c
def andK (P Q : DPred) : DPred := fun s c => P s c && Q s c
theorem bstep2 {w w1 w2 : World} (h : Below w.heap.size w w1) (k : Below w1.heap.size w1 w2) : Below w.heap.size w w2 := bstep h k
end Go.Proofs.Ythnkmjjldggecaa
