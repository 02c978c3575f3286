/- What filter.Join, Meet, Less, Same, Within, Count, In, Has, Every do. What filter.Count, Every, In, Has do; the laws' helpers. -/
import Derived.Test.YthnkmjjldggecaaMFilter1
import Derived.Test.YthnkmjjldggecaaMFilterP
import Derived.Test.YthnkmjjldggecaaMForm
namespace Go.Proofs.Ythnkmjjldggecaa
open Go.RowKit

theorem FOut.empty {base : Nat} {w : World} {v : Value} {p : Nat → Nat → Bool} (h : FOut base w v 0 p) : ∃ a l cap, v = .slice a l cap ∧ ((l : Int) == 0) = allPt (fun k n => !p k n) := by
  obtain ⟨l, hl, hg⟩ := h.1 rfl
  obtain ⟨a, c, hv⟩ := hl.shape
  refine ⟨a, _, c, hv, ?_⟩
  rw [Bool.eq_iff_iff, beq_iff_eq, allPt_iff]
  have e : ((l.length : Int) = 0) ↔ l = [] := by rw [← List.length_eq_zero_iff]; omega
  rw [e, hg.nil]
  exact ⟨fun h t n ht hn => by rw [h t n ht hn]; rfl, fun h t n ht hn => by have := h t n ht hn; simpa using this⟩

end Go.Proofs.Ythnkmjjldggecaa
namespace Go.Proofs.Ythnkmjjldggecaa
open Go.RowKit

theorem FOut.below {base : Nat} {w w' : World} {v : Value} {E : Int} {p : Nat → Nat → Bool} (h : FOut base w v E p) (hb : Below w.heap.size w w') : FOut base w' v E p :=
  ⟨fun e => let ⟨l, h1, h2⟩ := h.1 e; ⟨l, h1.below hb, h2⟩, h.2⟩
/-- v is a filter, in its form, of just the points p. -/
def FV (w : World) (v : Value) (p : Nat → Nat → Bool) : Prop := ∃ l, BxsAt w v l ∧ fChk l = 0 ∧ ∀ k n : Nat, k < 16 → n < 32 → inF l k n = p k n
theorem FV.below {w w' : World} {v : Value} {p : Nat → Nat → Bool} (h : FV w v p) (hb : Below w.heap.size w w') : FV w' v p := by
  obtain ⟨l, h1, h2, h3⟩ := h; exact ⟨l, h1.below hb, h2, h3⟩
theorem FV.shape {w : World} {v : Value} {p : Nat → Nat → Bool} (h : FV w v p) : ∃ a n c, v = .slice a n c := by
  obtain ⟨l, h1, -⟩ := h; obtain ⟨a, c, hv⟩ := h1.shape; exact ⟨a, _, c, hv⟩
theorem FV.mk {w : World} {v : Value} {l : Bxs} (h : BxsAt w v l) (hc : fChk l = 0) : FV w v (fun k n => inF l k n) := ⟨l, h, hc, fun _ _ _ _ => rfl⟩

end Go.Proofs.Ythnkmjjldggecaa
