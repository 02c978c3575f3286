/- copy, clear and stores into rows whose elements have several cells. No program in sight. -/
import Derived.Test.YthnkmjjldggecaaBase2
import Derived.Laws.CopyOwn
import Derived.Laws.NewBlocks
import Derived.Lib.AppendZerosOnto
import Derived.Lib.Overlaps
import Derived.Laws.Externs
namespace Go.Proofs.Ythnkmjjldggecaa
open Go.RowKit
theorem setRow_else {w : World} {g k : Nat} {cs : Array Value} (h : g ≠ k) : (w.setRow g cs).heap[k]? = w.heap[k]? := by
  unfold World.setRow
  simp only
  rw [Array.getElem?_modify, if_neg h]
/-- The world w' is w but for the row g. -/
structure RowBut (w w' : World) (g : Nat) : Prop where
  os : w'.os = w.os
  tape : w'.tape = w.tape
  output : w'.output = w.output
  size : w'.heap.size = w.heap.size
  other : ∀ k, k ≠ g → w'.heap[k]? = w.heap[k]?
theorem RowBut.refl (w : World) (g : Nat) : RowBut w w g := ⟨rfl, rfl, rfl, rfl, fun _ _ => rfl⟩
theorem RowBut.setRow (w : World) (g : Nat) (cs : Array Value) : RowBut w (w.setRow g cs) g := ⟨rfl, rfl, rfl, setRow_size _ _ _, fun _ hk => setRow_else (Ne.symm hk)⟩
theorem RowBut.below {B g : Nat} {w0 w w' : World} (h : RowBut w w' g) (hb : Below B w0 w) (hg : B ≤ g) : Below B w0 w' :=
  hb.trans ⟨h.os, h.tape, h.output, by rw [h.size]; exact Nat.le_refl _, fun k hk => h.other k (by omega)⟩
end Go.Proofs.Ythnkmjjldggecaa
