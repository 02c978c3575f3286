/- Rows of the call's own and blocks of another type: what a store or an append leaves alone. No program in sight. -/
import Derived.Test.YtippljiicnpieaaBase2
namespace Go.Proofs.Ytippljiicnpieaa
open Go.RowKit
theorem own_off {w : World} {base e size n g : Nat} {v : Value} {xs : List Value} {cs : Array Value} {t : TypeId} {r : Nat × Nat} (h : w.ownsRow base e size v n xs) (hg : w.heap[g]? = some (Obj.cells cs t r)) (hne : t ≠ e) : v.ownBlock ≠ some g := by
  rcases h.2 with ⟨rfl, -⟩ | ⟨k, cap, cur, rfl, -, hk, -⟩
  · simp [Value.ownBlock]
  · simp only [Value.ownBlock, ne_eq, Option.some.injEq]
    rintro rfl
    rw [hk] at hg
    simp only [Option.some.injEq, Obj.cells.injEq] at hg
    exact hne hg.2.1.symm
theorem grown_set (w : World) (g j : Nat) (u : Value) : w.grownBy (w.setCell ⟨g, j, none⟩ u) (some g) :=
  ⟨rfl, rfl, rfl, by simp [World.setCell], fun k _ hne => heap_set_other (fun e => hne (by rw [e]))⟩
/-- A store into a block of another type leaves a row of the call's own. -/
theorem own_set {w : World} {base e size n g j : Nat} {v u : Value} {xs : List Value} {cs : Array Value} {t : TypeId} {r : Nat × Nat} (h : w.ownsRow base e size v n xs) (hg : w.heap[g]? = some (Obj.cells cs t r)) (hne : t ≠ e) : (w.setCell ⟨g, j, none⟩ u).ownsRow base e size v n xs :=
  h.kept (grown_set _ _ _ _) (.inr (own_off h hg hne))
theorem hlt_of {w : World} {c : Nat} {cs : Array Value} {t : TypeId} {r : Nat × Nat} (hc : w.heap[c]? = some (Obj.cells cs t r)) : c < w.heap.size := (Array.getElem?_eq_some_iff.1 hc).1
/-- An append leaves a block of another type. -/
theorem grown_keep {w w' : World} {base e size n g : Nat} {v : Value} {xs : List Value} {cs : Array Value} {t : TypeId} {r : Nat × Nat} (h : w.ownsRow base e size v n xs) (hgr : w.grownBy w' v.ownBlock) (hg : w.heap[g]? = some (Obj.cells cs t r)) (hne : t ≠ e) : w'.heap[g]? = some (Obj.cells cs t r) := by
  rw [hgr.block g (hlt_of hg) (fun e => own_off h hg hne e.symm)]; exact hg
theorem below_keep {w w' : World} {g : Nat} {o : Obj} (hb : Below w.heap.size w w') (hg : w.heap[g]? = some o) : w'.heap[g]? = some o := by
  rw [hb.block g (Array.getElem?_eq_some_iff.1 hg).1]; exact hg
theorem alloc_keep {w : World} {g : Nat} {o : Obj} (o2 : Obj) (hg : w.heap[g]? = some o) : (w.alloc o2).heap[g]? = some o := by
  rw [heap_alloc_old _ _ (Array.getElem?_eq_some_iff.1 hg).1]; exact hg
theorem alloc_new (w : World) (cs : Array Value) (t : TypeId) (n : Nat) (hn : n = w.heap.size) : (w.alloc (.cells cs t)).heap[n]? = some (Obj.cells cs t (0, 0)) := by subst hn; exact heap_alloc_new _ _
/-- What an append onto a row of the call's own does to memory. -/
def AppR (base e size : Nat) (w w' : World) : Prop := ∃ v n xs, w.ownsRow base e size v n xs ∧ w.grownBy w' v.ownBlock
theorem AppR.mk {base e size n : Nat} {w w' : World} {v : Value} {xs : List Value} (h : w.ownsRow base e size v n xs) (hg : w.grownBy w' v.ownBlock) : AppR base e size w w' := ⟨v, n, xs, h, hg⟩
theorem AppR.keep {base e size g : Nat} {w w' : World} {cs : Array Value} {t : TypeId} {r : Nat × Nat} (h : AppR base e size w w') (hg : w.heap[g]? = some (Obj.cells cs t r)) (hne : t ≠ e) : w'.heap[g]? = some (Obj.cells cs t r) := by
  obtain ⟨v, n, xs, h1, h2⟩ := h; exact grown_keep h1 h2 hg hne
theorem AppR.below {base e size B : Nat} {a w w' : World} (h : AppR base e size w w') (hb : Below B a w) (h1 : B ≤ base) (h2 : B ≤ w.heap.size) : Below B a w' := by
  obtain ⟨v, n, xs, h3, h4⟩ := h; exact hb.grown h4 h2 fun k hk => by have := (h3.lt k hk).1; omega
end Go.Proofs.Ytippljiicnpieaa
