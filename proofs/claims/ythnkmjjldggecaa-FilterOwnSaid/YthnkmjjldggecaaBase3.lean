/- Rows of the call's own and blocks of another type: what a store or an append leaves alone. No program in sight. -/
import Derived.Test.YthnkmjjldggecaaBase2
namespace Go.Proofs.Ythnkmjjldggecaa
open Go.RowKit
theorem own_off {w : World} {base e size n g : Nat} {v : Value} {xs : List Value} {cs : Array Value} {t : TypeId} {r : Nat × Nat} (h : w.ownsRow base e size v n xs) (hg : w.heap[g]? = some (Obj.cells cs t r)) (hne : t ≠ e) : v.ownBlock ≠ some g := by
  rcases h.2 with ⟨rfl, -⟩ | ⟨k, cap, cur, rfl, -, hk, -⟩
  · simp [Value.ownBlock]
  · simp only [Value.ownBlock, ne_eq, Option.some.injEq]
    rintro rfl
    rw [hk] at hg
    simp only [Option.some.injEq, Obj.cells.injEq] at hg
    exact hne hg.2.1.symm
theorem grown_set (w : World) (g j : Nat) (u : Value) : w.grownBy (w.setCell ⟨g, j, none⟩ u) (some g) :=
  ⟨rfl, rfl, rfl, by simp [World.setCell], fun k _ hne => heap_set_other (fun e => hne (by rw [e]))⟩
theorem hlt_of {w : World} {c : Nat} {cs : Array Value} {t : TypeId} {r : Nat × Nat} (hc : w.heap[c]? = some (Obj.cells cs t r)) : c < w.heap.size := (Array.getElem?_eq_some_iff.1 hc).1
/-- An append leaves a block of another type. -/
theorem grown_keep {w w' : World} {base e size n g : Nat} {v : Value} {xs : List Value} {cs : Array Value} {t : TypeId} {r : Nat × Nat} (h : w.ownsRow base e size v n xs) (hgr : w.grownBy w' v.ownBlock) (hg : w.heap[g]? = some (Obj.cells cs t r)) (hne : t ≠ e) : w'.heap[g]? = some (Obj.cells cs t r) := by
  rw [hgr.block g (hlt_of hg) (fun e => own_off h hg hne e.symm)]; exact hg
theorem below_keep {w w' : World} {g : Nat} {o : Obj} (hb : Below w.heap.size w w') (hg : w.heap[g]? = some o) : w'.heap[g]? = some o := by
  rw [hb.block g (Array.getElem?_eq_some_iff.1 hg).1]; exact hg
theorem alloc_new (w : World) (cs : Array Value) (t : TypeId) (n : Nat) (hn : n = w.heap.size) : (w.alloc (.cells cs t)).heap[n]? = some (Obj.cells cs t (0, 0)) := by subst hn; exact heap_alloc_new _ _
end Go.Proofs.Ythnkmjjldggecaa
