/- What is written over and what stays: no walk here. -/
import Derived.Test.YthnkmjjldggecaaRoom0
namespace Go.Proofs.Ythnkmjjldggecaa
open Go.RowKit
/-- Blocks of S may hold other values now, in cells of the same number and kind; all else is as it was. -/
structure Sp (S : Nat → Prop) (w w' : World) : Prop where
  os : w'.os = w.os
  tape : w'.tape = w.tape
  output : w'.output = w.output
  size : w.heap.size ≤ w'.heap.size
  keep : ∀ k, k < w.heap.size → ¬ S k → w'.heap[k]? = w.heap[k]?
  shape : ∀ (k : Nat) (cs : Array Value) (e : TypeId), w.heap[k]? = some (.cells cs e (0, 0)) → ∃ cs', w'.heap[k]? = some (.cells cs' e (0, 0)) ∧ cs'.size = cs.size
theorem Sp.refl (S : Nat → Prop) (w : World) : Sp S w w := ⟨rfl, rfl, rfl, Nat.le_refl _, fun _ _ _ => rfl, fun _ cs _ h => ⟨cs, h, rfl⟩⟩
theorem Sp.trans {S : Nat → Prop} {a b c : World} (h : Sp S a b) (k : Sp S b c) : Sp S a c := by
  refine ⟨k.os.trans h.os, k.tape.trans h.tape, k.output.trans h.output, Nat.le_trans h.size k.size, fun j hj hS => (k.keep j (Nat.lt_of_lt_of_le hj h.size) hS).trans (h.keep j hj hS), fun j cs e hc => ?_⟩
  obtain ⟨c1, h1, h2⟩ := h.shape j cs e hc
  obtain ⟨c2, h3, h4⟩ := k.shape j c1 e h1
  exact ⟨c2, h3, h4.trans h2⟩
theorem Sp.mono {S T : Nat → Prop} {w w' : World} (h : Sp S w w') (hST : ∀ k, S k → T k) : Sp T w w' := ⟨h.os, h.tape, h.output, h.size, fun k hk hT => h.keep k hk fun hs => hT (hST k hs), h.shape⟩
theorem Sp.of_below {S : Nat → Prop} {w w' : World} (h : Below w.heap.size w w') : Sp S w w' := ⟨h.os, h.tape, h.output, h.size, fun k hk _ => h.block k hk, fun k cs e hc => ⟨cs, below_keep h hc, rfl⟩⟩
theorem Sp.toBelow {S : Nat → Prop} {base : Nat} {w w' : World} (h : Sp S w w') (hS : ∀ k, S k → base ≤ k) (hb : base ≤ w.heap.size) : Below base w w' := ⟨h.os, h.tape, h.output, h.size, fun k hk => h.keep k (by omega) fun hs => by have := hS k hs; omega⟩
theorem Sp.block {S : Nat → Prop} {w w' : World} {g : Nat} {o : Obj} (h : Sp S w w') (hg : w.heap[g]? = some o) (hS : ¬ S g) : w'.heap[g]? = some o := by
  rw [h.keep g (Array.getElem?_eq_some_iff.1 hg).1 hS]; exact hg
theorem Sp.row {g e : Nat} : ∀ (l : List Value) (w : World) (off : Nat) (cs : Array Value), w.heap[g]? = some (.cells cs e (0, 0)) → Sp (fun k => k = g) w (sowRow w g off l)
  | [], w, _, _, _ => Sp.refl _ _
  | v :: l, w, off, cs, h => by
    have h1 := heap_set_same (j := off) (v := v) h
    have h2 : Sp (fun k => k = g) w (w.setCell ⟨g, off, none⟩ v) := by
      refine ⟨rfl, rfl, rfl, by simp, fun k _ hk => heap_set_other hk, fun k cs' e' hc => ?_⟩
      by_cases hk : k = g
      · subst hk
        rw [h] at hc
        simp only [Option.some.injEq, Obj.cells.injEq, and_true] at hc
        obtain ⟨rfl, rfl⟩ := hc
        exact ⟨_, h1, by simp⟩
      · exact ⟨cs', (heap_set_other hk).trans hc, rfl⟩
    exact h2.trans (Sp.row l _ (off + 1) _ h1)
/-- A row whose block is of the right kind, and as large as its room. -/
def ShRow (w : World) (e size : Nat) (v : Value) : Prop :=
  v = .slice none 0 0 ∨ ∃ (g n cap : Nat) (cur : Array Value), v = .slice (some ⟨g, 0, none⟩) n cap ∧ n ≤ cap ∧ cap ≤ maxLen ∧ w.heap[g]? = some (.cells cur e (0, 0)) ∧ cur.size = cap * size
theorem ShRow.sp {S : Nat → Prop} {w w' : World} {e size : Nat} {v : Value} (h : ShRow w e size v) (hs : Sp S w w') : ShRow w' e size v := by
  rcases h with h | ⟨g, n, cap, cur, h1, h2, h3, h4, h5⟩
  · exact .inl h
  · obtain ⟨cs', h6, h7⟩ := hs.shape _ _ _ h4
    exact .inr ⟨g, n, cap, cs', h1, h2, h3, h6, h7.trans h5⟩
theorem ShRow.of_owns {w : World} {base e size n : Nat} {v : Value} {xs : List Value} (h : w.ownsRow base e size v n xs) : ShRow w e size v := by
  rcases h.2 with ⟨h0, -⟩ | ⟨g, cap, cur, h1, -, h2, h3, h4, h5, -⟩
  · exact .inl h0
  · exact .inr ⟨g, n, cap, cur, h1, h3, h4, h2, h5⟩
theorem Roomy.sp {S : Nat → Prop} {w w' : World} {base e size n : Nat} {v : Value} {xs sp : List Value} (h : Roomy w base e size v n xs sp) (hs : Sp S w w') (hv : ∀ k, v.ownBlock = some k → ¬ S k) : Roomy w' base e size v n xs sp := by
  obtain ⟨g, h1, h2, h3⟩ := h.row
  exact ⟨h.lx, h.ls, h.mx, g, h1, h2, hs.block h3 (hv g (by rw [h1]; rfl))⟩
theorem owns_sp {S : Nat → Prop} {w w' : World} {base e size n : Nat} {v : Value} {xs : List Value} (h : w.ownsRow base e size v n xs) (hs : Sp S w w') (hv : ∀ k, v.ownBlock = some k → ¬ S k) : w'.ownsRow base e size v n xs := by
  refine ⟨h.1, ?_⟩
  rcases h.2 with h0 | ⟨g, cap, cur, h1, h2, h3, h4⟩
  · exact .inl h0
  · exact .inr ⟨g, cap, cur, h1, h2, hs.block h3 (hv g (by rw [h1]; rfl)), h4⟩
/-- A store into a cell of a row that is being written over. -/
theorem sh_cell {w : World} {g e size cap i j : Nat} {cur : Array Value} (h : w.heap[g]? = some (.cells cur e (0, 0))) (hs : cur.size = cap * size) (hi : i < cap) (hj : j < size) : (∃ v, w.cell? ⟨g, i * size + j, none⟩ = some v) ∧ w.frozen? ⟨g, i * size + j, none⟩ = false := by
  refine ⟨?_, free_of_block h⟩
  have hl : i * size + j < cur.size := by
    rw [hs]
    have : (i + 1) * size ≤ cap * size := Nat.mul_le_mul_right _ hi
    rw [Nat.add_mul, Nat.one_mul] at this; omega
  exact ⟨_, cell_of_block h (Array.getElem?_eq_getElem hl)⟩
theorem Sp.cell {S : Nat → Prop} {w w' : World} {p : Addr} (h : Sp S w w') (hp : p.block < w.heap.size) (hS : ¬ S p.block) : w'.cell? p = w.cell? p := World.cell?_of_block (h.keep p.block hp hS)
theorem owns_type {w : World} {base e size n q : Nat} {v : Value} {xs : List Value} (h : w.ownsRow base e size v n xs) (hq : v.ownBlock = some q) : ∃ cs, w.heap[q]? = some (.cells cs e (0, 0)) := by
  rcases h.2 with ⟨rfl, -⟩ | ⟨g, cap, cur, rfl, -, h2, -⟩
  · simp [Value.ownBlock] at hq
  · simp only [Value.ownBlock, Option.some.injEq] at hq
    subst hq; exact ⟨cur, h2⟩
theorem Roomy.setOther {w : World} {base e e' size n g j : Nat} {v u : Value} {xs sp : List Value} {cs : Array Value} (h : Roomy w base e size v n xs sp) (hg : w.heap[g]? = some (.cells cs e' (0, 0))) (hne : e ≠ e') : Roomy (w.setCell ⟨g, j, none⟩ u) base e size v n xs sp := by
  obtain ⟨g', h1, h2, h3⟩ := h.row
  refine ⟨h.lx, h.ls, h.mx, g', h1, h2, ?_⟩
  rw [heap_set_other]
  · exact h3
  · rintro rfl
    rw [h3] at hg
    simp only [Option.some.injEq, Obj.cells.injEq] at hg
    exact hne hg.2.1
theorem Roomy.grown {w w' : World} {base e size n base2 e2 size2 n2 : Nat} {v v2 : Value} {xs sp xs2 : List Value} (h : Roomy w base e size v n xs sp) (h2 : w.ownsRow base2 e2 size2 v2 n2 xs2) (hg : w.grownBy w' v2.ownBlock) (hne : e ≠ e2) : Roomy w' base e size v n xs sp := by
  obtain ⟨g, h1, h3, h4⟩ := h.row
  exact ⟨h.lx, h.ls, h.mx, g, h1, h3, grown_keep h2 hg h4 hne⟩
/-- The row of a slice lies in a range of blocks. -/
def InR (lo hi : Nat) (v : Value) : Prop := ∀ k, v.ownBlock = some k → lo ≤ k ∧ k < hi
theorem inR_owns {w : World} {base e size n : Nat} {v : Value} {xs : List Value} (h : w.ownsRow base e size v n xs) : InR base w.heap.size v := fun k hk => h.lt k hk
end Go.Proofs.Ythnkmjjldggecaa
