/- Rows with three elements behind them: what memory holds. No walk here. -/
import Derived.Test.YthnkmjjldggecaaBase2
import Derived.Test.YthnkmjjldggecaaBase3
import Derived.Deep.DeepAppendRoom
namespace Go.Proofs.Ythnkmjjldggecaa
open Go.RowKit
/-- A row of its own with three more elements behind it. -/
structure Roomy (w : World) (base e size : Nat) (v : Value) (n : Nat) (xs sp : List Value) : Prop where
  lx : xs.length = n * size
  ls : sp.length = 3 * size
  mx : n + 3 ≤ maxLen
  row : ∃ g, v = .slice (some ⟨g, 0, none⟩) n (n + 3) ∧ base ≤ g ∧ w.heap[g]? = some (.cells (xs ++ sp).toArray e (0, 0))
theorem Roomy.owns {w : World} {base e size n : Nat} {v : Value} {xs sp : List Value} (h : Roomy w base e size v n xs sp) : w.ownsRow base e size v n xs := by
  obtain ⟨g, h1, h2, h3⟩ := h.row
  refine ⟨h.lx, .inr ⟨g, n + 3, _, h1, h2, h3, by omega, h.mx, ?_, ?_⟩⟩
  · rw [List.size_toArray, List.length_append, h.lx, h.ls, Nat.add_mul]
  · rw [← h.lx, List.toList_toArray, List.take_left]
theorem Roomy.below {w w' : World} {base e size n : Nat} {v : Value} {xs sp : List Value} (h : Roomy w base e size v n xs sp) (hb : Below w.heap.size w w') : Roomy w' base e size v n xs sp := by
  obtain ⟨g, h1, h2, h3⟩ := h.row
  exact ⟨h.lx, h.ls, h.mx, g, h1, h2, below_keep hb h3⟩
theorem Roomy.mono {w : World} {base base' e size n : Nat} {v : Value} {xs sp : List Value} (h : Roomy w base e size v n xs sp) (hb : base' ≤ base) : Roomy w base' e size v n xs sp := by
  obtain ⟨g, h1, h2, h3⟩ := h.row
  exact ⟨h.lx, h.ls, h.mx, g, h1, Nat.le_trans hb h2, h3⟩
theorem owns_block {w : World} {base e size g n cap : Nat} {xs : List Value} (h : w.ownsRow base e size (.slice (some ⟨g, 0, none⟩) n cap) n xs) : ∃ R : List Value, R.length = (cap - n) * size ∧ w.heap[g]? = some (.cells (xs ++ R).toArray e (0, 0)) ∧ base ≤ g ∧ n ≤ cap ∧ cap ≤ maxLen := by
  rcases h.2 with ⟨h0, -⟩ | ⟨g', cap', cur, hv, hb, hg, hn, hm, hs, ht⟩
  · cases h0
  · cases hv
    refine ⟨cur.toList.drop (n * size), ?_, ?_, hb, hn, hm⟩
    · rw [List.length_drop, Array.length_toList, hs, Nat.sub_mul]
    · rw [hg, ← ht, List.take_append_drop]
/-- Cells written one behind the other. -/
def sowRow (w : World) (g off : Nat) : List Value → World
  | [] => w
  | v :: l => sowRow (w.setCell ⟨g, off, none⟩ v) g (off + 1) l
theorem sowRow_block {e g : Nat} : ∀ (l : List Value) (w : World) (A B C : List Value) (off : Nat), A.length = off → B.length = l.length → w.heap[g]? = some (.cells (A ++ B ++ C).toArray e (0, 0)) → (sowRow w g off l).heap[g]? = some (.cells (A ++ l ++ C).toArray e (0, 0))
  | [], w, A, B, C, off, _, hB, h => by
    obtain rfl : B = [] := List.eq_nil_of_length_eq_zero hB
    exact h
  | v :: l, w, A, b :: B, C, off, hA, hB, h => by
    have h1 : (w.setCell ⟨g, off, none⟩ v).heap[g]? = some (.cells ((A ++ [v]) ++ B ++ C).toArray e (0, 0)) := by
      rw [heap_set_same h]
      congr 2
      subst hA
      rw [List.setIfInBounds_toArray]
      congr 1
      simp [List.set_append]
    have h2 := sowRow_block l _ (A ++ [v]) B C (off + 1) (by simp [hA]) (by simpa using hB) h1
    show (sowRow (w.setCell ⟨g, off, none⟩ v) g (off + 1) l).heap[g]? = _
    rw [h2]; simp
  | v :: l, w, A, [], C, off, _, hB, _ => by simp at hB
theorem sowRow_other {g k : Nat} (hk : k ≠ g) : ∀ (l : List Value) (w : World) (off : Nat), (sowRow w g off l).heap[k]? = w.heap[k]?
  | [], _, _ => rfl
  | v :: l, w, off => (sowRow_other hk l _ (off + 1)).trans (heap_set_other hk)
theorem sowRow_below {g base : Nat} (hg : base ≤ g) : ∀ (l : List Value) (w0 w : World) (off : Nat), Below base w0 w → Below base w0 (sowRow w g off l)
  | [], _, _, _, h => h
  | v :: l, w0, w, off, h => sowRow_below hg l w0 _ (off + 1) (h.setCell hg _)
/-- While the room is filled: i elements stand in it. -/
structure RSt (w0 w : World) (e size g n : Nat) (xs xc : List Value) (X : List Value) (i : Nat) : Prop where
  bel : Below w0.heap.size w0 w
  hg : w0.heap.size ≤ g
  hX : X ≠ [] → w0.heap.size < g
  box : X ≠ [] → w.heap[w0.heap.size]? = some (.cells X.toArray e (0, 0))
  blk : ∃ R : List Value, R.length = (3 - i) * size ∧ w.heap[g]? = some (.cells (xs ++ (List.replicate i xc).flatten ++ R).toArray e (0, 0))
theorem RSt.below {w0 w w' : World} {e size g n i : Nat} {xs xc X : List Value} (h : RSt w0 w e size g n xs xc X i) (hb : Below w.heap.size w w') : RSt w0 w' e size g n xs xc X i := by
  obtain ⟨R, h1, h2⟩ := h.blk
  exact ⟨bstep h.bel hb, h.hg, h.hX, fun hX => below_keep hb (h.box hX), R, h1, below_keep hb h2⟩
theorem rep_len {size : Nat} {xc : List Value} (hx : xc.length = size) : ∀ i, ((List.replicate i xc).flatten).length = i * size
  | 0 => by simp
  | i + 1 => by rw [List.replicate_succ, List.flatten_cons, List.length_append, rep_len hx i, hx, Nat.succ_mul]; omega
theorem rep_snoc (xc : List Value) (i : Nat) : (List.replicate (i + 1) xc).flatten = (List.replicate i xc).flatten ++ xc := by
  rw [List.replicate_succ', List.flatten_append]; simp
theorem RSt.set {w0 w : World} {e size g n i : Nat} {xs xc X : List Value} (h : RSt w0 w e size g n xs xc X i) (hx : xc.length = size) (hn : xs.length = n * size) (hi : i < 3) : RSt w0 (sowRow w g ((n + i) * size) xc) e size g n xs xc X (i + 1) := by
  obtain ⟨R, h1, h2⟩ := h.blk
  have hs : size ≤ R.length := by
    rw [h1]
    exact Nat.le_mul_of_pos_left _ (by omega)
  have hR : xs ++ (List.replicate i xc).flatten ++ R = (xs ++ (List.replicate i xc).flatten) ++ R.take size ++ R.drop size := by rw [List.append_assoc (xs ++ _), List.take_append_drop]
  rw [hR] at h2
  have h3 := sowRow_block xc w _ _ _ ((n + i) * size) (by rw [List.length_append, hn, rep_len hx, Nat.add_mul]) (by rw [List.length_take, hx]; omega) h2
  refine ⟨sowRow_below h.hg xc w0 w _ h.bel, h.hg, h.hX, fun hX => ?_, R.drop size, ?_, ?_⟩
  · rw [sowRow_other (by have := h.hX hX; omega)]; exact h.box hX
  · rw [List.length_drop, h1, show 3 - i = (3 - (i + 1)) + 1 by omega, Nat.succ_mul]; omega
  · rw [h3, rep_snoc, List.append_assoc xs]
theorem RSt.cell {w0 w : World} {e size g n i : Nat} {xs xc X : List Value} (h : RSt w0 w e size g n xs xc X i) (hx : xc.length = size) (hn : xs.length = n * size) (hi : i < 3) (j : Nat) (hj : j < size) : (∃ v, w.cell? ⟨g, (n + i) * size + j, none⟩ = some v) ∧ w.frozen? ⟨g, (n + i) * size + j, none⟩ = false := by
  obtain ⟨R, h1, h2⟩ := h.blk
  refine ⟨?_, free_of_block h2⟩
  have hl : (n + i) * size + j < (xs ++ (List.replicate i xc).flatten ++ R).length := by
    rw [List.length_append, List.length_append, hn, rep_len hx, h1]
    have : size ≤ (3 - i) * size := Nat.le_mul_of_pos_left _ (by omega)
    rw [Nat.add_mul]; omega
  exact ⟨_, cell_of_block (j := (n + i) * size + j) h2 (by rw [List.getElem?_toArray, List.getElem?_eq_getElem hl])⟩
theorem RSt.done {w0 w : World} {e size g n : Nat} {xs xc X : List Value} (h : RSt w0 w e size g n xs xc X 3) (hx : xc.length = size) (hn : xs.length = n * size) (hm : n + 3 ≤ maxLen) : Roomy w w0.heap.size e size (.slice (some ⟨g, 0, none⟩) n (n + 3)) n xs (List.replicate 3 xc).flatten := by
  obtain ⟨R, h1, h2⟩ := h.blk
  obtain rfl : R = [] := List.eq_nil_of_length_eq_zero (by simpa using h1)
  rw [List.append_nil] at h2
  exact ⟨hn, rep_len hx 3, hm, g, rfl, h.hg, h2⟩
/-- 'make([]T, 0, c)'. -/
theorem mk_room {P : Program} (W : World) (t e : TypeId) (z : Value) (size bytes : Nat) (ht : P.underlying t = some (.slice e)) (hinfo : (P.info? e).map (fun i => (i.zero, i.size, i.bytes)) = some (some z, size, bytes))
    (c : Nat) (x : Int) (hx : x = (c : Int)) (hb : bytes * c ≤ 281474976710656) (hn : c ≤ maxLen) :
    ∃ w', (Instr.makeSlice t (.int .i64 0) (.int .i64 x)).run P W = .ok (.slice (some ⟨W.heap.size, 0, none⟩) 0 c) w' ∧
      w'.ownsRow W.heap.size e size (.slice (some ⟨W.heap.size, 0, none⟩) 0 c) 0 [] ∧ Below W.heap.size W w' := by
  subst hx
  obtain ⟨i, hi, hz, hsize, hby⟩ := info_parts hinfo
  subst hby
  obtain ⟨w', h1, h2, h3⟩ := run_make_own (P := P) W W.heap.size t e i z size ht hi hz hsize .i64 .i64 c hb hn (Nat.le_refl _)
  exact ⟨w', h1, h2, (Below.refl _ _).grown h3 (Nat.le_refl _) (fun k hk => by simp at hk)⟩
/-- Behind the append: nothing is filled yet. -/
theorem RSt.start {w0 w : World} {e size g n : Nat} {xs xc X : List Value} (hb : Below w0.heap.size w0 w) (hg : w0.heap.size ≤ g) (hX : X ≠ [] → w0.heap.size < g) (hbox : X ≠ [] → w.heap[w0.heap.size]? = some (.cells X.toArray e (0, 0))) (h : w.ownsRow g e size (.slice (some ⟨g, 0, none⟩) n (n + 3)) n xs) : RSt w0 w e size g n xs xc X 0 := by
  obtain ⟨R, h1, h2, -⟩ := owns_block h
  exact ⟨hb, hg, hX, hbox, R, by rw [h1]; congr 1; omega, by simpa using h2⟩
/-- 'append(out, more...)' onto a row of its own that has room. -/
theorem wpList_append_spare2 {P : Program} {W : World} {ops : Array Oper} {rest : List Oper} {o : Oper} {a : Act} {Q : Exit → Act → World → Prop} (hgd : o.guard = none) (s x : Operand) (t : TypeId)
    (ho : o.op = .call { callee := .builtin .append, args := #[s, x], argTypes := #[t, t] })
    (base : Nat) (e : TypeId) (z : Value) (size bytes : Nat) (ht : P.underlying t = some (.slice e)) (hinfo : (P.info? e).map (fun i => (i.zero, i.size, i.bytes)) = some (some z, size, bytes)) (hsz : 0 < size)
    (g n cap : Nat) (xs : List Value) (hs : a.eval s = .slice (some ⟨g, 0, none⟩) n cap) (hown : W.ownsRow base e size (.slice (some ⟨g, 0, none⟩) n cap) n xs) (vx : Value) (m : Nat) (ys : List Value) (hx : a.eval x = vx) (hc : CellsAt W vx m ys) (hl : ys.length = m * size) (h1 : ∀ u ∈ ys, u.oneCell' = true)
    (hroom : n + m ≤ cap)
    (hK : ∀ w', w'.ownsRow base e size (.slice (some ⟨g, 0, none⟩) (n + m) cap) (n + m) (xs ++ ys) → W.grownBy w' (some g) → wpList P ops Q rest (a.put o.dst (.slice (some ⟨g, 0, none⟩) (n + m) cap)) w') :
    wpList P ops Q (o :: rest) a W := by
  obtain ⟨i, hi, hz, hsize, hby⟩ := info_parts hinfo
  obtain ⟨ad, cap2, rfl, hle, -, h0, hcs⟩ := hc
  cases ad with
  | none =>
    obtain rfl := h0 rfl
    obtain rfl : m = 0 := by omega
    obtain rfl : ys = [] := List.eq_nil_of_length_eq_zero (by omega)
    exact wpList_append_own_none hgd s x t ho base e i size ht hi _ n xs hs hown hx (by simpa using hK W (by simpa using hown) ⟨rfl, rfl, rfl, Nat.le_refl _, fun _ _ _ => rfl⟩)
  | some ad =>
    refine wpList_append_own_spare _ hgd s x t ho base e i size ht hi hsize g n cap xs hs hown ad m cap2 ys hx hl ?_ h1 hroom ?_
    · intro j u hj
      rcases hcs with rfl | ⟨b, off, hab, -, hcc⟩
      · simp at hj
      · simp only [Option.some.injEq] at hab
        subst hab
        rw [Addr.add_lit]; exact hcc j u hj
    · exact hK
end Go.Proofs.Ythnkmjjldggecaa
