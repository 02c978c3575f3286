/- Slices of things of whatever type: what each element's cells hold, kept by every world in which all that could be read still reads the same. No program in sight. -/
import Derived.Test.YtippljiicnpieaaBase2
namespace Go.Proofs.Ytippljiicnpieaa
open Go.RowKit

/-- Whatever reads in w reads in w'. -/
structure Sub (w w' : World) : Prop where
  size : w.heap.size ≤ w'.heap.size
  cell : ∀ p v, w.cell? p = some v → w'.cell? p = some v
theorem Sub.refl (w : World) : Sub w w := ⟨Nat.le_refl _, fun _ _ h => h⟩
theorem Sub.trans {w w1 w2 : World} (h : Sub w w1) (k : Sub w1 w2) : Sub w w2 := ⟨Nat.le_trans h.size k.size, fun p v hp => k.cell p v (h.cell p v hp)⟩
theorem Sub.of_below {w w' : World} (h : Below w.heap.size w w') : Sub w w' := ⟨h.size, fun _ _ hp => ckeep h hp⟩
theorem CellsAt.sub {w w' : World} {v : Value} {n : Nat} {xs : List Value} (h : CellsAt w v n xs) (hs : Sub w w') : CellsAt w' v n xs := by
  obtain ⟨a, cap, hv, hn, hm, h0, h⟩ := h
  refine ⟨a, cap, hv, hn, hm, h0, h.imp id ?_⟩
  rintro ⟨b, off, ha, hlt, hc⟩
  exact ⟨b, off, ha, by have := hs.size; omega, fun j x hj => hs.cell _ _ (hc j x hj)⟩

structure Elt (α : Type) where
  size : Nat
  El : World → α → List Value → Prop
  len : ∀ {w a cs}, El w a cs → cs.length = size
  one : ∀ {w a cs}, El w a cs → ∀ u ∈ cs, u.oneCell' = true
  sub : ∀ {w w' a cs}, El w a cs → Sub w w' → El w' a cs
  pos : 0 < size

variable {α : Type} {E : Elt α}
def Els (E : Elt α) (w : World) : List α → List (List Value) → Prop
  | [], [] => True
  | a :: l, c :: cs => E.El w a c ∧ Els E w l cs
  | _, _ => False
theorem Els.length {w : World} : ∀ {l : List α} {css : List (List Value)}, Els E w l css → css.length = l.length
  | [], [], _ => rfl
  | _ :: _, _ :: _, h => by simp [Els.length h.2]
  | [], _ :: _, h => h.elim
  | _ :: _, [], h => h.elim
theorem Els.flat {w : World} : ∀ {l : List α} {css : List (List Value)}, Els E w l css → css.flatten.length = l.length * E.size
  | [], [], _ => by simp
  | _ :: l, c :: cs, h => by rw [List.flatten_cons, List.length_append, E.len h.1, Els.flat h.2, List.length_cons, Nat.succ_mul]; omega
  | [], _ :: _, h => h.elim
  | _ :: _, [], h => h.elim
theorem Els.one {w : World} : ∀ {l : List α} {css : List (List Value)}, Els E w l css → ∀ u ∈ css.flatten, u.oneCell' = true
  | [], [], _ => by simp
  | _ :: l, c :: cs, h => by
    intro u hu
    rw [List.flatten_cons, List.mem_append] at hu
    exact hu.elim (E.one h.1 u) (Els.one h.2 u)
  | [], _ :: _, h => h.elim
  | _ :: _, [], h => h.elim
theorem Els.sub {w w' : World} (hs : Sub w w') : ∀ {l : List α} {css : List (List Value)}, Els E w l css → Els E w' l css
  | [], [], _ => trivial
  | _ :: _, _ :: _, h => ⟨E.sub h.1 hs, Els.sub hs h.2⟩
  | [], _ :: _, h => h.elim
  | _ :: _, [], h => h.elim
theorem Els.append {w : World} : ∀ {l m : List α} {cs ds : List (List Value)}, Els E w l cs → Els E w m ds → Els E w (l ++ m) (cs ++ ds)
  | [], _, [], _, _, k => k
  | _ :: _, _, _ :: _, _, h, k => ⟨h.1, Els.append h.2 k⟩
  | [], _, _ :: _, _, h, _ => h.elim
  | _ :: _, _, [], _, h, _ => h.elim
theorem Els.single {w : World} {a : α} {c : List Value} (h : E.El w a c) : Els E w [a] [c] := ⟨h, trivial⟩
theorem Els.take {w : World} : ∀ {l : List α} {cs : List (List Value)} (k : Nat), Els E w l cs → Els E w (l.take k) (cs.take k)
  | [], [], k, _ => by simp [Els]
  | _ :: _, _ :: _, 0, _ => trivial
  | _ :: _, _ :: _, k + 1, h => ⟨h.1, Els.take k h.2⟩
  | [], _ :: _, _, h => h.elim
  | _ :: _, [], _, h => h.elim
theorem Els.drop {w : World} : ∀ {l : List α} {cs : List (List Value)} (k : Nat), Els E w l cs → Els E w (l.drop k) (cs.drop k)
  | [], [], k, _ => by simp [Els]
  | _ :: _, _ :: _, 0, h => h
  | _ :: _, _ :: _, k + 1, h => Els.drop k h.2
  | [], _ :: _, _, h => h.elim
  | _ :: _, [], _, h => h.elim
theorem Els.get {w : World} : ∀ {l : List α} {cs : List (List Value)} (i : Nat) (_ : Els E w l cs) (h1 : i < l.length), ∃ h2 : i < cs.length, E.El w l[i] cs[i]
  | [], _, i, _, h1 => by simp at h1
  | _ :: _, _ :: _, 0, h, _ => ⟨by simp, h.1⟩
  | _ :: _, _ :: _, i + 1, h, h1 => by
    obtain ⟨h2, h3⟩ := Els.get i h.2 (by simpa using h1)
    exact ⟨by simpa using h2, h3⟩
  | _ :: _, [], _, h, _ => h.elim
/-- The j-th cell of the i-th element. -/
theorem Els.cell {w : World} : ∀ {l : List α} {css : List (List Value)} (i : Nat) (_ : Els E w l css) (h1 : i < l.length), ∃ c, E.El w l[i] c ∧ css[i]? = some c ∧ ∀ j x, c[j]? = some x → css.flatten[i * E.size + j]? = some x
  | [], _, i, _, h1 => by simp at h1
  | _ :: _, c :: cs, 0, h, _ => ⟨c, h.1, rfl, fun j x hj => by
      rw [Nat.zero_mul, Nat.zero_add, List.flatten_cons, List.getElem?_append_left (List.getElem?_eq_some_iff.1 hj).1]; exact hj⟩
  | _ :: _, c :: cs, i + 1, h, h1 => by
    obtain ⟨d, h2, h3, h4⟩ := Els.cell i h.2 (by simpa using h1)
    refine ⟨d, h2, by simpa using h3, fun j x hj => ?_⟩
    have hl := E.len h.1
    rw [List.flatten_cons, List.getElem?_append_right (by rw [hl, Nat.succ_mul]; omega), hl, show (i + 1) * E.size + j - E.size = i * E.size + j by rw [Nat.succ_mul]; omega]
    exact h4 j x hj
  | _ :: _, [], _, h, _ => h.elim

/-- v holds the elements l. -/
def RowAt (E : Elt α) (w : World) (v : Value) (l : List α) : Prop := ∃ css, Els E w l css ∧ CellsAt w v l.length css.flatten
theorem RowAt.sub {w w' : World} {v : Value} {l : List α} (h : RowAt E w v l) (hs : Sub w w') : RowAt E w' v l := by
  obtain ⟨css, h1, h2⟩ := h
  exact ⟨css, h1.sub hs, h2.sub hs⟩
theorem RowAt.below {w w' : World} {v : Value} {l : List α} (h : RowAt E w v l) (hb : Below w.heap.size w w') : RowAt E w' v l := h.sub (Sub.of_below hb)
theorem RowAt.shape {w : World} {v : Value} {l : List α} (h : RowAt E w v l) : ∃ a cap, v = .slice a l.length cap := by
  obtain ⟨css, -, h⟩ := h; exact h.shape
theorem RowAt.nil (w : World) : RowAt E w (.slice none 0 0) [] := ⟨[], trivial, CellsAt.nil w⟩
theorem RowAt.open_ {w : World} {v : Value} {l : List α} (h : RowAt E w v l) : ∃ a cap, v = .slice a l.length cap ∧ l.length ≤ cap ∧ l.length ≤ 140737488355328 ∧ (a = none → cap = 0) ∧
    (l = [] ∨ ∃ b off, a = some ⟨b, off, none⟩ ∧ b < w.heap.size ∧ ∀ i (h : i < l.length), ∃ c, E.El w l[i] c ∧ ∀ j x, c[j]? = some x → w.cell? ⟨b, off + (i * E.size + j), none⟩ = some x) := by
  obtain ⟨css, he, ⟨a, cap, hv, hn, hm, h0, h⟩⟩ := h
  refine ⟨a, cap, hv, hn, hm, h0, ?_⟩
  rcases h with h | ⟨b, off, ha, hlt, hc⟩
  · left
    have h1 := he.flat
    rw [h] at h1
    cases l with
    | nil => rfl
    | cons x l => exfalso; have := E.pos; simp [Nat.succ_mul] at h1; omega
  · refine .inr ⟨b, off, ha, hlt, fun i hi => ?_⟩
    obtain ⟨c, h1, -, h3⟩ := he.cell i hi
    exact ⟨c, h1, fun j x hj => hc _ _ (h3 j x hj)⟩
theorem RowAt.len {w : World} {v : Value} {l : List α} (h : RowAt E w v l) : l.length ≤ 140737488355328 := by obtain ⟨-, -, -, -, h, -⟩ := h.open_; exact h
theorem css_take {n k : Nat} {css : List (List Value)} (h : ∀ c ∈ css, c.length = n) : (css.take k).flatten = css.flatten.take (k * n) := by
  induction css generalizing k with
  | nil => simp
  | cons c css ih =>
    cases k with
    | zero => simp
    | succ k =>
      have hc := h c List.mem_cons_self
      rw [List.take_succ_cons, List.flatten_cons, List.flatten_cons, ih fun x hx => h x (List.mem_cons_of_mem _ hx), Nat.succ_mul, List.take_append, hc, show k * n + n - n = k * n by omega, List.take_of_length_le (l := c) (by omega)]
theorem css_drop {n k : Nat} {css : List (List Value)} (h : ∀ c ∈ css, c.length = n) : (css.drop k).flatten = css.flatten.drop (k * n) := by
  induction css generalizing k with
  | nil => simp
  | cons c css ih =>
    cases k with
    | zero => simp
    | succ k =>
      have hc := h c List.mem_cons_self
      rw [List.drop_succ_cons, List.flatten_cons, ih fun x hx => h x (List.mem_cons_of_mem _ hx), Nat.succ_mul, List.drop_append, hc, show k * n + n - n = k * n by omega, List.drop_of_length_le (l := c) (by omega), List.nil_append]
theorem Els.lens {w : World} : ∀ {l : List α} {css : List (List Value)}, Els E w l css → ∀ c ∈ css, c.length = E.size
  | [], [], _ => by simp
  | _ :: l, c :: cs, h => by
    intro d hd
    rcases List.mem_cons.1 hd with rfl | hd
    · exact E.len h.1
    · exact Els.lens h.2 d hd
  | [], _ :: _, h => h.elim
  | _ :: _, [], h => h.elim
/-- x[:k] -/
theorem RowAt.take {w : World} {a : Option Addr} {n cap : Nat} {l : List α} (h : RowAt E w (.slice a n cap) l) (k : Nat) (hk : k ≤ l.length) : RowAt E w (.slice a k cap) (l.take k) := by
  obtain ⟨css, he, ⟨a', cap', hv, hn, hm, h0, h⟩⟩ := h
  simp only [Value.slice.injEq] at hv
  obtain ⟨rfl, rfl, rfl⟩ := hv
  refine ⟨css.take k, he.take k, a, cap, by rw [List.length_take, Nat.min_eq_left hk], by simp; omega, by simp; omega, h0, ?_⟩
  rcases h with h | ⟨b, off, ha, hlt, hc⟩
  · left; rw [css_take he.lens, h]; simp
  · exact .inr ⟨b, off, ha, hlt, fun j x hj => hc j x (by rw [css_take he.lens, List.getElem?_take] at hj; split at hj; exact hj; simp at hj)⟩
/-- x[k:], of a slice that has an array. -/
theorem RowAt.drop {w : World} {b off n cap : Nat} {l : List α} (h : RowAt E w (.slice (some ⟨b, off, none⟩) n cap) l) (k : Nat) (hk : k ≤ l.length) : RowAt E w (.slice (some ⟨b, off + k * E.size, none⟩) (n - k) (cap - k)) (l.drop k) := by
  obtain ⟨css, he, ⟨a', cap', hv, hn, hm, h0, h⟩⟩ := h
  simp only [Value.slice.injEq] at hv
  obtain ⟨rfl, rfl, rfl⟩ := hv
  refine ⟨css.drop k, he.drop k, some ⟨b, off + k * E.size, none⟩, cap - k, by rw [List.length_drop], by simp; omega, by simp; omega, fun h => by simp at h, ?_⟩
  rcases h with h | ⟨b', off', ha, hlt, hc⟩
  · left; rw [css_drop he.lens, h]; simp
  · simp only [Option.some.injEq, Addr.mk.injEq] at ha
    obtain ⟨rfl, rfl, -⟩ := ha
    exact .inr ⟨b, off + k * E.size, rfl, hlt, fun j x hj => by rw [css_drop he.lens, List.getElem?_drop] at hj; rw [Nat.add_assoc]; exact hc _ _ hj⟩
/-- One element written out, just laid. -/
theorem RowAt.lit1 (w : World) (c : List Value) (t : TypeId) (a : α) (g : Nat) (hg : g = w.heap.size) (h : E.El (w.alloc (.cells c.toArray t)) a c) : RowAt E (w.alloc (.cells c.toArray t)) (.slice (some ⟨g, 0, none⟩) 1 1) [a] := by
  subst hg
  refine ⟨[c], Els.single h, CellsAt.mk (Nat.le_refl _) (by decide) (by simp) fun j x hj => ?_⟩
  rw [Nat.zero_add, World.cell?_alloc_at _ _ _ _ rfl]
  simpa using hj

/-- v is a row of the call's own, its elements as they stand in the world w0. -/
def RowOwn (E : Elt α) (w0 w : World) (base e : Nat) (v : Value) (l : List α) : Prop := ∃ css, Els E w0 l css ∧ w.ownsRow base e E.size v l.length css.flatten
theorem RowOwn.nil (w0 w : World) (base e : Nat) : RowOwn E w0 w base e (.slice none 0 0) [] := ⟨[], trivial, World.ownsRow_nil _ _ _ _⟩
theorem RowOwn.shape {w0 w : World} {base e : Nat} {v : Value} {l : List α} (h : RowOwn E w0 w base e v l) : ∃ a cap, v = .slice a l.length cap := by
  obtain ⟨css, -, h⟩ := h; exact owns_slice h
theorem RowOwn.at_ {w0 w : World} {base e : Nat} {v : Value} {l : List α} (h : RowOwn E w0 w base e v l) (hs : Sub w0 w) (hl : l.length ≤ 140737488355328) : RowAt E w v l := by
  obtain ⟨css, h1, h2⟩ := h
  exact ⟨css, h1.sub hs, CellsAt.of_owns h2 hl⟩
theorem RowOwn.below {w0 w w' : World} {base e : Nat} {v : Value} {l : List α} (h : RowOwn E w0 w base e v l) (hb : Below w.heap.size w w') : RowOwn E w0 w' base e v l := by
  obtain ⟨css, h1, h2⟩ := h
  exact ⟨css, h1, owns_below h2 hb⟩
theorem RowOwn.sub0 {w0 w1 w : World} {base e : Nat} {v : Value} {l : List α} (h : RowOwn E w0 w base e v l) (hs : Sub w0 w1) : RowOwn E w1 w base e v l := by
  obtain ⟨css, h1, h2⟩ := h
  exact ⟨css, h1.sub hs, h2⟩
theorem RowOwn.mono {w0 w : World} {base base' e : Nat} {v : Value} {l : List α} (h : RowOwn E w0 w base e v l) (hb : base' ≤ base) : RowOwn E w0 w base' e v l := by
  obtain ⟨css, h1, h2⟩ := h
  exact ⟨css, h1, owns_mono h2 hb⟩
/-- 'append(out, more...)', out the call's own, more whatever can be read. -/
theorem wpList_append_row {P : Program} {w0 W : World} {ops : Array Oper} {rest : List Oper} {o : Oper} {a : Act} {Q : Exit → Act → World → Prop} (E : Elt α) (hgd : o.guard = none) (s x : Operand) (t : TypeId)
    (ho : o.op = .call { callee := .builtin .append, args := #[s, x], argTypes := #[t, t] })
    (base : Nat) (e : TypeId) (z : Value) (bytes : Nat) (ht : P.underlying t = some (.slice e)) (hinfo : (P.info? e).map (fun i => (i.zero, i.size, i.bytes)) = some (some z, E.size, bytes)) (hzs : z.cells.size = E.size)
    (v : Value) (l : List α) (hs : a.eval s = v) (hown : RowOwn E w0 W base e v l) (vx : Value) (m : List α) (hx : a.eval x = vx) (hc : RowAt E W vx m) (hback : ∀ css, Els E W m css → CellsAt W vx m.length css.flatten → Els E w0 m css)
    (hbase : base ≤ W.heap.size) (hm : l.length + m.length ≤ maxLen) (hn : (l.length + m.length) * bytes ≤ 140737488355328)
    (hK : ∀ v' w', RowOwn E w0 w' base e v' (l ++ m) → W.grownBy w' v.ownBlock → wpList P ops Q rest (a.put o.dst v') w') :
    wpList P ops Q (o :: rest) a W := by
  obtain ⟨css, h1, h2⟩ := hown
  obtain ⟨ds, h3, h4⟩ := hc
  refine wpList_append_cells2 hgd s x t ho base e z E.size bytes ht hinfo hzs E.pos v l.length _ hs h2 vx m.length _ hx h4 h3.flat h3.one hbase hm hn ?_
  intro v' w' h5 hg
  refine hK v' w' ⟨css ++ ds, h1.append (hback ds h3 h4), ?_⟩ hg
  rw [List.length_append, List.flatten_append]; exact h5
theorem RowOwn.lt {w0 w : World} {base e : Nat} {v : Value} {l : List α} (h : RowOwn E w0 w base e v l) (k : Nat) (hk : v.ownBlock = some k) : base ≤ k ∧ k < w.heap.size := by
  obtain ⟨css, -, h⟩ := h; exact h.lt k hk
end Go.Proofs.Ytippljiicnpieaa
