/- What KnowOwn's statements that draw their order hold. No walk here. -/
import Derived.Test.YtboakoipdfmpcaaKnowOwn0
import Derived.Test.YtboakoipdfmpcaaClaims5
import Derived.Test.YtboakoipdfmpcaaPart7A
import Derived.Test.YtboakoipdfmpcaaMKnow7
import Derived.Test.YtboakoipdfmpcaaMKnow9
namespace Go.Proofs.Ytboakoipdfmpcaa
open Go.RowKit
theorem resE_more {E0 : Int} {P : DPred} (h : resE E0 P = 0) : (formK P).more.length ≤ 60 := by
  unfold resE at h
  split at h
  · unfold kE at h
    split at h
    · exact absurd h (by decide)
    · omega
  · rename_i h2; exact absurd h h2
theorem addE_more {k : Kn} {s c : Int} (h : addE k s c = 0) : (formK (addP (knIn k) s c)).more.length ≤ 60 := by
  unfold addE at h
  split at h
  · split at h
    · unfold kE at h
      split at h
      · exact absurd h (by decide)
      · omega
    · exact absurd h (by decide)
  · rename_i h2; exact absurd h h2
theorem KnRes.whole {w : World} {base : Nat} {u x : Value} {E : Int} {P : DPred} (h : KnRes w base u x E (formK P)) (hm : E = 0 → (formK P).more.length ≤ 60) : ∃ k, OwnK w base w.heap.size u x k ∧ SzK k := by
  rcases h with ⟨h1, h2⟩ | ⟨-, rfl, rfl⟩
  · exact ⟨_, OwnK.of_own h2, SzK.of_ok (formK_ok _).len (hm h1)⟩
  · exact ⟨⟨[], []⟩, OwnK.nil _ _ _, ⟨by simp, by simp⟩⟩
theorem PResA.whole {w : World} {base : Nat} {v : Value} {E : Int} {S : List SP} (h : PResA w base v E S) (hl : E = 0 → S.length ≤ 30) : ∃ Z, PzsAt w base w.heap.size v Z := by
  by_cases hE : E = 0
  · obtain ⟨l, h1, h2, rfl⟩ := h.1 hE
    have := hl hE
    rw [List.length_map] at this
    exact PzsAt.of h1 (fun p hp => (h2 p hp).1) (by omega)
  · rw [h.2 hE]; exact ⟨[], PzsAt.nil _ _ _⟩
theorem pjE_len {a b : List Pt} (h : pjE a b = 0) : (fewS ((a ++ b).map sem)).length ≤ 30 := by
  unfold pjE at h
  split at h
  · rename_i h2; exact absurd h h2
  · split at h
    · rename_i h2; exact absurd h h2
    · split at h
      · exact absurd h (by decide)
      · omega
theorem pnE_len {l : List Pt} {f : Bxs} (h : pnE l f = 0) : (narrowS (l.map sem) (ptsOf f)).length ≤ 30 := by
  unfold pnE at h
  split at h
  · rename_i h2; exact absurd h h2
  · rename_i h2
    have h3 := (ptsChk_zero.1 (Classical.not_not.1 h2)).1
    have := few_len ((l.map sem).map fun x => (⟨fun t n => x.p t n && ptsOf f t n, x.k⟩ : SP))
    rw [List.length_map, List.length_map] at this
    exact Nat.le_trans this h3
theorem OwnK.shape {w : World} {lo hi : Nat} {u x : Value} {k : Kn} (h : OwnK w lo hi u x k) : ∃ a c b d, u = .slice a k.vec.length c ∧ x = .slice b k.more.length d := by
  obtain ⟨a, c, h1⟩ := owns_slice h.own.vec
  obtain ⟨b, d, h2⟩ := owns_slice h.own.more
  exact ⟨a, c, b, d, h1, h2⟩
namespace Ko
abbrev ptr (g : Nat) : Value := .pointer (some ⟨g, 0, none⟩)
abbrev KTy : TypeId := 25
/-- v points to a block of its own. -/
def At (cs : Array Value) (w : World) (base : Nat) (v : Value) : Prop := ∃ g, v = ptr g ∧ w.heap[g]? = some (.cells cs KTy (0, 0)) ∧ base ≤ g
theorem At.below {cs : Array Value} {w w' : World} {base : Nat} {v : Value} (h : At cs w base v) (hb : Below w.heap.size w w') : At cs w' base v := by
  obtain ⟨g, h1, h2, h3⟩ := h; exact ⟨g, h1, below_keep hb h2, h3⟩
/-- v points to a set of dots with room behind it. -/
def Full (w : World) (base : Nat) (v : Value) (k : Kn) : Prop := ∃ g u x, v = ptr g ∧ w.heap[g]? = some (.cells #[u, x] KTy (0, 0)) ∧ RoomK w base u x k ∧ base ≤ g
theorem Full.below {w w' : World} {base : Nat} {v : Value} {k : Kn} (h : Full w base v k) (hb : Below w.heap.size w w') : Full w' base v k := by
  obtain ⟨g, u, x, h1, h2, h3, h4⟩ := h; exact ⟨g, u, x, h1, below_keep hb h2, h3.below hb, h4⟩
/-- What a store through v does. -/
def Wr (v : Value) (w w' : World) : Prop := ∃ g cs, v = ptr g ∧ w.heap[g]? = some (.cells cs KTy (0, 0)) ∧ Sp (fun q => q = g) w w'
theorem sow_blk {w : World} {g : Nat} {l : List Value} {cs : Array Value} (h : w.heap[g]? = some (.cells cs KTy (0, 0))) (hl : l.length = cs.size) : (sowRow w g 0 l).heap[g]? = some (.cells l.toArray KTy (0, 0)) ∧ Sp (fun q => q = g) w (sowRow w g 0 l) := by
  refine ⟨?_, Sp.row l w 0 cs h⟩
  have h1 := sowRow_block l w [] cs.toList [] 0 rfl (by simp [hl]) (by simpa using h)
  simpa using h1
theorem off_blk {w : World} {base e size n g : Nat} {v : Value} {xs : List Value} {cs : Array Value} (h : w.ownsRow base e size v n xs) (hg : w.heap[g]? = some (.cells cs KTy (0, 0))) (he : e ≠ KTy) : ∀ q, v.ownBlock = some q → ¬ q = g := by
  rintro q hq rfl
  obtain ⟨cs2, h2⟩ := owns_type h hq
  rw [hg] at h2
  simp only [Option.some.injEq, Obj.cells.injEq] at h2
  exact he h2.2.1.symm
theorem RoomK_wr {v : Value} {w w' : World} {base : Nat} {u x : Value} {k : Kn} (h : RoomK w base u x k) (hw : Wr v w w') : RoomK w' base u x k := by
  obtain ⟨g, cs, -, h2, h3⟩ := hw
  exact ⟨h.vec.sp h3 (off_blk h.vec.owns h2 (by decide)), h.more.sp h3 (off_blk h.more.owns h2 (by decide))⟩
theorem RoomKv_wr {v y : Value} {w w' : World} {base : Nat} {k : Kn} (h : RoomKv w base y k) (hw : Wr v w w') : RoomKv w' base y k := by
  obtain ⟨u, x, h1, h2⟩ := h; exact ⟨u, x, h1, RoomK_wr h2 hw⟩
theorem At.wr {cs : Array Value} {w w' : World} {base : Nat} {v p : Value} (h : At cs w base v) (hw : Wr p w w') (hne : ∀ g, v = ptr g → p = ptr g → False) : At cs w' base v := by
  obtain ⟨g, h1, h2, h3⟩ := h
  obtain ⟨g2, cs2, k1, k2, k3⟩ := hw
  exact ⟨g, h1, k3.block h2 (fun e => hne g h1 (e ▸ k1)), h3⟩
theorem Full.wr {w w' : World} {base : Nat} {v p : Value} {k : Kn} (h : Full w base v k) (hw : Wr p w w') (hne : ∀ g, v = ptr g → p = ptr g → False) : Full w' base v k := by
  obtain ⟨g, u, x, h1, h2, h3, h4⟩ := h
  have h5 := RoomK_wr h3 hw
  obtain ⟨g2, cs2, k1, k2, k3⟩ := hw
  exact ⟨g, u, x, h1, k3.block h2 (fun e => hne g h1 (e ▸ k1)), h5, h4⟩
/-- What holds all the while, region 3. -/
structure G3 (W : World) (t : Array Value) (w : World) : Prop where
  bel : Below W.heap.size W w
  b9 : ∀ g, t.getD 9 undef = ptr g → g < w.heap.size
  b10 : ∀ g, t.getD 10 undef = ptr g → g < w.heap.size
  ne : ∀ g, t.getD 9 undef = ptr g → t.getD 10 undef = ptr g → False
theorem G3.put {W w w' : World} {x : Act} {dst : Option Tmp} {v : Value} (h : G3 W x.tmps w) (hd : dst ≠ some 9) (hd2 : dst ≠ some 10) (hb : Below W.heap.size W w') (hs : w.heap.size ≤ w'.heap.size) : G3 W (x.put dst v).tmps w' := by
  have e1 : (x.put dst v).tmps.getD 9 undef = x.tmps.getD 9 undef := by rw [Cl5.getD_put, if_neg (fun h => hd h.1)]
  have e2 : (x.put dst v).tmps.getD 10 undef = x.tmps.getD 10 undef := by rw [Cl5.getD_put, if_neg (fun h => hd2 h.1)]
  refine ⟨hb, fun g hg => ?_, fun g hg => ?_, ?_⟩
  · rw [e1] at hg; have := h.b9 g hg; omega
  · rw [e2] at hg; have := h.b10 g hg; omega
  · rw [e1, e2]; exact h.ne
theorem G3.new9 {W w : World} {x : Act} (h : G3 W x.tmps w) (o : Obj) : G3 W (x.put (some 9) (ptr w.heap.size)).tmps (w.alloc o) := by
  have e2 : (x.put (some 9) (ptr w.heap.size)).tmps.getD 10 undef = x.tmps.getD 10 undef := by rw [Cl5.getD_put, if_neg (fun h => by simp at h)]
  have e1 : (x.put (some 9) (ptr w.heap.size)).tmps.getD 9 undef = ptr w.heap.size ∨ (x.put (some 9) (ptr w.heap.size)).tmps.getD 9 undef = x.tmps.getD 9 undef := by
    rw [Cl5.getD_put]; split <;> simp
  refine ⟨h.bel.alloc h.bel.size _, fun g hg => ?_, fun g hg => ?_, fun g hg hg2 => ?_⟩
  · simp only [World.size_alloc]
    rcases e1 with e1 | e1 <;> rw [e1] at hg
    · simp only [ptr, Value.pointer.injEq, Option.some.injEq, Addr.mk.injEq, and_true] at hg; omega
    · have := h.b9 g hg; omega
  · simp only [World.size_alloc]
    rw [e2] at hg; have := h.b10 g hg; omega
  · rw [e2] at hg2
    rcases e1 with e1 | e1 <;> rw [e1] at hg
    · have := h.b10 g hg2
      simp only [ptr, Value.pointer.injEq, Option.some.injEq, Addr.mk.injEq, and_true] at hg; omega
    · exact h.ne g hg hg2
theorem G3.new10 {W w : World} {x : Act} (h : G3 W x.tmps w) (o : Obj) : G3 W (x.put (some 10) (ptr w.heap.size)).tmps (w.alloc o) := by
  have e2 : (x.put (some 10) (ptr w.heap.size)).tmps.getD 9 undef = x.tmps.getD 9 undef := by rw [Cl5.getD_put, if_neg (fun h => by simp at h)]
  have e1 : (x.put (some 10) (ptr w.heap.size)).tmps.getD 10 undef = ptr w.heap.size ∨ (x.put (some 10) (ptr w.heap.size)).tmps.getD 10 undef = x.tmps.getD 10 undef := by
    rw [Cl5.getD_put]; split <;> simp
  refine ⟨h.bel.alloc h.bel.size _, fun g hg => ?_, fun g hg => ?_, fun g hg hg2 => ?_⟩
  · simp only [World.size_alloc]
    rw [e2] at hg; have := h.b9 g hg; omega
  · simp only [World.size_alloc]
    rcases e1 with e1 | e1 <;> rw [e1] at hg
    · simp only [ptr, Value.pointer.injEq, Option.some.injEq, Addr.mk.injEq, and_true] at hg; omega
    · have := h.b10 g hg; omega
  · rw [e2] at hg
    rcases e1 with e1 | e1 <;> rw [e1] at hg2
    · have := h.b9 g hg
      simp only [ptr, Value.pointer.injEq, Option.some.injEq, Addr.mk.injEq, and_true] at hg2; omega
    · exact h.ne g hg hg2
/-- A filter with room, its blocks between two marks. -/
def PF (w : World) (lo hi : Nat) (f : Bxs) (v : Value) : Prop := RoomF w lo v f ∧ ∃ us, FzOwn w lo ⟨v, us, f⟩ ∧ ∀ q, fzS ⟨v, us, f⟩ q → q < hi
theorem PF.of {w : World} {lo : Nat} {f : Bxs} {v : Value} (h : RoomF w lo v f) : PF w lo w.heap.size f v := by
  obtain ⟨us, h2⟩ := h.fz
  exact ⟨h, us, h2, fun q hq => (h2.rng hq).2⟩
theorem PF.below {w w' : World} {lo hi : Nat} {f : Bxs} {v : Value} (h : PF w lo hi f v) (hb : Below w.heap.size w w') : PF w' lo hi f v := by
  obtain ⟨h1, us, h2, h3⟩ := h; exact ⟨h1.below hb, us, h2.below hb, h3⟩
theorem PF.up {w : World} {lo hi hi' : Nat} {f : Bxs} {v : Value} (h : PF w lo hi f v) (hh : hi ≤ hi') : PF w lo hi' f v := by
  obtain ⟨h1, us, h2, h3⟩ := h; exact ⟨h1, us, h2, fun q hq => Nat.lt_of_lt_of_le (h3 q hq) hh⟩
theorem PF.shape {w : World} {lo hi : Nat} {f : Bxs} {v : Value} (h : PF w lo hi f v) : ∃ g, v = .slice (some ⟨g, 0, none⟩) f.length (f.length + 3) := by
  obtain ⟨⟨us, -, h2, -⟩, -⟩ := h
  obtain ⟨g, h3, -⟩ := h2.row
  exact ⟨g, h3⟩
/-- What a slot of region 4 holds, once it is filled. -/
def K4 (w : World) (base lo hi : Nat) (f : Bxs) (u x : Value) (kind : Nat) (v : Value) : Prop := v ≠ undef →
  match kind with
  | 0 => PF w lo hi f v
  | 1 => ∃ fv, v = .agg #[fv, u, x] ∧ PF w lo hi f fv
  | _ => ∃ g fv, v = .slice (some ⟨g, 0, none⟩) 1 1 ∧ w.heap[g]? = some (.cells #[fv, u, x] 33 (0, 0)) ∧ base ≤ g ∧ PF w lo hi f fv
theorem K4.below {w w' : World} {base lo hi kind : Nat} {f : Bxs} {u x v : Value} (h : K4 w base lo hi f u x kind v) (hb : Below w.heap.size w w') : K4 w' base lo hi f u x kind v := by
  intro hv
  have := h hv
  match kind, this with
  | 0, h => exact h.below hb
  | 1, ⟨fv, h1, h2⟩ => exact ⟨fv, h1, h2.below hb⟩
  | _ + 2, ⟨g, fv, h1, h2, h3, h4⟩ => exact ⟨g, fv, h1, below_keep hb h2, h3, h4.below hb⟩
theorem K4.up {w : World} {base lo hi hi' kind : Nat} {f : Bxs} {u x v : Value} (h : K4 w base lo hi f u x kind v) (hh : hi ≤ hi') : K4 w base lo hi' f u x kind v := by
  intro hv
  have := h hv
  match kind, this with
  | 0, h => exact h.up hh
  | 1, ⟨fv, h1, h2⟩ => exact ⟨fv, h1, h2.up hh⟩
  | _ + 2, ⟨g, fv, h1, h2, h3, h4⟩ => exact ⟨g, fv, h1, h2, h3, h4.up hh⟩
def A4 (w : World) (base lo hi : Nat) (f : Bxs) (u x : Value) (t : Array Value) (l : List (Nat × Nat)) : Prop := ∀ p ∈ l, K4 w base lo hi f u x p.2 (t.getD p.1 undef)
theorem A4.below {w w' : World} {base lo hi : Nat} {f : Bxs} {u x : Value} {t : Array Value} {l : List (Nat × Nat)} (h : A4 w base lo hi f u x t l) (hb : Below w.heap.size w w') : A4 w' base lo hi f u x t l := fun p hp => (h p hp).below hb
theorem A4.up {w : World} {base lo hi hi' : Nat} {f : Bxs} {u x : Value} {t : Array Value} {l : List (Nat × Nat)} (h : A4 w base lo hi f u x t l) (hh : hi ≤ hi') : A4 w base lo hi' f u x t l := fun p hp => (h p hp).up hh
theorem A4.put {w : World} {base lo hi : Nat} {f : Bxs} {u x : Value} {y : Act} {dst : Option Tmp} {v : Value} {l : List (Nat × Nat)} (h : A4 w base lo hi f u x y.tmps l) (hv : ∀ p ∈ l, dst = some p.1 → K4 w base lo hi f u x p.2 v) : A4 w base lo hi f u x (y.put dst v).tmps l := by
  intro p hp
  rw [Cl5.getD_put]
  split
  · rename_i h2; exact hv p hp h2.1
  · exact h p hp
theorem A4.start {w : World} {base lo hi : Nat} {f : Bxs} {u x : Value} {t : Array Value} {l : List (Nat × Nat)} (h : ∀ p ∈ l, t.getD p.1 undef = undef) : A4 w base lo hi f u x t l := fun p hp hv => absurd (h p hp) hv
def l1 : List (Nat × Nat) := [(44, 0), (46, 1), (47, 2), (11, 2)]
def l2 : List (Nat × Nat) := [(49, 0), (51, 1), (52, 2), (12, 2)]
structure G4 (W : World) (f : Bxs) (u1 x1 u2 x2 : Value) (t : Array Value) (w : World) : Prop where
  bel : Below W.heap.size W w
  ex : ∃ m, W.heap.size ≤ m ∧ m ≤ w.heap.size ∧ A4 w W.heap.size W.heap.size m f u1 x1 t l1 ∧ A4 w W.heap.size m w.heap.size f u2 x2 t l2
theorem G4.start {W w : World} {f : Bxs} {u1 x1 u2 x2 : Value} {t : Array Value} (hb : Below W.heap.size W w) (h : ∀ p ∈ l1 ++ l2, t.getD p.1 undef = undef) : G4 W f u1 x1 u2 x2 t w :=
  ⟨hb, _, hb.size, Nat.le_refl _, A4.start fun p hp => h p (List.mem_append_left _ hp), A4.start fun p hp => h p (List.mem_append_right _ hp)⟩
/-- A step that fills none of the slots. -/
theorem G4.put {W w : World} {f : Bxs} {u1 x1 u2 x2 : Value} {y : Act} {dst : Option Tmp} {v : Value} (h : G4 W f u1 x1 u2 x2 y.tmps w) (hd : ∀ p ∈ l1 ++ l2, dst ≠ some p.1) : G4 W f u1 x1 u2 x2 (y.put dst v).tmps w := by
  obtain ⟨hb, m, h1, h2, h3, h4⟩ := h
  exact ⟨hb, m, h1, h2, h3.put fun p hp e => absurd e (hd p (List.mem_append_left _ hp)), h4.put fun p hp e => absurd e (hd p (List.mem_append_right _ hp))⟩
/-- The first filter is made. -/
theorem G4.call1 {W w w' : World} {f : Bxs} {u1 x1 u2 x2 : Value} {y : Act} {v : Value} (h : G4 W f u1 x1 u2 x2 y.tmps w) (hr : RoomF w' w.heap.size v f) (hb : Below w.heap.size w w') (hn : ∀ p ∈ l2, y.tmps.getD p.1 undef = undef) : G4 W f u1 x1 u2 x2 (y.put (some 44) v).tmps w' := by
  obtain ⟨hb0, m, h1, h2, h3, h4⟩ := h
  refine ⟨bstep hb0 hb, w'.heap.size, by have := hb0.size; have := hb.size; omega, Nat.le_refl _, ((h3.below hb).up (by have := hb.size; omega)).put fun p hp e hv => ?_, (A4.start hn).put fun p hp e => ?_⟩
  · have : p = (44, 0) := by
      simp only [l1, List.mem_cons, List.not_mem_nil, or_false] at hp
      rcases hp with rfl | rfl | rfl | rfl <;> simp_all
    subst this
    exact PF.of (hr.mono hb0.size)
  · simp only [l2, List.mem_cons, List.not_mem_nil, or_false] at hp
    rcases hp with rfl | rfl | rfl | rfl <;> simp at e
theorem G4.call2 {W w w' : World} {f : Bxs} {u1 x1 u2 x2 : Value} {y : Act} {v : Value} (h : G4 W f u1 x1 u2 x2 y.tmps w) (hr : RoomF w' w.heap.size v f) (hb : Below w.heap.size w w') : G4 W f u1 x1 u2 x2 (y.put (some 49) v).tmps w' := by
  obtain ⟨hb0, m, h1, h2, h3, h4⟩ := h
  refine ⟨bstep hb0 hb, m, h1, by have := hb.size; omega, (h3.below hb).put fun p hp e => ?_, ((h4.below hb).up (by have := hb.size; omega)).put fun p hp e hv => ?_⟩
  · simp only [l1, List.mem_cons, List.not_mem_nil, or_false] at hp
    rcases hp with rfl | rfl | rfl | rfl <;> simp at e
  · have : p = (49, 0) := by
      simp only [l2, List.mem_cons, List.not_mem_nil, or_false] at hp
      rcases hp with rfl | rfl | rfl | rfl <;> simp_all
    subst this
    exact PF.of (hr.mono h2)
/-- A step that fills one of the slots from another one. -/
theorem G4.fill1 {W w w' : World} {f : Bxs} {u1 x1 u2 x2 : Value} {y : Act} {s : Nat} {v : Value} (h : G4 W f u1 x1 u2 x2 y.tmps w) (hb : Below w.heap.size w w') (hs : ∀ p ∈ l2, s ≠ p.1) (hv : ∀ m, A4 w W.heap.size W.heap.size m f u1 x1 y.tmps l1 → ∀ p ∈ l1, s = p.1 → K4 w' W.heap.size W.heap.size m f u1 x1 p.2 v) : G4 W f u1 x1 u2 x2 (y.put (some s) v).tmps w' := by
  obtain ⟨hb0, m, h1, h2, h3, h4⟩ := h
  exact ⟨bstep hb0 hb, m, h1, by have := hb.size; omega, (h3.below hb).put fun p hp e => hv m h3 p hp (by simpa using e), ((h4.below hb).up hb.size).put fun p hp e => absurd (by simpa using e) (hs p hp)⟩
theorem G4.fill2 {W w w' : World} {f : Bxs} {u1 x1 u2 x2 : Value} {y : Act} {s : Nat} {v : Value} (h : G4 W f u1 x1 u2 x2 y.tmps w) (hb : Below w.heap.size w w') (hs : ∀ p ∈ l1, s ≠ p.1) (hv : ∀ lo hi, A4 w W.heap.size lo hi f u2 x2 y.tmps l2 → ∀ p ∈ l2, s = p.1 → K4 w' W.heap.size lo hi f u2 x2 p.2 v) : G4 W f u1 x1 u2 x2 (y.put (some s) v).tmps w' := by
  obtain ⟨hb0, m, h1, h2, h3, h4⟩ := h
  refine ⟨bstep hb0 hb, m, h1, by have := hb.size; omega, (h3.below hb).put fun p hp e => absurd (by simpa using e) (hs p hp), ((h4.below hb).up hb.size).put fun p hp e => (hv m _ h4 p hp (by simpa using e)).up hb.size⟩
theorem G4.build1 {W w : World} {f : Bxs} {u1 x1 u2 x2 fv : Value} {y : Act} (h : G4 W f u1 x1 u2 x2 y.tmps w) (hv : y.tmps.getD 44 undef = fv) (hne : fv ≠ undef) : G4 W f u1 x1 u2 x2 (y.put (some 46) (.agg #[fv, u1, x1])).tmps w := by
  refine h.fill1 (Below.refl _ _) (by decide) fun m h p hp e => ?_
  have hp2 : p = (46, 1) := by
    simp only [l1, List.mem_cons, List.not_mem_nil, or_false] at hp
    rcases hp with rfl | rfl | rfl | rfl <;> simp_all
  subst hp2
  intro _
  exact ⟨fv, rfl, hv ▸ h (44, 0) (by decide) (by rw [hv]; exact hne)⟩
theorem G4.slice1 {W w : World} {f : Bxs} {u1 x1 u2 x2 fv : Value} {y : Act} (h : G4 W f u1 x1 u2 x2 y.tmps w) (hv : y.tmps.getD 46 undef = .agg #[fv, u1, x1]) : G4 W f u1 x1 u2 x2 (y.put (some 47) (.slice (some ⟨w.heap.size, 0, none⟩) 1 1)).tmps (w.alloc (.cells #[fv, u1, x1] 33)) := by
  have hsz := h.bel.size
  refine h.fill1 (bal _) (by decide) fun m h p hp e => ?_
  have hp2 : p = (47, 2) := by
    simp only [l1, List.mem_cons, List.not_mem_nil, or_false] at hp
    rcases hp with rfl | rfl | rfl | rfl <;> simp_all
  subst hp2
  intro _
  obtain ⟨fv2, h1, h2⟩ := h (46, 1) (by decide) (by simp only; rw [hv]; simp [undef])
  simp only at h1
  rw [hv] at h1
  simp only [Value.agg.injEq, Array.mk.injEq, List.cons.injEq, and_true] at h1
  rw [← h1] at h2
  exact ⟨_, fv, rfl, alloc_new _ _ _ _ rfl, hsz, h2.below (bal _)⟩
theorem G4.copy1 {W w : World} {f : Bxs} {u1 x1 u2 x2 v : Value} {y : Act} (h : G4 W f u1 x1 u2 x2 y.tmps w) (hv : y.tmps.getD 47 undef = v) (hne : v ≠ undef) : G4 W f u1 x1 u2 x2 (y.put (some 11) v).tmps w := by
  refine h.fill1 (Below.refl _ _) (by decide) fun m h p hp e => ?_
  have hp2 : p = (11, 2) := by
    simp only [l1, List.mem_cons, List.not_mem_nil, or_false] at hp
    rcases hp with rfl | rfl | rfl | rfl <;> simp_all
  subst hp2
  intro _
  exact hv ▸ h (47, 2) (by decide) (by simp only; rw [hv]; exact hne)
theorem G4.build2 {W w : World} {f : Bxs} {u1 x1 u2 x2 fv : Value} {y : Act} (h : G4 W f u1 x1 u2 x2 y.tmps w) (hv : y.tmps.getD 49 undef = fv) (hne : fv ≠ undef) : G4 W f u1 x1 u2 x2 (y.put (some 51) (.agg #[fv, u2, x2])).tmps w := by
  refine h.fill2 (Below.refl _ _) (by decide) fun lo hi h p hp e => ?_
  have hp2 : p = (51, 1) := by
    simp only [l2, List.mem_cons, List.not_mem_nil, or_false] at hp
    rcases hp with rfl | rfl | rfl | rfl <;> simp_all
  subst hp2
  intro _
  exact ⟨fv, rfl, hv ▸ h (49, 0) (by decide) (by rw [hv]; exact hne)⟩
theorem G4.slice2 {W w : World} {f : Bxs} {u1 x1 u2 x2 fv : Value} {y : Act} (h : G4 W f u1 x1 u2 x2 y.tmps w) (hv : y.tmps.getD 51 undef = .agg #[fv, u2, x2]) : G4 W f u1 x1 u2 x2 (y.put (some 52) (.slice (some ⟨w.heap.size, 0, none⟩) 1 1)).tmps (w.alloc (.cells #[fv, u2, x2] 33)) := by
  have hsz := h.bel.size
  refine h.fill2 (bal _) (by decide) fun lo hi h p hp e => ?_
  have hp2 : p = (52, 2) := by
    simp only [l2, List.mem_cons, List.not_mem_nil, or_false] at hp
    rcases hp with rfl | rfl | rfl | rfl <;> simp_all
  subst hp2
  intro _
  obtain ⟨fv2, h1, h2⟩ := h (51, 1) (by decide) (by simp only; rw [hv]; simp [undef])
  simp only at h1
  rw [hv] at h1
  simp only [Value.agg.injEq, Array.mk.injEq, List.cons.injEq, and_true] at h1
  rw [← h1] at h2
  exact ⟨_, fv, rfl, alloc_new _ _ _ _ rfl, hsz, h2.below (bal _)⟩
theorem G4.copy2 {W w : World} {f : Bxs} {u1 x1 u2 x2 v : Value} {y : Act} (h : G4 W f u1 x1 u2 x2 y.tmps w) (hv : y.tmps.getD 52 undef = v) (hne : v ≠ undef) : G4 W f u1 x1 u2 x2 (y.put (some 12) v).tmps w := by
  refine h.fill2 (Below.refl _ _) (by decide) fun lo hi h p hp e => ?_
  have hp2 : p = (12, 2) := by
    simp only [l2, List.mem_cons, List.not_mem_nil, or_false] at hp
    rcases hp with rfl | rfl | rfl | rfl <;> simp_all
  subst hp2
  intro _
  exact hv ▸ h (52, 2) (by decide) (by simp only; rw [hv]; exact hne)
theorem G4.done {W w : World} {f : Bxs} {u1 x1 u2 x2 : Value} {t : Array Value} {ga gb : Nat} (h : G4 W f u1 x1 u2 x2 t w) (h1 : t.getD 11 undef = .slice (some ⟨ga, 0, none⟩) 1 1) (h2 : t.getD 12 undef = .slice (some ⟨gb, 0, none⟩) 1 1) :
    ∃ m fv1 fv2, W.heap.size ≤ m ∧ m ≤ w.heap.size ∧ w.heap[ga]? = some (.cells #[fv1, u1, x1] 33 (0, 0)) ∧ w.heap[gb]? = some (.cells #[fv2, u2, x2] 33 (0, 0)) ∧ W.heap.size ≤ ga ∧ W.heap.size ≤ gb ∧ PF w W.heap.size m f fv1 ∧ PF w m w.heap.size f fv2 := by
  obtain ⟨hb, m, e1, e2, e3, e4⟩ := h
  obtain ⟨g, fv1, a1, a2, a3, a4⟩ := e3 (11, 2) (by decide) (by simp only; rw [h1]; simp [undef])
  obtain ⟨g', fv2, b1, b2, b3, b4⟩ := e4 (12, 2) (by decide) (by simp only; rw [h2]; simp [undef])
  simp only at a1 b1
  rw [h1] at a1
  rw [h2] at b1
  simp only [Value.slice.injEq, Option.some.injEq, Addr.mk.injEq, and_true] at a1 b1
  subst a1 b1
  exact ⟨m, fv1, fv2, e1, e2, a2, b2, a3, b3, a4, b4⟩
end Ko
/-- A row of one part. -/
theorem part1_at {w : World} {g : Nat} {fv u x : Value} {f : Bxs} {k : Kn} (hg : w.heap[g]? = some (.cells #[fv, u, x] 33 (0, 0))) (hf : BxsAt w fv f) (hk : KnAt w u x k) : RowAt partE w (.slice (some ⟨g, 0, none⟩) 1 1) [⟨f, k⟩] :=
  ⟨[[fv, u, x]], ⟨⟨fv, u, x, rfl, hf, hk⟩, trivial⟩, CellsAt.mk (Nat.le_refl _) (by decide) (hlt_of hg) (fun j z hj => by rw [Nat.zero_add]; exact cell_of_block hg (by simpa using hj))⟩
end Go.Proofs.Ytboakoipdfmpcaa
