/- Sets of dots, and versions, with room behind their lists: what memory holds. No walk here. What the laws' roomyKnow, keptKnow and wasteKnow do. Written by a small program (gen/roomk.py). What the laws' roomyShelf, keptShelf and wasteShelf do. -/
import Derived.Test.YthnkmjjldggecaaMRoom
import Derived.Test.YthnkmjjldggecaaMShelf5
import Derived.Test.YthnkmjjldggecaaKnow7
import Derived.Test.YthnkmjjldggecaaMShelf7
namespace Go.Proofs.Ythnkmjjldggecaa
open Go.RowKit
def spI : List Value := (List.replicate 3 [Value.int .i64 (-7)]).flatten
def spD : List Value := (List.replicate 3 [Value.int .i64 (-7), .int .i64 0]).flatten
def spV : List Value := (List.replicate 3 [Value.string ⟨#[]⟩, .int .i64 0, .int .i64 0, .int .i64 0, .int .i64 0, .int .i64 (-7), .slice none 0 0, .slice none 0 0]).flatten
/-- A set of dots with room behind its lists. -/
structure RoomK (w : World) (base : Nat) (u x : Value) (k : Kn) : Prop where
  vec : Roomy w base 3 1 u k.vec.length (intsC k.vec) spI
  more : Roomy w base 92 2 x k.more.length (spansCells k.more) spD
theorem RoomK.below {w w' : World} {base : Nat} {u x : Value} {k : Kn} (h : RoomK w base u x k) (hb : Below w.heap.size w w') : RoomK w' base u x k := ⟨h.vec.below hb, h.more.below hb⟩
theorem RoomK.mono {w : World} {base base' : Nat} {u x : Value} {k : Kn} (h : RoomK w base u x k) (hb : base' ≤ base) : RoomK w base' u x k := ⟨h.vec.mono hb, h.more.mono hb⟩
theorem RoomK.own {w : World} {base : Nat} {u x : Value} {k : Kn} (h : RoomK w base u x k) : KnOwn w base u x k := ⟨h.vec.owns, h.more.owns⟩
theorem RoomK.grown {w w' : World} {base base2 e2 size2 n2 : Nat} {u x v2 : Value} {k : Kn} {xs2 : List Value} (h : RoomK w base u x k) (h2 : w.ownsRow base2 e2 size2 v2 n2 xs2) (hg : w.grownBy w' v2.ownBlock) (h3 : 3 ≠ e2) (h4 : 92 ≠ e2) : RoomK w' base u x k := ⟨h.vec.grown h2 hg h3, h.more.grown h2 hg h4⟩
theorem RoomK.setOther {w : World} {base e' g j : Nat} {u x y : Value} {k : Kn} {cs : Array Value} (h : RoomK w base u x k) (hg : w.heap[g]? = some (.cells cs e' (0, 0))) (h3 : 3 ≠ e') (h4 : 92 ≠ e') : RoomK (w.setCell ⟨g, j, none⟩ y) base u x k := ⟨h.vec.setOther hg h3, h.more.setOther hg h4⟩
theorem RoomK.sp {S : Nat → Prop} {w w' : World} {base : Nat} {u x : Value} {k : Kn} (h : RoomK w base u x k) (hs : Sp S w w') (hd : ∀ q, base ≤ q → ¬ S q) : RoomK w' base u x k := ⟨h.vec.sp hs fun q hq => hd q (h.vec.owns.lt q hq).1, h.more.sp hs fun q hq => hd q (h.more.owns.lt q hq).1⟩
/-- Sizes that came in. -/
structure SzK (k : Kn) : Prop where
  vec : k.vec.length * 8 ≤ 140737488355328
  more : k.more.length * 16 ≤ 140737488355328
theorem SzK.of_ok {k : Kn} (h : k.vec.length ≤ 5) (h2 : k.more.length ≤ 60) : SzK k := ⟨by omega, by omega⟩
theorem KnOwn.atZ {w : World} {base : Nat} {u x : Value} {k : Kn} (h : KnOwn w base u x k) (hz : SzK k) : KnAt w u x k := ⟨CellsAt.of_owns h.vec (by have := hz.vec; omega), CellsAt.of_owns h.more (by have := hz.more; omega)⟩
/-- A set of dots whose memory lies between two marks. -/
structure OwnK (w : World) (lo hi : Nat) (u x : Value) (k : Kn) : Prop where
  own : KnOwn w lo u x k
  ru : InR lo hi u
  rx : InR lo hi x
theorem OwnK.of_own {w : World} {base : Nat} {u x : Value} {k : Kn} (h : KnOwn w base u x k) : OwnK w base w.heap.size u x k := ⟨h, inR_owns h.vec, inR_owns h.more⟩
theorem OwnK.nil (w : World) (lo hi : Nat) : OwnK w lo hi (.slice none 0 0) (.slice none 0 0) ⟨[], []⟩ := ⟨⟨World.ownsRow_nil _ _ _ _, World.ownsRow_nil _ _ _ _⟩, fun k hk => by simp [Value.ownBlock] at hk, fun k hk => by simp [Value.ownBlock] at hk⟩
theorem OwnK.sp {S : Nat → Prop} {w w' : World} {lo hi : Nat} {u x : Value} {k : Kn} (h : OwnK w lo hi u x k) (hs : Sp S w w') (hd : ∀ q, lo ≤ q → q < hi → ¬ S q) : OwnK w' lo hi u x k :=
  ⟨⟨owns_sp h.own.vec hs fun q hq => hd q (h.ru q hq).1 (h.ru q hq).2, owns_sp h.own.more hs fun q hq => hd q (h.rx q hq).1 (h.rx q hq).2⟩, h.ru, h.rx⟩
theorem OwnK.below {w w' : World} {lo hi : Nat} {u x : Value} {k : Kn} (h : OwnK w lo hi u x k) (hb : Below w.heap.size w w') : OwnK w' lo hi u x k := h.sp (S := fun _ => False) (Sp.of_below hb) fun _ _ _ h => h
/-- Versions with room behind their lists. -/
def RoomV (w : World) (base : Nat) (v : Value) (l : List Ver) : Prop :=
  ∃ css : List (List Value), css.length = l.length ∧ Roomy w base 109 8 v l.length css.flatten spV ∧ ∀ i (h : i < l.length) (h' : i < css.length), ∃ u x, css[i] = (verC l[i] u x).toList ∧ RoomK w base u x l[i].past
theorem RoomV.below {w w' : World} {base : Nat} {v : Value} {l : List Ver} (h : RoomV w base v l) (hb : Below w.heap.size w w') : RoomV w' base v l := by
  obtain ⟨css, h1, h2, h3⟩ := h
  exact ⟨css, h1, h2.below hb, fun i hi hi' => by obtain ⟨u, x, k1, k2⟩ := h3 i hi hi'; exact ⟨u, x, k1, k2.below hb⟩⟩
theorem RoomV.mono {w : World} {base base' : Nat} {v : Value} {l : List Ver} (h : RoomV w base v l) (hb : base' ≤ base) : RoomV w base' v l := by
  obtain ⟨css, h1, h2, h3⟩ := h
  exact ⟨css, h1, h2.mono hb, fun i hi hi' => by obtain ⟨u, x, k1, k2⟩ := h3 i hi hi'; exact ⟨u, x, k1, k2.mono hb⟩⟩
theorem RoomV.grown {w w' : World} {base base2 e2 size2 n2 : Nat} {v v2 : Value} {l : List Ver} {xs2 : List Value} (h : RoomV w base v l) (h2 : w.ownsRow base2 e2 size2 v2 n2 xs2) (hg : w.grownBy w' v2.ownBlock) (h3 : 3 ≠ e2) (h4 : 92 ≠ e2) (h5 : 109 ≠ e2) : RoomV w' base v l := by
  obtain ⟨css, k1, k2, k3⟩ := h
  exact ⟨css, k1, k2.grown h2 hg h5, fun i hi hi' => by obtain ⟨u, x, q1, q2⟩ := k3 i hi hi'; exact ⟨u, x, q1, q2.grown h2 hg h3 h4⟩⟩
theorem RoomV.sp {S : Nat → Prop} {w w' : World} {base : Nat} {v : Value} {l : List Ver} (h : RoomV w base v l) (hs : Sp S w w') (hd : ∀ q, base ≤ q → ¬ S q) : RoomV w' base v l := by
  obtain ⟨css, k1, k2, k3⟩ := h
  exact ⟨css, k1, k2.sp hs fun q hq => hd q (k2.owns.lt q hq).1, fun i hi hi' => by obtain ⟨u, x, q1, q2⟩ := k3 i hi hi'; exact ⟨u, x, q1, q2.sp hs hd⟩⟩
structure SzV (l : List Ver) : Prop where
  len : l.length * 104 ≤ 140737488355328
  past : ∀ v ∈ l, SzK v.past
theorem SzV.l {l : List Ver} (h : SzV l) : l.length ≤ 140737488355328 := by have := h.len; omega
theorem els_ver {w : World} : ∀ {l : List Ver} {css : List (List Value)}, css.length = l.length → (∀ i (h : i < l.length) (h' : i < css.length), verE.El w l[i] css[i]) → Els verE w l css
  | [], [], _, _ => trivial
  | v :: l, c :: css, hl, h => ⟨h 0 (by simp) (by simp), els_ver (by simpa using hl) fun i hi hi' => by have := h (i + 1) (by simpa using hi) (by simpa using hi'); simpa using this⟩
  | [], _ :: _, hl, _ => by simp at hl
  | _ :: _, [], hl, _ => by simp at hl
theorem RoomV.at_ {w : World} {base : Nat} {v : Value} {l : List Ver} (h : RoomV w base v l) (hz : SzV l) : RowAt verE w v l := by
  obtain ⟨css, h1, h2, h3⟩ := h
  exact ⟨css, els_ver h1 fun i hi hi' => by obtain ⟨u, x, k1, k2⟩ := h3 i hi hi'; exact ⟨u, x, k1, k2.own.atZ (hz.past _ (List.getElem_mem hi))⟩, CellsAt.of_owns h2.owns hz.l⟩
/-- Versions whose memory lies between two marks. -/
def OwnV (w : World) (lo hi : Nat) (v : Value) (l : List Ver) : Prop :=
  ∃ css : List (List Value), css.length = l.length ∧ w.ownsRow lo 109 8 v l.length css.flatten ∧ InR lo hi v ∧ ∀ i (h : i < l.length) (h' : i < css.length), ∃ u x, css[i] = (verC l[i] u x).toList ∧ OwnK w lo hi u x l[i].past
theorem OwnV.nil (w : World) (lo hi : Nat) : OwnV w lo hi (.slice none 0 0) [] := ⟨[], rfl, World.ownsRow_nil _ _ _ _, fun k hk => by simp [Value.ownBlock] at hk, fun i h => by simp at h⟩
theorem VE.point {w : World} {base : Nat} : ∀ {l : List Ver} {cs : List (List Value)}, VE w base l cs → cs.length = l.length ∧ ∀ i (h : i < l.length) (h' : i < cs.length), ∃ u x, cs[i] = (verC l[i] u x).toList ∧ KnOwn w base u x l[i].past
  | [], [], _ => ⟨rfl, fun i h => by simp at h⟩
  | v :: l, c :: cs, ⟨⟨a, n, d, b, m, e, h1, h2⟩, h3⟩ => by
    obtain ⟨k1, k2⟩ := VE.point h3
    refine ⟨by simp [k1], fun i hi hi' => ?_⟩
    cases i with
    | zero => exact ⟨_, _, h1, h2⟩
    | succ i => exact k2 i (by simpa using hi) (by simpa using hi')
  | [], _ :: _, h => h.elim
  | _ :: _, [], h => h.elim
theorem OwnV.of_own {w : World} {base : Nat} {v : Value} {l : List Ver} (h : VOwn w base v l) : OwnV w base w.heap.size v l := by
  obtain ⟨css, h1, h2⟩ := h
  obtain ⟨k1, k2⟩ := h1.point
  exact ⟨css, k1, h2, inR_owns h2, fun i hi hi' => by obtain ⟨u, x, q1, q2⟩ := k2 i hi hi'; exact ⟨u, x, q1, OwnK.of_own q2⟩⟩
theorem OwnV.of_room {w : World} {base : Nat} {v : Value} {l : List Ver} (h : RoomV w base v l) : OwnV w base w.heap.size v l := by
  obtain ⟨css, h1, h2, h3⟩ := h
  exact ⟨css, h1, h2.owns, inR_owns h2.owns, fun i hi hi' => by obtain ⟨u, x, q1, q2⟩ := h3 i hi hi'; exact ⟨u, x, q1, OwnK.of_own q2.own⟩⟩
theorem OwnV.sp {S : Nat → Prop} {w w' : World} {lo hi : Nat} {v : Value} {l : List Ver} (h : OwnV w lo hi v l) (hs : Sp S w w') (hd : ∀ q, lo ≤ q → q < hi → ¬ S q) : OwnV w' lo hi v l := by
  obtain ⟨css, k1, k2, k3, k4⟩ := h
  exact ⟨css, k1, owns_sp k2 hs fun q hq => hd q (k3 q hq).1 (k3 q hq).2, k3, fun i hi hi' => by obtain ⟨u, x, q1, q2⟩ := k4 i hi hi'; exact ⟨u, x, q1, q2.sp hs hd⟩⟩
theorem OwnV.below {w w' : World} {lo hi : Nat} {v : Value} {l : List Ver} (h : OwnV w lo hi v l) (hb : Below w.heap.size w w') : OwnV w' lo hi v l := h.sp (S := fun _ => False) (Sp.of_below hb) fun _ _ _ h => h
theorem OwnV.at_ {w : World} {lo hi : Nat} {v : Value} {l : List Ver} (h : OwnV w lo hi v l) (hz : SzV l) : RowAt verE w v l := by
  obtain ⟨css, h1, h2, -, h3⟩ := h
  exact ⟨css, els_ver h1 fun i hi hi' => by obtain ⟨u, x, k1, k2⟩ := h3 i hi hi'; exact ⟨u, x, k1, k2.own.atZ (hz.past _ (List.getElem_mem hi))⟩, CellsAt.of_owns h2 hz.l⟩
theorem OwnV.shape {w : World} {lo hi : Nat} {v : Value} {l : List Ver} (h : OwnV w lo hi v l) : ∃ a c, v = .slice a l.length c := by
  obtain ⟨css, -, h2, -⟩ := h; exact owns_slice h2
/-- The cells of one version's past in the row of all. -/
theorem flat8_get : ∀ {css : List (List Value)} {k : Nat} (_ : ∀ c ∈ css, c.length = 8) (hk : k < css.length) (j : Nat) (_ : j < 8), css.flatten[k * 8 + j]? = css[k][j]?
  | c :: css, 0, hl, _, j, hj => by
    have h8 := hl c (by simp)
    simp only [Nat.zero_mul, Nat.zero_add, List.flatten_cons, List.getElem_cons_zero]
    rw [List.getElem?_append_left (by omega)]
  | c :: css, k + 1, hl, hk, j, hj => by
    have h8 := hl c (by simp)
    have := flat8_get (css := css) (k := k) (fun d hd => hl d (by simp [hd])) (by simpa using hk) j hj
    rw [List.flatten_cons, List.getElem?_append_right (by omega), show (k + 1) * 8 + j - c.length = k * 8 + j by omega, this]
    simp
theorem flat8_set : ∀ {css : List (List Value)} {k : Nat} (_ : ∀ c ∈ css, c.length = 8) (hk : k < css.length) (v : Ver) (u x u' x' : Value) (_ : css[k] = (verC v u x).toList), ((css.flatten.set (k * 8 + 6) u').set (k * 8 + 6 + 1) x') = (css.set k (verC v u' x').toList).flatten
  | c :: css, 0, hl, _, v, u, x, u', x', hc => by
    simp only [List.getElem_cons_zero] at hc
    subst hc
    simp [verC, List.set_append]
  | c :: css, k + 1, hl, hk, v, u, x, u', x', hc => by
    have h8 := hl c (by simp)
    have ih := flat8_set (css := css) (k := k) (fun d hd => hl d (by simp [hd])) (by simpa using hk) v u x u' x' (by simpa using hc)
    rw [List.set_cons_succ, List.flatten_cons, List.flatten_cons, ← ih]
    rw [List.set_append, if_neg (by omega), List.set_append, if_neg (by omega)]
    congr 3 <;> omega
/-- While the pasts are copied: k of them are. -/
structure RvSt (w0 w : World) (v : Value) (l : List Ver) (us0 : List (Value × Value)) (k : Nat) (css : List (List Value)) : Prop where
  bel : Below w0.heap.size w0 w
  len : css.length = l.length
  row : Roomy w w0.heap.size 109 8 v l.length css.flatten spV
  new : ∀ i (h : i < l.length) (h' : i < css.length), i < k → ∃ u x, css[i] = (verC l[i] u x).toList ∧ RoomK w w0.heap.size u x l[i].past
  old : ∀ i (h : i < l.length) (h' : i < css.length) (h2 : i < us0.length), k ≤ i → css[i] = (verC l[i] us0[i].1 us0[i].2).toList
  l0 : us0.length = l.length
theorem RvSt.eight {w0 w : World} {v : Value} {l : List Ver} {us0 : List (Value × Value)} {k : Nat} {css : List (List Value)} (h : RvSt w0 w v l us0 k css) : ∀ c ∈ css, c.length = 8 := by
  intro c hc
  obtain ⟨i, hi, rfl⟩ := List.mem_iff_getElem.1 hc
  have h1 := h.len
  have h2 := h.l0
  by_cases hik : i < k
  · obtain ⟨u, x, q, -⟩ := h.new i (by omega) hi hik
    rw [q]; rfl
  · rw [h.old i (by omega) hi (by omega) (by omega)]; rfl
theorem RvSt.step {w0 w w2 : World} {l : List Ver} {us0 : List (Value × Value)} {css : List (List Value)} {k g c : Nat} {u x : Value} (h : RvSt w0 w (.slice (some ⟨g, 0, none⟩) l.length c) l us0 k css) (hk : k < l.length) (hb : Below w.heap.size w w2) (hu : RoomK w2 w.heap.size u x l[k].past) : RvSt w0 ((w2.setCell ⟨g, k * 8 + 6, none⟩ u).setCell ⟨g, k * 8 + 6 + 1, none⟩ x) (.slice (some ⟨g, 0, none⟩) l.length c) l us0 (k + 1) (css.set k (verC l[k] u x).toList) := by
  obtain ⟨g', h1, h2, h3⟩ := (h.row.below hb).row
  have h1' := h1
  simp only [Value.slice.injEq, Option.some.injEq, Addr.mk.injEq, and_true] at h1'
  obtain ⟨rfl, hc⟩ := h1'
  have h8 := h.eight
  have hl := h.len
  have hl0 := h.l0
  have hfl : css.flatten.length = l.length * 8 := h.row.lx
  have ho := h.old k hk (by omega) (by omega) (Nat.le_refl _)
  have h4 := heap_set_same (j := k * 8 + 6) (v := u) h3
  refine ⟨((bstep h.bel hb).setCell h2 _).setCell h2 _, by rw [List.length_set]; exact hl, ?_, ?_, ?_, hl0⟩
  · refine ⟨?_, h.row.ls, h.row.mx, g, h1, h2, ?_⟩
    · rw [← flat8_set h8 (by omega) l[k] _ _ u x ho, List.length_set, List.length_set, hfl]
    · rw [heap_set_same h4, List.setIfInBounds_toArray, List.setIfInBounds_toArray, List.set_append, if_pos (by omega), List.set_append, if_pos (by rw [List.length_set]; omega), flat8_set h8 (by omega) l[k] _ _ u x ho]
  · intro i hi hi' hik
    rw [List.length_set] at hi'
    by_cases he : i = k
    · subst he
      refine ⟨u, x, by simp only [List.getElem_set_self], ((hu.mono h.bel.size).setOther h3 (by decide) (by decide)).setOther h4 (by decide) (by decide)⟩
    · obtain ⟨u2, x2, q1, q2⟩ := h.new i hi hi' (by omega)
      exact ⟨u2, x2, by rw [List.getElem_set_ne (by omega)]; exact q1, ((q2.below hb).setOther h3 (by decide) (by decide)).setOther h4 (by decide) (by decide)⟩
  · intro i hi hi' h2' hik
    rw [List.length_set] at hi'
    rw [List.getElem_set_ne (by omega)]
    exact h.old i hi hi' h2' (by omega)
theorem RvSt.done {w0 w : World} {v : Value} {l : List Ver} {us0 : List (Value × Value)} {css : List (List Value)} (h : RvSt w0 w v l us0 l.length css) : RoomV w w0.heap.size v l := ⟨css, h.len, h.row, fun i hi hi' => h.new i hi hi' hi⟩
/-- A row of versions, its cells, and where the pasts lie. -/
theorem vers_parts {w : World} {v : Value} {l : List Ver} (h : RowAt verE w v l) : ∃ (css : List (List Value)) (us : List (Value × Value)), css.length = l.length ∧ us.length = l.length ∧ CellsAt w v l.length css.flatten ∧ (∀ c ∈ css, c.length = 8) ∧ (∀ u ∈ css.flatten, u.oneCell' = true) ∧ ∀ i (h : i < l.length) (h' : i < css.length) (h2 : i < us.length), css[i] = (verC l[i] us[i].1 us[i].2).toList ∧ KnAt w us[i].1 us[i].2 l[i].past := by
  obtain ⟨css, h1, h2⟩ := h
  have key : ∀ (l : List Ver) (css : List (List Value)), Els verE w l css → ∃ us : List (Value × Value), us.length = l.length ∧ ∀ i (h : i < l.length) (h' : i < css.length) (h2 : i < us.length), css[i] = (verC l[i] us[i].1 us[i].2).toList ∧ KnAt w us[i].1 us[i].2 l[i].past := by
    intro l
    induction l with
    | nil => intro css _; exact ⟨[], rfl, fun i h => by simp at h⟩
    | cons v l ih =>
      intro css h
      cases css with
      | nil => exact h.elim
      | cons c css =>
        obtain ⟨⟨u, x, k1, k2⟩, h3⟩ := h
        obtain ⟨us, q1, q2⟩ := ih css h3
        refine ⟨(u, x) :: us, by simp [q1], fun i hi hi' hi2 => ?_⟩
        cases i with
        | zero => exact ⟨k1, k2⟩
        | succ i => exact q2 i (by simpa using hi) (by simpa using hi') (by simpa using hi2)
  obtain ⟨us, k1, k2⟩ := key l css h1
  refine ⟨css, us, h1.length, k1, h2, fun c hc => ?_, h1.one, k2⟩
  obtain ⟨i, hi, rfl⟩ := List.mem_iff_getElem.1 hc
  have := h1.length
  rw [(k2 i (by omega) hi (by omega)).1]; rfl
end Go.Proofs.Ythnkmjjldggecaa
namespace Go.Proofs.Ythnkmjjldggecaa
open Go.RowKit
/-- A value that is a set of dots with room. -/
def RoomKv (w : World) (base : Nat) (v : Value) (k : Kn) : Prop := ∃ u x, v = .agg #[u, x] ∧ RoomK w base u x k
theorem RoomKv.below {w w' : World} {base : Nat} {v : Value} {k : Kn} (h : RoomKv w base v k) (hb : Below w.heap.size w w') : RoomKv w' base v k := by
  obtain ⟨u, x, h1, h2⟩ := h; exact ⟨u, x, h1, h2.below hb⟩
/-- The result's cell is filled. -/
def RkDone (w0 : World) (w : World) (k : Kn) : Prop := ∃ u x, w.heap[w0.heap.size + 1]? = some (.cells #[u, x] 81 (0, 0)) ∧ RoomK w w0.heap.size u x k ∧ Below w0.heap.size w0 w
theorem RoomK.low {w : World} {base g j : Nat} {u x y : Value} {k : Kn} {cs : Array Value} (h : RoomK w base u x k) (hg : w.heap[g]? = some (.cells cs 81 (0, 0))) : RoomK (w.setCell ⟨g, j, none⟩ y) base u x k := h.setOther hg (by decide) (by decide)
theorem RkDone.below {w0 w w' : World} {k : Kn} (h : RkDone w0 w k) (hb : Below w.heap.size w w') : RkDone w0 w' k := by
  obtain ⟨u, x, h1, h2, h3⟩ := h
  exact ⟨u, x, below_keep hb h1, h2.below hb, bstep h3 hb⟩
set_option maxRecDepth 100000 in
set_option maxHeartbeats 4000000 in
theorem roomyKnow_c (u x : Value) (k : Kn) (w : World) (hk : KnAt w u x k) (hz : SzK k) :
    Calls Try.prog 50 #[.agg #[u, x]] w fun e w' => ∃ u' x', e = .returned (.agg #[u', x']) ∧ RoomK w' w.heap.size u' x' k ∧ Below w.heap.size w w' := by
  obtain ⟨ua, uc, rfl⟩ := hk.vec.shape
  obtain ⟨xa, xc, rfl⟩ := hk.more.shape
  obtain ⟨W, hW⟩ : ∃ W, W = (w.alloc (.cells #[.slice ua k.vec.length uc, .slice xa k.more.length xc] 81)).alloc (.cells #[.slice none 0 0, .slice none 0 0] 81) := ⟨_, rfl⟩
  have hb : Below w.heap.size w W := by rw [hW]; exact (bal _).alloc (by simp) _
  have K1 := (show W.heap[w.heap.size]? = some (Obj.cells #[.slice ua k.vec.length uc, .slice xa k.more.length xc] 81 (0, 0)) by rw [hW]; exact alloc_keep _ (alloc_new _ _ _ _ rfl))
  have K2 := Lib.hid (show W.heap[w.heap.size + 1]? = some (Obj.cells #[.slice none 0 0, .slice none 0 0] 81 (0, 0)) by rw [hW]; exact alloc_new _ _ _ _ (by simp))
  have A0 := Lib.hid (cell_of_block (j := 0) K1 rfl)
  have A1 := Lib.hid (cell_of_block (j := 1) K1 rfl)
  have HB := Lib.hid hb
  have HK := Lib.hid (hk.below hb)
  have HZ := Lib.hid hz
  have HV := Lib.hid (fun wx (h : Below W.heap.size W wx) => roomy_int _ k.vec.length (intsC k.vec) (-7) wx (HK.out.below h).vec (by rw [intsC_length, Nat.mul_one]) (intsC_one _) HZ.out.vec)
  have HM := Lib.hid (fun wx (h : Below W.heap.size W wx) => roomy_dot _ k.more.length (spansCells k.more) (-7) 0 wx (HK.out.below h).more (spansCells_length _) (spansCells_one _) HZ.out.more)
  clear hk hb hz K1
  go_enter Try.func50, Try.ntmps50
  go_wp2_with fail
  rw [← hW]
  clear hW
  refine Cl.region0 11 rfl [8] (fun w => Below W.heap.size W w) (fun jq => match jq with | 2 => [8] | 6 => [8] | 7 => [8] | _ => []) (fun jq v ww => match jq with | 0 => v = .pointer (some ⟨w.heap.size, 0, none⟩) | 1 => v = .slice ua k.vec.length uc | 2 => Roomy ww w.heap.size 3 1 v k.vec.length (intsC k.vec) spI | 3 => v = .pointer (some ⟨w.heap.size, 1, none⟩) | 4 => v = .slice xa k.more.length xc | 5 => v = .agg #[.int .i64 (-7), .int .i64 0] | 6 => Roomy ww w.heap.size 92 2 v k.more.length (spansCells k.more) spD | 7 => RoomKv ww w.heap.size v k | 8 => RkDone w ww k | _ => True) (fun ww => Below w.heap.size w ww) (fun jq ww ww' => jq ≠ 8 → Below ww.heap.size ww ww') Try.mixed (by decide +kernel) (HB.out).drew ((Below.refl _ _).drew) ?_ (fun q w w' hk h hR => bstep h (hR (by simpa using hk))) ?_ ?_
  · intro q r v w w' hne hk hlt h hR
    match r, hk, hlt, h, hne with
    | 0, _, _, h, _ => exact h
    | 1, _, _, h, _ => exact h
    | 2, hk, _, h, _ => exact h.below (hR (by simpa using hk))
    | 3, _, _, h, _ => exact h
    | 4, _, _, h, _ => exact h
    | 5, _, _, h, _ => exact h
    | 6, hk, _, h, _ => exact h.below (hR (by simpa using hk))
    | 7, hk, _, h, _ => exact h.below (hR (by simpa using hk))
    | 8, _, _, h, hne => exact h.below (hR (by exact hne))
    | _ + 9, _, _, _, _ => trivial
  · refine ⟨?_, ?_, ?_, ?_, ?_, ?_, ?_, ?_, ?_, trivial⟩
    · intro x wx hG
      have f1 := hG.old 1 (by decide +kernel)
      have hp := hG.pre (by decide +kernel)
      have hg := hG.good
      clear hG
      go_wp2
      exact ⟨_, rfl, rfl, hg, fun _ => Below.refl _ _⟩
    · intro x wx hG
      have g0 : (x.tmps.getD 3 undef) = .pointer (some ⟨w.heap.size, 0, none⟩) := hG.claims 0 _ rfl (by decide +kernel) (by decide +kernel)
      have hp := hG.pre (by decide +kernel)
      have hg := hG.good
      clear hG
      have c_A := ckeep hp A0.out
      go_wp2
      exact ⟨_, rfl, rfl, hg, fun _ => Below.refl _ _⟩
    · intro x wx hG
      have g1 : (x.tmps.getD 4 undef) = .slice ua k.vec.length uc := hG.claims 1 _ rfl (by decide +kernel) (by decide +kernel)
      have hp := hG.pre (by decide +kernel)
      have hg := hG.good
      clear hG
      have hp9 := Lib.hid hp
      go_wp2_with fail
      (with_reducible refine (HV.out _ hp).mono ?_)
      rintro e wq ⟨v9, rfl, hr, hb⟩
      have HR := Lib.hid (hr.mono (Nat.le_trans HB.out.size hp9.out.size))
      have HBB := Lib.hid hb
      have HG := Lib.hid hg
      clear hr hb hp hg
      go_wp2
      exact ⟨_, rfl, HR.out, bstep HG.out HBB.out, fun _ => HBB.out⟩
    · intro x wx hG
      have f1 := hG.old 1 (by decide +kernel)
      have hp := hG.pre (by decide +kernel)
      have hg := hG.good
      clear hG
      go_wp2
      exact ⟨_, rfl, rfl, hg, fun _ => Below.refl _ _⟩
    · intro x wx hG
      have g3 : (x.tmps.getD 6 undef) = .pointer (some ⟨w.heap.size, 1, none⟩) := hG.claims 3 _ rfl (by decide +kernel) (by decide +kernel)
      have hp := hG.pre (by decide +kernel)
      have hg := hG.good
      clear hG
      have c_A := ckeep hp A1.out
      go_wp2
      exact ⟨_, rfl, rfl, hg, fun _ => Below.refl _ _⟩
    · intro x wx hG
      have hp := hG.pre (by decide +kernel)
      have hg := hG.good
      clear hG
      go_wp2
      exact ⟨_, rfl, rfl, hg, fun _ => Below.refl _ _⟩
    · intro x wx hG
      have g4 : (x.tmps.getD 7 undef) = .slice xa k.more.length xc := hG.claims 4 _ rfl (by decide +kernel) (by decide +kernel)
      have g5 : (x.tmps.getD 8 undef) = .agg #[.int .i64 (-7), .int .i64 0] := hG.claims 5 _ rfl (by decide +kernel) (by decide +kernel)
      have hp := hG.pre (by decide +kernel)
      have hg := hG.good
      clear hG
      have hp9 := Lib.hid hp
      go_wp2_with fail
      (with_reducible refine (HM.out _ hp).mono ?_)
      rintro e wq ⟨v9, rfl, hr, hb⟩
      have HR := Lib.hid (hr.mono (Nat.le_trans HB.out.size hp9.out.size))
      have HBB := Lib.hid hb
      have HG := Lib.hid hg
      clear hr hb hp hg
      go_wp2
      exact ⟨_, rfl, HR.out, bstep HG.out HBB.out, fun _ => HBB.out⟩
    · intro x wx hG
      have g2 : Roomy wx w.heap.size 3 1 (x.tmps.getD 5 undef) k.vec.length (intsC k.vec) spI := hG.claims 2 _ rfl (by decide +kernel) (by decide +kernel)
      have g6 : Roomy wx w.heap.size 92 2 (x.tmps.getD 9 undef) k.more.length (spansCells k.more) spD := hG.claims 6 _ rfl (by decide +kernel) (by decide +kernel)
      have hp := hG.pre (by decide +kernel)
      have hg := hG.good
      clear hG
      obtain ⟨gu, hgu, -, -⟩ := g2.shape
      obtain ⟨gx, hgx, -, -⟩ := g6.shape
      have hgub := hgu
      have hgxb := hgx
      rw [Array.getD_eq_getD_getElem?] at hgub hgxb
      rw [hgu] at g2
      rw [hgx] at g6
      have HV9 := Lib.hid g2
      have HD9 := Lib.hid g6
      clear g2 g6
      go_wp2
      exact ⟨_, rfl, ⟨_, _, rfl, ⟨HV9.out, HD9.out⟩⟩, hg, fun _ => Below.refl _ _⟩
    · intro x wx hG
      have f2 := hG.old 2 (by decide +kernel)
      have g7 : RoomKv wx w.heap.size (x.tmps.getD 10 undef) k := hG.claims 7 _ rfl (by decide +kernel) (by decide +kernel)
      have hp := hG.pre (by decide +kernel)
      have hg := hG.good
      clear hG
      obtain ⟨u9, x9, hv9, hr9⟩ := g7
      have hv9b := hv9
      rw [Array.getD_eq_getD_getElem?] at hv9b
      obtain ⟨gu, rfl, -, -⟩ := hr9.vec.shape
      obtain ⟨gx, rfl, -, -⟩ := hr9.more.shape
      have kb := below_keep hp K2.out
      have r0 := cell_of_block (j := 0) kb rfl
      have r1 := cell_of_block (j := 1) kb rfl
      have f0 := free_of_block (j := 0) kb
      have f1 := free_of_block (j := 1) kb
      have hRl := hlt_of kb
      have h4 := heap_set_same (j := 0) (v := .slice (some ⟨gu, 0, none⟩) k.vec.length (k.vec.length + 3)) kb
      have HN := Lib.hid (show RkDone w (((wx.setCell ⟨w.heap.size + 1, 0, none⟩ (.slice (some ⟨gu, 0, none⟩) k.vec.length (k.vec.length + 3))).setCell ⟨w.heap.size + 1, 1, none⟩ (.slice (some ⟨gx, 0, none⟩) k.more.length (k.more.length + 3)))) k from ⟨_, _, heap_set_same h4, (hr9.low kb).low h4, ((bstep HB.out hp).setCell (Nat.le_succ _) _).setCell (Nat.le_succ _) _⟩)
      clear kb h4 hr9 hp hg
      go_wp2
      exact ⟨undef, rfl, HN.out, HN.out.choose_spec.choose_spec.2.2, fun h => absurd rfl h⟩
  · intro vals wz hg hF
    obtain ⟨g0, g1, g2, g3, g4, g5, g6, g7, g8, -⟩ := hF
    have e0 : vals 0 = .pointer (some ⟨w.heap.size, 0, none⟩) := g0 rfl
    have e1 : vals 1 = .slice ua k.vec.length uc := g1 rfl
    have e3 : vals 3 = .pointer (some ⟨w.heap.size, 1, none⟩) := g3 rfl
    have e4 : vals 4 = .slice xa k.more.length xc := g4 rfl
    have e5 : vals 5 = .agg #[.int .i64 (-7), .int .i64 0] := g5 rfl
    replace g8 : RkDone w wz k := g8 rfl
    simp only [Cl.puts, e0, e1, e3, e4, e5]
    clear e0 e1 e3 e4 e5 g0 g1 g2 g3 g4 g5 g6 g7
    go_simp
    obtain ⟨u', x', h1, h2, h3⟩ := g8
    obtain ⟨gu, rfl, -, -⟩ := h2.vec.shape
    obtain ⟨gx, rfl, -, -⟩ := h2.more.shape
    have r0 := cell_of_block (j := 0) h1 rfl
    have r1 := cell_of_block (j := 1) h1 rfl
    have hl := hlt_of h1
    have HR := Lib.hid h2
    have HBF := Lib.hid h3
    clear h1 h2 h3 hg
    go_wp2
    refine bodyPost_ret (v := .agg #[.slice (some ⟨gu, 0, none⟩) k.vec.length (k.vec.length + 3), .slice (some ⟨gx, 0, none⟩) k.more.length (k.more.length + 3)]) (by simp [results, Try.results50, go_sem, *]) rfl ?_
    exact ⟨_, _, rfl, HR.out, HBF.out⟩
set_option maxRecDepth 100000 in
set_option maxHeartbeats 4000000 in
theorem keptKnow_c (u x y z : Value) (base : Nat) (k : Kn) (w : World) (ha : RoomK w base u x k) (hb : KnAt w y z k) (hz : SzK k) :
    Calls Try.prog 55 #[.agg #[u, x], .agg #[y, z]] w fun e w' => e = .returned (.bool true) ∧ Below w.heap.size w w' := by
  obtain ⟨gu, rfl, -, -⟩ := ha.vec.shape
  obtain ⟨gx, rfl, -, -⟩ := ha.more.shape
  obtain ⟨ya, yc, rfl⟩ := hb.vec.shape
  obtain ⟨za, zc, rfl⟩ := hb.more.shape
  obtain ⟨W, hW⟩ : ∃ W, W = (w.alloc (.cells #[.slice (some ⟨gu, 0, none⟩) k.vec.length (k.vec.length + 3), .slice (some ⟨gx, 0, none⟩) k.more.length (k.more.length + 3)] 81)).alloc (.cells #[.slice ya k.vec.length yc, .slice za k.more.length zc] 81) := ⟨_, rfl⟩
  have hbw : Below w.heap.size w W := by rw [hW]; exact (bal _).alloc (by simp) _
  have K1 := Lib.hid (show W.heap[w.heap.size]? = some (Obj.cells #[.slice (some ⟨gu, 0, none⟩) k.vec.length (k.vec.length + 3), .slice (some ⟨gx, 0, none⟩) k.more.length (k.more.length + 3)] 81 (0, 0)) by rw [hW]; exact alloc_keep _ (alloc_new _ _ _ _ rfl))
  have HB := Lib.hid hbw
  have HR := Lib.hid (ha.below hbw)
  have HZ := Lib.hid hz
  have HS := Lib.hid (sameK_c _ _ _ _ k k W ((ha.own.atZ hz).below hbw) (hb.below hbw))
  have K2 := (show W.heap[w.heap.size + 1]? = some (Obj.cells #[.slice ya k.vec.length yc, .slice za k.more.length zc] 81 (0, 0)) by rw [hW]; exact alloc_new _ _ _ _ (by simp))
  have x0 := cell_of_block (j := 0) K1.out rfl
  have x1 := cell_of_block (j := 1) K1.out rfl
  have y0 := cell_of_block (j := 0) K2 rfl
  have y1 := cell_of_block (j := 1) K2 rfl
  have l1 := hlt_of K1.out
  have l2 := hlt_of K2
  rw [hW] at x0 x1 y0 y1 l1 l2
  clear ha hb hz hbw K2
  go_enter Try.func55, Try.ntmps55
  go_wp2_with fail
  rw [← hW]
  clear x0 x1 y0 y1 l1 l2 hW
  (with_reducible refine (HS.out).mono ?_)
  rintro e w1 ⟨rfl, hb1⟩
  have HB1 := Lib.hid hb1
  have HM1 := Lib.hid (marked_int _ _ k.vec.length (intsC k.vec) (-7) w1 (HR.out.vec.below hb1) (by have := HZ.out.vec; omega))
  have k1 := below_keep hb1 K1.out
  have x0 := cell_of_block (j := 0) k1 rfl
  have l1 := hlt_of k1
  simp only [decide_true]
  clear hb1 HS k1
  go_wp2_with fail
  (with_reducible refine (HM1.out).mono ?_)
  rintro e w2 ⟨rfl, hb2⟩
  have HB2 := Lib.hid (bstep HB1.out hb2)
  have HM2 := Lib.hid (marked_dot _ _ k.more.length (spansCells k.more) (-7) 0 w2 (HR.out.more.below HB2.out) (by have := HZ.out.more; omega))
  have k1 := below_keep HB2.out K1.out
  have x1 := cell_of_block (j := 1) k1 rfl
  clear x0 l1
  have l1 := hlt_of k1
  clear hb2 HM1 k1 HB1
  go_wp2_with fail
  (with_reducible refine (HM2.out).mono ?_)
  rintro e w3 ⟨rfl, hb3⟩
  have HB3 := Lib.hid (HB.out.trans ((bstep HB2.out hb3).mono HB.out.size))
  clear hb3 HM2 x1 l1
  go_wp2
  go_ret
  exact ⟨rfl, HB3.out⟩
theorem ShRow.off {w : World} {e size g : Nat} {v : Value} {cs : Array Value} {t : TypeId} (h : ShRow w e size v) (hg : w.heap[g]? = some (.cells cs t (0, 0))) (hne : t ≠ e) : v.ownBlock ≠ some g := by
  rcases h with rfl | ⟨g', n, cap, cur, rfl, -, -, h4, -⟩
  · simp [Value.ownBlock]
  · simp only [Value.ownBlock, ne_eq, Option.some.injEq]
    rintro rfl
    rw [h4] at hg
    simp only [Option.some.injEq, Obj.cells.injEq] at hg
    exact hne hg.2.1.symm
theorem ShRow.shape {w : World} {e size : Nat} {v : Value} (h : ShRow w e size v) : ∃ a n c, v = .slice a n c := by
  rcases h with rfl | ⟨g', n, cap, cur, rfl, -⟩
  · exact ⟨_, _, _, rfl⟩
  · exact ⟨_, _, _, rfl⟩
set_option maxRecDepth 100000 in
set_option maxHeartbeats 4000000 in
theorem wasteKnow_s (u x : Value) (w : World) (hu : ShRow w 3 1 u) (hx : ShRow w 92 2 x) :
    Calls Try.prog 57 #[.agg #[u, x]] w fun e w' => e = .returned (.tuple #[]) ∧ Sp (fun q => u.ownBlock = some q ∨ x.ownBlock = some q) w w' := by
  have HU := Lib.hid hu
  have HX := Lib.hid hx
  obtain ⟨ua, un, uc, rfl⟩ := hu.shape
  obtain ⟨xa, xn, xc, rfl⟩ := hx.shape
  obtain ⟨W, hW⟩ : ∃ W, W = w.alloc (.cells #[.slice ua un uc, .slice xa xn xc] 81) := ⟨_, rfl⟩
  have hbw : Below w.heap.size w W := by rw [hW]; exact bal _
  have K1 := Lib.hid (show W.heap[w.heap.size]? = some (Obj.cells #[.slice ua un uc, .slice xa xn xc] 81 (0, 0)) by rw [hW]; exact alloc_new _ _ _ _ rfl)
  have HB := Lib.hid hbw
  have HV := Lib.hid ((hu.sp (S := fun _ => False) (Sp.of_below hbw)).off K1.out (by decide))
  have HC := Lib.hid (spoil_int _ 9 W (HU.out.sp (S := fun _ => False) (Sp.of_below hbw)))
  have x0 := cell_of_block (j := 0) K1.out rfl
  have l1 := hlt_of K1.out
  rw [hW] at x0 l1
  clear hu hx hbw
  go_enter Try.func57, Try.ntmps57
  go_wp2_with fail
  rw [← hW]
  clear x0 l1 hW
  (with_reducible refine (HC.out).mono ?_)
  rintro e w1 ⟨rfl, hs1⟩
  have HS1 := Lib.hid hs1
  have k1 := hs1.block K1.out (fun hq => HV.out hq)
  have x1 := cell_of_block (j := 1) k1 rfl
  have l1 := hlt_of k1
  have HD := Lib.hid (spoil_dot _ 3 9 w1 ((HX.out.sp (S := fun _ => False) (Sp.of_below HB.out)).sp hs1))
  clear hs1 HC k1
  go_wp2_with fail
  (with_reducible refine (HD.out).mono ?_)
  rintro e w2 ⟨rfl, hs2⟩
  have HF := Lib.hid ((Sp.of_below HB.out).trans ((HS1.out.mono (T := fun q => (Value.slice ua un uc).ownBlock = some q ∨ (Value.slice xa xn xc).ownBlock = some q) fun q hq => .inl hq).trans (hs2.mono fun q hq => .inr hq)))
  clear hs2 HD x1 l1
  go_wp2
  refine bodyPost_end (v := .tuple #[]) ?_ rfl ?_
  · simp [results, Try.results57, go_sem]
  · exact ⟨rfl, HF.out⟩
end Go.Proofs.Ythnkmjjldggecaa
namespace Go.Proofs.Ythnkmjjldggecaa
open Go.RowKit
set_option maxRecDepth 100000 in
set_option maxHeartbeats 4000000 in
theorem roomyShelf_c (v : Value) (l : List Ver) (w : World) (hv : RowAt verE w v l) (hz : SzV l) :
    Calls Try.prog 62 #[v] w fun e w' => ∃ v', e = .returned v' ∧ RoomV w' w.heap.size v' l ∧ Below w.heap.size w w' := by
  obtain ⟨css, us0, h1, h2, h3, h4, h5, h6⟩ := vers_parts hv
  obtain ⟨a, cap, rfl⟩ := h3.shape
  have hfl : css.flatten.length = l.length * 8 := by
    rw [← h1]
    clear h1 h2 h3 h5 h6 hv
    induction css with
    | nil => rfl
    | cons c css ih => rw [List.flatten_cons, List.length_append, h4 c (by simp), ih (fun d hd => h4 d (by simp [hd])), List.length_cons]; omega
  have HR := Lib.hid (roomy_ver (.slice a l.length cap) l.length css.flatten ⟨#[]⟩ 0 0 0 0 (-7) w h3 hfl h5 hz.len)
  have HL1 := Lib.hid h1
  have HL2 := Lib.hid h2
  have HP := Lib.hid h6
  have hl9 := hz.l
  have HZ := Lib.hid hz
  clear h1 h2 h3 h4 h5 h6 hz hv hfl
  go_enter Try.func62, Try.ntmps62
  go_wp2_with fail
  (with_reducible refine (HR.out).mono ?_)
  rintro e w1 ⟨v1, rfl, hr, hb⟩
  obtain ⟨g, rfl, hg1, hg0⟩ := hr.shape
  have M0 := Lib.hid (show RvSt w w1 (.slice (some ⟨g, 0, none⟩) l.length (l.length + 3)) l us0 0 css from ⟨hb, HL1.out, hr, fun _ _ _ h => absurd h (Nat.not_lt_zero _), fun i hi hi' hi2 _ => (HP.out i hi hi' hi2).1, HL2.out⟩)
  have HK0 := Lib.hid (fun i (hi : i < l.length) (hi2 : i < us0.length) => (HP.out i hi (by rw [HL1.out]; exact hi) hi2).2)
  clear hr hb HR hg1 HP HL1
  go_wp2
  go_loopw [10] (fun i wr => ∃ (k : Nat) (css : List (List Value)), k ≤ l.length ∧ i = .int .i64 k ∧ RvSt w wr (.slice (some ⟨g, 0, none⟩) l.length (l.length + 3)) l us0 k css) (fun i _ => l.length - (intOf i).toNat)
  case atStart => exact ⟨0, css, Nat.zero_le _, rfl, M0.out⟩
  case round =>
    obtain ⟨k, cs, hk, rfl, hM⟩ := hrel
    have M := Lib.hid hM
    clear M0 hM
    by_cases hlt : k < l.length
    · have hltb : decide ((k : Int) < (l.length : Int)) = true := by simp; omega
      have hcl := M.out.len
      have hku : k < cs.length := by omega
      have hku0 : k < us0.length := by have := HL2.out; omega
      obtain ⟨g', e1, e2, e3⟩ := M.out.row.row
      simp only [Value.slice.injEq, Option.some.injEq, Addr.mk.injEq, and_true] at e1
      obtain ⟨rfl, -⟩ := e1
      have ho := M.out.old k hlt hku hku0 (Nat.le_refl _)
      have hfl := M.out.row.lx
      have hget := fun j (hj : j < 8) => flat8_get M.out.eight hku j hj
      rw [ho] at hget
      have d6 := cell_of_block (j := k * 8 + 6) e3 (by rw [List.getElem?_toArray, List.getElem?_append_left (by omega), hget 6 (by decide)]; rfl)
      have d7 := cell_of_block (j := k * 8 + 7) e3 (by rw [List.getElem?_toArray, List.getElem?_append_left (by omega), hget 7 (by decide)]; rfl)
      have hgw := hlt_of e3
      have hkn := (HK0.out k hlt hku0).below M.out.bel
      have HRS := Lib.hid (roomyKnow_c _ _ l[k].past wr hkn (HZ.out.past _ (List.getElem_mem hlt)))
      have HST := Lib.hid (fun w2 (hb : Below wr.heap.size wr w2) u x (hu : RoomK w2 wr.heap.size u x l[k].past) => M.out.step hlt hb hu)
      obtain ⟨ua, uc, hua⟩ := hkn.vec.shape
      obtain ⟨xa, xc, hxa⟩ := hkn.more.shape
      clear e3 e2 hcl hku hkn ho hget hfl
      generalize us0[k] = u0 at *
      obtain ⟨u0a, u0b⟩ := u0
      dsimp only at *
      subst hua
      subst hxa
      go_wp2_with fail
      (with_reducible refine (HRS.out).mono ?_)
      rintro e w2 ⟨u', x', rfl, hu', hb2⟩
      have HN := Lib.hid (HST.out w2 hb2 u' x' hu')
      obtain ⟨gu, rfl, -, -⟩ := hu'.vec.shape
      obtain ⟨gx, rfl, -, -⟩ := hu'.more.shape
      obtain ⟨g', e1, e2, e3⟩ := (M.out.row.below hb2).row
      simp only [Value.slice.injEq, Option.some.injEq, Addr.mk.injEq, and_true] at e1
      obtain ⟨rfl, -⟩ := e1
      have d6' := ckeep hb2 d6
      have d7' := ckeep hb2 d7
      have f6 := free_of_block (j := k * 8 + 6) e3
      have f7 := free_of_block (j := k * 8 + 7) e3
      have hgw2 := hlt_of e3
      clear e3 e2 hu' hb2 HRS HST d6 d7 M
      go_wp2
      go_roundw
      case rel => exact ⟨k + 1, _, by omega, by go_num, HN.out⟩
      case measure => simp [intOf] <;> omega
    · obtain rfl : k = l.length := by omega
      have HF := Lib.hid M.out.done
      have HB := Lib.hid M.out.bel
      clear M
      go_wp2
      go_ret
      exact ⟨_, rfl, HF.out, HB.out⟩
set_option maxRecDepth 100000 in
set_option maxHeartbeats 4000000 in
theorem keptShelf_c (v v2 : Value) (base : Nat) (l : List Ver) (w : World) (hv : RoomV w base v l) (hv2 : RowAt verE w v2 l) (hz : SzV l) :
    Calls Try.prog 67 #[v, v2] w fun e w' => e = .returned (.bool true) ∧ Below w.heap.size w w' := by
  have HA := Lib.hid (hv.at_ hz)
  obtain ⟨css, hu, hr, hs⟩ := hv
  obtain ⟨g, rfl, hg, -⟩ := hr.shape
  obtain ⟨a2, c2, rfl⟩ := hv2.shape
  have H8 := Lib.hid (show ∀ c ∈ css, c.length = 8 from fun c hc => by
    obtain ⟨i, hi, rfl⟩ := List.mem_iff_getElem.1 hc
    obtain ⟨u, x, q, -⟩ := hs i (by omega) hi
    rw [q]; rfl)
  have HR := Lib.hid hr
  have HU := Lib.hid hu
  have HS := Lib.hid hs
  have H2 := Lib.hid hv2
  have HZ := Lib.hid hz
  have hl9 := hz.l
  clear hv2 hr hu hs hz
  go_enter Try.func67, Try.ntmps67
  go_wp2
  go_loopw [11] (fun i wr => ∃ k : Nat, k ≤ l.length ∧ i = .int .i64 k ∧ Below w.heap.size w wr) (fun i _ => l.length - (intOf i).toNat)
  case atStart => exact ⟨0, Nat.zero_le _, rfl, Below.refl _ _⟩
  case round =>
    obtain ⟨k, hk, rfl, hb⟩ := hrel
    have HB := Lib.hid hb
    clear hb
    by_cases hlt : k < l.length
    · have hltb : decide ((k : Int) < (l.length : Int)) = true := by simp; omega
      have hku : k < css.length := by have := HU.out; omega
      obtain ⟨g', e1, e2, e3⟩ := (HR.out.below HB.out).row
      simp only [Value.slice.injEq, Option.some.injEq, Addr.mk.injEq, and_true] at e1
      obtain ⟨rfl, -⟩ := e1
      obtain ⟨u, x, hc, hk2⟩ := HS.out k hlt hku
      have hfl := HR.out.lx
      have hget := fun j (hj : j < 8) => flat8_get H8.out hku j hj
      rw [hc] at hget
      have hcell := fun j (hj : j < 8) y (hy : (verC l[k] u x).toList[j]? = some y) => cell_of_block (j := k * 8 + j) e3 (by rw [List.getElem?_toArray, List.getElem?_append_left (by omega), hget j hj]; exact hy)
      have d0 := hcell 0 (by decide) _ rfl
      have d1 := hcell 1 (by decide) _ rfl
      have d2 := hcell 2 (by decide) _ rfl
      have d3 := hcell 3 (by decide) _ rfl
      have d4 := hcell 4 (by decide) _ rfl
      have d5 := hcell 5 (by decide) _ rfl
      have d6 := hcell 6 (by decide) _ rfl
      have d7 := hcell 7 (by decide) _ rfl
      rw [Nat.add_zero] at d0
      have hgw := hlt_of e3
      have HSK := Lib.hid (hk2.below HB.out)
      have HSZ := Lib.hid (HZ.out.past _ (List.getElem_mem hlt))
      obtain ⟨gu, rfl, -, -⟩ := HSK.out.vec.shape
      obtain ⟨gx, rfl, -, -⟩ := HSK.out.more.shape
      clear e3 e2 hfl hget hcell hc hk2
      generalize l[k] = vk at *
      have hsl1 : vk.past.vec.length ≤ 140737488355328 := by have := HSZ.out.vec; omega
      have hsl2 : vk.past.more.length ≤ 140737488355328 := by have := HSZ.out.more; omega
      obtain ⟨BV, hBV⟩ : ∃ BV, BV = wr.heap.size := ⟨_, rfl⟩
      obtain ⟨WV, hWV⟩ : ∃ WV, WV = wr.alloc (.cells #[.string vk.id, .int .i64 vk.ds, .int .i64 vk.dc, .int .i64 vk.tg, .int .i64 vk.nm, .int .i64 vk.bd, .slice (some ⟨gu, 0, none⟩) vk.past.vec.length (vk.past.vec.length + 3), .slice (some ⟨gx, 0, none⟩) vk.past.more.length (vk.past.more.length + 3)] 109) := ⟨_, rfl⟩
      have HB1 := Lib.hid (show Below wr.heap.size wr WV by rw [hWV]; exact bal _)
      have KV := Lib.hid (show WV.heap[BV]? = some (Obj.cells #[.string vk.id, .int .i64 vk.ds, .int .i64 vk.dc, .int .i64 vk.tg, .int .i64 vk.nm, .int .i64 vk.bd, .slice (some ⟨gu, 0, none⟩) vk.past.vec.length (vk.past.vec.length + 3), .slice (some ⟨gx, 0, none⟩) vk.past.more.length (vk.past.more.length + 3)] 109 (0, 0)) by rw [hWV]; exact alloc_new _ _ _ _ hBV)
      have HMK := Lib.hid (marked_int _ base vk.past.vec.length (intsC vk.past.vec) (-7) WV (HSK.out.vec.below HB1.out) hsl1)
      go_wp2_with fail
      rw [← hWV]
      clear hWV d0 d1 d2 d3 d4 d5 d6 d7
      (with_reducible refine (HMK.out).mono ?_)
      rintro e w2 ⟨rfl, hb2⟩
      have HB2 := Lib.hid (bstep HB1.out hb2)
      have HMD := Lib.hid (marked_dot _ base vk.past.more.length (spansCells vk.past.more) (-7) 0 w2 ((HSK.out.more.below HB1.out).below hb2) hsl2)
      have kv := below_keep hb2 KV.out
      have c7 := cell_of_block (j := 7) kv rfl
      have cl := hlt_of kv
      rw [hBV] at c7 cl
      clear hb2 HMK HB1 kv KV hBV
      go_wp2_with fail
      (with_reducible refine (HMD.out).mono ?_)
      rintro e w3 ⟨rfl, hb3⟩
      have HN := Lib.hid (bstep (bstep HB.out HB2.out) hb3)
      clear hb3 HMD HB2 HSK HB c7 cl
      go_wp2
      go_roundw
      case rel => exact ⟨k + 1, by omega, by go_num, HN.out⟩
      case measure => simp [intOf] <;> omega
    · obtain rfl : k = l.length := by omega
      have hq3 : (l.length : Int) + 3 - l.length = 3 := by omega
      have hq4 : l.length + 3 - l.length = 3 := by omega
      obtain ⟨w3, hw3⟩ : ∃ w3, w3 = wr := ⟨_, rfl⟩
      rw [← hw3] at HB ⊢
      clear hw3 hlt hk
      go_wp2
      go_loopw [36] (fun v wr => ∃ i : Nat, i ≤ 3 ∧ v = .int .i64 i ∧ Below w.heap.size w wr) (fun v _ => 3 - (intOf v).toNat)
      case atStart => exact ⟨0, by omega, rfl, HB.out⟩
      case round =>
        obtain ⟨i, hi, rfl, hb⟩ := hrel
        clear HB
        have HB := Lib.hid hb
        clear hb
        by_cases hlt : i < 3
        · have hltb : decide ((i : Int) < 3) = true := by simp; omega
          have HRW := HR.out.below HB.out
          unfold spV at HRW
          have c0 := HRW.spare rfl hlt (j := 0) (by decide) rfl
          have c1 := HRW.spare rfl hlt (j := 1) (by decide) rfl
          have c2 := HRW.spare rfl hlt (j := 2) (by decide) rfl
          have c3 := HRW.spare rfl hlt (j := 3) (by decide) rfl
          have c4 := HRW.spare rfl hlt (j := 4) (by decide) rfl
          have c5 := HRW.spare rfl hlt (j := 5) (by decide) rfl
          have c6 := HRW.spare rfl hlt (j := 6) (by decide) rfl
          have c7 := HRW.spare rfl hlt (j := 7) (by decide) rfl
          have hgw : g < wr.heap.size := Nat.lt_of_lt_of_le hg HB.out.size
          clear HRW
          simp only [Nat.add_zero, ← Nat.add_assoc] at c0 c1 c2 c3 c4 c5 c6 c7
          go_wp2
          go_roundw
          case rel => exact ⟨i + 1, by omega, by go_num, bstep HB.out (bal _)⟩
          case measure => simp [intOf] <;> omega
        · obtain rfl : i = 3 := by omega
          have HSM := Lib.hid (sameS_c _ _ l l wr (HA.out.below HB.out) (H2.out.below HB.out))
          go_wp2_with fail
          (with_reducible refine (HSM.out).mono ?_)
          rintro e w4 ⟨q, rfl, hq, hb4⟩
          obtain rfl : q = true := by simpa using hq
          have HN := Lib.hid (bstep HB.out hb4)
          clear hb4 HSM hq
          go_wp2
          go_ret
          exact ⟨rfl, HN.out⟩
set_option maxRecDepth 100000 in
set_option maxHeartbeats 4000000 in
theorem wasteShelf_c (v : Value) (lo hi : Nat) (l : List Ver) (w : World) (hv : OwnV w lo hi v l) (hz : SzV l) :
    Calls Try.prog 68 #[v] w fun e w' => e = .returned (.tuple #[]) ∧ Sp (fun k => lo ≤ k ∧ k < hi) w w' := by
  obtain ⟨css, hu, hr, hiv, hs⟩ := hv
  obtain ⟨a, c, hva⟩ := owns_slice hr
  have H8 := Lib.hid (show ∀ c ∈ css, c.length = 8 from fun c hc => by
    obtain ⟨i, hi, rfl⟩ := List.mem_iff_getElem.1 hc
    obtain ⟨u, x, q, -⟩ := hs i (by omega) hi
    rw [q]; rfl)
  have HC := Lib.hid (CellsAt.of_owns hr hz.l)
  have HR := Lib.hid hr
  have HU := Lib.hid hu
  have HS := Lib.hid hs
  have HIV := Lib.hid hiv
  have hl9 := hz.l
  subst hva
  clear hr hu hs hiv hz
  go_enter Try.func68, Try.ntmps68
  go_wp2
  go_loopw [6] (fun i wr => ∃ k : Nat, k ≤ l.length ∧ i = .int .i64 k ∧ Sp (fun k => (lo ≤ k ∧ k < hi) ∧ (Value.slice a l.length c).ownBlock ≠ some k) w wr) (fun i _ => l.length - (intOf i).toNat)
  case atStart => exact ⟨0, Nat.zero_le _, rfl, Sp.refl _ _⟩
  case round =>
    obtain ⟨k, hk, rfl, hb⟩ := hrel
    have HB := Lib.hid hb
    clear hb
    by_cases hlt : k < l.length
    · have hltb : decide ((k : Int) < (l.length : Int)) = true := by simp; omega
      have hku : k < css.length := by have := HU.out; omega
      obtain ⟨a', c', e1, -, -, -, e2⟩ := HC.out
      simp only [Value.slice.injEq, true_and] at e1
      obtain ⟨rfl, rfl⟩ := e1
      obtain ⟨u, x, hc, hk2⟩ := HS.out k hlt hku
      have hget := fun j (hj : j < 8) => flat8_get H8.out hku j hj
      rw [hc] at hget
      rcases e2 with hnil | ⟨b, off, rfl, hbw, hcc⟩
      · have := hget 0 (by decide); rw [hnil] at this; simp [verC] at this
      have hkeep := fun j (hj : j < 8) y (h : (verC l[k] u x).toList[j]? = some y) => (show wr.cell? ⟨b, off + (k * 8 + j), none⟩ = some y from (HB.out.cell (p := ⟨b, off + (k * 8 + j), none⟩) hbw (by simp [Value.ownBlock])).trans (hcc _ y ((hget j hj).trans h)))
      have d0 := hkeep 0 (by decide) _ rfl
      have d1 := hkeep 1 (by decide) _ rfl
      have d2 := hkeep 2 (by decide) _ rfl
      have d3 := hkeep 3 (by decide) _ rfl
      have d4 := hkeep 4 (by decide) _ rfl
      have d5 := hkeep 5 (by decide) _ rfl
      have d6 := hkeep 6 (by decide) _ rfl
      have d7 := hkeep 7 (by decide) _ rfl
      simp only [Nat.add_zero, ← Nat.add_assoc] at d0 d1 d2 d3 d4 d5 d6 d7
      have hgw : b < wr.heap.size := Nat.lt_of_lt_of_le hbw HB.out.size
      have HNE := Lib.hid (show ∀ q, (u.ownBlock = some q ∨ x.ownBlock = some q) → (lo ≤ q ∧ q < hi) ∧ (Value.slice (some ⟨b, off, none⟩) l.length c).ownBlock ≠ some q from fun q h => ⟨h.elim (hk2.ru q) (hk2.rx q), fun e => by
        obtain ⟨cs, h1⟩ := owns_type HR.out e
        rcases h with h | h
        · obtain ⟨cs2, h2⟩ := owns_type hk2.own.vec h
          rw [h1] at h2
          simp only [Option.some.injEq, Obj.cells.injEq] at h2
          exact absurd h2.2.1 (by decide)
        · obtain ⟨cs2, h2⟩ := owns_type hk2.own.more h
          rw [h1] at h2
          simp only [Option.some.injEq, Obj.cells.injEq] at h2
          exact absurd h2.2.1 (by decide)⟩)
      have HS1 := Lib.hid ((ShRow.of_owns hk2.own.vec).sp HB.out)
      have HS2 := Lib.hid ((ShRow.of_owns hk2.own.more).sp HB.out)
      obtain ⟨ua, un, uc, rfl⟩ := HS1.out.shape
      obtain ⟨xa, xn, xc, rfl⟩ := HS2.out.shape
      clear hcc hget hkeep hc hk2
      generalize l[k] = vk at *
      have HB1 := Lib.hid (show Below wr.heap.size wr (wr.alloc (.cells #[.string vk.id, .int .i64 vk.ds, .int .i64 vk.dc, .int .i64 vk.tg, .int .i64 vk.nm, .int .i64 vk.bd, .slice ua un uc, .slice xa xn xc] 109)) from bal _)
      have HMK := Lib.hid (wasteKnow_s _ _ _ (HS1.out.sp (S := fun _ => False) (Sp.of_below HB1.out)) (HS2.out.sp (S := fun _ => False) (Sp.of_below HB1.out)))
      go_wp2_with fail
      (with_reducible refine (HMK.out).mono ?_)
      rintro e w2 ⟨rfl, hs2⟩
      have HN := Lib.hid (HB.out.trans ((Sp.of_below HB1.out).trans (hs2.mono HNE.out)))
      clear hs2 HMK HB1 HS1 HS2 d0 d1 d2 d3 d4 d5 d6 d7 HB
      go_wp2
      go_roundw
      case rel => exact ⟨k + 1, by omega, by go_num, HN.out⟩
      case measure => simp [intOf] <;> omega
    · obtain rfl : k = l.length := by omega
      have HSB := Lib.hid (spoil_ver _ ⟨#[115, 112, 111, 105, 108, 116]⟩ 0 0 0 0 0 wr ((ShRow.of_owns HR.out).sp HB.out))
      go_wp2_with fail
      (with_reducible refine (HSB.out).mono ?_)
      rintro e w2 ⟨rfl, hs2⟩
      have HN := Lib.hid ((HB.out.mono fun _ h => h.1).trans (hs2.mono fun q hq => HIV.out q hq))
      clear hs2 HSB HB
      go_wp2
      refine bodyPost_end (v := .tuple #[]) ?_ rfl ?_
      · simp [results, Try.results68, go_sem]
      · exact ⟨rfl, HN.out⟩
end Go.Proofs.Ythnkmjjldggecaa
