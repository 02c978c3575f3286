/- What KnowOwn holds while it runs. No walk here. -/
import Derived.Test.YtboakoipdfmpcaaMRoomF
import Derived.Test.YtboakoipdfmpcaaMRoomK
import Derived.Test.YtboakoipdfmpcaaPartA0
namespace Go.Proofs.Ytboakoipdfmpcaa
open Go.RowKit
theorem SzF.of_ok {l : Bxs} (h : fChk l = 0) : SzF l := by
  obtain ⟨h1, h2⟩ := fChk_zero.1 h
  refine ⟨by omega, fun b hb => ?_⟩
  have := (spansChk_bounds (bxChk_zero.1 (h2 b hb)).2).1
  omega
theorem FzOwn.sp {S : Nat → Prop} {w w' : World} {base : Nat} {z : Fz} (h : FzOwn w base z) (hs : Sp S w w') (hd : ∀ q, fzS z q → ¬ S q) : FzOwn w' base z :=
  ⟨h.len, owns_sp h.row hs fun q hq => hd q (.inl hq), fun i hi hi' => owns_sp (h.each i hi hi') hs fun q hq => hd q (.inr ⟨_, List.getElem_mem hi', hq⟩)⟩
theorem FzOwn.below {w w' : World} {base : Nat} {z : Fz} (h : FzOwn w base z) (hb : Below w.heap.size w w') : FzOwn w' base z := h.sp (S := fun _ => False) (Sp.of_below hb) fun _ _ h => h
theorem FzOwn.at_ {w : World} {base : Nat} {z : Fz} (h : FzOwn w base z) (hz : SzF z.l) : BxsAt w z.v z.l := ⟨z.us, h.len, CellsAt.of_owns h.row hz.l, fun i hi hi' => CellsAt.of_owns (h.each i hi hi') (hz.s _ (List.getElem_mem hi))⟩
theorem FzOwn.rng {w : World} {base : Nat} {z : Fz} (h : FzOwn w base z) {q : Nat} (hq : fzS z q) : base ≤ q ∧ q < w.heap.size := by
  rcases hq with hq | ⟨y, hy, hq⟩
  · exact h.row.lt q hq
  · obtain ⟨i, hi, rfl⟩ := List.mem_iff_getElem.1 hy
    exact (h.each i (by have := h.len; omega) hi).lt q hq
theorem FzOwn.mono {w : World} {base base' : Nat} {z : Fz} (h : FzOwn w base z) (hb : base' ≤ base) : FzOwn w base' z := ⟨h.len, owns_mono h.row hb, fun i a b => owns_mono (h.each i a b) hb⟩
theorem FzOwn.shape {w : World} {base : Nat} {z : Fz} (h : FzOwn w base z) : ∃ a c, z.v = .slice a z.l.length c := owns_slice h.row
theorem RoomF.fz {w : World} {base : Nat} {v : Value} {l : Bxs} (h : RoomF w base v l) : ∃ us, FzOwn w base ⟨v, us, l⟩ := by
  obtain ⟨us, h1, h2, h3⟩ := h
  exact ⟨us, h1, h2.owns, fun i a b => (h3 i a b).owns⟩
/-- A set of dots: its two rows. -/
structure Kz where
  u : Value
  x : Value
  k : Kn
def kzS (z : Kz) (q : Nat) : Prop := z.u.ownBlock = some q ∨ z.x.ownBlock = some q
def KzOwn (w : World) (base : Nat) (z : Kz) : Prop := KnOwn w base z.u z.x z.k
theorem KzOwn.sp {S : Nat → Prop} {w w' : World} {base : Nat} {z : Kz} (h : KzOwn w base z) (hs : Sp S w w') (hd : ∀ q, kzS z q → ¬ S q) : KzOwn w' base z :=
  ⟨owns_sp h.vec hs fun q hq => hd q (.inl hq), owns_sp h.more hs fun q hq => hd q (.inr hq)⟩
theorem KzOwn.rng {w : World} {base : Nat} {z : Kz} (h : KzOwn w base z) {q : Nat} (hq : kzS z q) : base ≤ q ∧ q < w.heap.size := by
  rcases hq with hq | hq
  · exact h.vec.lt q hq
  · exact h.more.lt q hq
theorem kz_fz {w : World} {b1 b2 : Nat} {z : Kz} {y : Fz} (h : KzOwn w b1 z) (h2 : FzOwn w b2 y) {q : Nat} (hq : kzS z q) (hq2 : fzS y q) : False := by
  have key : ∀ {e1 e2 n1 n2 s1 s2 : Nat} {v1 v2 : Value} {x1 x2 : List Value} {c1 c2 : Nat}, w.ownsRow c1 e1 s1 v1 n1 x1 → w.ownsRow c2 e2 s2 v2 n2 x2 → v1.ownBlock = some q → v2.ownBlock = some q → e1 = e2 := by
    intro e1 e2 n1 n2 s1 s2 v1 v2 x1 x2 c1 c2 k1 k2 k3 k4
    obtain ⟨cs, k5⟩ := owns_type k1 k3
    obtain ⟨cs2, k6⟩ := owns_type k2 k4
    rw [k5] at k6
    simp only [Option.some.injEq, Obj.cells.injEq] at k6
    exact k6.2.1
  rcases hq with hq | hq <;> rcases hq2 with hq2 | ⟨y2, hy, hq2⟩
  · exact absurd (key h.vec h2.row hq hq2) (by decide)
  · obtain ⟨i, hi, rfl⟩ := List.mem_iff_getElem.1 hy
    exact absurd (key h.vec (h2.each i (by have := h2.len; omega) hi) hq hq2) (by decide)
  · exact absurd (key h.more h2.row hq hq2) (by decide)
  · obtain ⟨i, hi, rfl⟩ := List.mem_iff_getElem.1 hy
    exact absurd (key h.more (h2.each i (by have := h2.len; omega) hi) hq hq2) (by decide)
/-- Sets of blocks that are apart, all between two marks. -/
structure Apart (lo hi : Nat) (L : List (Nat → Prop)) : Prop where
  rng : ∀ S ∈ L, ∀ q, S q → lo ≤ q ∧ q < hi
  ap : ∀ i j (h1 : i < L.length) (h2 : j < L.length), i ≠ j → ∀ q, L[i] q → L[j] q → False
theorem Apart.nil (lo hi : Nat) : Apart lo hi [] := ⟨fun S h => by simp at h, fun i j h => by simp at h⟩
theorem Apart.one {lo hi : Nat} {S : Nat → Prop} (h : ∀ q, S q → lo ≤ q ∧ q < hi) : Apart lo hi [S] := ⟨fun T hT => by rw [List.mem_singleton] at hT; subst hT; exact h, fun i j h1 h2 hij => by simp at h1 h2; omega⟩
theorem Apart.append {lo m hi : Nat} {L L2 : List (Nat → Prop)} (h : Apart lo m L) (h2 : Apart m hi L2) (h3 : lo ≤ m) (h4 : m ≤ hi) : Apart lo hi (L ++ L2) := by
  refine ⟨fun S hS q hq => ?_, fun i j hi_ hj hij q q1 q2 => ?_⟩
  · rcases List.mem_append.1 hS with hS | hS
    · have := h.rng S hS q hq; omega
    · have := h2.rng S hS q hq; omega
  · rw [List.length_append] at hi_ hj
    by_cases a : i < L.length <;> by_cases b : j < L.length
    · rw [List.getElem_append_left a] at q1
      rw [List.getElem_append_left b] at q2
      exact h.ap i j a b hij q q1 q2
    · rw [List.getElem_append_left a] at q1
      rw [List.getElem_append_right (by omega)] at q2
      have k1 := h.rng _ (List.getElem_mem a) q q1
      have k2 := h2.rng _ (List.getElem_mem _) q q2
      omega
    · rw [List.getElem_append_right (by omega)] at q1
      rw [List.getElem_append_left b] at q2
      have k1 := h2.rng _ (List.getElem_mem _) q q1
      have k2 := h.rng _ (List.getElem_mem b) q q2
      omega
    · rw [List.getElem_append_right (by omega)] at q1 q2
      exact h2.ap (i - L.length) (j - L.length) (by omega) (by omega) (by omega) q q1 q2
/-- The blocks of the first k. -/
def KS (r : List Kz) (k : Nat) (q : Nat) : Prop := ∃ z ∈ r.take k, kzS z q
def FS (r : List Fz) (k : Nat) (q : Nat) : Prop := ∃ z ∈ r.take k, fzS z q
structure KsOk (w : World) (lo hi : Nat) (r : List Kz) : Prop where
  own : ∀ z ∈ r, KzOwn w lo z
  sz : ∀ z ∈ r, SzK z.k
  ap : Apart lo hi (r.map kzS)
structure FsOk (w : World) (lo hi : Nat) (r : List Fz) : Prop where
  own : ∀ z ∈ r, FzOwn w lo z
  sz : ∀ z ∈ r, SzF z.l
  ap : Apart lo hi (r.map fzS)
theorem KS.step {r : List Kz} {k : Nat} (hk : k < r.length) {w w1 w2 : World} (h : Sp (KS r k) w w1) (h2 : Sp (kzS r[k]) w1 w2) : Sp (KS r (k + 1)) w w2 := by
  refine (h.mono fun q hq => ?_).trans (h2.mono fun q hq => ?_)
  · obtain ⟨z, hz, h1⟩ := hq
    exact ⟨z, by rw [List.take_succ_eq_append_getElem hk]; exact List.mem_append_left _ hz, h1⟩
  · exact ⟨r[k], by rw [List.take_succ_eq_append_getElem hk]; exact List.mem_append_right _ (List.mem_singleton.2 rfl), hq⟩
theorem FS.step {r : List Fz} {k : Nat} (hk : k < r.length) {w w1 w2 : World} (h : Sp (FS r k) w w1) (h2 : Sp (fzS r[k]) w1 w2) : Sp (FS r (k + 1)) w w2 := by
  refine (h.mono fun q hq => ?_).trans (h2.mono fun q hq => ?_)
  · obtain ⟨z, hz, h1⟩ := hq
    exact ⟨z, by rw [List.take_succ_eq_append_getElem hk]; exact List.mem_append_left _ hz, h1⟩
  · exact ⟨r[k], by rw [List.take_succ_eq_append_getElem hk]; exact List.mem_append_right _ (List.mem_singleton.2 rfl), hq⟩
theorem KS.rng {w : World} {lo hi : Nat} {r : List Kz} (h : KsOk w lo hi r) {k q : Nat} (hq : KS r k q) : lo ≤ q ∧ q < hi := by
  obtain ⟨z, hz, hq⟩ := hq
  exact h.ap.rng _ (List.mem_map_of_mem (List.mem_of_mem_take hz)) q hq
theorem FS.rng {w : World} {lo hi : Nat} {r : List Fz} (h : FsOk w lo hi r) {k q : Nat} (hq : FS r k q) : lo ≤ q ∧ q < hi := by
  obtain ⟨z, hz, hq⟩ := hq
  exact h.ap.rng _ (List.mem_map_of_mem (List.mem_of_mem_take hz)) q hq
theorem KsOk.still {w w1 : World} {r : List Kz} {lo hi k : Nat} (h : KsOk w lo hi r) (hk : k < r.length) (hs : Sp (KS r k) w w1) : KzOwn w1 lo r[k] := by
  refine (h.own _ (List.getElem_mem hk)).sp hs fun q hq hS => ?_
  obtain ⟨z, hz, hq2⟩ := hS
  obtain ⟨i, hi', rfl⟩ := List.mem_iff_getElem.1 hz
  rw [List.length_take] at hi'
  rw [List.getElem_take] at hq2
  exact h.ap.ap i k (by rw [List.length_map]; omega) (by rw [List.length_map]; exact hk) (by omega) q (by rw [List.getElem_map]; exact hq2) (by rw [List.getElem_map]; exact hq)
theorem FsOk.still {w w1 : World} {r : List Fz} {lo hi k : Nat} (h : FsOk w lo hi r) (hk : k < r.length) (hs : Sp (FS r k) w w1) : FzOwn w1 lo r[k] := by
  refine (h.own _ (List.getElem_mem hk)).sp hs fun q hq hS => ?_
  obtain ⟨z, hz, hq2⟩ := hS
  obtain ⟨i, hi', rfl⟩ := List.mem_iff_getElem.1 hz
  rw [List.length_take] at hi'
  rw [List.getElem_take] at hq2
  exact h.ap.ap i k (by rw [List.length_map]; omega) (by rw [List.length_map]; exact hk) (by omega) q (by rw [List.getElem_map]; exact hq2) (by rw [List.getElem_map]; exact hq)
theorem KsOk.sp {S : Nat → Prop} {w w' : World} {lo hi : Nat} {r : List Kz} (h : KsOk w lo hi r) (hs : Sp S w w') (hd : ∀ q, lo ≤ q → q < hi → ¬ S q) : KsOk w' lo hi r :=
  ⟨fun z hz => (h.own z hz).sp hs fun q hq => by have := h.ap.rng _ (List.mem_map_of_mem hz) q hq; exact hd q this.1 this.2, h.sz, h.ap⟩
theorem FsOk.sp {S : Nat → Prop} {w w' : World} {lo hi : Nat} {r : List Fz} (h : FsOk w lo hi r) (hs : Sp S w w') (hd : ∀ q, lo ≤ q → q < hi → ¬ S q) : FsOk w' lo hi r :=
  ⟨fun z hz => (h.own z hz).sp hs fun q hq => by have := h.ap.rng _ (List.mem_map_of_mem hz) q hq; exact hd q this.1 this.2, h.sz, h.ap⟩
theorem KsOk.below {w w' : World} {lo hi : Nat} {r : List Kz} (h : KsOk w lo hi r) (hb : Below w.heap.size w w') : KsOk w' lo hi r := h.sp (S := fun _ => False) (Sp.of_below hb) fun _ _ _ h => h
theorem FsOk.below {w w' : World} {lo hi : Nat} {r : List Fz} (h : FsOk w lo hi r) (hb : Below w.heap.size w w') : FsOk w' lo hi r := h.sp (S := fun _ => False) (Sp.of_below hb) fun _ _ _ h => h
/-- The filters stay while the sets are written over. -/
theorem FsOk.past {w w' : World} {lo hi lo2 hi2 k : Nat} {r : List Fz} {r2 : List Kz} (h : FsOk w lo hi r) (h2 : KsOk w lo2 hi2 r2) (hs : Sp (KS r2 k) w w') : FsOk w' lo hi r :=
  ⟨fun z hz => (h.own z hz).sp hs fun q hq hS => by
    obtain ⟨y, hy, hq2⟩ := hS
    exact kz_fz (h2.own y (List.mem_of_mem_take hy)) (h.own z hz) hq2 hq, h.sz, h.ap⟩
theorem KsOk.append {w : World} {lo m hi : Nat} {r r2 : List Kz} (h : KsOk w lo m r) (h2 : KsOk w m hi r2) (h3 : lo ≤ m) (h4 : m ≤ hi) : KsOk w lo hi (r ++ r2) :=
  ⟨fun z hz => (List.mem_append.1 hz).elim (h.own z) fun hz => KnOwn.mono (h2.own z hz) h3, fun z hz => (List.mem_append.1 hz).elim (h.sz z) (h2.sz z), by rw [List.map_append]; exact h.ap.append h2.ap h3 h4⟩
theorem FsOk.append {w : World} {lo m hi : Nat} {r r2 : List Fz} (h : FsOk w lo m r) (h2 : FsOk w m hi r2) (h3 : lo ≤ m) (h4 : m ≤ hi) : FsOk w lo hi (r ++ r2) :=
  ⟨fun z hz => (List.mem_append.1 hz).elim (h.own z) fun hz => (h2.own z hz).mono h3, fun z hz => (List.mem_append.1 hz).elim (h.sz z) (h2.sz z), by rw [List.map_append]; exact h.ap.append h2.ap h3 h4⟩
theorem KsOk.one {w : World} {lo hi : Nat} {u x : Value} {k : Kn} (h : OwnK w lo hi u x k) (hz : SzK k) : KsOk w lo hi [⟨u, x, k⟩] :=
  ⟨fun z hz => by rw [List.mem_singleton] at hz; subst hz; exact h.own, fun z h1 => by rw [List.mem_singleton] at h1; subst h1; exact hz, Apart.one fun q hq => hq.elim (h.ru q) (h.rx q)⟩
theorem KsOk.nil (w : World) (lo hi : Nat) : KsOk w lo hi [] := ⟨fun z h => by simp at h, fun z h => by simp at h, Apart.nil _ _⟩
theorem FsOk.nil (w : World) (lo hi : Nat) : FsOk w lo hi [] := ⟨fun z h => by simp at h, fun z h => by simp at h, Apart.nil _ _⟩
theorem KsOk.up {w : World} {lo hi hi' : Nat} {r : List Kz} (h : KsOk w lo hi r) (hh : hi ≤ hi') : KsOk w lo hi' r := ⟨h.own, h.sz, ⟨fun S hS q hq => by have := h.ap.rng S hS q hq; omega, h.ap.ap⟩⟩
/-- A part of the answer. -/
structure Pz where
  f : Value
  u : Value
  x : Value
  us : List Value
  p : Pt
def Pz.cells (z : Pz) : List Value := [z.f, z.u, z.x]
def Pz.kz (z : Pz) : Kz := ⟨z.u, z.x, z.p.k⟩
def Pz.fz (z : Pz) : Fz := ⟨z.f, z.us, z.p.f⟩
/-- Parts that were answered: their row, and what each holds. -/
structure PzsAt (w : World) (lo hi : Nat) (v : Value) (Z : List Pz) : Prop where
  row : w.ownsRow lo 33 3 v Z.length (Z.map Pz.cells).flatten
  ks : KsOk w lo hi (Z.map Pz.kz)
  fs : FsOk w lo hi (Z.map Pz.fz)
  len : Z.length ≤ 100
theorem PzsAt.below {w w' : World} {lo hi : Nat} {v : Value} {Z : List Pz} (h : PzsAt w lo hi v Z) (hb : Below w.heap.size w w') : PzsAt w' lo hi v Z := ⟨owns_below h.row hb, h.ks.below hb, h.fs.below hb, h.len⟩
theorem PzsAt.nil (w : World) (lo hi : Nat) : PzsAt w lo hi (.slice none 0 0) [] := ⟨World.ownsRow_nil _ _ _ _, KsOk.nil _ _ _, FsOk.nil _ _ _, by simp⟩
theorem PzsAt.of {w : World} {base : Nat} {v : Value} {l : List Pt} (h : POwnA w base v l) (hok : ∀ p ∈ l, PtOk p) (hl : l.length ≤ 100) : ∃ Z, PzsAt w base w.heap.size v Z := by
  obtain ⟨css, Ss, h⟩ := h
  have key : ∀ (l : List Pt) (css : List (List Value)) (Ss : List (Nat → Prop)), css.length = l.length → Ss.length = l.length → (∀ i (h : i < l.length) (h' : i < css.length) (h2 : i < Ss.length), PtIn w base Ss[i] css[i] l[i]) →
      ∃ Z : List Pz, Z.length = l.length ∧ css = Z.map Pz.cells ∧ ∀ i (h : i < Z.length) (h' : i < Ss.length) (h2 : i < l.length), Z[i].p = l[i] ∧ FzOwn w base Z[i].fz ∧ KzOwn w base Z[i].kz ∧ (∀ q, fzS Z[i].fz q → Ss[i] q) ∧ (∀ q, kzS Z[i].kz q → Ss[i] q) := by
    intro l
    induction l with
    | nil => intro css Ss h1 h2 _; exact ⟨[], rfl, List.eq_nil_of_length_eq_zero h1, fun i h => by simp at h⟩
    | cons p l ih =>
      intro css Ss h1 h2 h3
      match css, Ss, h1, h2 with
      | c :: css, S :: Ss, h1, h2 =>
        obtain ⟨Z, q1, q2, q3⟩ := ih css Ss (by simpa using h1) (by simpa using h2) fun i a b c => by
          have := h3 (i + 1) (by simpa using a) (by simpa using b) (by simpa using c)
          simpa using this
        obtain ⟨f, u, x, us, k1, k2, k3, k4, k5, k6, k7, k8, k9⟩ := h3 0 (by simp) (by simp) (by simp)
        simp only [List.getElem_cons_zero] at k1 k2 k3 k4 k5 k6 k7 k8 k9
        refine ⟨⟨f, u, x, us, p⟩ :: Z, by simp [q1], by rw [List.map_cons, ← q2]; exact congrArg (· :: css) k1, fun i a b c => ?_⟩
        cases i with
        | zero => exact ⟨rfl, ⟨k2, k3, k4⟩, k5, fun q hq => hq.elim (k6 q) (fun ⟨y, hy, hq⟩ => k7 y hy q hq), fun q hq => hq.elim (k8 q) (k9 q)⟩
        | succ i =>
          have := q3 i (by simpa using a) (by simpa using b) (by simpa using c)
          simpa using this
  obtain ⟨Z, q1, q2, q3⟩ := key l css Ss h.lc h.ls h.each
  have hls := h.ls
  refine ⟨Z, ?_, ⟨fun z hz => ?_, fun z hz => ?_, ?_⟩, ⟨fun z hz => ?_, fun z hz => ?_, ?_⟩, by omega⟩
  · rw [q1, ← q2]; exact h.row
  · obtain ⟨y, hy, rfl⟩ := List.mem_map.1 hz
    obtain ⟨i, hi, rfl⟩ := List.mem_iff_getElem.1 hy
    exact (q3 i hi (by omega) (by omega)).2.2.1
  · obtain ⟨y, hy, rfl⟩ := List.mem_map.1 hz
    obtain ⟨i, hi, rfl⟩ := List.mem_iff_getElem.1 hy
    have h2 := (q3 i hi (by omega) (by omega)).1
    show SzK Z[i].p.k
    rw [h2]
    have h3 := knChk_zero.1 (hok l[i] (List.getElem_mem _)).k
    exact SzK.of_ok h3.1.len h3.2
  · refine ⟨fun S hS q hq => ?_, fun i j a b hij q z1 z2 => ?_⟩
    · obtain ⟨z, hz, rfl⟩ := List.mem_map.1 hS
      obtain ⟨y, hy, rfl⟩ := List.mem_map.1 hz
      obtain ⟨i, hi, rfl⟩ := List.mem_iff_getElem.1 hy
      exact KzOwn.rng (q3 i hi (by omega) (by omega)).2.2.1 hq
    · simp only [List.length_map] at a b
      simp only [List.getElem_map] at z1 z2
      exact h.apart i j (by omega) (by omega) hij q ((q3 i a (by omega) (by omega)).2.2.2.2 q z1) ((q3 j b (by omega) (by omega)).2.2.2.2 q z2)
  · obtain ⟨y, hy, rfl⟩ := List.mem_map.1 hz
    obtain ⟨i, hi, rfl⟩ := List.mem_iff_getElem.1 hy
    exact (q3 i hi (by omega) (by omega)).2.1
  · obtain ⟨y, hy, rfl⟩ := List.mem_map.1 hz
    obtain ⟨i, hi, rfl⟩ := List.mem_iff_getElem.1 hy
    have h2 := (q3 i hi (by omega) (by omega)).1
    show SzF Z[i].p.f
    rw [h2]
    exact SzF.of_ok (hok l[i] (List.getElem_mem _)).f
  · refine ⟨fun S hS q hq => ?_, fun i j a b hij q z1 z2 => ?_⟩
    · obtain ⟨z, hz, rfl⟩ := List.mem_map.1 hS
      obtain ⟨y, hy, rfl⟩ := List.mem_map.1 hz
      obtain ⟨i, hi, rfl⟩ := List.mem_iff_getElem.1 hy
      exact FzOwn.rng (q3 i hi (by omega) (by omega)).2.1 hq
    · simp only [List.length_map] at a b
      simp only [List.getElem_map] at z1 z2
      exact h.apart i j (by omega) (by omega) hij q ((q3 i a (by omega) (by omega)).2.2.2.1 q z1) ((q3 j b (by omega) (by omega)).2.2.2.1 q z2)
theorem RoomF.grow {w w' : World} {base base2 e2 size2 n2 : Nat} {v v2 : Value} {l : Bxs} {xs2 : List Value} (h : RoomF w base v l) (h2 : w.ownsRow base2 e2 size2 v2 n2 xs2) (hg : w.grownBy w' v2.ownBlock) (h3 : 57 ≠ e2) (h4 : 60 ≠ e2) : RoomF w' base v l := by
  obtain ⟨us, k1, k2, k3⟩ := h
  exact ⟨us, k1, k2.grown h2 hg h3, fun i hi hi' => (k3 i hi hi').grown h2 hg h4⟩
theorem RoomF.spr {S : Nat → Prop} {w w' : World} {base : Nat} {v : Value} {l : Bxs} (h : RoomF w base v l) (hs : Sp S w w') (hd : ∀ q, base ≤ q → ¬ S q) : RoomF w' base v l := by
  obtain ⟨us, k1, k2, k3⟩ := h
  exact ⟨us, k1, k2.sp hs fun q hq => hd q (k2.owns.lt q hq).1, fun i hi hi' => (k3 i hi hi').sp hs fun q hq => hd q ((k3 i hi hi').owns.lt q hq).1⟩
/-- The copies that were made of the first k filters. -/
structure WanF (w0 w : World) (base : Nat) (r : List Fz) (k : Nat) (wv : Value) (ws : List Value) : Prop where
  bel : Below w0.heap.size w0 w
  len : ws.length = k
  row : w.ownsRow base 28 1 wv k ws
  each : ∀ i (h : i < r.length) (h' : i < ws.length), RoomF w base ws[i] r[i].l
theorem WanF.nil {w : World} {base : Nat} {r : List Fz} : WanF w w base r 0 (.slice none 0 0) [] := ⟨Below.refl _ _, rfl, World.ownsRow_nil _ _ _ _, fun i _ h => by simp at h⟩
theorem WanF.step {w0 w w2 w3 : World} {base k : Nat} {r : List Fz} {wv v' wv' : Value} {ws : List Value} (h : WanF w0 w base r k wv ws) (hk : k < r.length) (hbs : base ≤ w.heap.size) (hbw : w0.heap.size ≤ base) (hb : Below w.heap.size w w2) (hr : RoomF w2 w.heap.size v' r[k].l) (hw : w3.ownsRow base 28 1 wv' (k + 1) (ws ++ [v'])) (hg : w2.grownBy w3 wv.ownBlock) : WanF w0 w3 base r (k + 1) wv' (ws ++ [v']) := by
  have h2 := owns_below h.row hb
  refine ⟨(bstep h.bel hb).grown hg (Nat.le_trans h.bel.size hb.size) (fun q hq => by have := (h2.lt q hq).1; omega), by simp [h.len], hw, fun i hi hi' => ?_⟩
  by_cases he : i < ws.length
  · rw [List.getElem_append_left he]
    exact ((h.each i hi he).below hb).grow h2 hg (by decide) (by decide)
  · have hik : i = k := by have := h.len; simp at hi'; omega
    subst hik
    rw [List.getElem_append_right (by have := h.len; omega)]
    simp only [h.len, Nat.sub_self, List.getElem_cons_zero]
    exact (hr.mono hbs).grow h2 hg (by decide) (by decide)
def two2 (p : Value × Value) : List Value := [p.1, p.2]
theorem two2_get : ∀ {ws : List (Value × Value)} {k : Nat} (hk : k < ws.length), (ws.map two2).flatten[k * 2]? = some ws[k].1 ∧ (ws.map two2).flatten[k * 2 + 1]? = some ws[k].2
  | p :: ws, 0, _ => ⟨rfl, rfl⟩
  | p :: ws, k + 1, hk => by
    have := two2_get (ws := ws) (k := k) (by simpa using hk)
    rw [show (k + 1) * 2 = k * 2 + 2 by omega]
    exact this
/-- The copies that were made of the first k sets. -/
structure WanK (w0 w : World) (base : Nat) (r : List Kz) (k : Nat) (wv : Value) (ws : List (Value × Value)) : Prop where
  bel : Below w0.heap.size w0 w
  len : ws.length = k
  row : w.ownsRow base 25 2 wv k (ws.map two2).flatten
  each : ∀ i (h : i < r.length) (h' : i < ws.length), RoomK w base ws[i].1 ws[i].2 r[i].k
theorem WanK.nil {w : World} {base : Nat} {r : List Kz} : WanK w w base r 0 (.slice none 0 0) [] := ⟨Below.refl _ _, rfl, World.ownsRow_nil _ _ _ _, fun i _ h => by simp at h⟩
theorem WanK.step {w0 w w2 w3 : World} {base k : Nat} {r : List Kz} {wv u x wv' : Value} {ws : List (Value × Value)} (h : WanK w0 w base r k wv ws) (hk : k < r.length) (hbs : base ≤ w.heap.size) (hbw : w0.heap.size ≤ base) (hb : Below w.heap.size w w2) (hr : RoomK w2 w.heap.size u x r[k].k) (hw : w3.ownsRow base 25 2 wv' (k + 1) ((ws.map two2).flatten ++ [u, x])) (hg : w2.grownBy w3 wv.ownBlock) : WanK w0 w3 base r (k + 1) wv' (ws ++ [(u, x)]) := by
  have h2 := owns_below h.row hb
  refine ⟨(bstep h.bel hb).grown hg (Nat.le_trans h.bel.size hb.size) (fun q hq => by have := (h2.lt q hq).1; omega), by simp [h.len], by rw [List.map_append, List.flatten_append]; exact hw, fun i hi hi' => ?_⟩
  by_cases he : i < ws.length
  · rw [List.getElem_append_left he]
    exact ((h.each i hi he).below hb).grown h2 hg (by decide) (by decide)
  · have hik : i = k := by have := h.len; simp at hi'; omega
    subst hik
    rw [List.getElem_append_right (by have := h.len; omega)]
    simp only [h.len, Nat.sub_self, List.getElem_cons_zero]
    exact (hr.mono hbs).grown h2 hg (by decide) (by decide)
end Go.Proofs.Ytboakoipdfmpcaa
