/- What FilterOwn holds while it runs. No walk here. -/
import Derived.Test.YthnkmjjldggecaaRoomF
import Derived.Test.YthnkmjjldggecaaForm4
import Derived.Test.YthnkmjjldggecaaMFilter4
namespace Go.Proofs.Ythnkmjjldggecaa
open Go.RowKit
theorem SzF.of_chk {l : Bxs} (h : fChk l = 0) : SzF l := by
  obtain ⟨h1, h2⟩ := fChk_zero.1 h
  refine ⟨by omega, fun b hb => ?_⟩
  have := (spansChk_bounds (bxChk_zero.1 (h2 b hb)).2).1
  omega
theorem SzF.nil : SzF [] := ⟨by simp, by simp⟩
/-- What a result is, whatever the arguments were. -/
theorem FOut.any {base : Nat} {w : World} {v : Value} {E : Int} {p : Nat → Nat → Bool} (h : FOut base w v E p) : ∃ l, OwnF w base w.heap.size v l ∧ SzF l := by
  by_cases hE : E = 0
  · obtain ⟨l, h1, h2⟩ := h.1 hE
    exact ⟨l, OwnF.of_own h1, SzF.of_chk h2.chk⟩
  · rw [h.2 hE]
    exact ⟨[], OwnF.nil _ _ _, SzF.nil⟩
theorem FO.any {base : Nat} {w : World} {v : Value} {p : Nat → Nat → Bool} (h : FO w base v p) : ∃ l, OwnF w base w.heap.size v l ∧ SzF l := by
  obtain ⟨l, h1, h2, -⟩ := h
  exact ⟨l, OwnF.of_own h1, SzF.of_chk h2⟩
theorem OwnF.shape {w : World} {lo hi : Nat} {v : Value} {l : Bxs} (h : OwnF w lo hi v l) : ∃ a c, v = .slice a l.length c := by
  obtain ⟨us, -, h2, -⟩ := h; exact owns_slice h2
/-- A row between two marks. -/
structure OwnR (w : World) (lo hi e size : Nat) (v : Value) (n : Nat) (xs : List Value) : Prop where
  own : w.ownsRow lo e size v n xs
  rng : InR lo hi v
theorem OwnR.of_own {w : World} {base e size n : Nat} {v : Value} {xs : List Value} (h : w.ownsRow base e size v n xs) : OwnR w base w.heap.size e size v n xs := ⟨h, inR_owns h⟩
theorem OwnR.sp {S : Nat → Prop} {w w' : World} {lo hi e size n : Nat} {v : Value} {xs : List Value} (h : OwnR w lo hi e size v n xs) (hs : Sp S w w') (hd : ∀ k, lo ≤ k → k < hi → ¬ S k) : OwnR w' lo hi e size v n xs :=
  ⟨owns_sp h.own hs fun k hk => hd k (h.rng k hk).1 (h.rng k hk).2, h.rng⟩
theorem OwnR.below {w w' : World} {lo hi e size n : Nat} {v : Value} {xs : List Value} (h : OwnR w lo hi e size v n xs) (hb : Below w.heap.size w w') : OwnR w' lo hi e size v n xs := h.sp (S := fun _ => False) (Sp.of_below hb) fun _ _ _ h => h
theorem OwnR.nil (w : World) (lo hi e size : Nat) : OwnR w lo hi e size (.slice none 0 0) 0 [] := ⟨World.ownsRow_nil _ _ _ _, fun k hk => by simp [Value.ownBlock] at hk⟩
/-- A filter that the law holds: its value, its boxes, the marks of its memory. -/
structure Zr where
  v : Value
  l : Bxs
  lo : Nat
  hi : Nat
def Zr.Ok (w : World) (z : Zr) : Prop := OwnF w z.lo z.hi z.v z.l ∧ SzF z.l
/-- Filters, each between marks of its own, one behind the other. -/
def ZOk (w : World) (H0 H1 : Nat) : List Zr → Prop
  | [] => H0 ≤ H1
  | z :: r => z.Ok w ∧ H0 ≤ z.lo ∧ z.lo ≤ z.hi ∧ ZOk w z.hi H1 r
theorem ZOk.le {w : World} : ∀ {r : List Zr} {H0 H1 : Nat}, ZOk w H0 H1 r → H0 ≤ H1
  | [], _, _, h => h
  | _ :: _, _, _, ⟨_, h1, h2, h3⟩ => Nat.le_trans (Nat.le_trans h1 h2) h3.le
theorem ZOk.get {w : World} : ∀ {r : List Zr} {H0 H1 : Nat}, ZOk w H0 H1 r → ∀ z ∈ r, z.Ok w ∧ H0 ≤ z.lo ∧ z.lo ≤ z.hi ∧ z.hi ≤ H1
  | z :: r, _, _, ⟨h0, h1, h2, h3⟩, y, hy => by
    rcases List.mem_cons.1 hy with rfl | hy
    · exact ⟨h0, h1, h2, h3.le⟩
    · obtain ⟨k0, k1, k2, k3⟩ := h3.get y hy
      exact ⟨k0, by omega, k2, k3⟩
theorem ZOk.apart {w : World} : ∀ {r : List Zr} {H0 H1 : Nat}, ZOk w H0 H1 r → ∀ i j (hi : i < r.length) (hj : j < r.length), i < j → r[i].hi ≤ r[j].lo
  | z :: r, _, _, ⟨h0, h1, h2, h3⟩, i, j, hi, hj, hij => by
    match i, j, hij with
    | 0, j + 1, _ =>
      have := (h3.get (r[j]'(by simpa using hj)) (List.getElem_mem _)).2.1
      simpa using this
    | i + 1, j + 1, hij =>
      have := h3.apart i j (by simpa using hi) (by simpa using hj) (by omega)
      simpa using this
/-- The blocks of the first k filters. -/
def ZS (r : List Zr) (k : Nat) (q : Nat) : Prop := ∃ z ∈ r.take k, z.lo ≤ q ∧ q < z.hi
theorem ZS.step {r : List Zr} {k : Nat} (hk : k < r.length) {w w1 w2 : World} (h : Sp (ZS r k) w w1) (h2 : Sp (fun q => r[k].lo ≤ q ∧ q < r[k].hi) w1 w2) : Sp (ZS r (k + 1)) w w2 := by
  refine (h.mono fun q hq => ?_).trans (h2.mono fun q hq => ?_)
  · obtain ⟨z, hz, h1⟩ := hq
    exact ⟨z, by rw [List.take_succ_eq_append_getElem hk]; exact List.mem_append_left _ hz, h1⟩
  · exact ⟨r[k], by rw [List.take_succ_eq_append_getElem hk]; exact List.mem_append_right _ (List.mem_singleton.2 rfl), hq⟩
theorem ZOk.still {w w1 : World} {r : List Zr} {H0 H1 k : Nat} (h : ZOk w H0 H1 r) (hk : k < r.length) (hs : Sp (ZS r k) w w1) : OwnF w1 r[k].lo r[k].hi r[k].v r[k].l ∧ SzF r[k].l := by
  obtain ⟨⟨h1, h2⟩, -⟩ := h.get r[k] (List.getElem_mem hk)
  refine ⟨h1.sp hs fun q q1 q2 hq => ?_, h2⟩
  obtain ⟨z, hz, z1, z2⟩ := hq
  obtain ⟨i, hi, rfl⟩ := List.mem_iff_getElem.1 hz
  rw [List.getElem_take] at z1 z2
  rw [List.length_take] at hi
  have := h.apart i k (by omega) hk (by omega)
  omega
theorem ZS.range {w : World} {r : List Zr} {H0 H1 k q : Nat} (h : ZOk w H0 H1 r) (hq : ZS r k q) : H0 ≤ q ∧ q < H1 := by
  obtain ⟨z, hz, z1, z2⟩ := hq
  obtain ⟨-, k1, k2, k3⟩ := h.get z (List.mem_of_mem_take hz)
  omega
theorem ZS.far {r : List Zr} {k lo hi : Nat} (h : ∀ z ∈ r, z.hi ≤ lo ∨ hi ≤ z.lo) (q : Nat) (h1 : lo ≤ q) (h2 : q < hi) : ¬ ZS r k q := by
  rintro ⟨z, hz, z1, z2⟩
  have := h z (List.mem_of_mem_take hz)
  omega
theorem ZOk.sp {S : Nat → Prop} {w w' : World} : ∀ {r : List Zr} {H0 H1 : Nat}, ZOk w H0 H1 r → Sp S w w' → (∀ q, H0 ≤ q → q < H1 → ¬ S q) → ZOk w' H0 H1 r
  | [], _, _, h, _, _ => h
  | z :: r, _, _, ⟨⟨h0, h0'⟩, h1, h2, h3⟩, hs, hd => ⟨⟨h0.sp hs fun q q1 q2 => hd q (by omega) (by have := h3.le; omega), h0'⟩, h1, h2, h3.sp hs fun q q1 q2 => hd q (by omega) q2⟩
theorem ZOk.below {w w' : World} {r : List Zr} {H0 H1 : Nat} (h : ZOk w H0 H1 r) (hb : Below w.heap.size w w') : ZOk w' H0 H1 r := h.sp (S := fun _ => False) (Sp.of_below hb) fun _ _ _ h => h
theorem RoomF.grown {w w' : World} {base base2 e2 size2 n2 : Nat} {v v2 : Value} {l : Bxs} {xs2 : List Value} (h : RoomF w base v l) (h2 : w.ownsRow base2 e2 size2 v2 n2 xs2) (hg : w.grownBy w' v2.ownBlock) (h3 : 125 ≠ e2) (h4 : 50 ≠ e2) : RoomF w' base v l := by
  obtain ⟨us, k1, k2, k3⟩ := h
  exact ⟨us, k1, k2.grown h2 hg h3, fun i hi hi' => (k3 i hi hi').grown h2 hg h4⟩
theorem RoomF.sp {S : Nat → Prop} {w w' : World} {base : Nat} {v : Value} {l : Bxs} (h : RoomF w base v l) (hs : Sp S w w') (hd : ∀ q, base ≤ q → ¬ S q) : RoomF w' base v l := by
  obtain ⟨us, k1, k2, k3⟩ := h
  exact ⟨us, k1, k2.sp hs fun q hq => hd q (k2.owns.lt q hq).1, fun i hi hi' => (k3 i hi hi').sp hs fun q hq => hd q ((k3 i hi hi').owns.lt q hq).1⟩
/-- The copies that were made of the first k filters. -/
structure WantSt (w0 w : World) (base : Nat) (r : List Zr) (k : Nat) (wv : Value) (ws : List Value) : Prop where
  bel : Below w0.heap.size w0 w
  len : ws.length = k
  row : w.ownsRow base 22 1 wv k ws
  each : ∀ i (h : i < r.length) (h' : i < ws.length), RoomF w base ws[i] r[i].l
theorem WantSt.nil {w : World} {base : Nat} {r : List Zr} : WantSt w w base r 0 (.slice none 0 0) [] := ⟨Below.refl _ _, rfl, World.ownsRow_nil _ _ _ _, fun i _ h => by simp at h⟩
theorem WantSt.step {w0 w w2 w3 : World} {base k : Nat} {r : List Zr} {wv v' wv' : Value} {ws : List Value} (h : WantSt w0 w base r k wv ws) (hk : k < r.length) (hbs : base ≤ w.heap.size) (hbw : w0.heap.size ≤ base) (hb : Below w.heap.size w w2) (hr : RoomF w2 w.heap.size v' r[k].l) (hw : w3.ownsRow base 22 1 wv' (k + 1) (ws ++ [v'])) (hg : w2.grownBy w3 wv.ownBlock) : WantSt w0 w3 base r (k + 1) wv' (ws ++ [v']) := by
  have h2 := owns_below h.row hb
  refine ⟨(bstep h.bel hb).grown hg (Nat.le_trans h.bel.size hb.size) (fun q hq => by have := (h2.lt q hq).1; omega), by simp [h.len], hw, fun i hi hi' => ?_⟩
  by_cases he : i < ws.length
  · rw [List.getElem_append_left he]
    exact ((h.each i hi he).below hb).grown h2 hg (by decide) (by decide)
  · have hik : i = k := by have := h.len; simp at hi'; omega
    subst hik
    rw [List.getElem_append_right (by have := h.len; omega)]
    simp only [h.len, Nat.sub_self, List.getElem_cons_zero]
    exact (hr.mono hbs).grown h2 hg (by decide) (by decide)
end Go.Proofs.Ythnkmjjldggecaa
