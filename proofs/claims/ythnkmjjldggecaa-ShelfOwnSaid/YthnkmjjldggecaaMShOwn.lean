/- What ShelfOwn holds while it runs. No walk here. What ShelfOwn's statements that draw their order hold. No walk here. -/
import Derived.Test.YthnkmjjldggecaaMRoomK
import Derived.Test.YthnkmjjldggecaaMShelf18
import Derived.Test.YthnkmjjldggecaaMShelf13
import Derived.Test.YthnkmjjldggecaaWireLaw
import Derived.Deep.AppendLies
import Derived.Test.YthnkmjjldggecaaMWire6
namespace Go.Proofs.Ythnkmjjldggecaa
open Go.RowKit
theorem SzV.of_ok {l : List Ver} (h : ∀ v ∈ l, VerOk v) (hl : l.length ≤ 1000) : SzV l := ⟨by omega, fun v hv => SzK.of_ok (h v hv).past.len (h v hv).len⟩
theorem SzV.nil : SzV [] := ⟨by simp, by simp⟩
theorem SzV.put (l : List Ver) (v : Ver) : SzV (putR l v) := by
  by_cases h : putE l v = 0
  · rw [putR_ok h]
    obtain ⟨h1, h2, h3⟩ := putE_zero.1 h
    have h4 := put_ok h1 h2 h3
    exact SzV.of_ok h4.ok (by have := h4.len; omega)
  · rw [putR_bad h]; exact SzV.nil
theorem SzV.sub {l m : List Ver} (h : shelfChk l = 0) (hs : m.Sublist l) : SzV m := by
  have h1 := shelfChk_zero.1 h
  exact SzV.of_ok (fun v hv => h1.ok v (hs.subset hv)) (by have := hs.length_le; have := h1.len; omega)
theorem SzV.get (l : List Ver) (id : ByteArray) : SzV (getR l id) := by
  by_cases h : getE l id = 0
  · rw [getR_ok h]
    refine SzV.sub (l := l) ?_ List.filter_sublist
    unfold getE at h
    split at h
    · rename_i h1; exact absurd h h1
    · rename_i h1; omega
  · rw [getR_bad h]; exact SzV.nil
theorem SzV.drop (l : List Ver) (id : ByteArray) (k : Kn) : SzV (dropR l id k) := by
  by_cases h : dropE l id k = 0
  · rw [dropR_ok h]
    refine SzV.sub (l := l) ?_ List.filter_sublist
    unfold dropE at h
    split at h
    · rename_i h1; exact absurd h h1
    · rename_i h1; omega
  · rw [dropR_bad h]; exact SzV.nil
theorem SzV.up (s : ByteArray) : SzV (upB s).vers := by
  by_cases h : upE s = 0
  · have h1 := batchChk_zero.1 (up_ok h).1
    exact SzV.of_ok h1.vers (by have := h1.vlen; omega)
  · rw [up_fail h]; exact SzV.nil
/-- What Past tells, whatever it was asked. -/
theorem KnRes.any {w : World} {base : Nat} {u x : Value} {l : List Ver} {id : ByteArray} (h : KnRes w base u x (pastE l id) (pastF l id)) : ∃ k, OwnK w base w.heap.size u x k ∧ SzK k := by
  rcases h with ⟨h1, h2⟩ | ⟨-, rfl, rfl⟩
  · refine ⟨_, OwnK.of_own h2, SzK.of_ok (formK_ok _).len ?_⟩
    unfold pastE at h1
    split at h1
    · rename_i h3; exact absurd h1 h3
    · unfold kE at h1
      split at h1
      · exact absurd h1 (by decide)
      · omega
  · exact ⟨⟨[], []⟩, OwnK.nil _ _ _, ⟨by simp, by simp⟩⟩
theorem pack_len (b : Bt) : (packS b).size ≤ 20000 := by
  unfold packS
  split
  · rename_i h
    unfold packE at h
    split at h
    · rename_i h1; exact absurd h h1
    · split at h
      · exact absurd h (by decide)
      · rename_i h2; rw [size_list]; show (fullW b).length ≤ 20000; omega
  · decide
/-- A shelf that the law holds: its value, its versions, the marks of its memory. -/
structure Zv where
  v : Value
  l : List Ver
  lo : Nat
  hi : Nat
def Zv.Ok (w : World) (z : Zv) : Prop := OwnV w z.lo z.hi z.v z.l ∧ SzV z.l
/-- Shelves, each between marks of its own, one behind the other. -/
def VOk (w : World) (H0 H1 : Nat) : List Zv → Prop
  | [] => H0 ≤ H1
  | z :: r => z.Ok w ∧ H0 ≤ z.lo ∧ z.lo ≤ z.hi ∧ VOk w z.hi H1 r
theorem VOk.le {w : World} : ∀ {r : List Zv} {H0 H1 : Nat}, VOk w H0 H1 r → H0 ≤ H1
  | [], _, _, h => h
  | _ :: _, _, _, ⟨_, h1, h2, h3⟩ => Nat.le_trans (Nat.le_trans h1 h2) h3.le
theorem VOk.get {w : World} : ∀ {r : List Zv} {H0 H1 : Nat}, VOk w H0 H1 r → ∀ z ∈ r, z.Ok w ∧ H0 ≤ z.lo ∧ z.lo ≤ z.hi ∧ z.hi ≤ H1
  | z :: r, _, _, ⟨h0, h1, h2, h3⟩, y, hy => by
    rcases List.mem_cons.1 hy with rfl | hy
    · exact ⟨h0, h1, h2, h3.le⟩
    · obtain ⟨k0, k1, k2, k3⟩ := h3.get y hy
      exact ⟨k0, by omega, k2, k3⟩
theorem VOk.apart {w : World} : ∀ {r : List Zv} {H0 H1 : Nat}, VOk w H0 H1 r → ∀ i j (hi : i < r.length) (hj : j < r.length), i < j → r[i].hi ≤ r[j].lo
  | z :: r, _, _, ⟨h0, h1, h2, h3⟩, i, j, hi, hj, hij => by
    match i, j, hij with
    | 0, j + 1, _ =>
      have := (h3.get (r[j]'(by simpa using hj)) (List.getElem_mem _)).2.1
      simpa using this
    | i + 1, j + 1, hij =>
      have := h3.apart i j (by simpa using hi) (by simpa using hj) (by omega)
      simpa using this
/-- The blocks of the first k shelves. -/
def VS (r : List Zv) (k : Nat) (q : Nat) : Prop := ∃ z ∈ r.take k, z.lo ≤ q ∧ q < z.hi
theorem VS.step {r : List Zv} {k : Nat} (hk : k < r.length) {w w1 w2 : World} (h : Sp (VS r k) w w1) (h2 : Sp (fun q => r[k].lo ≤ q ∧ q < r[k].hi) w1 w2) : Sp (VS r (k + 1)) w w2 := by
  refine (h.mono fun q hq => ?_).trans (h2.mono fun q hq => ?_)
  · obtain ⟨z, hz, h1⟩ := hq
    exact ⟨z, by rw [List.take_succ_eq_append_getElem hk]; exact List.mem_append_left _ hz, h1⟩
  · exact ⟨r[k], by rw [List.take_succ_eq_append_getElem hk]; exact List.mem_append_right _ (List.mem_singleton.2 rfl), hq⟩
theorem VOk.still {w w1 : World} {r : List Zv} {H0 H1 k : Nat} (h : VOk w H0 H1 r) (hk : k < r.length) (hs : Sp (VS r k) w w1) : OwnV w1 r[k].lo r[k].hi r[k].v r[k].l ∧ SzV r[k].l := by
  obtain ⟨⟨h1, h2⟩, -⟩ := h.get r[k] (List.getElem_mem hk)
  refine ⟨h1.sp hs fun q q1 q2 hq => ?_, h2⟩
  obtain ⟨z, hz, z1, z2⟩ := hq
  obtain ⟨i, hi, rfl⟩ := List.mem_iff_getElem.1 hz
  rw [List.getElem_take] at z1 z2
  rw [List.length_take] at hi
  have := h.apart i k (by omega) hk (by omega)
  omega
theorem VS.range {w : World} {r : List Zv} {H0 H1 k q : Nat} (h : VOk w H0 H1 r) (hq : VS r k q) : H0 ≤ q ∧ q < H1 := by
  obtain ⟨z, hz, z1, z2⟩ := hq
  obtain ⟨-, k1, k2, k3⟩ := h.get z (List.mem_of_mem_take hz)
  omega
theorem VS.far {r : List Zv} {k lo hi : Nat} (h : ∀ z ∈ r, z.hi ≤ lo ∨ hi ≤ z.lo) (q : Nat) (h1 : lo ≤ q) (h2 : q < hi) : ¬ VS r k q := by
  rintro ⟨z, hz, z1, z2⟩
  have := h z (List.mem_of_mem_take hz)
  omega
theorem VOk.sp {S : Nat → Prop} {w w' : World} : ∀ {r : List Zv} {H0 H1 : Nat}, VOk w H0 H1 r → Sp S w w' → (∀ q, H0 ≤ q → q < H1 → ¬ S q) → VOk w' H0 H1 r
  | [], _, _, h, _, _ => h
  | z :: r, _, _, ⟨⟨h0, h0'⟩, h1, h2, h3⟩, hs, hd => ⟨⟨h0.sp hs fun q q1 q2 => hd q (by omega) (by have := h3.le; omega), h0'⟩, h1, h2, h3.sp hs fun q q1 q2 => hd q (by omega) q2⟩
theorem VOk.below {w w' : World} {r : List Zv} {H0 H1 : Nat} (h : VOk w H0 H1 r) (hb : Below w.heap.size w w') : VOk w' H0 H1 r := h.sp (S := fun _ => False) (Sp.of_below hb) fun _ _ _ h => h
/-- The copies that were made of the first k shelves. -/
structure WanV (w0 w : World) (base : Nat) (r : List Zv) (k : Nat) (wv : Value) (ws : List Value) : Prop where
  bel : Below w0.heap.size w0 w
  len : ws.length = k
  row : w.ownsRow base 60 1 wv k ws
  each : ∀ i (h : i < r.length) (h' : i < ws.length), RoomV w base ws[i] r[i].l
theorem WanV.nil {w : World} {base : Nat} {r : List Zv} : WanV w w base r 0 (.slice none 0 0) [] := ⟨Below.refl _ _, rfl, World.ownsRow_nil _ _ _ _, fun i _ h => by simp at h⟩
theorem WanV.step {w0 w w2 w3 : World} {base k : Nat} {r : List Zv} {wv v' wv' : Value} {ws : List Value} (h : WanV w0 w base r k wv ws) (hk : k < r.length) (hbs : base ≤ w.heap.size) (hbw : w0.heap.size ≤ base) (hb : Below w.heap.size w w2) (hr : RoomV w2 w.heap.size v' r[k].l) (hw : w3.ownsRow base 60 1 wv' (k + 1) (ws ++ [v'])) (hg : w2.grownBy w3 wv.ownBlock) : WanV w0 w3 base r (k + 1) wv' (ws ++ [v']) := by
  have h2 := owns_below h.row hb
  refine ⟨(bstep h.bel hb).grown hg (Nat.le_trans h.bel.size hb.size) (fun q hq => by have := (h2.lt q hq).1; omega), by simp [h.len], hw, fun i hi hi' => ?_⟩
  by_cases he : i < ws.length
  · rw [List.getElem_append_left he]
    exact ((h.each i hi he).below hb).grown h2 hg (by decide) (by decide) (by decide)
  · have hik : i = k := by have := h.len; simp at hi'; omega
    subst hik
    rw [List.getElem_append_right (by have := h.len; omega)]
    simp only [h.len, Nat.sub_self, List.getElem_cons_zero]
    exact (hr.mono hbs).grown h2 hg (by decide) (by decide) (by decide)
end Go.Proofs.Ythnkmjjldggecaa
namespace Go.Proofs.Ythnkmjjldggecaa
open Go.RowKit
/-- v points to a block of its own that holds the cells cs. -/
def AtB (t : TypeId) (cs : Array Value) (w : World) (base : Nat) (v : Value) : Prop := ∃ g, v = .pointer (some ⟨g, 0, none⟩) ∧ w.heap[g]? = some (.cells cs t (0, 0)) ∧ base ≤ g
theorem AtB.below {t : TypeId} {cs : Array Value} {w w' : World} {base : Nat} {v : Value} (h : AtB t cs w base v) (hb : Below w.heap.size w w') : AtB t cs w' base v := by
  obtain ⟨g, h1, h2, h3⟩ := h; exact ⟨g, h1, below_keep hb h2, h3⟩
theorem AtB.tk {T : Nat → Bool} {t : TypeId} {cs : Array Value} {w w' : World} {base : Nat} {v : Value} (h : AtB t cs w base v) (hk : TKeep T w w') (ht : T t = true) : AtB t cs w' base v := by
  obtain ⟨g, h1, h2, h3⟩ := h; exact ⟨g, h1, hk.blk _ _ _ h2 ht, h3⟩
theorem tk_set {T : Nat → Bool} {w : World} {g j : Nat} {u : Value} {cs : Array Value} {t : TypeId} (h : w.heap[g]? = some (.cells cs t (0, 0))) (ht : T t = false) : TKeep T w (w.setCell ⟨g, j, none⟩ u) := by
  refine ⟨by simp, fun k cs' t' hk hT => ?_⟩
  rw [heap_set_other]
  · exact hk
  · rintro rfl
    rw [h] at hk
    simp only [Option.some.injEq, Obj.cells.injEq] at hk
    rw [← hk.2.1, ht] at hT
    exact absurd hT (by decide)
theorem Roomy.tk {T : Nat → Bool} {w w' : World} {base e size n : Nat} {v : Value} {xs sp : List Value} (h : Roomy w base e size v n xs sp) (hk : TKeep T w w') (he : T e = true) : Roomy w' base e size v n xs sp := by
  obtain ⟨g, h1, h2, h3⟩ := h.row
  exact ⟨h.lx, h.ls, h.mx, g, h1, h2, hk.blk _ _ _ h3 he⟩
theorem RoomK.tk {T : Nat → Bool} {w w' : World} {base : Nat} {u x : Value} {k : Kn} (h : RoomK w base u x k) (hk : TKeep T w w') (h1 : T 3 = true) (h2 : T 92 = true) : RoomK w' base u x k := ⟨h.vec.tk hk h1, h.more.tk hk h2⟩
theorem RoomKv.tk {T : Nat → Bool} {w w' : World} {base : Nat} {v : Value} {k : Kn} (h : RoomKv w base v k) (hk : TKeep T w w') (h1 : T 3 = true) (h2 : T 92 = true) : RoomKv w' base v k := by
  obtain ⟨u, x, q1, q2⟩ := h; exact ⟨u, x, q1, q2.tk hk h1 h2⟩
theorem RoomV.tk {T : Nat → Bool} {w w' : World} {base : Nat} {v : Value} {l : List Ver} (h : RoomV w base v l) (hk : TKeep T w w') (h1 : T 3 = true) (h2 : T 92 = true) (h3 : T 109 = true) : RoomV w' base v l := by
  obtain ⟨css, k1, k2, k3⟩ := h
  exact ⟨css, k1, k2.tk hk h3, fun i hi hi' => by obtain ⟨u, x, q1, q2⟩ := k3 i hi hi'; exact ⟨u, x, q1, q2.tk hk h1 h2⟩⟩
/-- The version's block, whatever its past. -/
def BlkV (gv : Nat) (v : Ver) (w : World) : Prop := ∃ u x, w.heap[gv]? = some (.cells (verC v u x) 109 (0, 0))
theorem BlkV.below {gv : Nat} {v : Ver} {w w' : World} (h : BlkV gv v w) (hb : Below w.heap.size w w') : BlkV gv v w' := by
  obtain ⟨u, x, h1⟩ := h; exact ⟨u, x, below_keep hb h1⟩
theorem BlkV.tk {T : Nat → Bool} {gv : Nat} {v : Ver} {w w' : World} (h : BlkV gv v w) (hk : TKeep T w w') (ht : T 109 = true) : BlkV gv v w' := by
  obtain ⟨u, x, h1⟩ := h; exact ⟨u, x, hk.blk _ _ _ h1 ht⟩
def BlkG (gg : Nat) (id : ByteArray) (w : World) : Prop := ∃ u x, w.heap[gg]? = some (.cells #[.string id, u, x] 111 (0, 0))
theorem BlkG.below {gg : Nat} {id : ByteArray} {w w' : World} (h : BlkG gg id w) (hb : Below w.heap.size w w') : BlkG gg id w' := by
  obtain ⟨u, x, h1⟩ := h; exact ⟨u, x, below_keep hb h1⟩
theorem BlkG.tk {T : Nat → Bool} {gg : Nat} {id : ByteArray} {w w' : World} (h : BlkG gg id w) (hk : TKeep T w w') (ht : T 111 = true) : BlkG gg id w' := by
  obtain ⟨u, x, h1⟩ := h; exact ⟨u, x, hk.blk _ _ _ h1 ht⟩
/-- The version's block with its past in it, its room behind it. -/
def FulV (gv : Nat) (v : Ver) (base : Nat) (w : World) : Prop := ∃ u x, w.heap[gv]? = some (.cells (verC v u x) 109 (0, 0)) ∧ RoomK w base u x v.past
theorem FulV.below {gv base : Nat} {v : Ver} {w w' : World} (h : FulV gv v base w) (hb : Below w.heap.size w w') : FulV gv v base w' := by
  obtain ⟨u, x, h1, h2⟩ := h; exact ⟨u, x, below_keep hb h1, h2.below hb⟩
theorem FulV.tk {T : Nat → Bool} {gv base : Nat} {v : Ver} {w w' : World} (h : FulV gv v base w) (hk : TKeep T w w') (ht : T 109 = true) (h1 : T 3 = true) (h2 : T 92 = true) : FulV gv v base w' := by
  obtain ⟨u, x, q1, q2⟩ := h; exact ⟨u, x, hk.blk _ _ _ q1 ht, q2.tk hk h1 h2⟩
def FulG (gg : Nat) (id : ByteArray) (k : Kn) (base : Nat) (w : World) : Prop := ∃ u x, w.heap[gg]? = some (.cells #[.string id, u, x] 111 (0, 0)) ∧ RoomK w base u x k
theorem FulG.below {gg base : Nat} {id : ByteArray} {k : Kn} {w w' : World} (h : FulG gg id k base w) (hb : Below w.heap.size w w') : FulG gg id k base w' := by
  obtain ⟨u, x, h1, h2⟩ := h; exact ⟨u, x, below_keep hb h1, h2.below hb⟩
theorem FulG.tk {T : Nat → Bool} {gg base : Nat} {id : ByteArray} {k : Kn} {w w' : World} (h : FulG gg id k base w) (hk : TKeep T w w') (ht : T 111 = true) (h1 : T 3 = true) (h2 : T 92 = true) : FulG gg id k base w' := by
  obtain ⟨u, x, q1, q2⟩ := h; exact ⟨u, x, hk.blk _ _ _ q1 ht, q2.tk hk h1 h2⟩
def NotT (t0 t : Nat) : Bool := t != t0
/-- What the past's store does to the version's block. -/
theorem FulV.store {gv base : Nat} {v : Ver} {w : World} {u0 x0 u x : Value} (h : w.heap[gv]? = some (.cells (verC v u0 x0) 109 (0, 0))) (hk : RoomK w base u x v.past) :
    FulV gv v base ((w.setCell ⟨gv, 6, none⟩ u).setCell ⟨gv, 7, none⟩ x) ∧ TKeep (NotT 109) w ((w.setCell ⟨gv, 6, none⟩ u).setCell ⟨gv, 7, none⟩ x) := by
  have h1 := heap_set_same (j := 6) (v := u) h
  have h2 := heap_set_same (j := 7) (v := x) h1
  have t1 : TKeep (NotT 109) w (w.setCell ⟨gv, 6, none⟩ u) := tk_set h (by decide)
  have t2 : TKeep (NotT 109) (w.setCell ⟨gv, 6, none⟩ u) ((w.setCell ⟨gv, 6, none⟩ u).setCell ⟨gv, 7, none⟩ x) := tk_set h1 (by decide)
  exact ⟨⟨u, x, h2, (hk.tk t1 (by decide) (by decide)).tk t2 (by decide) (by decide)⟩, t1.trans t2⟩
theorem FulG.store {gg base : Nat} {id : ByteArray} {k : Kn} {w : World} {u0 x0 u x : Value} (h : w.heap[gg]? = some (.cells #[.string id, u0, x0] 111 (0, 0))) (hk : RoomK w base u x k) :
    FulG gg id k base ((w.setCell ⟨gg, 1, none⟩ u).setCell ⟨gg, 2, none⟩ x) ∧ TKeep (NotT 111) w ((w.setCell ⟨gg, 1, none⟩ u).setCell ⟨gg, 2, none⟩ x) := by
  have h1 := heap_set_same (j := 1) (v := u) h
  have h2 := heap_set_same (j := 2) (v := x) h1
  have t1 : TKeep (NotT 111) w (w.setCell ⟨gg, 1, none⟩ u) := tk_set h (by decide)
  have t2 : TKeep (NotT 111) (w.setCell ⟨gg, 1, none⟩ u) ((w.setCell ⟨gg, 1, none⟩ u).setCell ⟨gg, 2, none⟩ x) := tk_set h1 (by decide)
  exact ⟨⟨u, x, h2, (hk.tk t1 (by decide) (by decide)).tk t2 (by decide) (by decide)⟩, t1.trans t2⟩
/-- All cells of a block written. -/
theorem sow_all {w : World} {g e : Nat} {l : List Value} {cs : Array Value} (h : w.heap[g]? = some (.cells cs e (0, 0))) (hl : l.length = cs.size) : (sowRow w g 0 l).heap[g]? = some (.cells l.toArray e (0, 0)) ∧ TKeep (NotT e) w (sowRow w g 0 l) := by
  constructor
  · have h1 := sowRow_block l w [] cs.toList [] 0 rfl (by simp [hl]) (by simpa using h)
    simpa using h1
  · have key : ∀ (l : List Value) (w : World) (off : Nat) (cs : Array Value), w.heap[g]? = some (.cells cs e (0, 0)) → TKeep (NotT e) w (sowRow w g off l) := by
      intro l
      induction l with
      | nil => intro w off cs _; exact TKeep.refl _ _
      | cons v l ih =>
        intro w off cs h
        exact (tk_set h (by simp [NotT])).trans (ih _ (off + 1) _ (heap_set_same h))
    exact key l w 0 cs h
end Go.Proofs.Ythnkmjjldggecaa
