/- Count, Add and SameKnow at small sets and one dot more; what stands in memory while sets are built up. -/
import Derived.Test.YtippljiicnpieaaKnowCount
namespace Go.Proofs.Ytippljiicnpieaa
open Go.RowKit
theorem cntUp_le (p : Nat → Bool) : ∀ K, cntUp p (K + 1) ≤ K
  | 0 => by rw [cntUp_one]; exact Nat.le_refl _
  | K + 1 => by
    have := cntUp_le p K
    rw [cntUp_succ _ _ (by omega)]
    split <;> omega
theorem card_le (P : DPred) : cardD P ≤ 5000 := by
  have h : ∀ p, cnt p ≤ 1000 := fun p => cntUp_le p 1000
  have h0 := h fun (c : Nat) => P 0 c
  have h1 := h fun (c : Nat) => P 1 c
  have h2 := h fun (c : Nat) => P 2 c
  have h3 := h fun (c : Nat) => P 3 c
  have h4 := h fun (c : Nat) => P 4 c
  unfold cardD; omega
structure KZ (w : World) (u v : Value) (P : DPred) : Prop where
  at_ : KnAt w u v (formK P)
  sz : Sz P
theorem KV.z {w : World} {u v : Value} {P : DPred} (h : KV w u v P) : KZ w u v P := ⟨h.at_, h.sm.sz⟩
theorem KZ.below {w w' : World} {u v : Value} {P : DPred} (h : KZ w u v P) (hb : Below w.heap.size w w') : KZ w' u v P := ⟨h.at_.below hb, h.sz⟩
set_option maxRecDepth 100000 in
theorem count_s (ua va : Value) (P : DPred) (w : World) (ha : KZ w ua va P) :
    Calls Try.prog 57 #[.agg #[ua, va]] w fun e w' => e = .returned (.tuple #[.int .i64 (cardD P : Nat), .int .i64 0]) ∧ Below w.heap.size w w' := by
  refine (knCount_c ua va _ w ha.at_).mono ?_
  rintro e w' ⟨rfl, hbl⟩
  have h : knCount (formK P) = (cardD P : Nat) := by unfold knCount; rw [if_pos (chk_sz ha.sz), count_form]
  rw [h, chk_sz ha.sz]
  exact ⟨rfl, hbl⟩
set_option maxRecDepth 100000 in
theorem same_z (ua va ub vb : Value) (P Q : DPred) (w : World) (ha : KZ w ua va P) (hb : KZ w ub vb Q) :
    Calls Try.prog 50 #[.agg #[ua, va], .agg #[ub, vb]] w fun e w' => e = .returned (.bool (eqB P Q)) ∧ Below w.heap.size w w' := by
  refine (sameK_c ua va ub vb _ _ w ha.at_ hb.at_).mono ?_
  rintro e w' ⟨rfl, hbl⟩
  rw [same_form]
  exact ⟨rfl, hbl⟩
set_option maxRecDepth 100000 in
theorem add_ok (ua va : Value) (P : DPred) (s c : Int) (w : World) (ha : KnAt w ua va (formK P)) (hs : Sm P) (hd : dotOk (s, c) = true) :
    Calls Try.prog 58 #[.agg #[ua, va], .agg #[.int .i64 s, .int .i64 c]] w fun e w' => ∃ (a : Option Addr) (n q : Nat) (b : Option Addr) (m d : Nat), e = .returned (.tuple #[.agg #[.slice a n q, .slice b m d], .int .i64 0]) ∧ KnOwn w' w.heap.size (.slice a n q) (.slice b m d) (formK (addP P s c)) ∧ Below w.heap.size w w' := by
  refine (kadd_c ua va _ s c w ha).mono ?_
  rintro e w' ⟨x, y, rfl, hr, hbl⟩
  have h0 : addE (formK P) s c = 0 := by
    unfold addE; rw [if_pos (chk_sz hs.sz), if_pos hd, add_form]
    unfold kE; rw [if_neg (by have := sz_len (hs.add s c); omega)]
  rw [h0, add_form] at hr
  obtain ⟨a, n, q, b, m, d, rfl, rfl⟩ := hr.shape
  rw [h0]
  exact ⟨a, n, q, b, m, d, rfl, (hr.resolve_right fun h => h.1 rfl).2, hbl⟩
set_option maxRecDepth 100000 in
theorem add_bad (ua va : Value) (P : DPred) (s c : Int) (w : World) (ha : KnAt w ua va (formK P)) (hs : Sm P) (hd : dotOk (s, c) = false) :
    Calls Try.prog 58 #[.agg #[ua, va], .agg #[.int .i64 s, .int .i64 c]] w fun e w' => e = .returned (.tuple #[.agg #[.slice none 0 0, .slice none 0 0], .int .i64 1]) ∧ Below w.heap.size w w' := by
  refine (kadd_c ua va _ s c w ha).mono ?_
  rintro e w' ⟨x, y, rfl, hr, hbl⟩
  have h0 : addE (formK P) s c = 1 := by unfold addE; rw [if_pos (chk_sz hs.sz), if_neg (by rw [hd]; decide)]
  rw [h0] at hr
  obtain ⟨-, rfl, rfl⟩ := hr.resolve_left fun h => absurd h.1 (by decide)
  rw [h0]
  exact ⟨rfl, hbl⟩
/-- What stands in memory while sets are built up: the two sets, the first one, the dot. -/
structure CSt (w wr : World) (B bx bd : Nat) (xu xv : Value) (ds dc : Int) (Px Pk Po : DPred) : Prop where
  k : ∃ (a : Option Addr) (n c : Nat) (b : Option Addr) (m d : Nat), wr.heap[B]? = some (Obj.cells #[.slice a n c, .slice b m d] 30 (0, 0)) ∧ KnOwn wr 0 (.slice a n c) (.slice b m d) (formK Pk)
  o : ∃ (a : Option Addr) (n c : Nat) (b : Option Addr) (m d : Nat), wr.heap[B + 1]? = some (Obj.cells #[.slice a n c, .slice b m d] 30 (0, 0)) ∧ KnOwn wr 0 (.slice a n c) (.slice b m d) (formK Po)
  x : wr.heap[bx]? = some (Obj.cells #[xu, xv] 30 (0, 0))
  ox : KnOwn wr 0 xu xv (formK Px)
  d : wr.heap[bd]? = some (Obj.cells #[.int .i64 ds, .int .i64 dc] 24 (0, 0))
  bel : Below w.heap.size w wr
  lt : bx < B ∧ bd < B ∧ w.heap.size ≤ B
section
variable {w wr : World} {B bx bd : Nat} {xu xv : Value} {ds dc : Int} {Px Pk Po : DPred}
theorem CSt.below {w2 : World} (h : CSt w wr B bx bd xu xv ds dc Px Pk Po) (hb : Below wr.heap.size wr w2) : CSt w w2 B bx bd xu xv ds dc Px Pk Po := by
  obtain ⟨⟨a, n, c, b, m, d, h1, h2⟩, ⟨a', n', c', b', m', d', h1', h2'⟩, hx, hox, hd, hbel, hlt⟩ := h
  exact ⟨⟨a, n, c, b, m, d, below_keep hb h1, h2.below hb⟩, ⟨a', n', c', b', m', d', below_keep hb h1', h2'.below hb⟩, below_keep hb hx, hox.below hb, below_keep hb hd, hbel.trans (hb.mono hbel.size), hlt⟩
theorem KnOwn.set2 {base g : Nat} {u v x y : Value} {k : Kn} {cs : Array Value} (h : KnOwn wr base u v k) (hg : wr.heap[g]? = some (Obj.cells cs 30 (0, 0))) : KnOwn ((wr.setCell ⟨g, 0, none⟩ x).setCell ⟨g, 1, none⟩ y) base u v k :=
  ⟨own_set (own_set h.vec hg (by decide)) (heap_set_same hg) (by decide), own_set (own_set h.more hg (by decide)) (heap_set_same hg) (by decide)⟩
theorem set2_same {g : Nat} {u v x y : Value} (hg : wr.heap[g]? = some (Obj.cells #[u, v] 30 (0, 0))) : ((wr.setCell ⟨g, 0, none⟩ x).setCell ⟨g, 1, none⟩ y).heap[g]? = some (Obj.cells #[x, y] 30 (0, 0)) := by rw [heap_set_same (heap_set_same hg)]; rfl
theorem set2_other {g k : Nat} {x y : Value} (h : g ≠ k) : ((wr.setCell ⟨g, 0, none⟩ x).setCell ⟨g, 1, none⟩ y).heap[k]? = wr.heap[k]? := (heap_set_other (Ne.symm h)).trans (heap_set_other (Ne.symm h))
theorem CSt.setK {a b : Option Addr} {n c m d : Nat} {Q : DPred} (h : CSt w wr B bx bd xu xv ds dc Px Pk Po) (ho : KnOwn wr 0 (.slice a n c) (.slice b m d) (formK Q)) : CSt w ((wr.setCell ⟨B, 0, none⟩ (.slice a n c)).setCell ⟨B, 1, none⟩ (.slice b m d)) B bx bd xu xv ds dc Px Q Po := by
  obtain ⟨⟨_, _, _, _, _, _, h1, h2⟩, ⟨a', n', c', b', m', d', h1', h2'⟩, hx, hox, hd, hbel, hlt⟩ := h
  exact ⟨⟨a, n, c, b, m, d, set2_same h1, ho.set2 h1⟩, ⟨a', n', c', b', m', d', (set2_other (by omega)).trans h1', h2'.set2 h1⟩, (set2_other (by omega)).trans hx, hox.set2 h1, (set2_other (by omega)).trans hd, (hbel.setCell hlt.2.2 _).setCell hlt.2.2 _, hlt⟩
theorem CSt.setO {a b : Option Addr} {n c m d : Nat} {Q : DPred} (h : CSt w wr B bx bd xu xv ds dc Px Pk Po) (ho : KnOwn wr 0 (.slice a n c) (.slice b m d) (formK Q)) : CSt w ((wr.setCell ⟨B + 1, 0, none⟩ (.slice a n c)).setCell ⟨B + 1, 1, none⟩ (.slice b m d)) B bx bd xu xv ds dc Px Pk Q := by
  obtain ⟨⟨a', n', c', b', m', d', h1', h2'⟩, ⟨_, _, _, _, _, _, h1, h2⟩, hx, hox, hd, hbel, hlt⟩ := h
  exact ⟨⟨a', n', c', b', m', d', (set2_other (by omega)).trans h1', h2'.set2 h1⟩, ⟨a, n, c, b, m, d, set2_same h1, ho.set2 h1⟩, (set2_other (by omega)).trans hx, hox.set2 h1, (set2_other (by omega)).trans hd, (hbel.setCell (by simp only; omega) _).setCell (by simp only; omega) _, hlt⟩
end
theorem CSt.congr {w wr : World} {B bx bd : Nat} {xu xv : Value} {ds dc : Int} {Px Pk Po Pk' Po' : DPred} (h : CSt w wr B bx bd xu xv ds dc Px Pk Po) (hk : DEq Pk Pk') (ho : DEq Po Po') : CSt w wr B bx bd xu xv ds dc Px Pk' Po' := by
  obtain ⟨⟨a, n, c, b, m, d, h1, h2⟩, ⟨a', n', c', b', m', d', h1', h2'⟩, hx, hox, hd, hbel, hlt⟩ := h
  rw [formK_congr hk] at h2
  rw [formK_congr ho] at h2'
  exact ⟨⟨a, n, c, b, m, d, h1, h2⟩, ⟨a', n', c', b', m', d', h1', h2'⟩, hx, hox, hd, hbel, hlt⟩
theorem DEq.rfl' (P : DPred) : DEq P P := fun _ _ _ _ _ _ => rfl
/-- What Add answered, as one value; and the set in it. -/
def AddV (w : World) (v : Value) (P : DPred) : Prop := ∃ (a : Option Addr) (n c : Nat) (b : Option Addr) (m d : Nat), v = .tuple #[.agg #[.slice a n c, .slice b m d], .int .i64 0] ∧ KnOwn w 0 (.slice a n c) (.slice b m d) (formK P)
def AggV (w : World) (v : Value) (P : DPred) : Prop := ∃ (a : Option Addr) (n c : Nat) (b : Option Addr) (m d : Nat), v = .agg #[.slice a n c, .slice b m d] ∧ KnOwn w 0 (.slice a n c) (.slice b m d) (formK P)
theorem AddV.below {w w' : World} {v : Value} {P : DPred} (h : AddV w v P) (hb : Below w.heap.size w w') : AddV w' v P := by
  obtain ⟨a, n, c, b, m, d, h1, h2⟩ := h; exact ⟨a, n, c, b, m, d, h1, h2.below hb⟩
theorem AggV.below {w w' : World} {v : Value} {P : DPred} (h : AggV w v P) (hb : Below w.heap.size w w') : AggV w' v P := by
  obtain ⟨a, n, c, b, m, d, h1, h2⟩ := h; exact ⟨a, n, c, b, m, d, h1, h2.below hb⟩
/-- The two cells of a set's block are written. -/
def SetsK (B : Nat) (w w' : World) : Prop := ∃ (cs : Array Value) (u v : Value), w.heap[B]? = some (Obj.cells cs 30 (0, 0)) ∧ w' = (w.setCell ⟨B, 0, none⟩ u).setCell ⟨B, 1, none⟩ v
theorem AddV.sets {w w' : World} {B : Nat} {v : Value} {P : DPred} (h : AddV w v P) (hb : SetsK B w w') : AddV w' v P := by
  obtain ⟨a, n, c, b, m, d, h1, h2⟩ := h; obtain ⟨cs, u, x, h3, rfl⟩ := hb; exact ⟨a, n, c, b, m, d, h1, h2.set2 h3⟩
theorem AggV.sets {w w' : World} {B : Nat} {v : Value} {P : DPred} (h : AggV w v P) (hb : SetsK B w w') : AggV w' v P := by
  obtain ⟨a, n, c, b, m, d, h1, h2⟩ := h; obtain ⟨cs, u, x, h3, rfl⟩ := hb; exact ⟨a, n, c, b, m, d, h1, h2.set2 h3⟩
set_option maxRecDepth 100000 in
theorem set_o (v : Value) (ls : List (List Int)) (w : World) (hv : RowAt vecE w v ls) :
    Calls Try.prog 48 #[v] w fun e w' => ∃ (a : Option Addr) (n c : Nat) (b : Option Addr) (m d : Nat), e = .returned (.agg #[.slice a n c, .slice b m d]) ∧ KnOwn w' 0 (.slice a n c) (.slice b m d) (formK (setP ls)) ∧ Below w.heap.size w w' := by
  refine (set_c v ls w hv).mono ?_
  rintro e w' ⟨u, x, rfl, ho, hbl⟩
  have hk := ho.mono (Nat.zero_le _)
  obtain ⟨a, c, rfl⟩ := owns_slice ho.vec
  obtain ⟨b, d, rfl⟩ := owns_slice ho.more
  exact ⟨a, _, c, b, _, d, rfl, hk, hbl⟩
theorem add_self {P : DPred} {s c : Int} (h : P s c = true) : DEq (addP P s c) P := by
  intro s' c' _ _ _ _
  simp only [addP]
  by_cases e : (s', c') = (s, c)
  · simp only [Prod.mk.injEq] at e; rw [e.1, e.2, h]; simp
  · simp [e]
theorem own_none (w : World) : KnOwn w 0 (.slice none 0 0) (.slice none 0 0) (formK (dotsP [])) := by
  rw [dotsP_nil, form_none]
  exact ⟨World.ownsRow_nil _ _ _ _, World.ownsRow_nil _ _ _ _⟩
end Go.Proofs.Ytippljiicnpieaa
