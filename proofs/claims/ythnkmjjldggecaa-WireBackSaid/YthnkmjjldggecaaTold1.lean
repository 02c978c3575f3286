/- Versions as sites would make them: what memory holds while they are made. -/
import Derived.Test.YthnkmjjldggecaaMShelfP
import Derived.Test.YthnkmjjldggecaaShelfOwn0
import Derived.Test.YthnkmjjldggecaaRowOps
import Derived.Test.YthnkmjjldggecaaMShelf1
import Derived.Test.YthnkmjjldggecaaMDots4
import Derived.Test.YthnkmjjldggecaaMClaims
import Derived.Deep.QuietTactic
import Derived.BigQuiet
import Derived.Test.YthnkmjjldggecaaDots3
namespace Go.Proofs.Ythnkmjjldggecaa
open Go.RowKit
def madeC (mk : Nat → Nat) : Array Value := #[.int .i64 (mk 0 : Nat), .int .i64 (mk 1 : Nat), .int .i64 (mk 2 : Nat), .int .i64 (mk 3 : Nat), .int .i64 (mk 4 : Nat)]
theorem madeC_get (mk : Nat → Nat) {s : Nat} (h : s < 5) : (madeC mk)[s]? = some (.int .i64 (mk s : Nat)) := by
  match s, h with
  | 0, _ => rfl
  | 1, _ => rfl
  | 2, _ => rfl
  | 3, _ => rfl
  | 4, _ => rfl
theorem madeC_set (mk : Nat → Nat) {s n : Nat} (h : s < 5) : (madeC mk).setIfInBounds s (.int .i64 (n : Nat)) = madeC (fun j => if j = s then n else mk j) := by
  match s, h with
  | 0, _ => rfl
  | 1, _ => rfl
  | 2, _ => rfl
  | 3, _ => rfl
  | 4, _ => rfl
theorem grown_setRow (w : World) (g : Nat) (cs : Array Value) : w.grownBy (w.setRow g cs) (some g) := ⟨rfl, rfl, rfl, by simp, fun k _ hne => setRow_else fun e => hne (by rw [e])⟩
/-- A write into a block of another type than a shelf's rows. -/
theorem VOwn.other {w w' : World} {base g : Nat} {vv : Value} {l : List Ver} {cs : Array Value} {t : TypeId} {r : Nat × Nat} (h : VOwn w base vv l) (hb : w.grownBy w' (some g)) (hg : w.heap[g]? = some (Obj.cells cs t r)) (h1 : t ≠ 109) (h2 : t ≠ 3) (h3 : t ≠ 92) : VOwn w' base vv l := by
  obtain ⟨css, k1, k2⟩ := h
  exact ⟨css, k1.map fun _ _ _ h => ⟨h.vec.kept hb (.inr (own_off h.vec hg h2)), h.more.kept hb (.inr (own_off h.more hg h3))⟩, k2.kept hb (.inr (own_off k2 hg h1))⟩
structure TSt (w : World) (mk : Nat → Nat) (U : List Ver) (ov : Value) (wr : World) : Prop where
  blk : wr.heap[w.heap.size]? = some (Obj.cells (madeC mk) 199 (0, 0))
  own : VOwn wr (w.heap.size + 1) ov U
  bel : Below w.heap.size w wr
theorem TSt.below {w wr w2 : World} {mk : Nat → Nat} {U : List Ver} {ov : Value} (h : TSt w mk U ov wr) (hb : Below wr.heap.size wr w2) : TSt w mk U ov w2 :=
  ⟨below_keep hb h.blk, h.own.below hb, bstep h.bel hb⟩
theorem TSt.made {w wr : World} {mk : Nat → Nat} {U : List Ver} {ov : Value} (h : TSt w mk U ov wr) {s n : Nat} (hs : s < 5) : TSt w (fun j => if j = s then n else mk j) U ov (wr.setCell ⟨w.heap.size, s, none⟩ (.int .i64 (n : Nat))) :=
  ⟨by rw [heap_set_same h.blk, madeC_set mk hs], h.own.other (grown_set _ _ _ _) h.blk (by decide) (by decide) (by decide), h.bel.setCell (Nat.le_refl _) _⟩
/-- While what a version is over is put together. -/
structure ISt (w : World) (mk : Nat → Nat) (U : List Ver) (ov : Value) (B8 B9 : Nat) (cs : Array Value) (m : Nat → Nat) (wr : World) : Prop where
  t : TSt w mk U ov wr
  v : wr.heap[B8]? = some (Obj.cells cs 109 (0, 0))
  d : wr.heap[B9]? = some (Obj.cells (dotC m) 203 (0, 0))
  ord : w.heap.size < B8 ∧ B8 < B9
  ne : ov.ownBlock ≠ some B8
theorem ISt.below {w wr w2 : World} {mk : Nat → Nat} {U : List Ver} {ov : Value} {B8 B9 : Nat} {cs : Array Value} {m : Nat → Nat} (h : ISt w mk U ov B8 B9 cs m wr) (hb : Below wr.heap.size wr w2) : ISt w mk U ov B8 B9 cs m w2 :=
  ⟨h.t.below hb, below_keep hb h.v, below_keep hb h.d, h.ord, h.ne⟩
theorem ISt.put {w wr : World} {mk : Nat → Nat} {U : List Ver} {ov : Value} {B8 B9 : Nat} {cs : Array Value} {m : Nat → Nat} (m' : Nat → Nat) (h : ISt w mk U ov B8 B9 cs m wr) : ISt w mk U ov B8 B9 cs m' (wr.setRow B9 (dotC m')) := by
  have := h.ord
  exact ⟨⟨(setRow_else (by omega)).trans h.t.blk, h.t.own.other (grown_setRow _ _ _) h.d (by decide) (by decide) (by decide), below_setRow h.t.bel (by omega) _⟩, (setRow_else (by omega)).trans h.v, setRow_heap _ _ _ _ _ _ h.d, h.ord, h.ne⟩
/-- The strings that a version may be called. -/
def sid (i : Nat) : ByteArray := if i = 0 then ⟨#[97]⟩ else ⟨#[98]⟩
def StrLit (w : World) (v : Value) : Prop := ∃ g, v = .slice (some ⟨g, 0, none⟩) 2 2 ∧ w.heap[g]? = some (Obj.cells #[.string ⟨#[97]⟩, .string ⟨#[98]⟩] 9 (0, 0))
theorem StrLit.below {w w' : World} {v : Value} (h : StrLit w v) (hb : Below w.heap.size w w') : StrLit w' v := by
  obtain ⟨g, h1, h2⟩ := h; exact ⟨g, h1, below_keep hb h2⟩
def StrPtr (w : World) (v : Value) (i : Nat) : Prop := ∃ g, v = .pointer (some ⟨g, i, none⟩) ∧ w.heap[g]? = some (Obj.cells #[.string ⟨#[97]⟩, .string ⟨#[98]⟩] 9 (0, 0))
theorem StrPtr.below {w w' : World} {v : Value} {i : Nat} (h : StrPtr w v i) (hb : Below w.heap.size w w') : StrPtr w' v i := by
  obtain ⟨g, h1, h2⟩ := h; exact ⟨g, h1, below_keep hb h2⟩
theorem str_cell {w : World} {g i : Nat} (h : w.heap[g]? = some (Obj.cells #[.string ⟨#[97]⟩, .string ⟨#[98]⟩] 9 (0, 0))) (hi : i < 2) : w.cell? ⟨g, i, none⟩ = some (.string (sid i)) := by
  match i, hi with
  | 0, _ => exact cell_of_block h rfl
  | 1, _ => exact cell_of_block h rfl
def NewV (w : World) (S : Nat) (v : Value) : Prop := ∃ g, v = .pointer (some ⟨g, 0, none⟩) ∧ w.heap[g]? = some (Obj.cells #[.string ByteArray.empty, .int .i64 0, .int .i64 0, .int .i64 0, .int .i64 0, .int .i64 0, .slice none 0 0, .slice none 0 0] 109 (0, 0)) ∧ S ≤ g
theorem NewV.below {w w' : World} {S : Nat} {v : Value} (h : NewV w S v) (hb : Below w.heap.size w w') : NewV w' S v := by
  obtain ⟨g, h1, h2, h3⟩ := h; exact ⟨g, h1, below_keep hb h2, h3⟩
def FullV (w : World) (S : Nat) (v : Value) (cs : Array Value) : Prop := ∃ g, v = .pointer (some ⟨g, 0, none⟩) ∧ w.heap[g]? = some (Obj.cells cs 109 (0, 0)) ∧ S ≤ g
theorem FullV.below {w w' : World} {S : Nat} {v : Value} {cs : Array Value} (h : FullV w S v cs) (hb : Below w.heap.size w w') : FullV w' S v cs := by
  obtain ⟨g, h1, h2, h3⟩ := h; exact ⟨g, h1, below_keep hb h2, h3⟩
def DotsP (v : Value) (p : Nat → Nat → Bool) : Prop := ∃ m, v = .agg (dotC m) ∧ DWord m ∧ Has1 m p
theorem has_or {m m' : Nat → Nat} {p p' : Nat → Nat → Bool} (h : Has1 m p) (h' : Has1 m' p') : Has1 (orD m m') fun s c => p s c || p' s c := fun s c h5 h1 h2 => by rw [memD_or, h s c h5 h1 h2, h' s c h5 h1 h2]
theorem past_snoc (C : List Ver) (v : Ver) {s1 n1 : Nat} (hs : v.ds = s1) (hn : v.dc = n1) (s c : Nat) : pastP (C ++ [v]) (s : Int) (c : Int) = ((pastP C (s : Int) (c : Int) || allP v.past s c) || decide (s = s1 ∧ c = n1)) := by
  have e : decide ((s1 : Int) = (s : Int) ∧ (n1 : Int) = (c : Int)) = decide (s = s1 ∧ c = n1) := by rw [decide_eq_decide]; omega
  unfold pastP
  rw [List.any_append, List.any_cons, List.any_nil, Bool.or_false, hs, hn, e, Bool.or_assoc]
  rfl
/-- The same with one more. -/
def pastN (C : List Ver) (v : Ver) (s1 n1 : Nat) : Nat → Nat → Bool := fun s c => (pastP C (s : Int) (c : Int) || allP v.past s c) || decide (s = s1 ∧ c = n1)
structure IPut (w : World) (mk : Nat → Nat) (U : List Ver) (ov : Value) (B8 B9 : Nat) (cs : Array Value) (p : Nat → Nat → Bool) (wr : World) : Prop where
  ex : ∃ m, DWord m ∧ Has1 m p ∧ ISt w mk U ov B8 B9 cs m wr
theorem IPut.below {w wr w2 : World} {mk : Nat → Nat} {U : List Ver} {ov : Value} {B8 B9 : Nat} {cs : Array Value} {p : Nat → Nat → Bool} (h : IPut w mk U ov B8 B9 cs p wr) (hb : Below wr.heap.size wr w2) : IPut w mk U ov B8 B9 cs p w2 := by
  obtain ⟨m, h1, h2, h3⟩ := h.ex; exact ⟨m, h1, h2, h3.below hb⟩
theorem told_step {U : List Ver} {mk mk2 : Nat → Nat} {s q1 i2 tg nm bd : Nat} {C : List Ver} {m : Nat → Nat} (h : TInv U) (hl : U.length ≤ 20) (hs : s < 5) (htg : tg < 16) (hnm : nm < 32) (hbd : bd < 1000) (hq : q1 = mk s + 1) (hq2 : mk2 s = q1) (hk2 : ∀ j, j ≠ s → mk2 j = mk j)
    (hm1 : ∀ x ∈ U, ∀ s : Nat, x.ds = (s : Int) → x.dc ≤ (mk s : Nat)) (hm2 : ∀ s, mk s ≤ U.length) (hC : ∀ x ∈ C, x ∈ U ∧ x.id = sid i2) (hm : Has1 m (fun s c => pastP C (s : Int) (c : Int))) :
    TInv (U ++ [⟨sid i2, s, q1, tg, nm, bd, formK (predD m)⟩]) ∧ (∀ x ∈ U ++ [(⟨sid i2, s, q1, tg, nm, bd, formK (predD m)⟩ : Ver)], ∀ s : Nat, x.ds = (s : Int) → x.dc ≤ (mk2 s : Nat)) ∧ ∀ s', mk2 s' ≤ (U ++ [(⟨sid i2, s, q1, tg, nm, bd, formK (predD m)⟩ : Ver)]).length := by
  have hms := hm2 s
  refine ⟨h.snoc (C := C) (P := predD m) ?_ ?_ ?_ ?_ ?_ ?_ (by omega) hC ?_ rfl, ?_, ?_⟩
  · show sid i2 = _ ∨ sid i2 = _
    unfold sid; split
    · exact .inl rfl
    · exact .inr rfl
  · exact dotOk_iff.2 ⟨by simp only; omega, by simp only; omega⟩
  · simp only [ptOk, tagsB, Bool.and_eq_true, decide_eq_true_eq]; omega
  · exact ⟨by simp only; omega, by simp only; omega⟩
  · intro x hx e
    have := hm1 x hx s e
    simp only; omega
  · simp only; omega
  · intro a c h0 h5 h1 h1000
    have := hm a.toNat c.toNat (by omega) (by omega) (by omega)
    simp only at this
    rw [show ((a.toNat : Nat) : Int) = a by omega, show ((c.toNat : Nat) : Int) = c by omega] at this
    exact this
  · intro x hx s' e
    rcases List.mem_append.1 hx with hx | hx
    · have := hm1 x hx s' e
      by_cases hss : s' = s
      · subst hss; rw [hq2]; omega
      · rw [hk2 s' hss]; exact this
    · rw [List.mem_singleton] at hx
      subst hx
      simp only at e ⊢
      obtain rfl : s = s' := by omega
      rw [hq2]; omega
  · intro s'
    rw [List.length_append, List.length_singleton]
    by_cases hss : s' = s
    · subst hss; rw [hq2]; omega
    · rw [hk2 s' hss]; have := hm2 s'; omega
end Go.Proofs.Ythnkmjjldggecaa
