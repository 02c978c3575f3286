/- Cubes of four tags, small facts by counting; the state of filter.boxes. No program in sight. -/
import Derived.Test.YtcanefjjpeoikaaFilterPure
namespace Go.Proofs.Ytcanefjjpeoikaa
open Go.RowKit

def dropB (y k : Nat) : Nat := if y.testBit k then y - 2 ^ k else y
theorem cubeAll_fact : ∀ T : Nat, T < 16 → cubeChk (T : Int) (15 - (T : Int)) = 0 ∧ cubeIn (T : Int) (15 - (T : Int)) (T : Int) = true ∧ ∀ o : Nat, o < 16 → cubeIn (T : Int) (15 - (T : Int)) (o : Int) = true → o = T := by decide +kernel
theorem andNot_fact : ∀ y : Nat, y < 16 → ∀ k : Nat, k < 4 → bits .andNot .i64 (y : Int) ((2 : Int) ^ k) = (dropB y k : Int) ∧ dropB y k < 16 := by decide +kernel
theorem drop_chk_fact : ∀ y : Nat, y < 16 → ∀ n : Nat, n < 16 → ∀ k : Nat, k < 4 → cubeChk (y : Int) (n : Int) = 0 → cubeChk (dropB y k : Int) (dropB n k : Int) = 0 := by decide +kernel
theorem drop_in_fact : ∀ y : Nat, y < 16 → ∀ n : Nat, n < 16 → ∀ k : Nat, k < 4 → ∀ o : Nat, o < 16 → cubeIn (y : Int) (n : Int) (o : Int) = true → cubeIn (dropB y k : Int) (dropB n k : Int) (o : Int) = true := by decide +kernel

/-- Flags of the sixteen combinations of tags. -/
def flagC (d : Nat → Bool) : Array Value := ((List.range 16).map fun k => Value.bool (d k)).toArray
theorem flagC_size (d : Nat → Bool) : (flagC d).size = 16 := by simp [flagC]
theorem flagC_get (d : Nat → Bool) (k : Nat) (h : k < 16) : (flagC d)[k]? = some (.bool (d k)) := by simp [flagC, h]
theorem flagC_set (d : Nat → Bool) (k : Nat) (x : Bool) : (flagC d).setIfInBounds k (.bool x) = flagC (fun j => if j = k then x else d j) := by
  apply Array.ext
  · simp [flagC]
  · intro i h1 h2
    simp only [Array.size_setIfInBounds, flagC_size] at h1
    by_cases h : k = i
    · subst h; simp [flagC]
    · rw [Array.getElem_setIfInBounds_ne (by simpa [flagC] using h1) h]
      simp [flagC, show ¬ i = k from fun e => h e.symm]
theorem flagC_zero : flagC (fun _ => false) = Array.replicate 16 (.bool false) := by
  apply Array.ext
  · simp [flagC]
  · intro i h1 h2; simp [flagC]

/-- What filter.boxes has made of the first T combinations of the table q: the boxes l, whose points are those of the combinations dn. -/
structure BoxSt (q : Nat → Nat) (T : Nat) (l : Bxs) (dn : Nat → Bool) : Prop where
  len : l.length ≤ T
  ok : ∀ b ∈ l, bxChk b = 0
  pts : ∀ k n : Nat, k < 16 → n < 32 → inF l k n = (dn k && (q k).testBit n)
  all : ∀ k, k < T → q k ≠ 0 → dn k = true
  some_ : l ≠ [] → ∃ k, k < 16 ∧ q k ≠ 0
theorem BoxSt.zero (q : Nat → Nat) : BoxSt q 0 [] (fun _ => false) := ⟨Nat.le_refl _, fun b hb => by simp at hb, fun k n _ _ => by simp [inF], fun k hk => by omega, fun h => absurd rfl h⟩
theorem BoxSt.skip {q : Nat → Nat} {T : Nat} {l : Bxs} {dn : Nat → Bool} (h : BoxSt q T l dn) (hs : dn T = true ∨ q T = 0) : BoxSt q (T + 1) l dn :=
  ⟨by have := h.len; omega, h.ok, h.pts, fun k hk hq => by
    by_cases e : k = T
    · subst e; rcases hs with h | h
      · exact h
      · exact absurd h hq
    · exact h.all k (by omega) hq, h.some_⟩
/-- A cube whose combinations all have the same numbers as T. -/
structure CubeSt (q : Nat → Nat) (T y n : Nat) : Prop where
  y16 : y < 16
  n16 : n < 16
  ok : cubeChk (y : Int) (n : Int) = 0
  self : cubeIn (y : Int) (n : Int) (T : Int) = true
  same : ∀ o : Nat, o < 16 → cubeIn (y : Int) (n : Int) (o : Int) = true → q o = q T
theorem CubeSt.zero (q : Nat → Nat) {T : Nat} (hT : T < 16) : CubeSt q T T (15 - T) := by
  obtain ⟨h1, h2, h3⟩ := cubeAll_fact T hT
  have e : ((15 - T : Nat) : Int) = 15 - (T : Int) := by omega
  refine ⟨hT, by omega, by rw [e]; exact h1, by rw [e]; exact h2, fun o ho h => ?_⟩
  rw [e] at h
  rw [h3 o ho h]
theorem CubeSt.drop {q : Nat → Nat} {T y n k : Nat} (h : CubeSt q T y n) (hT : T < 16) (hk : k < 4) (hs : ∀ o : Nat, o < 16 → cubeIn (dropB y k : Int) (dropB n k : Int) (o : Int) = true → q o = q T) : CubeSt q T (dropB y k) (dropB n k) :=
  ⟨(andNot_fact y h.y16 k hk).2, (andNot_fact n h.n16 k hk).2, drop_chk_fact y h.y16 n h.n16 k hk h.ok, drop_in_fact y h.y16 n h.n16 k hk T hT h.self, hs⟩
theorem BoxSt.push {q : Nat → Nat} {T y n : Nat} {l : Bxs} {dn : Nat → Bool} (h : BoxSt q T l dn) (hT : T < 16) (hq : q T ≠ 0) (hc : CubeSt q T y n) :
    BoxSt q (T + 1) (l ++ [⟨y, n, make fun i => (q T).testBit i⟩]) (fun k => dn k || cubeIn (y : Int) (n : Int) (k : Int)) := by
  refine ⟨by have := h.len; simp; omega, ?_, ?_, ?_, fun _ => ⟨T, hT, hq⟩⟩
  · intro b hb
    rcases List.mem_append.1 hb with hb | hb
    · exact h.ok b hb
    · simp only [List.mem_singleton] at hb
      subst hb
      exact bxChk_zero.2 ⟨hc.ok, make_chk _⟩
  · intro k m hk hm
    have e : inF (l ++ [⟨y, n, make fun i => (q T).testBit i⟩]) k m = (inF l k m || (cubeIn y n k && inB (make fun i => (q T).testBit i) m)) := by simp [inF]
    rw [e, h.pts k m hk hm, make_in_nat _ m hm]
    cases hin : cubeIn (y : Int) (n : Int) (k : Int)
    · simp
    · rw [hc.same k hk hin]; cases dn k <;> simp
  · intro k hk hqk
    by_cases e : k = T
    · subst e; simp [hc.self]
    · simp [h.all k (by omega) hqk]
/-- The boxes' rows in memory. -/
def BxsOwn (w : World) (base eB eS : Nat) (v : Value) (l : Bxs) : Prop :=
  ∃ us : List Value, us.length = l.length ∧ w.ownsRow base eB 3 v l.length (bxCells l us) ∧ ∀ i (h : i < l.length) (h' : i < us.length), w.ownsRow base eS 2 us[i] l[i].sp.length (spansCells l[i].sp)
theorem BxsOwn.nil (w : World) (base eB eS : Nat) : BxsOwn w base eB eS (.slice none 0 0) [] := ⟨[], rfl, World.ownsRow_nil _ _ _ _, fun i h => by simp at h⟩
theorem BxsOwn.below {w w' : World} {base eB eS : Nat} {v : Value} {l : Bxs} (h : BxsOwn w base eB eS v l) (hb : Below w.heap.size w w') : BxsOwn w' base eB eS v l := by
  obtain ⟨us, h1, h2, h3⟩ := h
  exact ⟨us, h1, owns_below h2 hb, fun i hi hi' => owns_below (h3 i hi hi') hb⟩
theorem BxsOwn.at_ {w : World} {base eB eS : Nat} {v : Value} {l : Bxs} (h : BxsOwn w base eB eS v l) (hl : l.length ≤ 1000) (hok : ∀ b ∈ l, bxChk b = 0) : BxsAt w v l := by
  obtain ⟨us, h1, h2, h3⟩ := h
  refine ⟨us, h1, CellsAt.of_owns h2 (by omega), fun i hi hi' => CellsAt.of_owns (h3 i hi hi') ?_⟩
  have := (spansChk_bounds (bxChk_zero.1 (hok _ (List.getElem_mem hi))).2).1
  omega
theorem BxsOwn.shape {w : World} {base eB eS : Nat} {v : Value} {l : Bxs} (h : BxsOwn w base eB eS v l) : ∃ a cap, v = .slice a l.length cap := by
  obtain ⟨us, -, h, -⟩ := h; exact owns_slice h
end Go.Proofs.Ytcanefjjpeoikaa
