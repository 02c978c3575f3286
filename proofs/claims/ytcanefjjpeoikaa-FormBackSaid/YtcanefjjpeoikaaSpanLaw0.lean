/- The contracts of package span at sets that 'make' made: what the laws lean on. -/
import Derived.Test.YtcanefjjpeoikaaSpanMake
namespace Go.Proofs.Ytcanefjjpeoikaa
open Go.RowKit

theorem two_make (p q : Nat → Bool) : two (make p) (make q) = 0 := by simp [two, make_chk]
theorem spanJoin_make (p q : Nat → Bool) : spanJoin (make p) (make q) = make (fun n => p n || q n) := by
  rw [spanJoin, if_pos (two_make p q)]; exact make_ext fun n hn => by rw [make_in_nat p n hn, make_in_nat q n hn]
theorem spanMeet_make (p q : Nat → Bool) : spanMeet (make p) (make q) = make (fun n => p n && q n) := by
  rw [spanMeet, if_pos (two_make p q)]; exact make_ext fun n hn => by rw [make_in_nat p n hn, make_in_nat q n hn]
theorem spanLess_make (p q : Nat → Bool) : spanLess (make p) (make q) = make (fun n => p n && !q n) := by
  rw [spanLess, if_pos (two_make p q)]; exact make_ext fun n hn => by rw [make_in_nat p n hn, make_in_nat q n hn]

set_option maxRecDepth 100000 in
theorem meetM (va vb : Value) (p q : Nat → Bool) (w : World) (ha : SpansAt w va (make p)) (hb : SpansAt w vb (make q)) :
    Calls Try.prog 35 #[va, vb] w fun e w' => ∃ v, e = .returned (.tuple #[v, .int .i64 0]) ∧ SpansAt w' v (make (fun n => p n && q n)) ∧ Below w.heap.size w w' :=
  (meet_c va vb _ _ w ha hb).mono fun e w' ⟨v, he, ho, hb⟩ => ⟨v, by rw [he, two_make], by rw [← spanMeet_make]; exact CellsAt.of_owns ho (by rw [spanMeet_make]; have := make_length (fun n => p n && q n); omega), hb⟩
set_option maxRecDepth 100000 in
theorem spansM (x : Int) (hx : 0 ≤ x ∧ x < 4294967296) (w : World) :
    Calls Try.prog 32 #[.int .u32 x] w fun e w' => ∃ v, e = .returned v ∧ SpansAt w' v (make (bitOf x)) ∧ Below w.heap.size w w' :=
  (spans_c x hx w).mono fun e w' ⟨v, he, ho, hb⟩ => ⟨v, he, by rw [← told_eq]; exact CellsAt.of_owns ho (by rw [told_eq]; have := make_length (bitOf x); omega), hb⟩
set_option maxRecDepth 100000 in
/-- Two sets that are the same: slices.Equal says so. -/
theorem eqM (va vb : Value) (p q : Nat → Bool) (w : World) (ha : SpansAt w va (make p)) (hb : SpansAt w vb (make q)) (h : ∀ n, n < 32 → p n = q n) :
    Calls Try.prog 53 #[va, vb] w fun e w' => e = .returned (.bool true) ∧ Below w.heap.size w w' :=
  (eqSpans_c va vb _ _ w ha hb).mono fun e w' ⟨he, hb⟩ => ⟨by rw [he, make_ext h]; simp, hb⟩
/-- Does a predicate hold of each number below 32? -/
def allB (f : Nat → Bool) : Bool := (List.range 32).all f
theorem allB_iff (f : Nat → Bool) : allB f = true ↔ ∀ n, n < 32 → f n = true := by simp [allB]
theorem make_eq_allB (p q : Nat → Bool) : (make p == make q) = allB (fun n => p n == q n) := by
  rw [Bool.eq_iff_iff, beq_iff_eq, allB_iff]
  exact ⟨fun h n hn => by rw [make_inj h n hn]; simp, fun h => make_ext fun n hn => by simpa using h n hn⟩
set_option maxRecDepth 100000 in
theorem eqB (va vb : Value) (p q : Nat → Bool) (w : World) (ha : SpansAt w va (make p)) (hb : SpansAt w vb (make q)) :
    Calls Try.prog 53 #[va, vb] w fun e w' => e = .returned (.bool (allB fun n => p n == q n)) ∧ Below w.heap.size w w' :=
  (eqSpans_c va vb _ _ w ha hb).mono fun e w' ⟨he, hb⟩ => ⟨by rw [he, make_eq_allB], hb⟩
theorem spanWithin_make (p q : Nat → Bool) : spanWithin (make p) (make q) = allB fun n => !p n || q n := by
  rw [spanWithin, two_make, spanLess_make, Bool.eq_iff_iff]
  simp only [decide_true, Bool.true_and, List.isEmpty_iff, allB_iff]
  constructor
  · intro h n hn
    have := make_inj (p := fun n => p n && !q n) (q := fun _ => false) (by rw [h]; decide) n hn
    cases hp : p n <;> cases hq : q n <;> simp_all
  · intro h
    rw [make_ext (q := fun _ => false) fun n hn => by have := h n hn; cases hp : p n <;> cases hq : q n <;> simp_all]
    decide
set_option maxRecDepth 100000 in
theorem countM (v : Value) (p : Nat → Bool) (w : World) (hs : SpansAt w v (make p)) :
    Calls Try.prog 34 #[v] w fun e w' => e = .returned (.tuple #[.int .i64 (cnt p 32), .int .i64 0]) ∧ Below w.heap.size w w' :=
  (spanCount_c v _ w hs).mono fun e w' ⟨he, hb⟩ => ⟨by rw [he, make_chk, spanCount, if_pos (make_chk p), countFrom_make], hb⟩
theorem cnt_false (k : Nat) : cnt (fun _ => false) k = 0 := by
  induction k with
  | zero => rfl
  | succ k ih => simp [cnt, ih]
theorem cnt_bd (p : Nat → Bool) (k : Nat) : 0 ≤ cnt p k ∧ cnt p k ≤ k := by
  induction k with
  | zero => simp [cnt]
  | succ k ih => simp only [cnt]; split <;> omega
theorem cnt_parts (p q : Nat → Bool) (k : Nat) : cnt (fun n => p n && q n) k + cnt (fun n => p n && !q n) k = cnt p k := by
  have h := cnt_add (fun n => p n && q n) (fun n => p n && !q n) p (fun _ => false) k (fun n _ => by cases p n <;> cases q n <;> simp)
  rw [cnt_false] at h; rw [h]; omega
theorem cnt_both (p q : Nat → Bool) (k : Nat) : cnt p k + cnt q k = cnt (fun n => p n || q n) k + cnt (fun n => p n && q n) k :=
  cnt_add p q (fun n => p n || q n) (fun n => p n && q n) k (fun n _ => by cases p n <;> cases q n <;> simp)
theorem range_cases (n : Int) : (decide (0 ≤ n) && decide (n < 32)) = true ∧ 0 ≤ n ∧ n < 32 ∨ (decide (0 ≤ n) && decide (n < 32)) = false := by
  by_cases h : 0 ≤ n ∧ n < 32
  · left; simp; omega
  · right; simp; omega
/-- A predicate's answer at whatever integer. -/
def atI (p : Nat → Bool) (n : Int) : Bool := decide (0 ≤ n) && decide (n < 32) && p n.toNat
theorem within_key (p q r : Nat → Bool) : ((allB fun n => !p n || q n) = true → (allB fun n => !q n || r n) = true → (allB fun n => !p n || r n) = true) ∧
    (allB fun n => p n == q n) = ((allB fun n => !p n || q n) && (allB fun n => !q n || p n)) ∧ (allB fun n => (p n || q n) == q n) = allB fun n => !p n || q n := by
  refine ⟨?_, ?_, ?_⟩
  · simp only [allB_iff]; intro h1 h2 n hn; have a := h1 n hn; have b := h2 n hn
    cases hp : p n <;> cases hq : q n <;> simp_all
  · rw [Bool.eq_iff_iff, Bool.and_eq_true]; simp only [allB_iff]
    constructor
    · intro h; constructor <;> intro n hn <;> have := h n hn <;> cases hp : p n <;> cases hq : q n <;> simp_all
    · rintro ⟨h1, h2⟩ n hn; have a := h1 n hn; have b := h2 n hn; cases hp : p n <;> cases hq : q n <;> simp_all
  · rw [Bool.eq_iff_iff]; simp only [allB_iff]
    constructor <;> intro h n hn <;> have := h n hn <;> cases hp : p n <;> cases hq : q n <;> simp_all
theorem lit0 (w : World) (a b : Int) (t : TypeId) (n : Nat) (hn : n = w.heap.size) : SpansAt (w.alloc (.cells #[.int .i64 a, .int .i64 b] t)) (.slice (some ⟨n, 0, none⟩) 1 1) [(a, b)] := by
  subst hn; exact CellsAt.of_owns (World.ownsRow_lit (base := 0) (size := 2) w #[.int .i64 a, .int .i64 b] 1 (by omega) (by decide) rfl) (by simp)
theorem lit2 (w : World) (a b c d : Int) (t : TypeId) (n : Nat) (hn : n = w.heap.size) : SpansAt (w.alloc (.cells #[.int .i64 a, .int .i64 b, .int .i64 c, .int .i64 d] t)) (.slice (some ⟨n, 0, none⟩) 2 2) [(a, b), (c, d)] := by
  subst hn; exact CellsAt.of_owns (World.ownsRow_lit (base := 0) (size := 2) w #[.int .i64 a, .int .i64 b, .int .i64 c, .int .i64 d] 2 (by omega) (by decide) rfl) (by simp)
theorem lit1 (w : World) (a b : Int) (t : TypeId) (o : Obj) (n : Nat) (hn : n = w.heap.size) : SpansAt ((w.alloc (.cells #[.int .i64 a, .int .i64 b] t)).alloc o) (.slice (some ⟨n, 0, none⟩) 1 1) [(a, b)] :=
  (lit0 w a b t n hn).below ((Below.refl _ _).alloc (Nat.le_refl _) _)
end Go.Proofs.Ytcanefjjpeoikaa
