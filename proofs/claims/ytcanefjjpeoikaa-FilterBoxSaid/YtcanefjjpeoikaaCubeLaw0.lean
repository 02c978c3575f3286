/- Cubes as predicates on four tags: what the contracts of package cube say of them. -/
import Derived.Test.YtcanefjjpeoikaaCube3
namespace Go.Proofs.Ytcanefjjpeoikaa
open Go.RowKit

/-- Four bits as a number. -/
def enc4 (a b c d : Bool) : Int := (if a then 1 else 0) + (if b then 2 else 0) + (if c then 4 else 0) + (if d then 8 else 0)
def encF (p : Nat → Bool) : Int := enc4 (p 0) (p 1) (p 2) (p 3)
def allF (f : Nat → Bool) : Bool := f 0 && f 1 && f 2 && f 3
theorem allF_iff (f : Nat → Bool) : allF f = true ↔ ∀ i, i < 4 → f i = true := by
  simp only [allF, Bool.and_eq_true]
  constructor
  · rintro ⟨⟨⟨h0, h1⟩, h2⟩, h3⟩ i hi
    obtain rfl | rfl | rfl | rfl : i = 0 ∨ i = 1 ∨ i = 2 ∨ i = 3 := by omega
    all_goals assumption
  · intro h; exact ⟨⟨⟨h 0 (by omega), h 1 (by omega)⟩, h 2 (by omega)⟩, h 3 (by omega)⟩

theorem enc_and4 : ∀ a b c d a' b' c' d' : Bool, bits .and .i64 (enc4 a b c d) (enc4 a' b' c' d') = enc4 (a && a') (b && b') (c && c') (d && d') := by decide +kernel
theorem enc_or4 : ∀ a b c d a' b' c' d' : Bool, bits .or .i64 (enc4 a b c d) (enc4 a' b' c' d') = enc4 (a || a') (b || b') (c || c') (d || d') := by decide +kernel
theorem enc_eq4 : ∀ a b c d a' b' c' d' : Bool, (enc4 a b c d == enc4 a' b' c' d') = ((a == a') && (b == b') && (c == c') && (d == d')) := by decide +kernel
theorem enc_tags4 : ∀ a b c d : Bool, tagsB (enc4 a b c d) = true := by decide +kernel
theorem enc_ones4 : ∀ a b c d : Bool, ones (enc4 a b c d) = (if a then 1 else 0) + (if b then 1 else 0) + (if c then 1 else 0) + (if d then 1 else 0) := by decide +kernel

theorem enc_and (p q : Nat → Bool) : bits .and .i64 (encF p) (encF q) = encF (fun i => p i && q i) := enc_and4 _ _ _ _ _ _ _ _
theorem enc_or (p q : Nat → Bool) : bits .or .i64 (encF p) (encF q) = encF (fun i => p i || q i) := enc_or4 _ _ _ _ _ _ _ _
theorem enc_eq (p q : Nat → Bool) : (encF p == encF q) = allF (fun i => p i == q i) := enc_eq4 _ _ _ _ _ _ _ _
theorem enc_tags (p : Nat → Bool) : tagsB (encF p) = true := enc_tags4 _ _ _ _
theorem enc_zero : encF (fun _ => false) = 0 := by decide
theorem enc_and_zero (p q : Nat → Bool) : (bits .and .i64 (encF p) (encF q) == 0) = allF (fun i => !(p i && q i)) := by
  rw [enc_and, ← enc_zero, enc_eq]; unfold allF
  cases p 0 <;> cases q 0 <;> cases p 1 <;> cases q 1 <;> simp

/-- The tags of a number. -/
def tb (t : Int) (i : Nat) : Bool := t.toNat.testBit i
theorem enc_tb (t : Int) (h0 : 0 ≤ t) (h1 : t < 16) : encF (tb t) = t := by
  obtain ⟨a, rfl⟩ : ∃ a : Fin 16, t = (a.val : Int) := ⟨⟨t.toNat, by omega⟩, by simp; omega⟩
  clear h0 h1
  revert a; decide +kernel

/-- A cube that may be: no tag is told both ways. -/
def Apart (Y N : Nat → Bool) : Prop := allF (fun i => !(Y i && N i)) = true

theorem chk_enc {Y N : Nat → Bool} (h : Apart Y N) : cubeChk (encF Y) (encF N) = 0 := by
  unfold cubeChk; rw [enc_tags, enc_tags, enc_and_zero, h]; rfl
theorem two_enc {Y N Y' N' : Nat → Bool} (h : Apart Y N) (h' : Apart Y' N') : cubeTwo (encF Y) (encF N) (encF Y') (encF N') = 0 := by
  unfold cubeTwo; rw [chk_enc h, chk_enc h']; rfl
theorem within_enc {Y N Y' N' : Nat → Bool} (h : Apart Y N) (h' : Apart Y' N') : cubeWithin (encF Y) (encF N) (encF Y') (encF N') = allF (fun i => (!Y' i || Y i) && (!N' i || N i)) := by
  unfold cubeWithin; rw [two_enc h h', enc_and, enc_and, enc_eq, enc_eq, Bool.eq_iff_iff]
  simp only [Bool.and_eq_true, allF_iff]
  constructor
  · rintro ⟨⟨_, h1⟩, h2⟩ i hi; have a := h1 i hi; have b := h2 i hi
    cases hy : Y i <;> cases hy' : Y' i <;> cases hn : N i <;> cases hn' : N' i <;> simp_all
  · intro h; refine ⟨⟨rfl, ?_⟩, ?_⟩ <;> intro i hi <;> have a := h i hi <;> cases hy : Y i <;> cases hy' : Y' i <;> cases hn : N i <;> cases hn' : N' i <;> simp_all
theorem in_enc (Y N T : Nat → Bool) : cubeIn (encF Y) (encF N) (encF T) = allF (fun i => (!Y i || T i) && (!N i || !T i)) := by
  unfold cubeIn; rw [enc_and_zero, enc_and, enc_eq, Bool.eq_iff_iff]
  simp only [Bool.and_eq_true, allF_iff]
  constructor
  · rintro ⟨h1, h2⟩ i hi; have a := h1 i hi; have b := h2 i hi
    cases hy : Y i <;> cases hn : N i <;> cases ht : T i <;> simp_all
  · intro h; refine ⟨?_, ?_⟩ <;> intro i hi <;> have a := h i hi <;> cases hy : Y i <;> cases hn : N i <;> cases ht : T i <;> simp_all
theorem has_enc {Y N : Nat → Bool} (T : Nat → Bool) (h : Apart Y N) : cubeHas (encF Y) (encF N) (encF T) = allF (fun i => (!Y i || T i) && (!N i || !T i)) ∧ cubeHasE (encF Y) (encF N) (encF T) = 0 := by
  unfold cubeHas cubeHasE; rw [chk_enc h, enc_tags, in_enc]; exact ⟨rfl, rfl⟩
/-- May two cubes have something in common? -/
def meets (Y N Y' N' : Nat → Bool) : Bool := allF (fun i => !((Y i || Y' i) && (N i || N' i)))
theorem meet_enc {Y N Y' N' : Nat → Bool} (h : Apart Y N) (h' : Apart Y' N') :
    (meets Y N Y' N' = true → cubeMeetE (encF Y) (encF N) (encF Y') (encF N') = 0 ∧ cubeMeetY (encF Y) (encF N) (encF Y') (encF N') = encF (fun i => Y i || Y' i) ∧ cubeMeetN (encF Y) (encF N) (encF Y') (encF N') = encF (fun i => N i || N' i)) ∧
    (meets Y N Y' N' = false → cubeMeetE (encF Y) (encF N) (encF Y') (encF N') = 4 ∧ cubeMeetY (encF Y) (encF N) (encF Y') (encF N') = 0 ∧ cubeMeetN (encF Y) (encF N) (encF Y') (encF N') = 0) := by
  have e : cubeMeetE (encF Y) (encF N) (encF Y') (encF N') = if meets Y N Y' N' then 0 else 4 := by
    unfold cubeMeetE; rw [two_enc h h', enc_or, enc_or, enc_and_zero]; rfl
  unfold cubeMeetY cubeMeetN
  rw [e, enc_or, enc_or]
  constructor <;> intro hm <;> rw [hm] <;> exact ⟨rfl, rfl, rfl⟩
/-- How many tags a cube leaves open. -/
def open4 (Y N : Nat → Bool) : Nat := (if Y 0 || N 0 then 0 else 1) + (if Y 1 || N 1 then 0 else 1) + (if Y 2 || N 2 then 0 else 1) + (if Y 3 || N 3 then 0 else 1)
theorem count_enc {Y N : Nat → Bool} (h : Apart Y N) : cubeCount (encF Y) (encF N) = 2 ^ open4 Y N := by
  unfold cubeCount; rw [chk_enc h, enc_or]
  simp only [encF, enc_ones4, open4]
  cases Y 0 || N 0 <;> cases Y 1 || N 1 <;> cases Y 2 || N 2 <;> cases Y 3 || N 3 <;> decide

/-- The cube of a number. -/
def dY (k : Int) (i : Nat) : Bool := dig k i == 1
def dN (k : Int) (i : Nat) : Bool := dig k i == 2
theorem d_apart (k : Int) : Apart (dY k) (dN k) := by
  unfold Apart; rw [allF_iff]; intro i _
  unfold dY dN
  by_cases h : dig k i = 1
  · simp [h]
  · simp [h]
theorem oneY_enc (k : Int) : oneY k 4 = encF (dY k) := by
  simp only [oneY, encF, dY]
  cases dig k 0 == 1 <;> cases dig k 1 == 1 <;> cases dig k 2 == 1 <;> cases dig k 3 == 1 <;> decide +kernel
theorem oneN_enc (k : Int) : oneN k 4 = encF (dN k) := by
  simp only [oneN, encF, dN]
  cases dig k 0 == 2 <;> cases dig k 1 == 2 <;> cases dig k 2 == 2 <;> cases dig k 3 == 2 <;> decide +kernel
set_option maxRecDepth 100000 in
theorem oneM (k : Int) (w : World) :
    Calls Try.prog 31 #[.int .i64 k] w fun e w' => e = .returned (.agg #[.int .i64 (encF (dY k)), .int .i64 (encF (dN k))]) ∧ Below w.heap.size w w' := by
  have h := one_c k w; rw [oneY_enc, oneN_enc] at h; exact h
set_option maxRecDepth 100000 in
theorem countM' {Y N : Nat → Bool} (h : Apart Y N) (w : World) :
    Calls Try.prog 33 #[.agg #[.int .i64 (encF Y), .int .i64 (encF N)]] w fun e w' => e = .returned (.tuple #[.int .i64 (2 ^ open4 Y N), .int .i64 0]) ∧ Below w.heap.size w w' := by
  have k := cubeCount_c (encF Y) (encF N) w; rw [count_enc h, chk_enc h] at k; exact k
set_option maxRecDepth 100000 in
theorem meetY {Y N Y' N' : Nat → Bool} (h : Apart Y N) (h' : Apart Y' N') (hm : meets Y N Y' N' = true) (w : World) :
    Calls Try.prog 36 #[.agg #[.int .i64 (encF Y), .int .i64 (encF N)], .agg #[.int .i64 (encF Y'), .int .i64 (encF N')]] w fun e w' =>
      e = .returned (.tuple #[.agg #[.int .i64 (encF fun i => Y i || Y' i), .int .i64 (encF fun i => N i || N' i)], .int .i64 0]) ∧ Below w.heap.size w w' := by
  have k := cubeMeet_c (encF Y) (encF N) (encF Y') (encF N') w; obtain ⟨e1, e2, e3⟩ := (meet_enc h h').1 hm; rw [e1, e2, e3] at k; exact k
set_option maxRecDepth 100000 in
theorem meetN {Y N Y' N' : Nat → Bool} (h : Apart Y N) (h' : Apart Y' N') (hm : meets Y N Y' N' = false) (w : World) :
    Calls Try.prog 36 #[.agg #[.int .i64 (encF Y), .int .i64 (encF N)], .agg #[.int .i64 (encF Y'), .int .i64 (encF N')]] w fun e w' =>
      e = .returned (.tuple #[.agg #[.int .i64 0, .int .i64 0], .int .i64 4]) ∧ Below w.heap.size w w' := by
  have k := cubeMeet_c (encF Y) (encF N) (encF Y') (encF N') w; obtain ⟨e1, e2, e3⟩ := (meet_enc h h').2 hm; rw [e1, e2, e3] at k; exact k
theorem order_key (Y N Y' N' Y'' N'' T : Nat → Bool) :
    ((allF fun i => (!Y' i || Y i) && (!N' i || N i)) = true → (allF fun i => (!Y'' i || Y' i) && (!N'' i || N' i)) = true → (allF fun i => (!Y'' i || Y i) && (!N'' i || N i)) = true) ∧
    ((allF fun i => (!Y' i || Y i) && (!N' i || N i)) = true → (allF fun i => (!Y i || T i) && (!N i || !T i)) = true → (allF fun i => (!Y' i || T i) && (!N' i || !T i)) = true) ∧
    ((encF Y == encF Y') && (encF N == encF N')) = ((allF fun i => (!Y' i || Y i) && (!N' i || N i)) && (allF fun i => (!Y i || Y' i) && (!N i || N' i))) := by
  refine ⟨?_, ?_, ?_⟩
  · simp only [allF_iff]; intro h1 h2 i hi; have a := h1 i hi; have b := h2 i hi
    cases hy : Y i <;> cases hy' : Y' i <;> cases hy'' : Y'' i <;> cases hn : N i <;> cases hn' : N' i <;> cases hn'' : N'' i <;> simp_all
  · simp only [allF_iff]; intro h1 h2 i hi; have a := h1 i hi; have b := h2 i hi
    cases hy : Y i <;> cases hy' : Y' i <;> cases ht : T i <;> cases hn : N i <;> cases hn' : N' i <;> simp_all
  · rw [enc_eq, enc_eq, Bool.eq_iff_iff]; simp only [Bool.and_eq_true, allF_iff]
    constructor
    · rintro ⟨h1, h2⟩; constructor <;> intro i hi <;> have a := h1 i hi <;> have b := h2 i hi <;> cases hy : Y i <;> cases hy' : Y' i <;> cases hn : N i <;> cases hn' : N' i <;> simp_all
    · rintro ⟨h1, h2⟩; constructor <;> intro i hi <;> have a := h1 i hi <;> have b := h2 i hi <;> cases hy : Y i <;> cases hy' : Y' i <;> cases hn : N i <;> cases hn' : N' i <;> simp_all
set_option maxRecDepth 100000 in
/-- '==' on two cubes. -/
theorem eqCube (a b c d : Int) (w : World) : (Op.equalIn 10000 49 (.agg #[.int .i64 a, .int .i64 b]) (.agg #[.int .i64 c, .int .i64 d])).run Try.prog w = .ok (a == c && b == d) w := by
  have u3 := Try.underlying3
  have a3 := Try.isAgg3
  have z3 := Try.sizeOf3
  rw [show (10000 : Nat) = 9999 + 1 from rfl, run_equalIn_agg w 9999 49 _ _ (by kernel_rfl) (by kernel_rfl)]
  simp only [Program.fieldsOf, Try.underlying49]
  go_simp
  by_cases h1 : a = c <;> by_cases h2 : b = d <;> simp [h1, h2]
set_option maxRecDepth 100000 in
theorem eqGuardCube : Try.prog.eqGuardType Try.prog.depth 49 = false := by kernel_rfl
theorem meets_comm (Y N Y' N' : Nat → Bool) : meets Y N Y' N' = meets Y' N' Y N := by
  unfold meets; congr 1; funext i; rw [Bool.or_comm (Y i), Bool.or_comm (N i)]
theorem allF_false {f : Nat → Bool} (h : allF f = false) : ∃ i, i < 4 ∧ f i = false := by
  simp only [allF, Bool.and_eq_false_iff] at h
  rcases h with ((h | h) | h) | h
  · exact ⟨0, by omega, h⟩
  · exact ⟨1, by omega, h⟩
  · exact ⟨2, by omega, h⟩
  · exact ⟨3, by omega, h⟩
theorem meets_key (Y N Y' N' Z M T : Nat → Bool) (hz : Apart Z M) :
    (meets Y N Y' N' = true → (bits .and .i64 (encF Y) (encF N') == 0) = true ∧ (bits .and .i64 (encF N) (encF Y') == 0) = true ∧
      (allF fun i => (!(Y i || Y' i) || Z i) && (!(N i || N' i) || M i)) = ((allF fun i => (!Y i || Z i) && (!N i || M i)) && (allF fun i => (!Y' i || Z i) && (!N' i || M i))) ∧
      (allF fun i => (!(Y i || Y' i) || T i) && (!(N i || N' i) || !T i)) = ((allF fun i => (!Y i || T i) && (!N i || !T i)) && (allF fun i => (!Y' i || T i) && (!N' i || !T i)))) ∧
    (Apart Y N → Apart Y' N' → meets Y N Y' N' = false → ((bits .and .i64 (encF Y) (encF N') == 0) && (bits .and .i64 (encF N) (encF Y') == 0)) = false ∧
      ((allF fun i => (!Y i || Z i) && (!N i || M i)) && (allF fun i => (!Y' i || Z i) && (!N' i || M i))) = false) := by
  refine ⟨fun hm => ⟨?_, ?_, ?_, ?_⟩, fun ha hb hm => ⟨?_, ?_⟩⟩
  · rw [enc_and_zero, allF_iff]; intro i hi; have a := (allF_iff _).1 hm i hi; cases hy : Y i <;> cases hn : N' i <;> simp_all
  · rw [enc_and_zero, allF_iff]; intro i hi; have a := (allF_iff _).1 hm i hi; cases hy : N i <;> cases hn : Y' i <;> simp_all
  · rw [Bool.eq_iff_iff, Bool.and_eq_true]; simp only [allF_iff]
    constructor
    · intro h; constructor <;> intro i hi <;> have a := h i hi <;> cases hy : Y i <;> cases hn : N i <;> cases hy' : Y' i <;> cases hn' : N' i <;> simp_all
    · rintro ⟨h, h'⟩ i hi; have a := h i hi; have b := h' i hi; cases hy : Y i <;> cases hn : N i <;> cases hy' : Y' i <;> cases hn' : N' i <;> simp_all
  · rw [Bool.eq_iff_iff, Bool.and_eq_true]; simp only [allF_iff]
    constructor
    · intro h; constructor <;> intro i hi <;> have a := h i hi <;> cases hy : Y i <;> cases hn : N i <;> cases hy' : Y' i <;> cases hn' : N' i <;> simp_all
    · rintro ⟨h, h'⟩ i hi; have a := h i hi; have b := h' i hi; cases hy : Y i <;> cases hn : N i <;> cases hy' : Y' i <;> cases hn' : N' i <;> simp_all
  · obtain ⟨i, hi, hf⟩ := allF_false hm
    have a := (allF_iff _).1 ha i hi; have b := (allF_iff _).1 hb i hi
    rw [enc_and_zero, enc_and_zero, Bool.eq_false_iff]; intro h
    simp only [Bool.and_eq_true, allF_iff] at h
    have c := h.1 i hi; have d := h.2 i hi
    cases hy : Y i <;> cases hn : N i <;> cases hy' : Y' i <;> cases hn' : N' i <;> simp_all
  · obtain ⟨i, hi, hf⟩ := allF_false hm
    have a := (allF_iff _).1 ha i hi; have b := (allF_iff _).1 hb i hi; have z := (allF_iff _).1 hz i hi
    rw [Bool.eq_false_iff]; intro h
    simp only [Bool.and_eq_true, allF_iff] at h
    have c := h.1 i hi; have d := h.2 i hi
    cases hy : Y i <;> cases hn : N i <;> cases hy' : Y' i <;> cases hn' : N' i <;> cases hzi : Z i <;> cases hmi : M i <;> simp_all
end Go.Proofs.Ytcanefjjpeoikaa
