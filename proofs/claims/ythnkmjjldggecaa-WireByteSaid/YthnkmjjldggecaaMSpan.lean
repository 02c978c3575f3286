/- What the functions of package span do, one contract a function: span.In, span.Check, span.Make. What the functions of package span do, one contract a function: two, Has, Join, Meet, Less, Within, Count; and slices.Equal at spans. Plain laws on sets of numbers: what 'make' has is what its predicate says; its form is the only one; 'told' is 'make'. No program in sight. The contracts of package span at sets that 'make' made: what the laws lean on. -/
import Derived.Test.YthnkmjjldggecaaChecked
import Derived.Test.YthnkmjjldggecaaMPure
import Derived.Deep.QuietTactic
import Derived.BigQuiet
import Derived.WalkSmall
namespace Go.Proofs.Ythnkmjjldggecaa
open Go.RowKit

/-- What span.Check knows behind k spans. -/
def chkAt (l : Spans) (k : Nat) : Int := chkFrom (if h : k = 0 ∨ l.length < k then -1 else (l[k - 1]'(by omega)).2) (l.drop k)

theorem chkAt_zero (l : Spans) : chkAt l 0 = chkFrom (-1) l := by simp [chkAt]
theorem chkAt_end (l : Spans) : chkAt l l.length = 0 := by simp [chkAt, chkFrom]
theorem chkAt_bad (l : Spans) (k : Nat) (hk : k < l.length) (h : l[k].1 < 0 ∨ 32 < l[k].2 ∨ l[k].2 ≤ l[k].1) : chkAt l k = 1 := by
  unfold chkAt; rw [List.drop_eq_getElem_cons hk]; simp only [chkFrom]; rw [if_pos h]
theorem chkAt_form (l : Spans) (k : Nat) (hk : k + 1 < l.length) (h : ¬(l[k + 1].1 < 0 ∨ 32 < l[k + 1].2 ∨ l[k + 1].2 ≤ l[k + 1].1)) (h2 : l[k + 1].1 ≤ l[k].2) : chkAt l (k + 1) = 3 := by
  unfold chkAt; rw [List.drop_eq_getElem_cons hk]; simp only [chkFrom]; rw [if_neg h, dif_neg (by omega)]; simp [h2]
theorem chkAt_zero_ok (l : Spans) (hk : 0 < l.length) (h : ¬(l[0].1 < 0 ∨ (32 : Int) < l[0].2 ∨ l[0].2 ≤ l[0].1)) : chkAt l 0 = chkAt l 1 := by
  have e : chkAt l 1 = chkFrom l[0].2 (l.drop 1) := by unfold chkAt; rw [dif_neg (by omega)]
  rw [e]; unfold chkAt; rw [dif_pos (.inl rfl), List.drop_eq_getElem_cons hk]; simp only [chkFrom]; rw [if_neg h, if_neg (by omega)]
theorem chkAt_succ_ok (l : Spans) (k : Nat) (hk : k + 1 < l.length) (h : ¬(l[k + 1].1 < 0 ∨ 32 < l[k + 1].2 ∨ l[k + 1].2 ≤ l[k + 1].1)) (h2 : l[k].2 < l[k + 1].1) : chkAt l (k + 1) = chkAt l (k + 2) := by
  have e : chkAt l (k + 2) = chkFrom l[k + 1].2 (l.drop (k + 2)) := by unfold chkAt; rw [dif_neg (by omega)]; rfl
  rw [e]; unfold chkAt; rw [dif_neg (by omega), List.drop_eq_getElem_cons hk]; simp only [chkFrom]; rw [if_neg h, if_neg (by simp; omega)]

set_option maxRecDepth 100000 in
set_option maxHeartbeats 400000 in
theorem spanChk_c (v : Value) (l : Spans) (w : World) (hs : SpansAt w v l) :
    Calls Try.prog 144 #[v] w fun e w' => e = .returned (.int .i64 (spansChk l)) ∧ Below w.heap.size w w' := by
  obtain ⟨a, cap, rfl, hcap, hm, hl⟩ := hs.open_
  clear hs hcap
  by_cases h16 : 16 < l.length
  · go_enter Try.func144, Try.ntmps144
    go_wp2
    go_ret
    exact ⟨ret_int (by simp [spansChk, h16]), Below.refl _ _⟩
  go_enter Try.func144, Try.ntmps144
  go_wp2
  go_loopw [10] (fun i wr => ∃ k : Nat, k ≤ l.length ∧ i = .int .i64 k ∧ chkAt l 0 = chkAt l k ∧ Below w.heap.size w wr) (fun i _ => l.length - (intOf i).toNat)
  case atStart => exact ⟨0, Nat.zero_le _, rfl, rfl, Below.refl _ _⟩
  case round =>
    obtain ⟨k, hk, rfl, hno, hbl⟩ := hrel
    by_cases hlt : k < l.length
    · rcases hl with rfl | ⟨b, off, rfl, hb, hc⟩
      · simp at hlt
      obtain ⟨c1, c2⟩ := hc k hlt
      have d1 := (hbl.cell (p := ⟨b, off + k * 2, none⟩) hb).trans c1
      have d2 := (hbl.cell (p := ⟨b, off + k * 2 + 1, none⟩) hb).trans c2
      have HN := Lib.hid hno
      clear c1 c2 hno
      by_cases hbad : l[k].1 < 0 ∨ 32 < l[k].2 ∨ l[k].2 ≤ l[k].1
      · have hch := chkAt_bad l k hlt hbad
        clear hc
        have hr : spansChk l = 1 := by rw [spansChk, if_neg h16, ← chkAt_zero, HN.out, hch]
        have HR := Lib.hid hr
        clear hr hch
        go_wp2
        all_goals go_ret
        all_goals exact ⟨ret_int HR.out.symm, hbl.alloc hbl.size _⟩
      · cases k with
        | zero =>
          have HC := Lib.hid (chkAt_zero_ok l hlt hbad)
          rw [Nat.zero_mul, Nat.add_zero] at d1 d2
          clear hc
          have hq : (decide (l[0].1 < 0) || decide (32 < l[0].2) || decide (l[0].2 ≤ l[0].1)) = false := by simp; omega
          go_wp2
          go_quiet (fail)
          go_wp2
          go_roundw
          case rel => exact ⟨1, by omega, by go_num, HC.out, below_drewN (hbl.alloc hbl.size _) _⟩
          case measure => simp [intOf]; omega
        | succ k =>
          obtain ⟨-, c2⟩ := hc k (by omega)
          have d3 := (hbl.cell (p := ⟨b, off + k * 2 + 1, none⟩) hb).trans c2
          have HF := Lib.hid (chkAt_form l k hlt hbad)
          have HO := Lib.hid (chkAt_succ_ok l k hlt hbad)
          clear hc c2
          have hk0 : decide ((0 : Int) < (k : Int) + 1) = true := by simp
          have hw := IntWalk.i64_in ((k : Int) + 1 - 1) (by omega)
          have hw2 : ((k : Int) + 1 - 1) = k := by omega
          rw [hw2] at hw
          have hi : (k : Int) < l.length := by omega
          have hbw : b < wr.heap.size := Nat.lt_of_lt_of_le hb hbl.size
          go_wp2
          go_quiet (fail)
          go_wp2
          · go_ret
            exact ⟨ret_int (by rw [spansChk, if_neg h16, ← chkAt_zero, HN.out, HF.out (by assumption)]), below_drewN (hbl.alloc hbl.size _) _⟩
          · go_roundw
            case rel => exact ⟨k + 2, by omega, by go_num, HN.out.trans (HO.out (by assumption)), below_drewN (hbl.alloc hbl.size _) _⟩
            case measure => simp [intOf]; omega
    · go_wp2
      go_ret
      have : k = l.length := by omega
      subst this
      exact ⟨ret_int (by rw [chkAt_end] at hno; rw [spansChk, if_neg h16, ← chkAt_zero, hno]), hbl⟩

set_option maxRecDepth 100000 in
theorem SpanTy.info : (Try.prog.info? 50).map (fun i => (i.zero, i.size, i.bytes)) = some (some (.agg #[.int .i64 0, .int .i64 0]), 2, 16) := by kernel_rfl

end Go.Proofs.Ythnkmjjldggecaa
namespace Go.Proofs.Ythnkmjjldggecaa
open Go.RowKit

def two (a b : Spans) : Int := if spansChk a = 0 then spansChk b else spansChk a
/-- A closure over two sets: its captured variables are blocks that hold them. -/
def Caps2 (W : World) (x y : Nat) (a b : Spans) : Prop :=
  ∃ va vb, W.cell? ⟨x, 0, none⟩ = some va ∧ W.cell? ⟨y, 0, none⟩ = some vb ∧ SpansAt W va a ∧ SpansAt W vb b

theorem Caps2.below {w w' : World} {x y : Nat} {a b : Spans} (h : Caps2 w x y a b) (hx : x < w.heap.size) (hy : y < w.heap.size) (hb : Below w.heap.size w w') : Caps2 w' x y a b := by
  obtain ⟨va, vb, h1, h2, h3, h4⟩ := h
  exact ⟨va, vb, (hb.cell (p := ⟨x, 0, none⟩) hx).trans h1, (hb.cell (p := ⟨y, 0, none⟩) hy).trans h2, h3.below hb, h4.below hb⟩

theorem chkFrom_bounds (last : Int) (l : Spans) (h : chkFrom last l = 0) : ∀ s ∈ l, 0 ≤ s.1 ∧ s.1 < s.2 ∧ s.2 ≤ 32 := by
  induction l generalizing last with
  | nil => simp
  | cons s l ih =>
    simp only [chkFrom] at h
    split at h
    · simp at h
    split at h
    · simp at h
    intro t ht
    rcases List.mem_cons.1 ht with rfl | ht
    · omega
    · exact ih _ h t ht
theorem spansChk_bounds {l : Spans} (h : spansChk l = 0) : l.length ≤ 16 ∧ ∀ s ∈ l, 0 ≤ s.1 ∧ s.1 < s.2 ∧ s.2 ≤ 32 := by
  unfold spansChk at h; split at h
  · simp at h
  · exact ⟨by omega, chkFrom_bounds _ l h⟩
end Go.Proofs.Ythnkmjjldggecaa
namespace Go.Proofs.Ythnkmjjldggecaa

theorem inB_nil (n : Int) : inB [] n = false := rfl
theorem inB_cons (s : Int × Int) (l : Spans) (n : Int) : inB (s :: l) n = ((decide (s.1 ≤ n) && decide (n < s.2)) || inB l n) := rfl
theorem inB_append (l m : Spans) (n : Int) : inB (l ++ m) n = (inB l n || inB m n) := by simp [inB]

theorem chk_cons (last : Int) (s : Int × Int) (l : Spans) : chkFrom last (s :: l) = 0 ↔ (0 ≤ s.1 ∧ s.1 < s.2 ∧ s.2 ≤ 32) ∧ last < s.1 ∧ chkFrom s.2 l = 0 := by
  simp only [chkFrom]
  split
  · constructor
    · intro h; simp at h
    · intro h; omega
  split
  · constructor
    · intro h; simp at h
    · intro h; omega
  constructor
  · intro h; exact ⟨by omega, by omega, h⟩
  · intro h; exact h.2.2

theorem chk_length {last : Int} {l : Spans} (h : chkFrom last l = 0) (hl : last ≤ 32) : 2 * (l.length : Int) + last ≤ 32 := by
  induction l generalizing last with
  | nil => simpa using hl
  | cons s l ih => rw [chk_cons] at h; have := ih h.2.2 (by omega); simp only [List.length_cons]; omega

theorem spansChk_of {l : Spans} (h : chkFrom (-1) l = 0) : spansChk l = 0 := by
  unfold spansChk; have := chk_length h (by decide); rw [if_neg (by omega)]; exact h

theorem chk_append {last : Int} {l : Spans} {s : Int × Int} (h : chkFrom last l = 0) (hs : 0 ≤ s.1 ∧ s.1 < s.2 ∧ s.2 ≤ 32) (hl : last < s.1) (ho : ∀ t ∈ l, t.2 < s.1) : chkFrom last (l ++ [s]) = 0 := by
  induction l generalizing last with
  | nil => show chkFrom last [s] = 0; rw [chk_cons]; exact ⟨hs, hl, rfl⟩
  | cons t l ih =>
    rw [chk_cons] at h
    rw [List.cons_append, chk_cons]
    exact ⟨h.1, h.2.1, ih h.2.2 (ho t (by simp)) fun u hu => ho u (by simp [hu])⟩
theorem chk_init {last : Int} {l m : Spans} (h : chkFrom last (l ++ m) = 0) : chkFrom last l = 0 := by
  induction l generalizing last with
  | nil => rfl
  | cons t l ih => rw [List.cons_append, chk_cons] at h; rw [chk_cons]; exact ⟨h.1, h.2.1, ih h.2.2⟩
theorem chk_last {last : Int} {l : Spans} {s : Int × Int} (h : chkFrom last (l ++ [s]) = 0) : (0 ≤ s.1 ∧ s.1 < s.2 ∧ s.2 ≤ 32) ∧ last < s.1 ∧ ∀ t ∈ l, t.2 < s.1 := by
  induction l generalizing last with
  | nil => have h' : chkFrom last [s] = 0 := h; rw [chk_cons] at h'; exact ⟨h'.1, h'.2.1, by simp⟩
  | cons t l ih =>
    rw [List.cons_append, chk_cons] at h
    obtain ⟨a, b, c⟩ := ih h.2.2
    refine ⟨a, by omega, fun u hu => ?_⟩
    rcases List.mem_cons.1 hu with rfl | hu
    · exact b
    · exact c u hu

theorem mk_good (p : Nat → Bool) (k : Nat) (hk : k ≤ 32) : chkFrom (-1) (mk p k) = 0 ∧ (∀ s ∈ mk p k, s.2 ≤ (k : Int)) ∧ ∀ n : Int, inB (mk p k) n = (decide (0 ≤ n) && decide (n < (k : Int)) && p n.toNat) := by
  induction k with
  | zero => refine ⟨rfl, by simp [mk], fun n => ?_⟩; simp [mk, inB_nil]; omega
  | succ k ih =>
    obtain ⟨h1, h2, h3⟩ := ih (by omega)
    have hin : ∀ (b : Bool) (n : Int), b = p k → (inB (mk p k) n || (decide ((k : Int) ≤ n) && decide (n < (k : Int) + 1) && b)) = (decide (0 ≤ n) && decide (n < ((k + 1 : Nat) : Int)) && p n.toNat) := by
      intro b n hb
      rw [h3 n]
      by_cases hc : n = k
      · subst hc; simp [hb]
      · by_cases hn : n < k
        · have e1 : decide ((k : Int) ≤ n) = false := by simp; omega
          have e2 : decide (n < ((k + 1 : Nat) : Int)) = true := by rw [decide_eq_true_iff]; omega
          rw [e1, e2]; simp [hn]
        · have e1 : decide (n < (k : Int) + 1) = false := by simp; omega
          have e2 : decide (n < ((k + 1 : Nat) : Int)) = false := by simp; omega
          rw [e1, e2]; simp [hn]
    cases hp : p k
    · simp only [mk, hp, Bool.false_eq_true, if_false]
      refine ⟨h1, fun s hs => by have := h2 s hs; omega, fun n => ?_⟩
      rw [← hin false n hp.symm]; simp
    · simp only [mk, hp, if_true]
      rcases List.eq_nil_or_concat (mk p k) with hm | ⟨l, s, hm⟩
      · rw [hm] at h3 hin ⊢
        have e : put1 [] (k : Int) = [((k : Int), (k : Int) + 1)] := rfl
        rw [e]
        refine ⟨by rw [chk_cons]; exact ⟨by simp; omega, by simp; omega, rfl⟩, by simp, fun n => ?_⟩
        rw [← hin true n hp.symm]; simp [inB]
      · rw [List.concat_eq_append] at hm
        rw [hm] at h1 h2 h3 hin ⊢
        have hl := chk_last h1
        by_cases hs : s.2 = (k : Int)
        · have e : put1 (l ++ [s]) k = l ++ [(s.1, (k : Int) + 1)] := by unfold put1; simp [hs]
          rw [e]
          refine ⟨chk_append (chk_init h1) ⟨hl.1.1, by simp; omega, by simp; omega⟩ (by simp; omega) hl.2.2, ?_, fun n => ?_⟩
          · intro t ht
            rcases List.mem_append.1 ht with ht | ht
            · have := h2 t (by simp [ht]); omega
            · simp at ht; subst ht; simp
          · rw [← hin true n hp.symm, inB_append, inB_append, inB_cons, inB_cons, inB_nil]
            cases inB l n
            · have hx := hl.1.2.1
              rw [Bool.eq_iff_iff]; simp; omega
            · simp
        · have e : put1 (l ++ [s]) k = (l ++ [s]) ++ [((k : Int), (k : Int) + 1)] := by
            unfold put1; simp only [List.getLast?_append, List.getLast?_singleton, Option.some_or]; rw [if_neg hs]
          have hsk : s.2 < (k : Int) := by have := h2 s (by simp); omega
          rw [e]
          refine ⟨chk_append h1 ⟨by simp, by simp; omega, by simp; omega⟩ (by simp; omega) ?_, ?_, fun n => ?_⟩
          · intro t ht
            rcases List.mem_append.1 ht with ht | ht
            · have := hl.2.2 t ht; simp; omega
            · simp at ht; subst ht; simpa using hsk
          · intro t ht
            rcases List.mem_append.1 ht with ht | ht
            · have := h2 t ht; omega
            · simp at ht; subst ht; simp
          · rw [← hin true n hp.symm, inB_append, inB_cons, inB_nil]; simp

theorem make_chk (p : Nat → Bool) : spansChk (make p) = 0 := spansChk_of (mk_good p 32 (Nat.le_refl _)).1
theorem make_in (p : Nat → Bool) (n : Int) : inB (make p) n = (decide (0 ≤ n) && decide (n < 32) && p n.toNat) := (mk_good p 32 (Nat.le_refl _)).2.2 n
theorem make_in_nat (p : Nat → Bool) (n : Nat) (h : n < 32) : inB (make p) n = p n := by rw [make_in]; simp; omega

/-- How many numbers below k. -/
def cnt (p : Nat → Bool) : Nat → Int
  | 0 => 0
  | k + 1 => cnt p k + if p k then 1 else 0

end Go.Proofs.Ythnkmjjldggecaa
namespace Go.Proofs.Ythnkmjjldggecaa
open Go.RowKit

/-- Does a predicate hold of each number below 32? -/
def allB (f : Nat → Bool) : Bool := (List.range 32).all f
theorem allB_iff (f : Nat → Bool) : allB f = true ↔ ∀ n, n < 32 → f n = true := by simp [allB]
end Go.Proofs.Ythnkmjjldggecaa
