/- Sets of dots in the laws: the functions of package know at sets whose counts are small. -/
import Derived.Test.YthnkmjjldggecaaDots3
import Derived.Test.YthnkmjjldggecaaKnow9
import Derived.Test.YthnkmjjldggecaaMKnow3
namespace Go.Proofs.Ythnkmjjldggecaa
open Go.RowKit
/-- All counts are 12 at most. -/
def Sm (P : DPred) : Prop := ∀ s c : Int, 0 ≤ s → s < 5 → 1 ≤ c → c ≤ 1000 → P s c = true → c ≤ 12
theorem Sm.or {P Q : DPred} (h : Sm P) (k : Sm Q) : Sm (orK P Q) := by
  intro s c h0 h5 h1 h2 hp
  simp only [orK, Bool.or_eq_true] at hp
  exact hp.elim (h s c h0 h5 h1 h2) (k s c h0 h5 h1 h2)
theorem Sm.and {P Q : DPred} (h : Sm P) : Sm (andK P Q) := by
  intro s c h0 h5 h1 h2 hp
  simp only [andK, Bool.and_eq_true] at hp
  exact h s c h0 h5 h1 h2 hp.1
theorem setP_sm (ls : List (List Int)) : Sm (setP ls) := by
  intro s c h0 h5 h1 h2 hp
  rw [setP_mem ls h0 h1 h2, decide_eq_true_eq] at hp
  unfold setDs at hp
  obtain ⟨x, -, hx⟩ := List.mem_filterMap.1 hp
  have := rowDot_bd hx
  simp only at this
  omega
theorem restOf_small (p : Nat → Bool) (h : ∀ c, 1 ≤ c → c ≤ 1000 → p c = true → c ≤ 12) : (restOf p).length ≤ 11 := by
  have hs : (restOf p).Sublist (List.range' 2 11) := by
    have e : List.range 1001 = [0, 1] ++ (List.range' 2 11 ++ List.range' 13 988) := by
      have h1 := List.range'_append_1 (s := 2) (m := 11) (n := 988)
      have h2 := List.range'_append_1 (s := 0) (m := 2) (n := 999)
      rw [List.range_eq_range']
      rw [show List.range' 13 988 = List.range' (2 + 11) 988 from rfl, h1]
      exact h2.symm
    unfold restOf
    rw [e, List.filter_append, List.filter_append]
    have h1 : [0, 1].filter (fun c => decide (vecOf p + 2 ≤ c) && p c) = [] := by
      rw [List.filter_eq_nil_iff]
      intro a ha
      simp only [List.mem_cons, List.not_mem_nil, or_false] at ha
      simp only [Bool.and_eq_true, decide_eq_true_eq, not_and]
      intro h; omega
    have h2 : (List.range' 13 988).filter (fun c => decide (vecOf p + 2 ≤ c) && p c) = [] := by
      rw [List.filter_eq_nil_iff]
      intro a ha
      obtain ⟨x, hx, rfl⟩ := List.mem_range'.1 ha
      simp only [Bool.and_eq_true, decide_eq_true_eq, not_and]
      intro _ hp
      have := h _ (by omega) (by omega) hp
      omega
    rw [h1, h2, List.nil_append, List.append_nil]
    exact List.filter_sublist
  have := hs.length_le
  rw [List.length_range'] at this
  exact this
theorem sum5b {a b c d e : Nat} (h0 : a ≤ 11) (h1 : b ≤ 11) (h2 : c ≤ 11) (h3 : d ≤ 11) (h4 : e ≤ 11) : a + (b + (c + (d + (e + 0)))) ≤ 60 := by omega
theorem small_len {P : DPred} (h : Sm P) : (formK P).more.length ≤ 60 := by
  rw [formK_more]
  unfold formM
  have e : List.range 5 = [0, 1, 2, 3, 4] := rfl
  rw [e]
  simp only [List.flatMap_cons, List.flatMap_nil, List.length_append, List.length_nil, List.length_map]
  have r : ∀ s : Nat, s < 5 → (restOf fun (c : Nat) => P s c).length ≤ 11 := fun s hs => restOf_small _ fun c h1 h2 hp => by have := h s c (by omega) (by omega) (by omega) (by omega) hp; omega
  exact sum5b (r 0 (by decide)) (r 1 (by decide)) (r 2 (by decide)) (r 3 (by decide)) (r 4 (by decide))
theorem chk_small {P : DPred} (h : Sm P) : knChk (formK P) = 0 := knChk_zero.2 ⟨formK_ok P, small_len h⟩
theorem two_small {P Q : DPred} (h : Sm P) (k : Sm Q) : knTwo (formK P) (formK Q) = 0 := knTwo_zero.2 ⟨chk_small h, chk_small k⟩
theorem kE_small {P : DPred} (h : Sm P) : kE (formK P) = 0 := by unfold kE; rw [if_neg (by have := small_len h; omega)]
theorem or_form (P Q : DPred) : formK (orK (knIn (formK P)) (knIn (formK Q))) = formK (orK P Q) :=
  formK_congr fun s c h0 h5 h1 h2 => by simp only [orK, formK_in P s c h0 h5 h1 h2, formK_in Q s c h0 h5 h1 h2]
theorem and_form (P Q : DPred) : formK (andK (knIn (formK P)) (knIn (formK Q))) = formK (andK P Q) :=
  formK_congr fun s c h0 h5 h1 h2 => by simp only [andK, formK_in P s c h0 h5 h1 h2, formK_in Q s c h0 h5 h1 h2]
theorem formK_inj {P Q : DPred} : formK P = formK Q ↔ DEq P Q :=
  ⟨fun h s c h0 h5 h1 h2 => by rw [← formK_in P s c h0 h5 h1 h2, h, formK_in Q s c h0 h5 h1 h2], formK_congr⟩
/-- All of P is in Q. -/
def SubD (P Q : DPred) : Prop := ∀ s c : Int, 0 ≤ s → s < 5 → 1 ≤ c → c ≤ 1000 → P s c = true → Q s c = true
open Classical in
noncomputable def subB (P Q : DPred) : Bool := decide (SubD P Q)
open Classical in
noncomputable def eqDB (P Q : DPred) : Bool := decide (DEq P Q)
theorem subB_iff {P Q : DPred} : subB P Q = true ↔ SubD P Q := by unfold subB; simp
theorem eqDB_iff {P Q : DPred} : eqDB P Q = true ↔ DEq P Q := by unfold eqDB; simp
theorem sub_or {P Q : DPred} : DEq (orK P Q) Q ↔ SubD P Q := by
  constructor
  · intro h s c h0 h5 h1 h2 hp
    rw [← h s c h0 h5 h1 h2]; simp [orK, hp]
  · intro h s c h0 h5 h1 h2
    have := h s c h0 h5 h1 h2
    simp only [orK]
    cases hp : P s c
    · simp
    · rw [this hp]; simp
theorem within_form {P Q : DPred} (h : Sm P) (k : Sm Q) : knWithinB (formK P) (formK Q) = subB P Q := by
  unfold knWithinB knWithin
  rw [if_pos (two_small h k), or_form, Bool.eq_iff_iff, decide_eq_true_eq, subB_iff, formK_inj, sub_or]
theorem same_form (P Q : DPred) : decide (formK P = formK Q) = eqDB P Q := by
  rw [Bool.eq_iff_iff, decide_eq_true_eq, eqDB_iff, formK_inj]
def hasP (P : DPred) (s c : Int) : Bool := dotOk (s, c) && P s c
def dotE (s c : Int) : Int := if dotOk (s, c) = true then 0 else 1
theorem has_form {P : DPred} (h : Sm P) (s c : Int) : knHas (formK P) s c = hasP P s c ∧ knHasE (formK P) s c = dotE s c := by
  unfold knHas knHasE hasP dotE
  rw [if_pos (chk_small h), if_pos (chk_small h)]
  refine ⟨?_, rfl⟩
  by_cases hd : dotOk (s, c) = true
  · obtain ⟨⟨h0, h5⟩, h1, h2⟩ := dotOk_iff.1 hd
    rw [if_pos hd, formK_in P s c h0 h5 h1 h2, hd]; rfl
  · rw [if_neg hd]; simp [hd]
/-- A set of dots in memory. -/
structure KV (w : World) (u v : Value) (P : DPred) : Prop where
  at_ : KnAt w u v (formK P)
  sm : Sm P
theorem KV.below {w w' : World} {u v : Value} {P : DPred} (h : KV w u v P) (hb : Below w.heap.size w w') : KV w' u v P := ⟨h.at_.below hb, h.sm⟩
theorem KV.of_own {w : World} {base : Nat} {u v : Value} {P : DPred} (h : KnOwn w base u v (formK P)) (hs : Sm P) : KV w u v P := ⟨formK_at h, hs⟩
set_option maxRecDepth 100000 in
theorem join_s (ua va ub vb : Value) (P Q : DPred) (w : World) (ha : KV w ua va P) (hb : KV w ub vb Q) :
    Calls Try.prog 52 #[.agg #[ua, va], .agg #[ub, vb]] w fun e w' => ∃ (a : Option Addr) (n c : Nat) (b : Option Addr) (m d : Nat), e = .returned (.tuple #[.agg #[.slice a n c, .slice b m d], .int .i64 0]) ∧ KV w' (.slice a n c) (.slice b m d) (orK P Q) ∧ Below w.heap.size w w' := by
  refine (kjoin_c ua va ub vb _ _ w ha.at_ hb.at_).mono ?_
  rintro e w' ⟨x, y, rfl, hr, hbl⟩
  have h0 : resE (knTwo (formK P) (formK Q)) (orK (knIn (formK P)) (knIn (formK Q))) = 0 := by
    unfold resE; rw [if_pos (two_small ha.sm hb.sm), or_form, kE_small (ha.sm.or hb.sm)]
  rw [h0, or_form] at hr
  obtain ⟨a, n, c, b, m, d, rfl, rfl⟩ := hr.shape
  rw [h0]
  exact ⟨a, n, c, b, m, d, rfl, KV.of_own (hr.resolve_right fun h => h.1 rfl).2 (ha.sm.or hb.sm), hbl⟩
set_option maxRecDepth 100000 in
theorem meet_s (ua va ub vb : Value) (P Q : DPred) (w : World) (ha : KV w ua va P) (hb : KV w ub vb Q) :
    Calls Try.prog 53 #[.agg #[ua, va], .agg #[ub, vb]] w fun e w' => ∃ (a : Option Addr) (n c : Nat) (b : Option Addr) (m d : Nat), e = .returned (.tuple #[.agg #[.slice a n c, .slice b m d], .int .i64 0]) ∧ KV w' (.slice a n c) (.slice b m d) (andK P Q) ∧ Below w.heap.size w w' := by
  refine (kmeet_c ua va ub vb _ _ w ha.at_ hb.at_).mono ?_
  rintro e w' ⟨x, y, rfl, hr, hbl⟩
  have h0 : resE (knTwo (formK P) (formK Q)) (andK (knIn (formK P)) (knIn (formK Q))) = 0 := by
    unfold resE; rw [if_pos (two_small ha.sm hb.sm), and_form, kE_small (Sm.and ha.sm)]
  rw [h0, and_form] at hr
  obtain ⟨a, n, c, b, m, d, rfl, rfl⟩ := hr.shape
  rw [h0]
  exact ⟨a, n, c, b, m, d, rfl, KV.of_own (hr.resolve_right fun h => h.1 rfl).2 (Sm.and ha.sm), hbl⟩
set_option maxRecDepth 100000 in
theorem within_s (ua va ub vb : Value) (P Q : DPred) (w : World) (ha : KV w ua va P) (hb : KV w ub vb Q) :
    Calls Try.prog 48 #[.agg #[ua, va], .agg #[ub, vb]] w fun e w' => e = .returned (.tuple #[.bool (subB P Q), .int .i64 0]) ∧ Below w.heap.size w w' := by
  refine (kwithin_c ua va ub vb _ _ w ha.at_ hb.at_).mono ?_
  rintro e w' ⟨rfl, hbl⟩
  rw [within_form ha.sm hb.sm, two_small ha.sm hb.sm]
  exact ⟨rfl, hbl⟩
set_option maxRecDepth 100000 in
theorem same_s (ua va ub vb : Value) (P Q : DPred) (w : World) (ha : KV w ua va P) (hb : KV w ub vb Q) :
    Calls Try.prog 58 #[.agg #[ua, va], .agg #[ub, vb]] w fun e w' => e = .returned (.bool (eqDB P Q)) ∧ Below w.heap.size w w' := by
  refine (sameK_c ua va ub vb _ _ w ha.at_ hb.at_).mono ?_
  rintro e w' ⟨rfl, hbl⟩
  rw [same_form]
  exact ⟨rfl, hbl⟩
set_option maxRecDepth 100000 in
theorem set_s (v : Value) (ls : List (List Int)) (w : World) (hv : RowAt vecE w v ls) :
    Calls Try.prog 104 #[v] w fun e w' => ∃ (a : Option Addr) (n c : Nat) (b : Option Addr) (m d : Nat), e = .returned (.agg #[.slice a n c, .slice b m d]) ∧ KV w' (.slice a n c) (.slice b m d) (setP ls) ∧ Below w.heap.size w w' := by
  refine (set_c v ls w hv).mono ?_
  rintro e w' ⟨u, x, rfl, ho, hbl⟩
  have hk := KV.of_own ho (setP_sm ls)
  obtain ⟨a, c, rfl⟩ := owns_slice ho.vec
  obtain ⟨b, d, rfl⟩ := owns_slice ho.more
  exact ⟨a, _, c, b, _, d, rfl, hk, hbl⟩
/-- Small sets of whatever dots. -/
theorem KV.of_at {w : World} {u v : Value} {k : Kn} (h : KnAt w u v k) (hk : KnOk k) (hs : Sm (knIn k)) : KV w u v (knIn k) := ⟨by rw [formK_self hk]; exact h, hs⟩
theorem ints1 {w : World} {g : Nat} {l : List Int} {t : TypeId} (h : w.heap[g]? = some (Obj.cells (intsC l).toArray t (0, 0))) (hl : l.length ≤ 1000) : IsAt w (.slice (some ⟨g, 0, none⟩) l.length l.length) l :=
  CellsAt.mk (Nat.le_refl _) (by omega) (hlt_of h) fun j x hj => by rw [Nat.zero_add]; exact cell_of_block h (by simpa using hj)
theorem dots1 {w : World} {g : Nat} {l : Dots} {t : TypeId} (h : w.heap[g]? = some (Obj.cells (spansCells l).toArray t (0, 0))) (hl : l.length ≤ 1000) : DsAt w (.slice (some ⟨g, 0, none⟩) l.length l.length) l :=
  CellsAt.mk (Nat.le_refl _) (by omega) (hlt_of h) fun j x hj => by rw [Nat.zero_add]; exact cell_of_block h (by simpa using hj)
end Go.Proofs.Ythnkmjjldggecaa
