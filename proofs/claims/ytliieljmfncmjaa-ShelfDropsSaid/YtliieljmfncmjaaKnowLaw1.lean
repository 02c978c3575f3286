/- The laws of sets of dots, in plain words: inclusion, equality, membership. No program in sight but the literals' places. -/
import Derived.Test.YtliieljmfncmjaaKnowBegun
namespace Go.Proofs.Ytliieljmfncmjaa
open Go.RowKit
theorem subB_or (P Q R : DPred) : subB (orK P Q) R = (subB P R && subB Q R) := by
  rw [Bool.eq_iff_iff, Bool.and_eq_true, subB_iff, subB_iff, subB_iff]
  constructor
  · intro h
    exact ⟨fun s c h0 h5 h1 h2 hp => h s c h0 h5 h1 h2 (by simp [orK, hp]), fun s c h0 h5 h1 h2 hp => h s c h0 h5 h1 h2 (by simp [orK, hp])⟩
  · rintro ⟨h, k⟩ s c h0 h5 h1 h2 hp
    simp only [orK, Bool.or_eq_true] at hp
    exact hp.elim (h s c h0 h5 h1 h2) (k s c h0 h5 h1 h2)
theorem eqDB_sub (P Q : DPred) : eqDB P Q = (subB P Q && subB Q P) := by
  rw [Bool.eq_iff_iff, Bool.and_eq_true, subB_iff, subB_iff, eqDB_iff]
  constructor
  · intro h
    exact ⟨fun s c h0 h5 h1 h2 hp => by rw [← h s c h0 h5 h1 h2]; exact hp, fun s c h0 h5 h1 h2 hp => by rw [h s c h0 h5 h1 h2]; exact hp⟩
  · rintro ⟨h, k⟩ s c h0 h5 h1 h2
    rw [Bool.eq_iff_iff]
    exact ⟨h s c h0 h5 h1 h2, k s c h0 h5 h1 h2⟩
theorem subB_trans {P Q R : DPred} (h : subB P Q = true) (k : subB Q R = true) : subB P R = true := by
  rw [subB_iff] at *
  exact fun s c h0 h5 h1 h2 hp => k s c h0 h5 h1 h2 (h s c h0 h5 h1 h2 hp)
theorem hasP_sub {P Q : DPred} (h : subB P Q = true) {s c : Int} (hp : hasP P s c = true) : hasP Q s c = true := by
  unfold hasP at *
  rw [Bool.and_eq_true] at *
  obtain ⟨⟨h0, h5⟩, h1, h2⟩ := dotOk_iff.1 hp.1
  exact ⟨hp.1, subB_iff.1 h s c h0 h5 h1 h2 hp.2⟩
theorem hasP_or (P Q : DPred) (s c : Int) : hasP (orK P Q) s c = (hasP P s c || hasP Q s c) := by unfold hasP orK; cases dotOk (s, c) <;> rfl
theorem hasP_and (P Q : DPred) (s c : Int) : hasP (andK P Q) s c = (hasP P s c && hasP Q s c) := by unfold hasP andK; cases dotOk (s, c) <;> simp
/-- Literal sets. -/
theorem vec_sm {l : List Int} (h : ∀ n ∈ l, n ≤ 12) : Sm (knIn ⟨l, []⟩) := by
  intro s c h0 h5 h1 h2 hp
  have e : knIn ⟨l, []⟩ s c = decide (c ≤ vecAt l s) := by show (decide (c ≤ vecAt l s) || decide ((s, c) ∈ ([] : Dots))) = _; simp
  rw [e, decide_eq_true_eq] at hp
  unfold vecAt at hp
  rw [List.getD_eq_getElem?_getD] at hp
  cases hg : l[s.toNat]? with
  | none => rw [hg] at hp; simp at hp; omega
  | some x => rw [hg] at hp; have := h x (List.mem_of_getElem? hg); simp at hp; omega
theorem begA_sm : Sm (knIn begA) := by
  intro s c h0 h5 h1 h2 hp
  have e : knIn begA s c = (decide (c ≤ vecAt [] s) || decide ((s, c) ∈ ([(0, 2)] : Dots))) := rfl
  rw [e] at hp
  simp [vecAt] at hp
  omega
theorem vecKn_ok {l : List Int} (h5 : l.length ≤ 5) (hb : ∀ n ∈ l, 0 ≤ n ∧ n ≤ 1000) (hl : l.getLast? ≠ some 0) : KnOk ⟨l, []⟩ := ⟨h5, hb, hl, by simp, by simp⟩
theorem begA_sub : subB (knIn begA) (knIn ⟨[3], []⟩) = true := by
  rw [subB_iff]
  intro s c h0 h5 h1 h2 hp
  have e : knIn begA s c = (decide (c ≤ vecAt [] s) || decide ((s, c) ∈ ([(0, 2)] : Dots))) := rfl
  have e2 : knIn ⟨[3], []⟩ s c = (decide (c ≤ vecAt [3] s) || decide ((s, c) ∈ ([] : Dots))) := rfl
  rw [e] at hp
  rw [e2]
  simp [vecAt] at hp
  have hs : s = 0 := by omega
  subst hs
  have : vecAt [3] 0 = 3 := rfl
  rw [this]
  simp
  omega
/-- Two sets compared dot by dot. -/
def alikeN (P Q : DPred) (k : Nat) : Bool := (List.range k).all fun i => P ((i / 12 : Nat) : Int) ((i % 12 + 1 : Nat) : Int) == Q ((i / 12 : Nat) : Int) ((i % 12 + 1 : Nat) : Int)
theorem alikeN_zero (P Q : DPred) : alikeN P Q 0 = true := rfl
theorem alikeN_succ (P Q : DPred) (q j : Nat) (hj : j < 12) : alikeN P Q (12 * q + (j + 1)) = (alikeN P Q (12 * q + j) && (P (q : Int) ((j : Int) + 1) == Q (q : Int) ((j : Int) + 1))) := by
  have e1 : (12 * q + j) / 12 = q := by omega
  have e2 : (12 * q + j) % 12 = j := by omega
  unfold alikeN
  rw [← Nat.add_assoc, List.range_succ, List.all_append, List.all_cons, List.all_nil, Bool.and_true, e1, e2]
  rfl
theorem alike_eq {P Q : DPred} (h : Sm P) (k : Sm Q) : alikeN P Q 60 = eqDB P Q := by
  rw [Bool.eq_iff_iff, eqDB_iff]
  unfold alikeN
  rw [List.all_eq_true]
  constructor
  · intro ha s c h0 h5 h1 h2
    by_cases hc : c ≤ 12
    · have := ha (12 * s.toNat + (c.toNat - 1)) (List.mem_range.2 (by omega))
      rw [beq_iff_eq, show (12 * s.toNat + (c.toNat - 1)) / 12 = s.toNat by omega, show (12 * s.toNat + (c.toNat - 1)) % 12 + 1 = c.toNat by omega, Int.toNat_of_nonneg h0, Int.toNat_of_nonneg (show 0 ≤ c by omega)] at this
      exact this
    · have hp : P s c = false := by cases hx : P s c; rfl; exact absurd (h s c h0 h5 h1 h2 hx) hc
      have hq : Q s c = false := by cases hx : Q s c; rfl; exact absurd (k s c h0 h5 h1 h2 hx) hc
      rw [hp, hq]
  · intro he i hi
    have := List.mem_range.1 hi
    rw [beq_iff_eq]
    exact he _ _ (by omega) (by omega) (by omega) (by omega)
theorem hasP_in (P : DPred) (q j : Nat) (hq : q < 5) (hj : j < 12) : hasP P (q : Int) ((j : Int) + 1) = P (q : Int) ((j : Int) + 1) ∧ dotE (q : Int) ((j : Int) + 1) = 0 := by
  have hd : dotOk ((q : Int), (j : Int) + 1) = true := dotOk_iff.2 ⟨by simp only; omega, by simp only; omega⟩
  unfold hasP dotE
  rw [hd]
  exact ⟨rfl, rfl⟩
/-- Two sets in their blocks. -/
structure TwoAt (wr : World) (bx bz : Nat) (xu xv yu yv : Value) (P Q : DPred) : Prop where
  x0 : wr.cell? ⟨bx, 0, none⟩ = some xu
  x1 : wr.cell? ⟨bx, 1, none⟩ = some xv
  y0 : wr.cell? ⟨bz, 0, none⟩ = some yu
  y1 : wr.cell? ⟨bz, 1, none⟩ = some yv
  kx : KV wr xu xv P
  ky : KV wr yu yv Q
theorem TwoAt.below {w w' : World} {bx bz : Nat} {xu xv yu yv : Value} {P Q : DPred} (h : TwoAt w bx bz xu xv yu yv P Q) (hb : Below w.heap.size w w') : TwoAt w' bx bz xu xv yu yv P Q :=
  ⟨ckeep hb h.x0, ckeep hb h.x1, ckeep hb h.y0, ckeep hb h.y1, h.kx.below hb, h.ky.below hb⟩
end Go.Proofs.Ytliieljmfncmjaa
