/- What Get and Past answer of a shelf that was laid of told versions. No program in sight. -/
import Derived.Test.YtliieljmfncmjaaShelfLaw2
import Derived.Test.YtliieljmfncmjaaShelf19
namespace Go.Proofs.Ytliieljmfncmjaa
open Go.RowKit
def sid3 (i : Nat) : ByteArray := if i = 0 then ⟨#[97]⟩ else if i = 1 then ⟨#[98]⟩ else ⟨#[99]⟩
structure GetOk (X : List Ver) (i : ByteArray) : Prop where
  ge0 : getL X i = [] → getE X i = 4
  ge1 : getL X i ≠ [] → getE X i = 0
  gr : getR X i = getL X i
  pe : pastE X i = 0
  ko : KnOk (pastF X i)
  kl : (pastF X i).more.length ≤ 20
  nil : getL X i = [] → pastF X i = ⟨[], []⟩
  has : ∀ v ∈ getL X i, knHas (pastF X i) v.ds v.dc = true ∧ knHasE (pastF X i) v.ds v.dc = 0 ∧ knWithinB v.past (pastF X i) = true ∧ knTwo v.past (pastF X i) = 0 ∧ v.id = i
  sub : ∀ v ∈ getL X i, v ∈ X
theorem mem_get {X : List Ver} {i : ByteArray} {v : Ver} : v ∈ getL X i ↔ v ∈ X ∧ v.id = i := by
  unfold getL; rw [List.mem_filter, decide_eq_true_eq]
theorem get_ok {U X : List Ver} (hU : TInv U) (hl : U.length ≤ 20) (hX : ∀ x ∈ X, x ∈ U) (hs : ShOk X) (i : ByteArray) : GetOk X i := by
  have hC : ∀ w ∈ getL X i, w ∈ U ∧ w.id = i := fun w hw => ⟨hX w (mem_get.1 hw).1, (mem_get.1 hw).2⟩
  have hm : (pastF X i).more.length ≤ U.length := past_few hU hC (P := pastP (getL X i)) fun _ _ _ _ _ _ => rfl
  have h0 : shelfChk X = 0 := shelfChk_zero.2 hs
  have hko : KnOk (pastF X i) := formK_ok _
  have hkz : knChk (pastF X i) = 0 := knChk_zero.2 ⟨hko, by omega⟩
  have hg0 : getL X i = [] → getE X i = 4 := fun h => by unfold getE; rw [if_neg (by omega), h]; rfl
  have hg1 : getL X i ≠ [] → getE X i = 0 := fun h => by unfold getE; rw [if_neg (by omega), if_neg (fun e => h (List.length_eq_zero_iff.1 e))]
  refine ⟨hg0, hg1, ?_, ?_, hko, by omega, ?_, ?_, fun v hv => (mem_get.1 hv).1⟩
  · by_cases h : getL X i = []
    · rw [getR_bad (by rw [hg0 h]; decide), h]
    · exact getR_ok (hg1 h)
  · unfold pastE; rw [if_neg (by omega)]; unfold kE; rw [if_neg (by omega)]
  · intro h
    unfold pastF; rw [h]
    refine (formK_uniq (k := ⟨[], []⟩) ⟨by simp, by simp, by simp, by simp, by simp⟩ fun s c _ _ h1 _ => ?_).symm
    have e1 : knIn ⟨[], []⟩ s c = false := by
      unfold knIn vecAt
      simp only [List.getElem?_nil, Option.getD_none, List.not_mem_nil, decide_false, Bool.or_false]
      simp; omega
    have e2 : pastP [] s c = false := rfl
    rw [e1, e2]
  · intro v hv
    have hv2 := mem_get.1 hv
    have hok := hs.ok v hv2.1
    obtain ⟨d0, d5, d1, d1000⟩ := dot_rng hok.dot
    have hin : knIn (pastF X i) v.ds v.dc = true := by
      unfold pastF
      rw [formK_in _ _ _ d0 d5 d1 d1000]
      exact pastP_iff.2 ⟨v, hv, .inr ⟨rfl, rfl⟩⟩
    have hvc : knChk v.past = 0 := knChk_zero.2 ⟨hok.past, hok.len⟩
    have htwo : knTwo v.past (pastF X i) = 0 := knTwo_zero.2 ⟨hvc, hkz⟩
    refine ⟨by unfold knHas; rw [if_pos hkz, if_pos hok.dot, hin], by unfold knHasE; rw [if_pos hkz, if_pos hok.dot], ?_, htwo, hv2.2⟩
    unfold knWithinB knWithin
    rw [if_pos htwo, decide_eq_true_eq]
    refine (formK_uniq hko fun s c h0 h5 h1 h1000 => ?_).symm
    have hi : knIn v.past s c = true → knIn (pastF X i) s c = true := fun h => by
      unfold pastF
      rw [formK_in _ _ _ h0 h5 h1 h1000]
      exact pastP_iff.2 ⟨v, hv, .inl h⟩
    unfold orK
    cases h : knIn v.past s c
    · rfl
    · rw [hi h]; rfl
def sumG (X : List Ver) : Nat → Nat
  | 0 => 0
  | k + 1 => sumG X k + (getL X (sid3 k)).length
theorem sumG_le (X : List Ver) : ∀ k, sumG X k ≤ k * X.length
  | 0 => by simp [sumG]
  | k + 1 => by
    have h1 := sumG_le X k
    have h2 : (getL X (sid3 k)).length ≤ X.length := List.length_filter_le _ _
    unfold sumG
    rw [Nat.succ_mul]; omega
theorem get_cons (v : Ver) (X : List Ver) (i : ByteArray) : (getL (v :: X) i).length = (getL X i).length + if v.id = i then 1 else 0 := by
  unfold getL
  by_cases h : v.id = i
  · simp [h]
  · simp [h]
theorem sumG_all : ∀ {X : List Ver}, (∀ v ∈ X, v.id = ⟨#[97]⟩ ∨ v.id = ⟨#[98]⟩) → sumG X 3 = X.length
  | [], _ => rfl
  | v :: X, h => by
    have ih := sumG_all (X := X) fun x hx => h x (List.mem_cons_of_mem _ hx)
    simp only [sumG, get_cons, List.length_cons] at ih ⊢
    have n1 : (⟨#[97]⟩ : ByteArray) ≠ ⟨#[98]⟩ := by decide
    have n2 : (⟨#[97]⟩ : ByteArray) ≠ ⟨#[99]⟩ := by decide
    have n3 : (⟨#[98]⟩ : ByteArray) ≠ ⟨#[99]⟩ := by decide
    have s0 : sid3 0 = ⟨#[97]⟩ := rfl
    have s1 : sid3 1 = ⟨#[98]⟩ := rfl
    have s2 : sid3 2 = ⟨#[99]⟩ := rfl
    rw [s0, s1, s2] at ih ⊢
    rcases h v List.mem_cons_self with e | e
    · rw [e, if_pos rfl, if_neg n1, if_neg n2]; omega
    · rw [e, if_neg n1.symm, if_pos rfl, if_neg n3]; omega
end Go.Proofs.Ytliieljmfncmjaa
