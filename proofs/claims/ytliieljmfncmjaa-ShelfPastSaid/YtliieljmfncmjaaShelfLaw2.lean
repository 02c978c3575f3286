/- What the statements on dropping want of shelves as lists. No program in sight. -/
import Derived.Test.YtliieljmfncmjaaShelf18
import Derived.Test.YtliieljmfncmjaaMShelf16
import Derived.Test.YtliieljmfncmjaaKnowLaw0
namespace Go.Proofs.Ytliieljmfncmjaa
open Go.RowKit
theorem laid_len {U : List Ver} (hU : Uni U) : (laidL U).length ≤ U.length := (rep_laid hU U fun _ h => h).len
/-- A version with a dot that no site of the laws makes. -/
def farV (id : ByteArray) (s : Int) (bd : Int) (k : Kn) : Ver := ⟨id, s, 900, 0, 0, bd, k⟩
theorem sid_ok (i : Nat) : idOk (sid i) = true := by
  unfold sid; split <;> decide
theorem far_ok {id : ByteArray} {s bd : Int} {P : DPred} (hid : idOk id = true) (hs : 0 ≤ s ∧ s < 5) (hb : 0 ≤ bd ∧ bd ≤ 1000000) (hl : (formK P).more.length ≤ 60) (ho : P s 900 = false) : VerOk (farV id s bd (formK P)) :=
  ⟨hid, dotOk_iff.2 ⟨hs, by simp only [farV]; omega, by simp only [farV]; omega⟩, (show ptOk 0 0 = true by decide), hb, formK_ok P, hl, by show knIn (formK P) s 900 = false; rw [formK_in P s 900 hs.1 hs.2 (by decide) (by decide), ho]⟩
theorem far_cmp {U : List Ver} (h : TInv U) (hl : U.length ≤ 20) {id : ByteArray} {s bd : Int} {k : Kn} : ∀ w ∈ U, verCmp w (farV id s bd k) ≠ 0 := fun w hw e => by
  have := ((vcmp_zero _ _).1 e).2.2
  have h2 := h.cnt w hw
  simp only [farV] at this; omega
theorem far_under {U : List Ver} (h : TInv U) (hl : U.length ≤ 20) {id : ByteArray} {s bd : Int} {k : Kn} (hs : 0 ≤ s ∧ s < 5) : ∀ w ∈ U, verOver w (farV id s bd k) = false := fun w hw => by
  cases ho : verOver w (farV id s bd k)
  · rfl
  · exfalso
    simp only [verOver, Bool.and_eq_true, decide_eq_true_eq, farV] at ho
    obtain ⟨b, hb, -, -, h3⟩ := h.src w hw s 900 hs.1 hs.2 (by decide) (by decide) ho.2
    have := h.cnt b hb; omega
theorem over_far (id : ByteArray) (s bd : Int) (k : Kn) (x : Ver) : verOver (farV id s bd k) x = underB id k x := by
  unfold verOver underB farV
  simp only
  congr 1
  rw [decide_eq_decide]; exact ⟨fun h => h.symm, fun h => h.symm⟩
theorem drop_zero {l : List Ver} {id : ByteArray} {k : Kn} (h : ShOk l) (hid : idOk id = true) (hk : knChk k = 0) : dropE l id k = 0 := by
  unfold dropE; rw [if_neg (by rw [shelfChk_zero.2 h]; decide), if_neg (by rw [hid]; decide), hk]
theorem drop_swap (l : List Ver) (id : ByteArray) (k1 k2 : Kn) : dropL (dropL l id k1) id k2 = dropL (dropL l id k2) id k1 := by
  unfold dropL
  rw [List.filter_filter, List.filter_filter]
  congr 1; funext v; rw [Bool.and_comm]
theorem drop_or {l : List Ver} (h : ∀ v ∈ l, VerOk v) (id : ByteArray) (P Q : DPred) : dropL l id (formK (orK P Q)) = dropL (dropL l id (formK P)) id (formK Q) := by
  unfold dropL
  rw [List.filter_filter]
  refine List.filter_congr fun v hv => ?_
  obtain ⟨h0, h5, h1, h2⟩ := dot_rng (h v hv).dot
  unfold underB
  rw [formK_in _ _ _ h0 h5 h1 h2, formK_in _ _ _ h0 h5 h1 h2, formK_in _ _ _ h0 h5 h1 h2]
  unfold orK
  cases decide (v.id = id) <;> cases P v.ds v.dc <;> cases Q v.ds v.dc <;> rfl
/-- What is under a version goes when that is put: before or now. -/
theorem put_drop {l : List Ver} {id : ByteArray} {s bd : Int} {k : Kn} (hl : ShOk l) (hv : VerOk (farV id s bd k)) (h1 : ∀ w ∈ l, verCmp w (farV id s bd k) ≠ 0) (h2 : ∀ w ∈ l, verOver w (farV id s bd k) = false) : putL (dropL l id k) (farV id s bd k) = putL l (farV id s bd k) := by
  have hm : ∀ w ∈ dropL l id k, w ∈ l := fun w hw => (List.mem_filter.1 hw).1
  refine vsorted_ext (put_sorted (hl.ord.filter _) (fun w hw => h1 w (hm w hw)) fun w hw => h2 w (hm w hw)) (put_sorted hl.ord h1 h2) fun x => ?_
  rw [put_mem hv (fun w hw => h1 w (hm w hw)) fun w hw => h2 w (hm w hw), put_mem hv h1 h2]
  constructor
  · rintro (h | ⟨h, h3⟩)
    · exact .inl h
    · exact .inr ⟨hm x h, h3⟩
  · rintro (h | ⟨h, h3⟩)
    · exact .inl h
    · refine .inr ⟨List.mem_filter.2 ⟨h, ?_⟩, h3⟩
      rw [over_far] at h3; rw [h3]; rfl
theorem put_zero {l : List Ver} {v : Ver} (hl : ShOk l) (hn : l.length ≤ 50) (hv : VerOk v) : putE l v = 0 :=
  putE_zero.2 ⟨hl, hv, by have := put_len (l := l) (v := v); omega⟩
theorem small_far {P : DPred} (h : Sm P) {s : Int} (hs : 0 ≤ s ∧ s < 5) : P s 900 = false := by
  cases hp : P s 900
  · rfl
  · have := h s 900 hs.1 hs.2 (by decide) (by decide) hp; omega
end Go.Proofs.Ytliieljmfncmjaa
