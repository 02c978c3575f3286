/- What a version puts out that is put over all that a shelf has of an id. No program in sight. -/
import Derived.Test.YtliieljmfncmjaaShelfLaw3
import Derived.Test.YtliieljmfncmjaaMShelf16
namespace Go.Proofs.Ytliieljmfncmjaa
open Go.RowKit
theorem sid3_ok (i : Nat) : idOk (sid3 i) = true := by
  unfold sid3; split
  · decide
  · split <;> decide
structure OverOk (X Y : List Ver) (v : Ver) : Prop where
  pe : putE X v = 0
  pr : putR X v = Y
  ok : ShOk Y
  len : Y.length ≤ 21
  ge : getE Y v.id = 0
  gr : getR Y v.id = [v]
  has : ∀ x ∈ X, x.id ≠ v.id → (Y.any fun y => sameVB x y) = true
theorem over_ok {U X : List Ver} (hU : TInv U) (hl : U.length ≤ 20) (hX : ∀ x ∈ X, x ∈ U) (hs : ShOk X) (hx20 : X.length ≤ 20) {i : ByteArray} (hid : idOk i = true) {bd : Int} (hb : 0 ≤ bd ∧ bd ≤ 1000000) :
    VerOk (farV i 0 bd (pastF X i)) ∧ OverOk X (putL X (farV i 0 bd (pastF X i))) (farV i 0 bd (pastF X i)) := by
  have hg := get_ok hU hl hX hs i
  have hC : ∀ w ∈ getL X i, w ∈ U ∧ w.id = i := fun w hw => ⟨hX w (mem_get.1 hw).1, (mem_get.1 hw).2⟩
  have hP : pastP (getL X i) 0 900 = false := by
    cases h : pastP (getL X i) 0 900
    · rfl
    · obtain ⟨b, hbU, -, -, hd⟩ := past_src hU hC (by decide) (by decide) (by decide) (by decide) h
      have := hU.cnt b hbU; omega
  have hv : VerOk (farV i 0 bd (pastF X i)) := far_ok hid ⟨by decide, by decide⟩ hb (Nat.le_trans hg.kl (by decide)) hP
  have h1 : ∀ w ∈ X, verCmp w (farV i 0 bd (pastF X i)) ≠ 0 := fun w hw => far_cmp hU hl w (hX w hw)
  have h2 : ∀ w ∈ X, verOver w (farV i 0 bd (pastF X i)) = false := fun w hw => far_under hU hl ⟨by decide, by decide⟩ w (hX w hw)
  have hpe : putE X (farV i 0 bd (pastF X i)) = 0 := put_zero hs (by omega) hv
  have hpl := put_len (l := X) (v := farV i 0 bd (pastF X i))
  have hok := put_ok hs hv (by omega)
  have hmem := fun x => put_mem (x := x) hv h1 h2
  have hget : getL (putL X (farV i 0 bd (pastF X i))) i = [farV i 0 bd (pastF X i)] := by
    have hall : ∀ x ∈ getL (putL X (farV i 0 bd (pastF X i))) i, x = farV i 0 bd (pastF X i) := by
      intro x hx
      obtain ⟨hx1, hx2⟩ := mem_get.1 hx
      rcases (hmem x).1 hx1 with h | ⟨h, ho⟩
      · exact h
      · exfalso
        rw [over_far] at ho
        unfold underB at ho
        obtain ⟨d0, d5, d1, d1000⟩ := dot_rng (hs.ok x h).dot
        have hin : knIn (pastF X i) x.ds x.dc = true := by
          unfold pastF
          rw [formK_in _ _ _ d0 d5 d1 d1000]
          exact pastP_iff.2 ⟨x, mem_get.2 ⟨h, hx2⟩, .inr ⟨rfl, rfl⟩⟩
        rw [hx2, hin] at ho; simp at ho
    have hin : farV i 0 bd (pastF X i) ∈ getL (putL X (farV i 0 bd (pastF X i))) i := mem_get.2 ⟨(hmem _).2 (.inl rfl), rfl⟩
    have hnd : (getL (putL X (farV i 0 bd (pastF X i))) i).Pairwise vlt := hok.ord.filter _
    generalize getL (putL X (farV i 0 bd (pastF X i))) i = G at *
    match G, hall, hin, hnd with
    | [], _, hin, _ => simp at hin
    | [a], hall, _, _ => rw [hall a (by simp)]
    | a :: b :: _, hall, _, hnd =>
      exfalso
      have e1 := hall a (by simp)
      have e2 := hall b (by simp)
      have := (List.pairwise_cons.1 hnd).1 b (by simp)
      rw [e1, e2] at this
      exact vlt_irrefl _ this
  have hsc := shelfChk_zero.2 hok
  have hge : getE (putL X (farV i 0 bd (pastF X i))) i = 0 := by unfold getE; rw [if_neg (by omega), hget]; rfl
  refine ⟨hv, hpe, putR_ok hpe, hok, by omega, hge, by rw [show (farV i 0 bd (pastF X i)).id = i from rfl, getR_ok hge, hget], fun x hx hne => ?_⟩
  rw [List.any_eq_true]
  refine ⟨x, (hmem x).2 (.inr ⟨hx, ?_⟩), (sameVB_iff x x).2 rfl⟩
  rw [over_far]; unfold underB
  rw [decide_eq_false (show ¬ x.id = i from hne)]; rfl
end Go.Proofs.Ytliieljmfncmjaa
