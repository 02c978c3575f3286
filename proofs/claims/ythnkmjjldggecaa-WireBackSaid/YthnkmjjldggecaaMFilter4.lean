/- What filter.Join, Meet, Less, Same, Within, Count, In, Has, Every do. What filter.Count, Every, In, Has do; the laws' helpers. -/
import Derived.Test.YthnkmjjldggecaaMFilter1
import Derived.Test.YthnkmjjldggecaaMFilterP
import Derived.Test.YthnkmjjldggecaaMForm
namespace Go.Proofs.Ythnkmjjldggecaa
open Go.RowKit

theorem fTwo_zero {f g : Bxs} (h : fTwo f g = 0) : fChk f = 0 ∧ fChk g = 0 := by
  unfold fTwo at h
  by_cases hf : fChk f = 0
  · rw [if_pos hf] at h; exact ⟨hf, h⟩
  · rw [if_neg hf] at h; exact absurd h hf
theorem tab_bits {f g : Bxs} (h : fTwo f g = 0) : (∀ k n : Nat, (tabN f k).testBit n = inF f k n) ∧ (∀ k n : Nat, (tabN g k).testBit n = inF g k n) ∧ (∀ k, tabN f k < 4294967296) ∧ ∀ k, tabN g k < 4294967296 := by
  obtain ⟨h1, h2⟩ := fTwo_zero h
  have hf := (fChk_zero.1 h1).2
  have hg := (fChk_zero.1 h2).2
  exact ⟨fun k => (tabN_good f k hf).2, fun k => (tabN_good g k hg).2, fun k => (tabN_good f k hf).1, fun k => (tabN_good g k hg).1⟩
theorem FOut.empty {base : Nat} {w : World} {v : Value} {p : Nat → Nat → Bool} (h : FOut base w v 0 p) : ∃ a l cap, v = .slice a l cap ∧ ((l : Int) == 0) = allPt (fun k n => !p k n) := by
  obtain ⟨l, hl, hg⟩ := h.1 rfl
  obtain ⟨a, c, hv⟩ := hl.shape
  refine ⟨a, _, c, hv, ?_⟩
  rw [Bool.eq_iff_iff, beq_iff_eq, allPt_iff]
  have e : ((l.length : Int) = 0) ↔ l = [] := by rw [← List.length_eq_zero_iff]; omega
  rw [e, hg.nil]
  exact ⟨fun h t n ht hn => by rw [h t n ht hn]; rfl, fun h t n ht hn => by have := h t n ht hn; simpa using this⟩

def sameE (f g : Bxs) : Bool := if fTwo f g = 0 then allPt (fun k n => !(inF f k n ^^ inF g k n)) else false
set_option maxRecDepth 100000 in
set_option maxHeartbeats 400000 in
theorem samef_c (va vb : Value) (f g : Bxs) (w : World) (hf : BxsAt w va f) (hg : BxsAt w vb g) :
    Calls Try.prog 123 #[va, vb] w fun e w' => e = .returned (.tuple #[.bool (sameE f g), .int .i64 (fTwo f g)]) ∧ Below w.heap.size w w' := by
  obtain ⟨fa, fc, rfl⟩ := hf.shape
  obtain ⟨ga, gc, rfl⟩ := hg.shape
  have hm : ∀ args W, (callFunc 164 args).run Try.prog W = .ok (.enter 164 args) W := fun _ _ => by kernel_rfl
  have HB := Lib.hid (both_c 164 (fun a b => a ^^^ b) hm same1_f (fun a b => xor_lt a b) (fun k n => inF f k n ^^ inF g k n) _ _ f g (fun h k n _ _ => by rw [Nat.testBit_xor, (tab_bits h).1, (tab_bits h).2.1]) w hf hg)
  clear hm hf hg
  go_enter Try.func123, Try.ntmps123
  go_wp2_with fail
  (with_reducible refine HB.out.mono ?_)
  rintro e w1 ⟨v, rfl, ho, hb⟩
  clear HB
  by_cases h0 : fTwo f g = 0
  · have H := Lib.hid (show sameE f g = allPt (fun k n => !(inF f k n ^^ inF g k n)) ∧ fTwo f g = 0 by simp only [sameE, if_pos h0]; exact ⟨trivial, h0⟩)
    rw [h0] at ho ⊢
    obtain ⟨a, n, c, hv, he⟩ := ho.empty
    subst hv
    have HE := Lib.hid he
    clear ho he h0
    go_wp2
    go_ret2
    exact ⟨ret_be (by rw [H.out.1]; exact HE.out) H.out.2.symm, hb⟩
  · have H := Lib.hid (show sameE f g = false by simp only [sameE, if_neg h0])
    have h' : (fTwo f g == 0) = false := by simpa using h0
    clear h0 ho
    go_wp2
    go_ret2
    exact ⟨ret_be H.out.symm rfl, hb⟩
end Go.Proofs.Ythnkmjjldggecaa
namespace Go.Proofs.Ythnkmjjldggecaa
open Go.RowKit

theorem FOut.below {base : Nat} {w w' : World} {v : Value} {E : Int} {p : Nat → Nat → Bool} (h : FOut base w v E p) (hb : Below w.heap.size w w') : FOut base w' v E p :=
  ⟨fun e => let ⟨l, h1, h2⟩ := h.1 e; ⟨l, h1.below hb, h2⟩, h.2⟩
/-- v is a filter, in its form, of just the points p. -/
def FV (w : World) (v : Value) (p : Nat → Nat → Bool) : Prop := ∃ l, BxsAt w v l ∧ fChk l = 0 ∧ ∀ k n : Nat, k < 16 → n < 32 → inF l k n = p k n
theorem FV.below {w w' : World} {v : Value} {p : Nat → Nat → Bool} (h : FV w v p) (hb : Below w.heap.size w w') : FV w' v p := by
  obtain ⟨l, h1, h2, h3⟩ := h; exact ⟨l, h1.below hb, h2, h3⟩
theorem FV.shape {w : World} {v : Value} {p : Nat → Nat → Bool} (h : FV w v p) : ∃ a n c, v = .slice a n c := by
  obtain ⟨l, h1, -⟩ := h; obtain ⟨a, c, hv⟩ := h1.shape; exact ⟨a, _, c, hv⟩
theorem FV.mk {w : World} {v : Value} {l : Bxs} (h : BxsAt w v l) (hc : fChk l = 0) : FV w v (fun k n => inF l k n) := ⟨l, h, hc, fun _ _ _ _ => rfl⟩

end Go.Proofs.Ythnkmjjldggecaa
