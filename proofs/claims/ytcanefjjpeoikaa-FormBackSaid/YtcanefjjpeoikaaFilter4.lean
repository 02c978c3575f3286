/- What filter.Join, Meet, Less, Same, Within, Count, In, Has, Every do. -/
import Derived.Test.YtcanefjjpeoikaaFilter3
import Derived.Test.YtcanefjjpeoikaaFilterCount
import Derived.Test.YtcanefjjpeoikaaForm2
namespace Go.Proofs.Ytcanefjjpeoikaa
open Go.RowKit

theorem FOut.nil_or {base : Nat} {w : World} {v : Value} {E : Int} {p : Nat → Nat → Bool} (h : FOut base w v E p) : ∃ a n cap, v = .slice a n cap := by
  by_cases e : E = 0
  · obtain ⟨l, hl, -⟩ := h.1 e
    obtain ⟨a, c, hv⟩ := hl.shape
    exact ⟨a, _, c, hv⟩
  · exact ⟨none, 0, 0, h.2 e⟩
theorem fTwo_zero {f g : Bxs} (h : fTwo f g = 0) : fChk f = 0 ∧ fChk g = 0 := by
  unfold fTwo at h
  by_cases hf : fChk f = 0
  · rw [if_pos hf] at h; exact ⟨hf, h⟩
  · rw [if_neg hf] at h; exact absurd h hf
theorem tab_bits {f g : Bxs} (h : fTwo f g = 0) : (∀ k n : Nat, (tabN f k).testBit n = inF f k n) ∧ (∀ k n : Nat, (tabN g k).testBit n = inF g k n) ∧ (∀ k, tabN f k < 4294967296) ∧ ∀ k, tabN g k < 4294967296 := by
  obtain ⟨h1, h2⟩ := fTwo_zero h
  have hf := (fChk_zero.1 h1).2
  have hg := (fChk_zero.1 h2).2
  exact ⟨fun k => (tabN_good f k hf).2, fun k => (tabN_good g k hg).2, fun k => (tabN_good f k hf).1, fun k => (tabN_good g k hg).1⟩
theorem andNot_bit (a b n : Nat) (hb : b < 4294967296) (hn : n < 32) : (a &&& (4294967295 - b)).testBit n = (a.testBit n && !b.testBit n) := by
  rw [Nat.testBit_and]
  congr 1
  have : 4294967295 - b = 2 ^ 32 - (b + 1) := by omega
  rw [this, Nat.testBit_two_pow_sub_succ (by omega)]
  simp [hn]

set_option maxRecDepth 100000 in
theorem joinf_c (va vb : Value) (f g : Bxs) (w : World) (hf : BxsAt w va f) (hg : BxsAt w vb g) :
    Calls Try.prog 21 #[va, vb] w fun e w' => ∃ v, e = .returned (.tuple #[v, .int .i64 (fTwo f g)]) ∧ FOut w.heap.size w' v (fTwo f g) (fun k n => inF f k n || inF g k n) ∧ Below w.heap.size w w' := by
  obtain ⟨fa, fc, rfl⟩ := hf.shape
  obtain ⟨ga, gc, rfl⟩ := hg.shape
  have hm : ∀ args W, (callFunc 56 args).run Try.prog W = .ok (.enter 56 args) W := fun _ _ => by kernel_rfl
  have HB := Lib.hid (both_c 56 (fun a b => a ||| b) hm join1_f (fun a b => or_lt a b) (fun k n => inF f k n || inF g k n) _ _ f g (fun h k n _ _ => by rw [Nat.testBit_or, (tab_bits h).1, (tab_bits h).2.1]) w hf hg)
  clear hm hf hg
  go_enter Try.func21, Try.ntmps21
  go_wp2_with fail
  (with_reducible refine HB.out.mono ?_)
  rintro e w1 ⟨v, rfl, ho, hb⟩
  have HO := Lib.hid ho
  clear ho HB
  go_wp2
  go_ret2
  exact ⟨v, rfl, HO.out, hb⟩
set_option maxRecDepth 100000 in
theorem meetf_c (va vb : Value) (f g : Bxs) (w : World) (hf : BxsAt w va f) (hg : BxsAt w vb g) :
    Calls Try.prog 23 #[va, vb] w fun e w' => ∃ v, e = .returned (.tuple #[v, .int .i64 (fTwo f g)]) ∧ FOut w.heap.size w' v (fTwo f g) (fun k n => inF f k n && inF g k n) ∧ Below w.heap.size w w' := by
  obtain ⟨fa, fc, rfl⟩ := hf.shape
  obtain ⟨ga, gc, rfl⟩ := hg.shape
  have hm : ∀ args W, (callFunc 59 args).run Try.prog W = .ok (.enter 59 args) W := fun _ _ => by kernel_rfl
  have HB := Lib.hid (both_c 59 (fun a b => a &&& b) hm meet1_f (fun a b h _ => and_lt a b h) (fun k n => inF f k n && inF g k n) _ _ f g (fun h k n _ _ => by rw [Nat.testBit_and, (tab_bits h).1, (tab_bits h).2.1]) w hf hg)
  clear hm hf hg
  go_enter Try.func23, Try.ntmps23
  go_wp2_with fail
  (with_reducible refine HB.out.mono ?_)
  rintro e w1 ⟨v, rfl, ho, hb⟩
  have HO := Lib.hid ho
  clear ho HB
  go_wp2
  go_ret2
  exact ⟨v, rfl, HO.out, hb⟩
set_option maxRecDepth 100000 in
theorem lessf_c (va vb : Value) (f g : Bxs) (w : World) (hf : BxsAt w va f) (hg : BxsAt w vb g) :
    Calls Try.prog 25 #[va, vb] w fun e w' => ∃ v, e = .returned (.tuple #[v, .int .i64 (fTwo f g)]) ∧ FOut w.heap.size w' v (fTwo f g) (fun k n => inF f k n && !inF g k n) ∧ Below w.heap.size w w' := by
  obtain ⟨fa, fc, rfl⟩ := hf.shape
  obtain ⟨ga, gc, rfl⟩ := hg.shape
  have hm : ∀ args W, (callFunc 61 args).run Try.prog W = .ok (.enter 61 args) W := fun _ _ => by kernel_rfl
  have HB := Lib.hid (both_c 61 (fun a b => a &&& (4294967295 - b)) hm less1_f (fun a b h _ => and_lt a _ h) (fun k n => inF f k n && !inF g k n) _ _ f g (fun h k n _ hn => by rw [andNot_bit _ _ _ ((tab_bits h).2.2.2 k) hn, (tab_bits h).1, (tab_bits h).2.1]) w hf hg)
  clear hm hf hg
  go_enter Try.func25, Try.ntmps25
  go_wp2_with fail
  (with_reducible refine HB.out.mono ?_)
  rintro e w1 ⟨v, rfl, ho, hb⟩
  have HO := Lib.hid ho
  clear ho HB
  go_wp2
  go_ret2
  exact ⟨v, rfl, HO.out, hb⟩

theorem FOut.empty {base : Nat} {w : World} {v : Value} {p : Nat → Nat → Bool} (h : FOut base w v 0 p) : ∃ a l cap, v = .slice a l cap ∧ ((l : Int) == 0) = allPt (fun k n => !p k n) := by
  obtain ⟨l, hl, hg⟩ := h.1 rfl
  obtain ⟨a, c, hv⟩ := hl.shape
  refine ⟨a, _, c, hv, ?_⟩
  rw [Bool.eq_iff_iff, beq_iff_eq, allPt_iff]
  have e : ((l.length : Int) = 0) ↔ l = [] := by rw [← List.length_eq_zero_iff]; omega
  rw [e, hg.nil]
  exact ⟨fun h t n ht hn => by rw [h t n ht hn]; rfl, fun h t n ht hn => by have := h t n ht hn; simpa using this⟩

def sameE (f g : Bxs) : Bool := if fTwo f g = 0 then allPt (fun k n => !(inF f k n ^^ inF g k n)) else false
def withinE (f g : Bxs) : Bool := if fTwo f g = 0 then allPt (fun k n => !(inF f k n && !inF g k n)) else false

set_option maxRecDepth 100000 in
set_option maxHeartbeats 400000 in
theorem samef_c (va vb : Value) (f g : Bxs) (w : World) (hf : BxsAt w va f) (hg : BxsAt w vb g) :
    Calls Try.prog 60 #[va, vb] w fun e w' => e = .returned (.tuple #[.bool (sameE f g), .int .i64 (fTwo f g)]) ∧ Below w.heap.size w w' := by
  obtain ⟨fa, fc, rfl⟩ := hf.shape
  obtain ⟨ga, gc, rfl⟩ := hg.shape
  have hm : ∀ args W, (callFunc 83 args).run Try.prog W = .ok (.enter 83 args) W := fun _ _ => by kernel_rfl
  have HB := Lib.hid (both_c 83 (fun a b => a ^^^ b) hm same1_f (fun a b => xor_lt a b) (fun k n => inF f k n ^^ inF g k n) _ _ f g (fun h k n _ _ => by rw [Nat.testBit_xor, (tab_bits h).1, (tab_bits h).2.1]) w hf hg)
  clear hm hf hg
  go_enter Try.func60, Try.ntmps60
  go_wp2_with fail
  (with_reducible refine HB.out.mono ?_)
  rintro e w1 ⟨v, rfl, ho, hb⟩
  clear HB
  by_cases h0 : fTwo f g = 0
  · have H := Lib.hid (show sameE f g = allPt (fun k n => !(inF f k n ^^ inF g k n)) ∧ fTwo f g = 0 by simp only [sameE, if_pos h0]; exact ⟨trivial, h0⟩)
    rw [h0] at ho ⊢
    obtain ⟨a, n, c, hv, he⟩ := ho.empty
    subst hv
    have HE := Lib.hid he
    clear ho he h0
    go_wp2
    go_ret2
    exact ⟨ret_be (by rw [H.out.1]; exact HE.out) H.out.2.symm, hb⟩
  · have H := Lib.hid (show sameE f g = false by simp only [sameE, if_neg h0])
    have h' : (fTwo f g == 0) = false := by simpa using h0
    clear h0 ho
    go_wp2
    go_ret2
    exact ⟨ret_be H.out.symm rfl, hb⟩
set_option maxRecDepth 100000 in
set_option maxHeartbeats 400000 in
theorem withinf_c (va vb : Value) (f g : Bxs) (w : World) (hf : BxsAt w va f) (hg : BxsAt w vb g) :
    Calls Try.prog 27 #[va, vb] w fun e w' => e = .returned (.tuple #[.bool (withinE f g), .int .i64 (fTwo f g)]) ∧ Below w.heap.size w w' := by
  obtain ⟨fa, fc, rfl⟩ := hf.shape
  obtain ⟨ga, gc, rfl⟩ := hg.shape
  have HB := Lib.hid (lessf_c _ _ f g w hf hg)
  clear hf hg
  go_enter Try.func27, Try.ntmps27
  go_wp2_with fail
  (with_reducible refine HB.out.mono ?_)
  rintro e w1 ⟨v, rfl, ho, hb⟩
  clear HB
  by_cases h0 : fTwo f g = 0
  · have H := Lib.hid (show withinE f g = allPt (fun k n => !(inF f k n && !inF g k n)) ∧ fTwo f g = 0 by simp only [withinE, if_pos h0]; exact ⟨trivial, h0⟩)
    rw [h0] at ho ⊢
    obtain ⟨a, n, c, hv, he⟩ := ho.empty
    subst hv
    have HE := Lib.hid he
    clear ho he h0
    go_wp2
    go_ret2
    exact ⟨ret_be (by rw [H.out.1]; exact HE.out) H.out.2.symm, hb⟩
  · have H := Lib.hid (show withinE f g = false by simp only [withinE, if_neg h0])
    have h' : (fTwo f g == 0) = false := by simpa using h0
    clear h0 ho
    go_wp2
    go_ret2
    exact ⟨ret_be H.out.symm rfl, hb⟩
end Go.Proofs.Ytcanefjjpeoikaa
