/- Filters of the call's own; what a sentence's nodes are as filters. -/
import Derived.Test.YtboakoipdfmpcaaGreatMFilter4
import Derived.Test.YtboakoipdfmpcaaGreatMForm
namespace Go.Proofs.YtboakoipdfmpcaaGreat
open Go.RowKit

/-- v is a filter of just the points p, in memory from block base on. -/
def FO (w : World) (base : Nat) (v : Value) (p : Nat → Nat → Bool) : Prop := ∃ l, BxsOwn w base 142 137 v l ∧ fChk l = 0 ∧ ∀ k n : Nat, k < 16 → n < 32 → inF l k n = p k n
theorem FO.below {w w' : World} {base : Nat} {v : Value} {p : Nat → Nat → Bool} (h : FO w base v p) (hb : Below w.heap.size w w') : FO w' base v p := by
  obtain ⟨l, h1, h2, h3⟩ := h; exact ⟨l, h1.below hb, h2, h3⟩
theorem FO.low {w : World} {base g j : Nat} {v u : Value} {p : Nat → Nat → Bool} (h : FO w base v p) (hg : g < base) : FO (w.setCell ⟨g, j, none⟩ u) base v p := by
  obtain ⟨l, h1, h2, h3⟩ := h; exact ⟨l, h1.low hg, h2, h3⟩
theorem FO.mono {w : World} {base base' : Nat} {v : Value} {p : Nat → Nat → Bool} (h : FO w base v p) (hb : base' ≤ base) : FO w base' v p := by
  obtain ⟨l, h1, h2, h3⟩ := h; exact ⟨l, h1.mono hb, h2, h3⟩
theorem FO.congr {w : World} {base : Nat} {v : Value} {p q : Nat → Nat → Bool} (h : FO w base v p) (hpq : ∀ k n : Nat, k < 16 → n < 32 → p k n = q k n) : FO w base v q := by
  obtain ⟨l, h1, h2, h3⟩ := h; exact ⟨l, h1, h2, fun k n hk hn => (h3 k n hk hn).trans (hpq k n hk hn)⟩
theorem FO.fv {w : World} {base : Nat} {v : Value} {p : Nat → Nat → Bool} (h : FO w base v p) : FV w v p := by
  obtain ⟨l, h1, h2, h3⟩ := h
  obtain ⟨k1, k2⟩ := fChk_zero.1 h2
  exact ⟨l, h1.at_ (by omega) k2, h2, h3⟩
theorem FO.shape {w : World} {base : Nat} {v : Value} {p : Nat → Nat → Bool} (h : FO w base v p) : ∃ a n c, v = .slice a n c := h.fv.shape
/-- One box of the call's own, written out, whatever its cube. -/
theorem boxOwn {w : World} {base g h : Nat} {y n : Int} {s : Int × Int} (hg : base ≤ g) (hh : base ≤ h) (h1 : w.heap[g]? = some (.cells #[.int .i64 s.1, .int .i64 s.2] 137 (0, 0)))
    (h2 : w.heap[h]? = some (.cells #[.int .i64 y, .int .i64 n, .slice (some ⟨g, 0, none⟩) 1 1] 142 (0, 0))) :
    BxsOwn w base 142 137 (.slice (some ⟨h, 0, none⟩) 1 1) [⟨y, n, [s]⟩] := by
  refine ⟨[.slice (some ⟨g, 0, none⟩) 1 1], rfl, ⟨rfl, .inr ⟨h, 1, _, rfl, hh, h2, Nat.le_refl _, by decide, rfl, rfl⟩⟩, fun i hi hi' => ?_⟩
  obtain rfl : i = 0 := by simp at hi; omega
  exact ⟨rfl, .inr ⟨g, 1, _, rfl, hg, h1, Nat.le_refl _, by decide, rfl, rfl⟩⟩
set_option maxRecDepth 100000 in
/-- filter.Every, its blocks known. -/
theorem everyO (w : World) : Calls Tryz.prog 29 #[] w fun e w' => e = .returned (.slice (some ⟨w.heap.size + 1, 0, none⟩) 1 1) ∧
    w' = (w.alloc (.cells #[.int .i64 0, .int .i64 32] 137)).alloc (.cells #[.int .i64 0, .int .i64 0, .slice (some ⟨w.heap.size, 0, none⟩) 1 1] 142) := by
  go_enter Tryz.func29, Tryz.ntmps29
  go_wp2
  go_ret
  exact ⟨rfl, rfl⟩
theorem all_pts : ∀ t : Nat, t < 16 → cubeIn 0 0 (t : Int) = true := by decide +kernel
/-- filter.Every, its two blocks known. -/
def EveryPost (w : World) (e : Ending) (w' : World) : Prop := ∃ g h : Nat, e = .returned (.slice (some ⟨h, 0, none⟩) 1 1) ∧ w.heap.size ≤ g ∧ w.heap.size ≤ h ∧ g ≠ h ∧ w'.heap[g]? = some (.cells #[.int .i64 0, .int .i64 32] 137 (0, 0)) ∧
  w'.heap[h]? = some (.cells #[.int .i64 0, .int .i64 0, .slice (some ⟨g, 0, none⟩) 1 1] 142 (0, 0)) ∧ Below w.heap.size w w'
set_option maxRecDepth 100000 in
theorem everyX (w : World) : Calls Tryz.prog 29 #[] w (EveryPost w) := by
  refine (everyO w).mono ?_
  rintro e w' ⟨rfl, rfl⟩
  refine ⟨w.heap.size, w.heap.size + 1, rfl, Nat.le_refl _, by omega, by omega, (heap_alloc_old _ _ (by simp)).trans (heap_alloc_new _ _), ?_, (bal _).alloc (by simp) _⟩
  have h := fun (o1 o2 : Obj) => heap_alloc_new (w.alloc o1) o2
  simp only [World.size_alloc] at h
  exact h _ _
end Go.Proofs.YtboakoipdfmpcaaGreat
