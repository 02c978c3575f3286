/- Boxes of one cube and one set: how many points, and what two have in common. -/
import Derived.Test.YtcanefjjpeoikaaFilter6
import Derived.Test.YtcanefjjpeoikaaCubeLaw0
import Derived.Test.YtcanefjjpeoikaaSpanLaw0
namespace Go.Proofs.Ytcanefjjpeoikaa
open Go.RowKit

/-- One box just laid as a slice. -/
theorem boxRow (W : World) (y n : Int) (u : Value) (sp : Spans) (h : SpansAt W u sp) (g : Nat) (hg : g = W.heap.size) :
    BxsAt (W.alloc (.cells #[.int .i64 y, .int .i64 n, u] 52)) (.slice (some ⟨g, 0, none⟩) 1 1) [⟨y, n, sp⟩] := by
  subst hg
  refine ⟨[u], rfl, ?_, fun i hi hi' => ?_⟩
  · exact CellsAt.mk (b := W.heap.size) (off := 0) (n := 1) (cap := 1) (xs := [.int .i64 y, .int .i64 n, u]) (Nat.le_refl _) (by decide) (by simp) (fun j x hj => by
      rw [Nat.zero_add, World.cell?_alloc_at _ _ _ _ rfl]; simpa using hj)
  · obtain rfl : i = 0 := by simp at hi; omega
    exact h.below (bal _)
def cntC (c : Nat → Bool) : Nat → Int
  | 0 => 0
  | k + 1 => cntC c k + if c k then 1 else 0
theorem cntC_eq (c : Nat → Bool) (k : Nat) : cntC c k = cnt c k := by
  induction k with
  | zero => rfl
  | succ k ih => rw [cntC, cnt, ih]
theorem cnt_and (c : Bool) (p : Nat → Bool) (k : Nat) : cnt (fun m => c && p m) k = if c then cnt p k else 0 := by
  cases c
  · simp [cnt_false]
  · simp
theorem cntT_box (c p : Nat → Bool) (k : Nat) : cntT (fun t m => c t && p m) k = cnt c k * cnt p 32 := by
  induction k with
  | zero => simp [cntT, cnt]
  | succ k ih =>
    show cntT _ k + cnt (fun m => c k && p m) 32 = (cnt c k + if c k then 1 else 0) * cnt p 32
    rw [ih, cnt_and]
    generalize cnt p 32 = P
    cases c k
    · simp
    · simp [Int.add_mul]
theorem cubeCount_fact : ∀ Y : Nat, Y < 16 → ∀ N : Nat, N < 16 → cubeChk (Y : Int) (N : Int) = 0 → cubeCount (Y : Int) (N : Int) = cnt (fun k => cubeIn (Y : Int) (N : Int) (k : Int)) 16 := by decide +kernel
theorem encF_nat (Y : Nat → Bool) : ∃ y : Nat, y < 16 ∧ encF Y = (y : Int) := by
  unfold encF
  generalize Y 0 = a; generalize Y 1 = b; generalize Y 2 = c; generalize Y 3 = d
  exact ⟨(enc4 a b c d).toNat, by cases a <;> cases b <;> cases c <;> cases d <;> decide, by cases a <;> cases b <;> cases c <;> cases d <;> decide⟩
theorem cubeCount_enc {Y N : Nat → Bool} (h : Apart Y N) : cubeCount (encF Y) (encF N) = cnt (fun k => cubeIn (encF Y) (encF N) (k : Int)) 16 := by
  have hc := chk_enc h
  obtain ⟨y, hy, ey⟩ := encF_nat Y
  obtain ⟨n, hn, en⟩ := encF_nat N
  rw [ey, en] at hc ⊢
  exact cubeCount_fact y hy n hn hc
theorem in_meet (Y N Y' N' : Nat → Bool) (k : Nat) (hk : k < 16) : cubeIn (encF fun i => Y i || Y' i) (encF fun i => N i || N' i) (k : Int) = (cubeIn (encF Y) (encF N) (k : Int) && cubeIn (encF Y') (encF N') (k : Int)) := by
  rw [← enc_tb (k : Int) (by omega) (by omega), in_enc, in_enc, in_enc, Bool.eq_iff_iff, Bool.and_eq_true, allF_iff, allF_iff, allF_iff]
  constructor
  · intro h
    exact ⟨fun i hi => by have := h i hi; revert this; cases Y i <;> cases Y' i <;> cases N i <;> cases N' i <;> simp, fun i hi => by have := h i hi; revert this; cases Y i <;> cases Y' i <;> cases N i <;> cases N' i <;> simp⟩
  · rintro ⟨h1, h2⟩ i hi
    have a1 := h1 i hi; have a2 := h2 i hi
    revert a1 a2
    cases Y i <;> cases Y' i <;> cases N i <;> cases N' i <;> simp
theorem in_none (Y N Y' N' : Nat → Bool) (hm : meets Y N Y' N' = false) (k : Nat) (hk : k < 16) : (cubeIn (encF Y) (encF N) (k : Int) && cubeIn (encF Y') (encF N') (k : Int)) = false := by
  obtain ⟨i, hi, hf⟩ := allF_false hm
  rw [← enc_tb (k : Int) (by omega) (by omega), in_enc, in_enc]
  cases h1 : allF (fun i => (!Y i || tb (k : Int) i) && (!N i || !tb (k : Int) i))
  · rfl
  · cases h2 : allF (fun i => (!Y' i || tb (k : Int) i) && (!N' i || !tb (k : Int) i))
    · rfl
    · exfalso
      have a1 := (allF_iff _).1 h1 i hi
      have a2 := (allF_iff _).1 h2 i hi
      revert a1 a2 hf
      cases Y i <;> cases Y' i <;> cases N i <;> cases N' i <;> cases tb (k : Int) i <;> simp
theorem box_pts (y n : Int) (p : Nat → Bool) (k m : Nat) (hm : m < 32) : inF [⟨y, n, make p⟩] k m = (cubeIn y n k && p m) := by
  simp [inF, make_in_nat p m hm]
theorem boxFV {w : World} {v : Value} {Y N : Nat → Bool} {p : Nat → Bool} (ha : Apart Y N) (h : BxsAt w v [⟨encF Y, encF N, make p⟩]) : FV w v (fun k m => cubeIn (encF Y) (encF N) (k : Int) && p m) :=
  ⟨_, h, fChk_zero.2 ⟨by simp, fun b hb => by simp at hb; subst hb; exact bxChk_zero.2 ⟨chk_enc ha, make_chk p⟩⟩, fun k m _ hm => box_pts _ _ p k m hm⟩
theorem box_lit : cntE [⟨0, 3, [(0, 5)]⟩] = 20 ∧ fChk [⟨0, 3, [(0, 5)]⟩] = 0 := by decide +kernel
theorem apart_meet {Y N Y' N' : Nat → Bool} (hm : meets Y N Y' N' = true) : Apart (fun i => Y i || Y' i) (fun i => N i || N' i) := hm

theorem pow_open (Y N : Nat → Bool) : (1 : Int) ≤ 2 ^ open4 Y N ∧ (2 : Int) ^ open4 Y N ≤ 16 := by
  have h : open4 Y N ≤ 4 := by unfold open4; cases (Y 0 || N 0) <;> cases (Y 1 || N 1) <;> cases (Y 2 || N 2) <;> cases (Y 3 || N 3) <;> simp
  generalize open4 Y N = x at *
  have : x = 0 ∨ x = 1 ∨ x = 2 ∨ x = 3 ∨ x = 4 := by omega
  rcases this with rfl | rfl | rfl | rfl | rfl <;> decide
end Go.Proofs.Ytcanefjjpeoikaa
