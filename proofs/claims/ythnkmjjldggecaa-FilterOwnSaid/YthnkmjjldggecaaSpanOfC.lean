/- What span.Of does. -/
import Derived.Test.YthnkmjjldggecaaInts
namespace Go.Proofs.Ythnkmjjldggecaa
open Go.RowKit

/-- Is a natural number in a list of integers? -/
def hasI (l : List Int) (i : Nat) : Bool := l.contains (i : Int)
def inRange (n : Int) : Bool := decide (0 ≤ n) && decide (n < 32)
def ofSE (l : List Int) : Int := if 400 < l.length then 2 else if l.all inRange then 0 else 1
def ofSL (l : List Int) : Spans := if ofSE l = 0 then make (hasI l) else []

theorem bits32_congr {p q : Nat → Bool} (h : ∀ i, i < 32 → p i = q i) : bits32 p = bits32 q := by
  apply Array.ext
  · simp [bits32]
  · intro i h1 h2; rw [bits32_size] at h1; simp [bits32, h i h1]
theorem bits32_set (p : Nat → Bool) (k : Nat) : (bits32 p).setIfInBounds k (.bool true) = bits32 (fun i => p i || i == k) := by
  apply Array.ext
  · simp [bits32]
  · intro i h1 h2
    simp only [Array.size_setIfInBounds, bits32_size] at h1
    by_cases h : k = i
    · subst h; simp [bits32]
    · rw [Array.getElem_setIfInBounds_ne (by simpa [bits32] using h1) h]
      simp only [bits32, List.getElem_toArray, List.getElem_map, List.getElem_range]
      rw [show (i == k) = false from by simpa using fun e => h e.symm]; simp

set_option maxRecDepth 100000 in
set_option maxHeartbeats 400000 in
theorem of1_c (n : Nat) (hn : n < 32) (B : Nat) (p : Nat → Bool) (W : World) (h : ∀ j, j < 32 → W.cell? ⟨B, j, none⟩ = some (.bool (p j))) :
    Calls Try.prog 81 #[.int .i64 n, .pointer (some ⟨B, 0, none⟩)] W fun e w' => e = .returned (.bool (p n)) ∧ Below W.heap.size W w' := by
  have d := h n hn
  clear h
  go_enter Try.func81, Try.ntmps81
  go_wp2
  go_ret
  exact ⟨rfl, Below.refl _ _⟩

set_option maxRecDepth 100000 in
set_option maxHeartbeats 1000000 in
theorem of_c (v : Value) (l : List Int) (w : World) (hs : IntsAt w v l) :
    Calls Try.prog 21 #[v] w fun e w' => ∃ v, e = .returned (.tuple #[v, .int .i64 (ofSE l)]) ∧ w'.ownsRow w.heap.size 50 2 v (ofSL l).length (spansCells (ofSL l)) ∧ Below w.heap.size w w' := by
  obtain ⟨a, cap, rfl, hcap, hm, -, hl⟩ := hs.open_
  clear hs
  by_cases h4 : 400 < l.length
  · have H := Lib.hid (show ofSE l = 2 ∧ ofSL l = [] by simp [ofSL, ofSE, h4])
    go_enter Try.func21, Try.ntmps21
    go_wp2
    go_ret2
    exact ⟨_, ret_ve H.out.1.symm, by rw [H.out.2]; exact World.ownsRow_nil _ _ _ _, Below.refl _ _⟩
  have hcall : ∀ args W, (callFunc 81 args).run Try.prog W = .ok (.enter 81 args) W := fun _ _ => by kernel_rfl
  have HCALL := Lib.hid hcall
  clear hcall
  go_enter Try.func21, Try.ntmps21
  go_wp2
  go_loopw [12] (fun i wr => ∃ k : Nat, k ≤ l.length ∧ i = .int .i64 k ∧ (l.take k).all inRange = true ∧ wr = w.alloc (.cells (bits32 (hasI (l.take k))) 134)) (fun i _ => l.length - (intOf i).toNat)
  case atStart => exact ⟨0, Nat.zero_le _, rfl, rfl, by congr 1⟩
  case round =>
    obtain ⟨k, hk, rfl, hall, rfl⟩ := hrel
    have HA := Lib.hid hall
    clear hall
    by_cases hlt : k < l.length
    · rcases hl with rfl | ⟨b, off, rfl, hb, hc⟩
      · simp at hlt
      have d1 := cpast (.cells (bits32 (hasI (l.take k))) 134) (hc k hlt)
      clear hc
      by_cases hr : 0 ≤ l[k] ∧ l[k] < 32
      · obtain ⟨r0, r1⟩ := hr
        obtain ⟨m, hm⟩ : ∃ m : Nat, l[k] = (m : Int) := ⟨l[k].toNat, by omega⟩
        have HM := Lib.hid hm
        rw [hm] at d1 r0 r1
        clear hm
        have hm32 : m < 32 := by omega
        have hget := bits32_get (hasI (l.take k)) m hm32
        go_wp2
        go_roundw
        case rel =>
          refine ⟨k + 1, by omega, by go_num, ?_, ?_⟩
          · rw [List.take_succ_eq_append_getElem hlt, List.all_append, HA.out]
            simp only [List.all_cons, List.all_nil, Bool.and_true, Bool.true_and, inRange, HM.out]
            simp; omega
          · rw [bits32_set]; congr 2; refine bits32_congr fun i _ => ?_
            unfold hasI
            rw [List.take_succ_eq_append_getElem hlt, HM.out]
            rw [Bool.eq_iff_iff]; simp
            exact or_congr Iff.rfl ⟨fun h => by omega, fun h => by omega⟩
        case measure => simp [intOf]; omega
      · have HR := Lib.hid (show ofSE l = 1 ∧ ofSL l = [] by
          have e : l.all inRange = false := by
            rw [Bool.eq_false_iff]; intro h; have := List.all_eq_true.1 h _ (List.getElem_mem hlt); simp [inRange] at this; omega
          have e1 : ofSE l = 1 := by rw [ofSE, if_neg h4, e]; rfl
          exact ⟨e1, by rw [ofSL, e1]; rfl⟩)
        by_cases h0 : l[k] < 0
        all_goals
          go_wp2
          go_ret2
          exact ⟨_, ret_ve HR.out.1.symm, by rw [HR.out.2]; exact World.ownsRow_nil _ _ _ _, bal _⟩
    · obtain rfl : k = l.length := by omega
      rw [List.take_length]
      have HE := Lib.hid (show ofSE l = 0 ∧ ofSL l = make (hasI l) by
        have e := HA.out; rw [List.take_length] at e
        have e1 : ofSE l = 0 := by rw [ofSE, if_neg h4, if_pos e]
        exact ⟨e1, by rw [ofSL, if_pos e1]⟩)
      go_wp2_with fail
      refine (make_c 81 #[.pointer (some ⟨w.heap.size, 0, none⟩)] (hasI l) _ ⟨HCALL.out, fun n W hn hW => ?_⟩).mono ?_
      · exact of1_c n hn w.heap.size (hasI l) W fun j hj => ckeep hW (cat _ _ _ _ _ (bits32_get _ j hj) _ rfl)
      rintro e w2 ⟨v, rfl, hown, hb2⟩
      have hown' : w2.ownsRow w.heap.size 50 2 v (make (hasI l)).length (spansCells (make (hasI l))) := by
        refine ⟨hown.1, hown.2.imp id ?_⟩
        rintro ⟨g, cap, cur, e1, e2, e3⟩
        exact ⟨g, cap, cur, e1, by simp at e2; omega, e3⟩
      clear hown
      go_wp2
      go_ret2
      exact ⟨_, ret_ve HE.out.1.symm, by rw [HE.out.2]; exact hown', ba1 hb2⟩
end Go.Proofs.Ythnkmjjldggecaa
