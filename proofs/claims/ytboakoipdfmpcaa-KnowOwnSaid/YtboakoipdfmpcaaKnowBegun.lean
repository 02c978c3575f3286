/- What reedkeep.knowBegun does: it returns true. -/
import Derived.Test.YtboakoipdfmpcaaMKnow9
namespace Go.Proofs.Ytboakoipdfmpcaa
open Go.RowKit
def begA : Kn := ⟨[], [(0, 2)]⟩
def begB : Kn := ⟨[2], []⟩
theorem begA_ok : KnOk begA := by
  refine ⟨by decide, by simp [begA], by simp [begA], ?_, by simp [begA]⟩
  intro d hd
  simp only [begA, List.mem_singleton] at hd
  subst hd
  exact ⟨by decide, by decide⟩
theorem begB_ok : KnOk begB := by
  refine ⟨by decide, by simp [begB], by simp [begB], by simp [begB], by simp [begB]⟩
theorem beg_form : formK (addP (knIn begA) 0 1) = begB := by
  refine (formK_uniq begB_ok fun s c h0 h5 h1 h2 => ?_).symm
  have e0 : ∀ s : Int, vecAt ([] : List Int) s = 0 := fun s => by simp [vecAt]
  have e1 : knIn begB s c = true ↔ c ≤ vecAt [2] s := by show (decide (c ≤ vecAt [2] s) || decide ((s, c) ∈ ([] : Dots))) = true ↔ _; simp
  have e2 : addP (knIn begA) 0 1 s c = true ↔ (c ≤ vecAt ([] : List Int) s ∨ (s = 0 ∧ c = 2)) ∨ (s = 0 ∧ c = 1) := by show ((decide (c ≤ vecAt ([] : List Int) s) || decide ((s, c) ∈ ([(0, 2)] : Dots))) || decide ((s, c) = (0, 1))) = true ↔ _; simp
  rw [Bool.eq_iff_iff, e1, e2, e0]
  by_cases hs : s = 0
  · subst hs
    rw [show vecAt [2] 0 = 2 from rfl]
    omega
  · rw [show vecAt [2] s = 0 by unfold vecAt; rw [List.getD_eq_getElem?_getD, List.getElem?_eq_none (by simp; omega)]; rfl]
    omega
theorem beg_chk : knChk begA = 0 := knChk_zero.2 ⟨begA_ok, by decide⟩
theorem beg_e : addE begA 0 1 = 0 := by
  unfold addE
  rw [if_pos beg_chk, if_pos (by decide), beg_form]
  decide
set_option maxRecDepth 100000 in
set_option maxHeartbeats 1000000 in
theorem knowBegun_c (w : World) : Calls Try.prog 4 #[] w fun e w' => e = .returned (.bool true) ∧ Below w.heap.size w w' := by
  have HE := Lib.hid beg_e
  have hbel := bal (W := w) (.cells #[.int .i64 0, .int .i64 2] 27)
  have HA := Lib.hid (show KnAt (w.alloc (.cells #[.int .i64 0, .int .i64 2] 27)) (.slice none 0 0) (.slice (some ⟨w.heap.size, 0, none⟩) 1 1) begA from ⟨CellsAt.nil _, dots1 (l := [(0, 2)]) (alloc_new _ _ _ _ rfl) (by decide)⟩)
  go_enter Try.func4, Try.ntmps4
  go_wp2_with fail
  (with_reducible refine (kadd_c _ _ begA 0 1 _ HA.out).mono ?_)
  rintro e w1 ⟨x, y, rfl, hr, hb⟩
  rw [beg_e, beg_form] at hr
  rw [beg_e]
  obtain ⟨a, n, c, b, m, d, hx, hy⟩ := hr.shape
  subst hx hy
  replace hbel := bstep hbel hb
  have HK := Lib.hid ((hr.resolve_right fun h => h.1 rfl).2)
  clear hr hb HA
  have hb2 : ∀ w2, Below w1.heap.size w1 w2 → KnAt w2 (.slice a n c) (.slice b m d) begB := fun w2 h => (HK.out.at_ (by decide) (by decide)).below h
  have HB2 := Lib.hid hb2
  clear hb2
  have HB3 := Lib.hid (show Below w1.heap.size w1 ((w1.alloc (.cells #[.slice a n c, .slice b m d] 25)).alloc (.cells #[.int .i64 2] 3)) from (bal _).alloc (by simp) _)
  have HC := Lib.hid (show KnAt ((w1.alloc (.cells #[.slice a n c, .slice b m d] 25)).alloc (.cells #[.int .i64 2] 3)) (.slice (some ⟨w1.heap.size + 1, 0, none⟩) 1 1) (.slice none 0 0) begB from ⟨ints1 (l := [2]) (alloc_new _ _ _ _ (by simp)) (by decide), CellsAt.nil _⟩)
  go_wp2_with fail
  (with_reducible refine (sameK_c _ _ _ _ begB begB _ (HB2.out _ HB3.out) HC.out).mono ?_)
  rintro e w2 ⟨rfl, hb⟩
  replace hbel := bstep (bstep hbel HB3.out) hb
  rw [decide_eq_true (rfl : begB = begB)]
  clear hb
  go_wp2
  go_ret
  exact ⟨rfl, hbel⟩
end Go.Proofs.Ytboakoipdfmpcaa
