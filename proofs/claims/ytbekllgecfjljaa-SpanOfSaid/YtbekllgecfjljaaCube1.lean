/- What the functions of package cube do, one contract a function: Tags, Check, In, Has, two, Within. -/
import Derived.Test.YtbekllgecfjljaaChecked
import Derived.Test.YtbekllgecfjljaaBase
import Derived.Deep.QuietTactic
import Derived.BigQuiet
import Derived.WalkSmall
namespace Go.Proofs.Ytbekllgecfjljaa
open Go.RowKit

def tagsB (n : Int) : Bool := decide (0 ≤ n) && decide (n ≤ 15)
def cubeChk (y n : Int) : Int := if tagsB y && tagsB n then (if bits .and .i64 y n == 0 then 0 else 3) else 1
def cubeIn (y n t : Int) : Bool := (bits .and .i64 t y == y) && (bits .and .i64 t n == 0)
def cubeTwo (y n y' n' : Int) : Int := if cubeChk y n == 0 then cubeChk y' n' else cubeChk y n
def cubeHas (y n t : Int) : Bool := (cubeChk y n == 0) && tagsB t && cubeIn y n t
def cubeHasE (y n t : Int) : Int := if cubeChk y n == 0 then (if tagsB t then 0 else 1) else cubeChk y n
def cubeWithin (y n y' n' : Int) : Bool := (cubeTwo y n y' n' == 0) && (bits .and .i64 y y' == y') && (bits .and .i64 n n' == n')

set_option maxHeartbeats 400000 in
theorem tags_c (n : Int) (w : World) :
    Calls Try.prog 42 #[.int .i64 n] w fun e w' => e = .returned (.bool (tagsB n)) ∧ w' = w := by
  go_enter Try.func42, Try.ntmps42
  go_wp2
  all_goals go_ret
  all_goals exact ⟨ret_bool (by simp [tagsB]; try omega), rfl⟩

set_option maxHeartbeats 400000 in
theorem cubeChk_c (y n : Int) (w : World) :
    Calls Try.prog 41 #[.agg #[.int .i64 y, .int .i64 n]] w fun e w' => e = .returned (.int .i64 (cubeChk y n)) ∧ Below w.heap.size w w' := by
  have hb : Below w.heap.size w (w.alloc (.cells #[.int .i64 y, .int .i64 n] 29)) := bal _
  go_enter Try.func41, Try.ntmps41
  go_wp2_with fail
  refine (tags_c _ _).mono ?_
  rintro e w1 ⟨rfl, rfl⟩
  cases hy : tagsB y
  · have H := Lib.hid (show cubeChk y n = 1 by simp [cubeChk, hy])
    go_wp2
    go_ret
    exact ⟨ret_int H.out.symm, hb⟩
  go_wp2_with fail
  refine (tags_c _ _).mono ?_
  rintro e w1 ⟨rfl, rfl⟩
  cases hn : tagsB n
  · have H := Lib.hid (show cubeChk y n = 1 by simp [cubeChk, hn])
    go_wp2
    go_ret
    exact ⟨ret_int H.out.symm, hb⟩
  cases ha : (bits .and .i64 y n == 0)
  · have H := Lib.hid (show cubeChk y n = 3 by simp only [cubeChk, hy, hn, ha]; rfl)
    clear hy hn
    go_wp2
    go_ret
    exact ⟨ret_int H.out.symm, hb⟩
  · have H := Lib.hid (show cubeChk y n = 0 by simp only [cubeChk, hy, hn, ha]; rfl)
    clear hy hn
    go_wp2
    go_ret
    exact ⟨ret_int H.out.symm, hb⟩

set_option maxHeartbeats 400000 in
theorem cubeIn_c (y n t : Int) (w : World) :
    Calls Try.prog 43 #[.agg #[.int .i64 y, .int .i64 n], .int .i64 t] w fun e w' => e = .returned (.bool (cubeIn y n t)) ∧ Below w.heap.size w w' := by
  go_enter Try.func43, Try.ntmps43
  go_wp2
  all_goals go_ret
  all_goals exact ⟨ret_bool (by simp [cubeIn, *]), bal _⟩

set_option maxHeartbeats 400000 in
theorem cubeHas_c (y n t : Int) (w : World) :
    Calls Try.prog 19 #[.agg #[.int .i64 y, .int .i64 n], .int .i64 t] w fun e w' => e = .returned (.tuple #[.bool (cubeHas y n t), .int .i64 (cubeHasE y n t)]) ∧ Below w.heap.size w w' := by
  have hcell : ∀ w1, Below (w.alloc (.cells #[.int .i64 y, .int .i64 n] 29)).heap.size (w.alloc (.cells #[.int .i64 y, .int .i64 n] 29)) w1 →
      w1.cell? ⟨w.heap.size, 0, none⟩ = some (.int .i64 y) ∧ w1.cell? ⟨w.heap.size, 1, none⟩ = some (.int .i64 n) ∧ Below w.heap.size w w1 := fun w1 h =>
    ⟨ckeep h (cat _ _ _ 0 _ rfl _ rfl), ckeep h (cat _ _ _ 1 _ rfl _ rfl), ba1 h⟩
  have HC := Lib.hid hcell
  clear hcell
  go_enter Try.func19, Try.ntmps19
  go_wp2_with fail
  refine (cubeChk_c _ _ _).mono ?_
  rintro e w1 ⟨rfl, hb1⟩
  obtain ⟨c0, c1, hb⟩ := HC.out _ hb1
  clear HC hb1
  cases hc : (cubeChk y n == 0)
  · have H := Lib.hid (show cubeHas y n t = false ∧ cubeHasE y n t = cubeChk y n by simp only [cubeHas, cubeHasE, hc]; simp)
    have h' : (cubeChk y n != 0) = true := by simp [bne, hc]
    clear hc
    go_wp2
    go_ret2
    exact ⟨ret_be H.out.1.symm H.out.2.symm, hb⟩
  · have h0 : cubeChk y n = 0 := by simpa using hc
    rw [h0]
    clear h0
    go_wp2_with fail
    refine (tags_c _ _).mono ?_
    rintro e w2 ⟨rfl, rfl⟩
    cases ht : tagsB t
    · have H := Lib.hid (show cubeHas y n t = false ∧ cubeHasE y n t = 1 by simp only [cubeHas, cubeHasE, hc, ht]; simp)
      clear hc ht
      go_wp2
      go_ret2
      exact ⟨ret_be H.out.1.symm H.out.2.symm, hb⟩
    · have H := Lib.hid (show cubeHas y n t = cubeIn y n t ∧ cubeHasE y n t = 0 by simp only [cubeHas, cubeHasE, hc, ht]; simp)
      clear hc ht
      go_wp2_with fail
      refine (cubeIn_c _ _ _ _).mono ?_
      rintro e w2 ⟨rfl, hb2⟩
      go_wp2
      go_ret2
      exact ⟨ret_be H.out.1.symm H.out.2.symm, bstep hb hb2⟩

theorem boxes2 {w w1 : World} {v0 v1 v2 v3 : Value} {t t' : TypeId} (h : Below ((w.alloc (.cells #[v0, v1] t)).alloc (.cells #[v2, v3] t')).heap.size ((w.alloc (.cells #[v0, v1] t)).alloc (.cells #[v2, v3] t')) w1) :
    w1.cell? ⟨w.heap.size, 0, none⟩ = some v0 ∧ w1.cell? ⟨w.heap.size, 1, none⟩ = some v1 ∧ w1.cell? ⟨w.heap.size + 1, 0, none⟩ = some v2 ∧ w1.cell? ⟨w.heap.size + 1, 1, none⟩ = some v3 ∧ Below w.heap.size w w1 :=
  ⟨ckeep h (cpast _ (cat _ _ _ 0 _ rfl _ rfl)), ckeep h (cpast _ (cat _ _ _ 1 _ rfl _ rfl)), ckeep h (cat _ _ _ 0 _ rfl _ (by simp)), ckeep h (cat _ _ _ 1 _ rfl _ (by simp)), ba2 h⟩

set_option maxHeartbeats 400000 in
theorem cubeTwo_c (y n y' n' : Int) (w : World) :
    Calls Try.prog 40 #[.agg #[.int .i64 y, .int .i64 n], .agg #[.int .i64 y', .int .i64 n']] w fun e w' => e = .returned (.int .i64 (cubeTwo y n y' n')) ∧ Below w.heap.size w w' := by
  go_enter Try.func40, Try.ntmps40
  go_wp2_with fail
  refine (cubeChk_c _ _ _).mono ?_
  rintro e w1 ⟨rfl, hb1⟩
  obtain ⟨-, -, c2, c3, hb⟩ := boxes2 hb1
  clear hb1
  cases hc : (cubeChk y n == 0)
  · have H := Lib.hid (show cubeTwo y n y' n' = cubeChk y n by simp only [cubeTwo, hc]; simp)
    have h' : (cubeChk y n != 0) = true := by simp [bne, hc]
    clear hc
    go_wp2
    go_ret
    exact ⟨ret_int H.out.symm, hb⟩
  · have h0 : cubeChk y n = 0 := by simpa using hc
    have H := Lib.hid (show cubeTwo y n y' n' = cubeChk y' n' by simp only [cubeTwo, hc]; simp)
    rw [h0]
    clear h0 hc
    go_wp2_with fail
    refine (cubeChk_c _ _ _).mono ?_
    rintro e w2 ⟨rfl, hb2⟩
    go_wp2
    go_ret
    exact ⟨ret_int H.out.symm, bstep hb hb2⟩

set_option maxHeartbeats 400000 in
theorem cubeWithin_c (y n y' n' : Int) (w : World) :
    Calls Try.prog 17 #[.agg #[.int .i64 y, .int .i64 n], .agg #[.int .i64 y', .int .i64 n']] w fun e w' => e = .returned (.tuple #[.bool (cubeWithin y n y' n'), .int .i64 (cubeTwo y n y' n')]) ∧ Below w.heap.size w w' := by
  go_enter Try.func17, Try.ntmps17
  go_wp2_with fail
  refine (cubeTwo_c _ _ _ _ _).mono ?_
  rintro e w1 ⟨rfl, hb1⟩
  obtain ⟨c0, c1, c2, c3, hb⟩ := boxes2 hb1
  clear hb1
  cases hc : (cubeTwo y n y' n' == 0)
  · have H := Lib.hid (show cubeWithin y n y' n' = false by simp only [cubeWithin, hc]; simp)
    have h' : (cubeTwo y n y' n' != 0) = true := by simp [bne, hc]
    clear hc
    go_wp2
    go_ret2
    exact ⟨ret_be H.out.symm rfl, hb⟩
  · have h0 : cubeTwo y n y' n' = 0 := by simpa using hc
    have H := Lib.hid (show cubeWithin y n y' n' = ((bits .and .i64 y y' == y') && (bits .and .i64 n n' == n')) ∧ cubeTwo y n y' n' = 0 by refine ⟨?_, h0⟩; simp only [cubeWithin, hc]; simp)
    rw [h0]
    clear h0 hc
    go_wp2
    all_goals go_ret2
    all_goals exact ⟨ret_be (by rw [H.out.1]; simp [*]) H.out.2.symm, hb⟩
end Go.Proofs.Ytbekllgecfjljaa
