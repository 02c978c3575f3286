/- What the functions of package cube do, one contract a function: Tags, Check, In, Has, two, Within. -/
import Derived.Test.YtippljiicnpieaaChecked
import Derived.Test.YtippljiicnpieaaBase
import Derived.Deep.QuietTactic
import Derived.BigQuiet
import Derived.WalkSmall
namespace Go.Proofs.Ytippljiicnpieaa
open Go.RowKit

def tagsB (n : Int) : Bool := decide (0 ≤ n) && decide (n ≤ 15)
def cubeChk (y n : Int) : Int := if tagsB y && tagsB n then (if bits .and .i64 y n == 0 then 0 else 3) else 1
def cubeIn (y n t : Int) : Bool := (bits .and .i64 t y == y) && (bits .and .i64 t n == 0)
def cubeTwo (y n y' n' : Int) : Int := if cubeChk y n == 0 then cubeChk y' n' else cubeChk y n
def cubeHas (y n t : Int) : Bool := (cubeChk y n == 0) && tagsB t && cubeIn y n t
def cubeHasE (y n t : Int) : Int := if cubeChk y n == 0 then (if tagsB t then 0 else 1) else cubeChk y n
def cubeWithin (y n y' n' : Int) : Bool := (cubeTwo y n y' n' == 0) && (bits .and .i64 y y' == y') && (bits .and .i64 n n' == n')

set_option maxRecDepth 100000 in
set_option maxHeartbeats 400000 in
theorem tags_c (n : Int) (w : World) :
    Calls Try.prog 161 #[.int .i64 n] w fun e w' => e = .returned (.bool (tagsB n)) ∧ w' = w := by
  go_enter Try.func161, Try.ntmps161
  go_wp2
  all_goals go_ret
  all_goals exact ⟨ret_bool (by simp [tagsB]; try omega), rfl⟩

set_option maxRecDepth 100000 in
set_option maxHeartbeats 400000 in
theorem cubeChk_c (y n : Int) (w : World) :
    Calls Try.prog 185 #[.agg #[.int .i64 y, .int .i64 n]] w fun e w' => e = .returned (.int .i64 (cubeChk y n)) ∧ Below w.heap.size w w' := by
  have hb : Below w.heap.size w (w.alloc (.cells #[.int .i64 y, .int .i64 n] 150)) := bal _
  go_enter Try.func185, Try.ntmps185
  go_wp2_with fail
  refine (tags_c _ _).mono ?_
  rintro e w1 ⟨rfl, rfl⟩
  cases hy : tagsB y
  · have H := Lib.hid (show cubeChk y n = 1 by simp [cubeChk, hy])
    go_wp2
    go_ret
    exact ⟨ret_int H.out.symm, hb⟩
  go_wp2_with fail
  refine (tags_c _ _).mono ?_
  rintro e w1 ⟨rfl, rfl⟩
  cases hn : tagsB n
  · have H := Lib.hid (show cubeChk y n = 1 by simp [cubeChk, hn])
    go_wp2
    go_ret
    exact ⟨ret_int H.out.symm, hb⟩
  cases ha : (bits .and .i64 y n == 0)
  · have H := Lib.hid (show cubeChk y n = 3 by simp only [cubeChk, hy, hn, ha]; rfl)
    clear hy hn
    go_wp2
    go_ret
    exact ⟨ret_int H.out.symm, hb⟩
  · have H := Lib.hid (show cubeChk y n = 0 by simp only [cubeChk, hy, hn, ha]; rfl)
    clear hy hn
    go_wp2
    go_ret
    exact ⟨ret_int H.out.symm, hb⟩

set_option maxRecDepth 100000 in
set_option maxHeartbeats 400000 in
theorem cubeIn_c (y n t : Int) (w : World) :
    Calls Try.prog 187 #[.agg #[.int .i64 y, .int .i64 n], .int .i64 t] w fun e w' => e = .returned (.bool (cubeIn y n t)) ∧ Below w.heap.size w w' := by
  go_enter Try.func187, Try.ntmps187
  go_wp2
  all_goals go_ret
  all_goals exact ⟨ret_bool (by simp [cubeIn, *]), bal _⟩

theorem boxes2 {w w1 : World} {v0 v1 v2 v3 : Value} {t t' : TypeId} (h : Below ((w.alloc (.cells #[v0, v1] t)).alloc (.cells #[v2, v3] t')).heap.size ((w.alloc (.cells #[v0, v1] t)).alloc (.cells #[v2, v3] t')) w1) :
    w1.cell? ⟨w.heap.size, 0, none⟩ = some v0 ∧ w1.cell? ⟨w.heap.size, 1, none⟩ = some v1 ∧ w1.cell? ⟨w.heap.size + 1, 0, none⟩ = some v2 ∧ w1.cell? ⟨w.heap.size + 1, 1, none⟩ = some v3 ∧ Below w.heap.size w w1 :=
  ⟨ckeep h (cpast _ (cat _ _ _ 0 _ rfl _ rfl)), ckeep h (cpast _ (cat _ _ _ 1 _ rfl _ rfl)), ckeep h (cat _ _ _ 0 _ rfl _ (by simp)), ckeep h (cat _ _ _ 1 _ rfl _ (by simp)), ba2 h⟩

end Go.Proofs.Ytippljiicnpieaa
