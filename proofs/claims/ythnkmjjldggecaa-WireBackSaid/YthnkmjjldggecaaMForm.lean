/- What the functions of package cube do, one contract a function: Tags, Check, In, Has, two, Within. Sentences as lists of nodes: the plain functions that package formula computes. No program in sight. What filter.Point and formula.Is do. -/
import Derived.Test.YthnkmjjldggecaaChecked
import Derived.Test.YthnkmjjldggecaaBase
import Derived.Deep.QuietTactic
import Derived.BigQuiet
import Derived.WalkSmall
import Derived.Test.YthnkmjjldggecaaBase2
import Derived.Laws.OwnMore
namespace Go.Proofs.Ythnkmjjldggecaa
open Go.RowKit

def tagsB (n : Int) : Bool := decide (0 ≤ n) && decide (n ≤ 15)
def cubeChk (y n : Int) : Int := if tagsB y && tagsB n then (if bits .and .i64 y n == 0 then 0 else 3) else 1
def cubeIn (y n t : Int) : Bool := (bits .and .i64 t y == y) && (bits .and .i64 t n == 0)
set_option maxRecDepth 100000 in
set_option maxHeartbeats 400000 in
theorem tags_c (n : Int) (w : World) :
    Calls Try.prog 171 #[.int .i64 n] w fun e w' => e = .returned (.bool (tagsB n)) ∧ w' = w := by
  go_enter Try.func171, Try.ntmps171
  go_wp2
  all_goals go_ret
  all_goals exact ⟨ret_bool (by simp [tagsB]; try omega), rfl⟩

set_option maxRecDepth 100000 in
set_option maxHeartbeats 400000 in
theorem cubeChk_c (y n : Int) (w : World) :
    Calls Try.prog 143 #[.agg #[.int .i64 y, .int .i64 n]] w fun e w' => e = .returned (.int .i64 (cubeChk y n)) ∧ Below w.heap.size w w' := by
  have hb : Below w.heap.size w (w.alloc (.cells #[.int .i64 y, .int .i64 n] 123)) := bal _
  go_enter Try.func143, Try.ntmps143
  go_wp2_with fail
  refine (tags_c _ _).mono ?_
  rintro e w1 ⟨rfl, rfl⟩
  cases hy : tagsB y
  · have H := Lib.hid (show cubeChk y n = 1 by simp [cubeChk, hy])
    go_wp2
    go_ret
    exact ⟨ret_int H.out.symm, hb⟩
  go_wp2_with fail
  refine (tags_c _ _).mono ?_
  rintro e w1 ⟨rfl, rfl⟩
  cases hn : tagsB n
  · have H := Lib.hid (show cubeChk y n = 1 by simp [cubeChk, hn])
    go_wp2
    go_ret
    exact ⟨ret_int H.out.symm, hb⟩
  cases ha : (bits .and .i64 y n == 0)
  · have H := Lib.hid (show cubeChk y n = 3 by simp only [cubeChk, hy, hn, ha]; rfl)
    clear hy hn
    go_wp2
    go_ret
    exact ⟨ret_int H.out.symm, hb⟩
  · have H := Lib.hid (show cubeChk y n = 0 by simp only [cubeChk, hy, hn, ha]; rfl)
    clear hy hn
    go_wp2
    go_ret
    exact ⟨ret_int H.out.symm, hb⟩

set_option maxRecDepth 100000 in
set_option maxHeartbeats 400000 in
theorem cubeIn_c (y n t : Int) (w : World) :
    Calls Try.prog 158 #[.agg #[.int .i64 y, .int .i64 n], .int .i64 t] w fun e w' => e = .returned (.bool (cubeIn y n t)) ∧ Below w.heap.size w w' := by
  go_enter Try.func158, Try.ntmps158
  go_wp2
  all_goals go_ret
  all_goals exact ⟨ret_bool (by simp [cubeIn, *]), bal _⟩

end Go.Proofs.Ythnkmjjldggecaa
namespace Go.Proofs.Ythnkmjjldggecaa
open Go.RowKit

/-- A node: its kind, and two numbers. -/
structure Nd where
  k : Int
  a : Int
  b : Int
  deriving DecidableEq
abbrev Nds := List Nd
def ndCells (l : Nds) : List Value := l.flatMap fun n => [.int .i64 n.k, .int .i64 n.a, .int .i64 n.b]
theorem ndCells_get (l : Nds) (i : Nat) (h : i < l.length) : (ndCells l)[i * 3]? = some (.int .i64 l[i].k) ∧ (ndCells l)[i * 3 + 1]? = some (.int .i64 l[i].a) ∧ (ndCells l)[i * 3 + 2]? = some (.int .i64 l[i].b) := by
  induction l generalizing i with
  | nil => simp at h
  | cons s l ih =>
    cases i with
    | zero => simp [ndCells]
    | succ i =>
      have := ih i (by simpa using h)
      have e : ndCells (s :: l) = .int .i64 s.k :: .int .i64 s.a :: .int .i64 s.b :: ndCells l := rfl
      rw [e, show (i + 1) * 3 = i * 3 + 1 + 1 + 1 from by omega]
      simpa using this
def NdsAt (w : World) (v : Value) (l : Nds) : Prop := CellsAt w v l.length (ndCells l)
theorem NdsAt.below {w w' : World} {v : Value} {l : Nds} (h : NdsAt w v l) (hb : Below w.heap.size w w') : NdsAt w' v l := CellsAt.below h hb
theorem NdsAt.open_ {w : World} {v : Value} {l : Nds} (h : NdsAt w v l) : ∃ a cap, v = .slice a l.length cap ∧ l.length ≤ cap ∧ l.length ≤ 140737488355328 ∧ (a = none → cap = 0) ∧
    (l = [] ∨ ∃ b off, a = some ⟨b, off, none⟩ ∧ b < w.heap.size ∧ ∀ i (h : i < l.length), w.cell? ⟨b, off + i * 3, none⟩ = some (.int .i64 l[i].k) ∧ w.cell? ⟨b, off + i * 3 + 1, none⟩ = some (.int .i64 l[i].a) ∧ w.cell? ⟨b, off + i * 3 + 2, none⟩ = some (.int .i64 l[i].b)) := by
  obtain ⟨a, cap, hv, hn, hm, h0, h⟩ := h
  refine ⟨a, cap, hv, hn, hm, h0, ?_⟩
  rcases h with h | ⟨b, off, ha, hlt, hc⟩
  · left
    cases l with
    | nil => rfl
    | cons s l => simp [ndCells] at h
  · refine .inr ⟨b, off, ha, hlt, fun i hi => ?_⟩
    obtain ⟨g1, g2, g3⟩ := ndCells_get l i hi
    exact ⟨hc _ _ g1, by rw [Nat.add_assoc]; exact hc _ _ g2, by rw [Nat.add_assoc]; exact hc _ _ g3⟩

end Go.Proofs.Ythnkmjjldggecaa
namespace Go.Proofs.Ythnkmjjldggecaa
open Go.RowKit

/-- filter.Point. -/
def ptOk (t n : Int) : Bool := tagsB t && decide (0 ≤ n) && decide (n < 32)

set_option maxRecDepth 100000 in
set_option maxHeartbeats 400000 in
theorem point_c (t n : Int) (w : World) : Calls Try.prog 149 #[.agg #[.int .i64 t, .int .i64 n]] w fun e w' => e = .returned (.bool (ptOk t n)) ∧ Below w.heap.size w w' := by
  cases ht : tagsB t
  · have H := Lib.hid (show ptOk t n = false by simp [ptOk, ht])
    have HT := Lib.hid ht
    clear ht
    go_enter Try.func149, Try.ntmps149
    go_wp2_with fail
    (with_reducible refine (tags_c t _).mono ?_)
    rintro e w1 ⟨rfl, rfl⟩
    rw [HT.out]
    go_wp2
    go_ret
    exact ⟨ret_bool H.out.symm, bal _⟩
  by_cases h0 : 0 ≤ n
  · have H := Lib.hid (show ptOk t n = decide (n < 32) by simp [ptOk, ht, h0])
    have HT := Lib.hid ht
    clear ht
    go_enter Try.func149, Try.ntmps149
    go_wp2_with fail
    (with_reducible refine (tags_c t _).mono ?_)
    rintro e w1 ⟨rfl, rfl⟩
    rw [HT.out]
    go_wp2
    go_ret
    exact ⟨ret_bool H.out.symm, bal _⟩
  · have H := Lib.hid (show ptOk t n = false by simp [ptOk, h0])
    have HT := Lib.hid ht
    have hd : decide (0 ≤ n) = false := by simpa using h0
    clear ht
    go_enter Try.func149, Try.ntmps149
    go_wp2_with fail
    (with_reducible refine (tags_c t _).mono ?_)
    rintro e w1 ⟨rfl, rfl⟩
    rw [HT.out]
    go_wp2
    go_ret
    exact ⟨ret_bool H.out.symm, bal _⟩

set_option maxRecDepth 100000 in
theorem BoolTy.info : (Try.prog.info? 4).map (fun i => (i.zero, i.size, i.bytes)) = some (some (.bool false), 1, 1) := by kernel_rfl
end Go.Proofs.Ythnkmjjldggecaa
