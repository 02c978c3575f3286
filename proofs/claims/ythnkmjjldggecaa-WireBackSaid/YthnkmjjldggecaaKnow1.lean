/- What know.Dot, cmp, vec, In and Check do. -/
import Derived.Test.YthnkmjjldggecaaChecked
import Derived.Test.YthnkmjjldggecaaMPure
import Derived.Test.YthnkmjjldggecaaMElt
import Derived.Test.YthnkmjjldggecaaMClaims
import Derived.Deep.QuietTactic
import Derived.BigQuiet
import Derived.WalkSmall
import Derived.Outline
namespace Go.Proofs.Ythnkmjjldggecaa
open Go.RowKit

theorem ret_ib {k : IntKind} {x y : Int} {a b : Bool} (h' : x = y) (h : a = b) : Ending.returned (.tuple #[.int k x, .bool a]) = .returned (.tuple #[.int k y, .bool b]) := by rw [h, h']
/-- Slices of integers. -/
def intsC (l : List Int) : List Value := l.map (Value.int .i64)
def IsAt (w : World) (v : Value) (l : List Int) : Prop := CellsAt w v l.length (intsC l)
theorem IsAt.sub {w w' : World} {v : Value} {l : List Int} (h : IsAt w v l) (hs : Sub w w') : IsAt w' v l := CellsAt.sub h hs
theorem IsAt.below {w w' : World} {v : Value} {l : List Int} (h : IsAt w v l) (hb : Below w.heap.size w w') : IsAt w' v l := CellsAt.below h hb
theorem IsAt.shape {w : World} {v : Value} {l : List Int} (h : IsAt w v l) : ∃ a cap, v = .slice a l.length cap := CellsAt.shape h
theorem IsAt.open_ {w : World} {v : Value} {l : List Int} (h : IsAt w v l) : ∃ a cap, v = .slice a l.length cap ∧ l.length ≤ cap ∧ l.length ≤ 140737488355328 ∧ (a = none → cap = 0) ∧
    (l = [] ∨ ∃ b off, a = some ⟨b, off, none⟩ ∧ b < w.heap.size ∧ ∀ i (h : i < l.length), w.cell? ⟨b, off + i, none⟩ = some (.int .i64 l[i])) := by
  obtain ⟨a, cap, hv, hn, hm, h0, h⟩ := h
  refine ⟨a, cap, hv, hn, hm, h0, ?_⟩
  rcases h with h | ⟨b, off, ha, hlt, hc⟩
  · left; simpa [intsC] using h
  · exact .inr ⟨b, off, ha, hlt, fun i hi => hc _ _ (by simp [intsC, hi])⟩
theorem intsC_one (l : List Int) : ∀ u ∈ intsC l, u.oneCell' = true := by
  intro u hu; obtain ⟨z, -, rfl⟩ := List.mem_map.1 hu; rfl
theorem intsC_append (l m : List Int) : intsC (l ++ m) = intsC l ++ intsC m := by simp [intsC]
theorem intsC_length (l : List Int) : (intsC l).length = l.length := by simp [intsC]
/-- Slices of dots. -/
def DsAt (w : World) (v : Value) (l : Dots) : Prop := CellsAt w v l.length (spansCells l)
theorem DsAt.sub {w w' : World} {v : Value} {l : Dots} (h : DsAt w v l) (hs : Sub w w') : DsAt w' v l := CellsAt.sub h hs
theorem DsAt.below {w w' : World} {v : Value} {l : Dots} (h : DsAt w v l) (hb : Below w.heap.size w w') : DsAt w' v l := CellsAt.below h hb
theorem DsAt.shape {w : World} {v : Value} {l : Dots} (h : DsAt w v l) : ∃ a cap, v = .slice a l.length cap := CellsAt.shape h
theorem DsAt.open_ {w : World} {v : Value} {l : Dots} (h : DsAt w v l) : ∃ a cap, v = .slice a l.length cap ∧ l.length ≤ cap ∧ l.length ≤ 140737488355328 ∧ (a = none → cap = 0) ∧
    (l = [] ∨ ∃ b off, a = some ⟨b, off, none⟩ ∧ b < w.heap.size ∧ ∀ i (h : i < l.length), w.cell? ⟨b, off + i * 2, none⟩ = some (.int .i64 l[i].1) ∧ w.cell? ⟨b, off + i * 2 + 1, none⟩ = some (.int .i64 l[i].2)) := by
  obtain ⟨a, cap, hv, hn, hm, h0, h⟩ := h
  refine ⟨a, cap, hv, hn, hm, h0, ?_⟩
  rcases h with h | ⟨b, off, ha, hlt, hc⟩
  · left
    have := spansCells_length l
    rw [h] at this
    exact List.eq_nil_of_length_eq_zero (by simp at this; omega)
  · refine .inr ⟨b, off, ha, hlt, fun i hi => ?_⟩
    obtain ⟨g1, g2⟩ := spansCells_get l i hi
    exact ⟨hc _ _ g1, by rw [Nat.add_assoc]; exact hc _ _ g2⟩
/-- A set of dots: its two slices. -/
structure KnAt (w : World) (u v : Value) (k : Kn) : Prop where
  vec : IsAt w u k.vec
  more : DsAt w v k.more
theorem KnAt.sub {w w' : World} {u v : Value} {k : Kn} (h : KnAt w u v k) (hs : Sub w w') : KnAt w' u v k := ⟨h.vec.sub hs, h.more.sub hs⟩
theorem KnAt.below {w w' : World} {u v : Value} {k : Kn} (h : KnAt w u v k) (hb : Below w.heap.size w w') : KnAt w' u v k := ⟨h.vec.below hb, h.more.below hb⟩

set_option maxRecDepth 100000 in
set_option maxHeartbeats 400000 in
theorem dot_c (a b : Int) (w : World) : Calls Try.prog 109 #[.agg #[.int .i64 a, .int .i64 b]] w fun e w' => e = .returned (.bool (dotOk (a, b))) ∧ Below w.heap.size w w' := by
  have H := Lib.hid (show dotOk (a, b) = (decide (0 ≤ a) && decide (a < 5) && decide (1 ≤ b) && decide (b ≤ 1000)) from rfl)
  go_enter Try.func109, Try.ntmps109
  go_wp2
  all_goals
    go_ret
    exact ⟨ret_bool (by rw [H.out]; simp [*]; try omega), bal _⟩
set_option maxRecDepth 100000 in
set_option maxHeartbeats 400000 in
theorem dcmp_c (a b : Int × Int) (w : World) (h1 : -1000000 ≤ a.1) (h2 : a.1 ≤ 1000000) (h3 : -1000000 ≤ a.2) (h4 : a.2 ≤ 1000000) (h5 : -1000000 ≤ b.1) (h6 : b.1 ≤ 1000000) (h7 : -1000000 ≤ b.2) (h8 : b.2 ≤ 1000000) :
    Calls Try.prog 150 #[.agg #[.int .i64 a.1, .int .i64 a.2], .agg #[.int .i64 b.1, .int .i64 b.2]] w fun e w' => e = .returned (.int .i64 (dcmp a b)) ∧ ∃ o1 o2, w' = (w.alloc o1).alloc o2 := by
  by_cases h : a.1 = b.1
  · have H := Lib.hid (show dcmp a b = a.2 - b.2 by unfold dcmp; rw [if_pos h])
    have h' : (a.1 != b.1) = false := by simp [h]
    clear h
    go_enter Try.func150, Try.ntmps150
    go_wp2
    go_ret
    exact ⟨ret_int H.out.symm, _, _, rfl⟩
  · have H := Lib.hid (show dcmp a b = a.1 - b.1 by unfold dcmp; rw [if_neg h])
    have h' : (a.1 != b.1) = true := by simpa using h
    clear h
    go_enter Try.func150, Try.ntmps150
    go_wp2
    go_ret
    exact ⟨ret_int H.out.symm, _, _, rfl⟩
set_option maxRecDepth 100000 in
set_option maxHeartbeats 400000 in
theorem vec_c (u v : Value) (l : List Int) (s : Int) (w : World) (hs : IsAt w u l) (h0 : 0 ≤ s) :
    Calls Try.prog 114 #[.agg #[u, v], .int .i64 s] w fun e w' => e = .returned (.int .i64 (vecAt l s)) ∧ Below w.heap.size w w' := by
  obtain ⟨a, cap, rfl, hcap, hm, -, hl⟩ := hs.open_
  clear hs
  obtain ⟨j, rfl⟩ := Int.eq_ofNat_of_zero_le h0
  by_cases hlt : j < l.length
  · have H := Lib.hid (show vecAt l (j : Int) = l[j] by unfold vecAt; rw [Int.toNat_natCast, List.getD_eq_getElem?_getD, List.getElem?_eq_getElem hlt]; rfl)
    rcases hl with rfl | ⟨b, off, rfl, hb, hc⟩
    · simp at hlt
    have c := cpast (.cells #[.slice (some ⟨b, off, none⟩) l.length cap, v] 81) (hc j hlt)
    clear hc
    go_enter Try.func114, Try.ntmps114
    go_wp2
    go_ret
    exact ⟨ret_int H.out.symm, bal _⟩
  · have H := Lib.hid (show vecAt l (j : Int) = 0 by unfold vecAt; rw [Int.toNat_natCast, List.getD_eq_getElem?_getD, List.getElem?_eq_none (by omega)]; rfl)
    clear hl
    go_enter Try.func114, Try.ntmps114
    go_wp2
    go_ret
    exact ⟨ret_int H.out.symm, bal _⟩
end Go.Proofs.Ythnkmjjldggecaa
