/- What filter.Point and formula.Is do. -/
import Derived.Test.YtippljiicnpieaaForm1
import Derived.Test.YtippljiicnpieaaCube1
import Derived.Laws.OwnMore
namespace Go.Proofs.Ytippljiicnpieaa
open Go.RowKit

/-- filter.Point. -/
def ptOk (t n : Int) : Bool := tagsB t && decide (0 ≤ n) && decide (n < 32)

set_option maxRecDepth 100000 in
set_option maxHeartbeats 400000 in
theorem point_c (t n : Int) (w : World) : Calls Try.prog 85 #[.agg #[.int .i64 t, .int .i64 n]] w fun e w' => e = .returned (.bool (ptOk t n)) ∧ Below w.heap.size w w' := by
  cases ht : tagsB t
  · have H := Lib.hid (show ptOk t n = false by simp [ptOk, ht])
    have HT := Lib.hid ht
    clear ht
    go_enter Try.func85, Try.ntmps85
    go_wp2_with fail
    (with_reducible refine (tags_c t _).mono ?_)
    rintro e w1 ⟨rfl, rfl⟩
    rw [HT.out]
    go_wp2
    go_ret
    exact ⟨ret_bool H.out.symm, bal _⟩
  by_cases h0 : 0 ≤ n
  · have H := Lib.hid (show ptOk t n = decide (n < 32) by simp [ptOk, ht, h0])
    have HT := Lib.hid ht
    clear ht
    go_enter Try.func85, Try.ntmps85
    go_wp2_with fail
    (with_reducible refine (tags_c t _).mono ?_)
    rintro e w1 ⟨rfl, rfl⟩
    rw [HT.out]
    go_wp2
    go_ret
    exact ⟨ret_bool H.out.symm, bal _⟩
  · have H := Lib.hid (show ptOk t n = false by simp [ptOk, h0])
    have HT := Lib.hid ht
    have hd : decide (0 ≤ n) = false := by simpa using h0
    clear ht
    go_enter Try.func85, Try.ntmps85
    go_wp2_with fail
    (with_reducible refine (tags_c t _).mono ?_)
    rintro e w1 ⟨rfl, rfl⟩
    rw [HT.out]
    go_wp2
    go_ret
    exact ⟨ret_bool H.out.symm, bal _⟩

set_option maxRecDepth 100000 in
theorem BoolTy.info : (Try.prog.info? 4).map (fun i => (i.zero, i.size, i.bytes)) = some (some (.bool false), 1, 1) := by kernel_rfl
/-- formula.Is at one node, the earlier ones' values known. -/
def ndVal (vs : List Bool) (t n : Int) (x : Nd) : Bool :=
  if x.k = 1 then true
  else if x.k = 2 then bits .and .i64 (t / 2 ^ x.a.toNat) 1 == 1
  else if x.k = 3 then decide (x.a ≤ n) && decide (n < x.b)
  else if x.k = 4 then !(vs.getD x.a.toNat false)
  else if x.k = 5 then vs.getD x.a.toNat false && vs.getD x.b.toNat false
  else vs.getD x.a.toNat false || vs.getD x.b.toNat false
def valsK (l : Nds) (t n : Int) : Nat → List Bool
  | 0 => []
  | k + 1 => valsK l t n k ++ [ndVal (valsK l t n k) t n (l.getD k ⟨0, 0, 0⟩)]
theorem valsK_length (l : Nds) (t n : Int) (k : Nat) : (valsK l t n k).length = k := by
  induction k with
  | zero => rfl
  | succ k ih => simp [valsK, ih]
def formVal (l : Nds) (t n : Int) : Bool := (valsK l t n l.length).getD (l.length - 1) false
def formIs (l : Nds) (t n : Int) : Bool := if formChk l = 0 then (if ptOk t n then formVal l t n else false) else false
def formIsE (l : Nds) (t n : Int) : Int := if formChk l = 0 then (if ptOk t n then 0 else 1) else formChk l
/-- The cells behind k rounds. -/
def valCells (l : Nds) (t n : Int) (k : Nat) : List Value := (valsK l t n k).map Value.bool ++ List.replicate (l.length - k) (.bool false)

theorem valCells_get (l : Nds) (t n : Int) (k j : Nat) (hj : j < k) : (valCells l t n k)[j]? = some (.bool ((valsK l t n k).getD j false)) := by
  unfold valCells
  rw [List.getElem?_append_left (by simpa [valsK_length] using hj), List.getElem?_map]
  simp [List.getD, List.getElem?_eq_getElem (show j < (valsK l t n k).length by rw [valsK_length]; exact hj)]
theorem valCells_hole (l : Nds) (t n : Int) (k : Nat) (hk : k < l.length) : (valCells l t n k)[k]? = some (.bool false) := by
  unfold valCells
  rw [List.getElem?_append_right (by simp [valsK_length])]
  simp only [List.length_map, valsK_length, Nat.sub_self, List.getElem?_replicate]
  rw [if_pos (by omega)]
theorem valCells_set (l : Nds) (t n : Int) (k : Nat) (hk : k < l.length) (b : Bool) (hb : b = ndVal (valsK l t n k) t n l[k]) : (valCells l t n k).set k (.bool b) = valCells l t n (k + 1) := by
  subst hb
  unfold valCells
  rw [List.set_append_right _ _ (by simp [valsK_length])]
  simp only [List.length_map, valsK_length, Nat.sub_self, valsK, List.map_append, List.append_assoc]
  rw [show l.length - k = (l.length - (k + 1)) + 1 from by omega, List.replicate_succ]
  simp [List.getD, hk]
theorem valCells_zero (l : Nds) (t n : Int) : valCells l t n 0 = List.replicate l.length (.bool false) := by simp [valCells, valsK]
theorem valStep {wr : World} {B : Nat} {ty : TypeId} {l : Nds} {t n : Int} {k : Nat} (hk : k < l.length) (o : Obj) {b : Bool} (hb : b = ndVal (valsK l t n k) t n l[k])
    (h : wr.ownsRow B ty 1 (.slice (some ⟨B, 0, none⟩) l.length l.length) l.length (valCells l t n k)) :
    ((wr.setCell ⟨B, k, none⟩ (.bool b)).alloc o).ownsRow B ty 1 (.slice (some ⟨B, 0, none⟩) l.length l.length) l.length (valCells l t n (k + 1)) := by
  have := (h.stored k (.bool b)).1.alloc o
  rwa [valCells_set l t n k hk b hb] at this

end Go.Proofs.Ytippljiicnpieaa
