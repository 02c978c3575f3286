/- What filter.Point and formula.Is do. -/
import Derived.Test.YtcanefjjpeoikaaForm1
import Derived.Test.YtcanefjjpeoikaaCube1
import Derived.Laws.OwnMore
namespace Go.Proofs.Ytcanefjjpeoikaa
open Go.RowKit

/-- filter.Point. -/
def ptOk (t n : Int) : Bool := tagsB t && decide (0 ≤ n) && decide (n < 32)

set_option maxRecDepth 100000 in
set_option maxHeartbeats 400000 in
theorem point_c (t n : Int) (w : World) : Calls Try.prog 17 #[.agg #[.int .i64 t, .int .i64 n]] w fun e w' => e = .returned (.bool (ptOk t n)) ∧ Below w.heap.size w w' := by
  cases ht : tagsB t
  · have H := Lib.hid (show ptOk t n = false by simp [ptOk, ht])
    have HT := Lib.hid ht
    clear ht
    go_enter Try.func17, Try.ntmps17
    go_wp2_with fail
    (with_reducible refine (tags_c t _).mono ?_)
    rintro e w1 ⟨rfl, rfl⟩
    rw [HT.out]
    go_wp2
    go_ret
    exact ⟨ret_bool H.out.symm, bal _⟩
  by_cases h0 : 0 ≤ n
  · have H := Lib.hid (show ptOk t n = decide (n < 32) by simp [ptOk, ht, h0])
    have HT := Lib.hid ht
    clear ht
    go_enter Try.func17, Try.ntmps17
    go_wp2_with fail
    (with_reducible refine (tags_c t _).mono ?_)
    rintro e w1 ⟨rfl, rfl⟩
    rw [HT.out]
    go_wp2
    go_ret
    exact ⟨ret_bool H.out.symm, bal _⟩
  · have H := Lib.hid (show ptOk t n = false by simp [ptOk, h0])
    have HT := Lib.hid ht
    have hd : decide (0 ≤ n) = false := by simpa using h0
    clear ht
    go_enter Try.func17, Try.ntmps17
    go_wp2_with fail
    (with_reducible refine (tags_c t _).mono ?_)
    rintro e w1 ⟨rfl, rfl⟩
    rw [HT.out]
    go_wp2
    go_ret
    exact ⟨ret_bool H.out.symm, bal _⟩

set_option maxRecDepth 100000 in
theorem BoolTy.info : (Try.prog.info? 4).map (fun i => (i.zero, i.size, i.bytes)) = some (some (.bool false), 1, 1) := by kernel_rfl
/-- formula.Is at one node, the earlier ones' values known. -/
def ndVal (vs : List Bool) (t n : Int) (x : Nd) : Bool :=
  if x.k = 1 then true
  else if x.k = 2 then bits .and .i64 (t / 2 ^ x.a.toNat) 1 == 1
  else if x.k = 3 then decide (x.a ≤ n) && decide (n < x.b)
  else if x.k = 4 then !(vs.getD x.a.toNat false)
  else if x.k = 5 then vs.getD x.a.toNat false && vs.getD x.b.toNat false
  else vs.getD x.a.toNat false || vs.getD x.b.toNat false
def valsK (l : Nds) (t n : Int) : Nat → List Bool
  | 0 => []
  | k + 1 => valsK l t n k ++ [ndVal (valsK l t n k) t n (l.getD k ⟨0, 0, 0⟩)]
theorem valsK_length (l : Nds) (t n : Int) (k : Nat) : (valsK l t n k).length = k := by
  induction k with
  | zero => rfl
  | succ k ih => simp [valsK, ih]
def formVal (l : Nds) (t n : Int) : Bool := (valsK l t n l.length).getD (l.length - 1) false
def formIs (l : Nds) (t n : Int) : Bool := if formChk l = 0 then (if ptOk t n then formVal l t n else false) else false
def formIsE (l : Nds) (t n : Int) : Int := if formChk l = 0 then (if ptOk t n then 0 else 1) else formChk l
/-- The cells behind k rounds. -/
def valCells (l : Nds) (t n : Int) (k : Nat) : List Value := (valsK l t n k).map Value.bool ++ List.replicate (l.length - k) (.bool false)

theorem valCells_get (l : Nds) (t n : Int) (k j : Nat) (hj : j < k) : (valCells l t n k)[j]? = some (.bool ((valsK l t n k).getD j false)) := by
  unfold valCells
  rw [List.getElem?_append_left (by simpa [valsK_length] using hj), List.getElem?_map]
  simp [List.getD, List.getElem?_eq_getElem (show j < (valsK l t n k).length by rw [valsK_length]; exact hj)]
theorem valCells_hole (l : Nds) (t n : Int) (k : Nat) (hk : k < l.length) : (valCells l t n k)[k]? = some (.bool false) := by
  unfold valCells
  rw [List.getElem?_append_right (by simp [valsK_length])]
  simp only [List.length_map, valsK_length, Nat.sub_self, List.getElem?_replicate]
  rw [if_pos (by omega)]
theorem valCells_set (l : Nds) (t n : Int) (k : Nat) (hk : k < l.length) (b : Bool) (hb : b = ndVal (valsK l t n k) t n l[k]) : (valCells l t n k).set k (.bool b) = valCells l t n (k + 1) := by
  subst hb
  unfold valCells
  rw [List.set_append_right _ _ (by simp [valsK_length])]
  simp only [List.length_map, valsK_length, Nat.sub_self, valsK, List.map_append, List.append_assoc]
  rw [show l.length - k = (l.length - (k + 1)) + 1 from by omega, List.replicate_succ]
  simp [List.getD, hk]
theorem valCells_zero (l : Nds) (t n : Int) : valCells l t n 0 = List.replicate l.length (.bool false) := by simp [valCells, valsK]
theorem valStep {wr : World} {B : Nat} {ty : TypeId} {l : Nds} {t n : Int} {k : Nat} (hk : k < l.length) (o : Obj) {b : Bool} (hb : b = ndVal (valsK l t n k) t n l[k])
    (h : wr.ownsRow B ty 1 (.slice (some ⟨B, 0, none⟩) l.length l.length) l.length (valCells l t n k)) :
    ((wr.setCell ⟨B, k, none⟩ (.bool b)).alloc o).ownsRow B ty 1 (.slice (some ⟨B, 0, none⟩) l.length l.length) l.length (valCells l t n (k + 1)) := by
  have := (h.stored k (.bool b)).1.alloc o
  rwa [valCells_set l t n k hk b hb] at this

set_option maxRecDepth 100000 in
set_option maxHeartbeats 2000000 in
theorem formIs_c (v : Value) (l : Nds) (t n : Int) (w : World) (hs : NdsAt w v l) :
    Calls Try.prog 15 #[v, .agg #[.int .i64 t, .int .i64 n]] w fun e w' => e = .returned (.tuple #[.bool (formIs l t n), .int .i64 (formIsE l t n)]) ∧ Below w.heap.size w w' := by
  have hcell : ∀ w1, Below (w.alloc (.cells #[.int .i64 t, .int .i64 n] 24)).heap.size (w.alloc (.cells #[.int .i64 t, .int .i64 n] 24)) w1 →
      w1.cell? ⟨w.heap.size, 0, none⟩ = some (.int .i64 t) ∧ w1.cell? ⟨w.heap.size, 1, none⟩ = some (.int .i64 n) ∧ Below w.heap.size w w1 := fun w1 h =>
    ⟨ckeep h (cat _ _ _ 0 _ rfl _ rfl), ckeep h (cat _ _ _ 1 _ rfl _ rfl), ba1 h⟩
  have HC := Lib.hid hcell
  clear hcell
  go_enter Try.func15, Try.ntmps15
  go_wp2_with fail
  (with_reducible refine (formChk_c _ l _ (hs.below (bal _))).mono ?_)
  rintro e w1 ⟨rfl, hb1⟩
  obtain ⟨c0, c1, hb⟩ := HC.out _ hb1
  clear HC hb1
  have hs1 := hs.below hb
  clear hs
  cases hc : (formChk l == 0)
  · have H := Lib.hid (show formIs l t n = false ∧ formIsE l t n = formChk l by simp at hc; simp [formIs, formIsE, hc])
    have h' : (formChk l != 0) = true := by simp [bne, hc]
    clear hc
    go_wp2
    go_ret2
    exact ⟨ret_be H.out.1.symm H.out.2.symm, hb⟩
  have h0 : formChk l = 0 := by simpa using hc
  have H0 := Lib.hid h0
  rw [h0]
  clear h0 hc
  go_wp2_with fail
  (with_reducible refine (point_c _ _ _).mono ?_)
  rintro e w2 ⟨rfl, hb2⟩
  replace hb := bstep hb hb2
  replace hs1 := hs1.below hb2
  replace c0 := ckeep hb2 c0
  replace c1 := ckeep hb2 c1
  clear hb2
  cases hp : ptOk t n
  · have H := Lib.hid (show formIs l t n = false ∧ formIsE l t n = 1 by simp [formIs, formIsE, H0.out, hp])
    clear hp
    go_wp2
    go_ret2
    exact ⟨ret_be H.out.1.symm H.out.2.symm, hb⟩
  have H := Lib.hid (show formIs l t n = formVal l t n ∧ formIsE l t n = 0 by simp [formIs, formIsE, H0.out, hp])
  have HP := Lib.hid hp
  clear hp
  obtain ⟨a, cap, rfl, hcap, hm, -, hl⟩ := hs1.open_
  clear hs1
  have hc0 := Lib.hid c0
  have hc1 := Lib.hid c1
  clear c0 c1
  have hb2s := hb.size
  obtain ⟨w3, hmk, hown, hbm⟩ := mk_slice (P := Try.prog) w2 90 4 (.bool false) 1 1 Try.underlying90 BoolTy.info l.length (by omega) (by unfold maxLen; omega)
  rw [madeCells_one _ rfl] at hown
  have hbl := bstep hb hbm
  have hb3 : Below w2.heap.size w2 w3 := hbm
  clear hbm hb
  have hc0' := hc0.out
  have hc1' := hc1.out
  clear hc0 hc1
  obtain ⟨hpos, h30, hall⟩ := formChk_all H0.out
  have HALL := Lib.hid hall
  clear hall
  go_wp2
  have c0 := Lib.hid hc0'
  have c1 := Lib.hid hc1'
  clear hc0' hc1' hmk
  have hB := blt' hown hpos
  go_loopw [23] (fun i wr => ∃ k : Nat, k ≤ l.length ∧ i = .int .i64 k ∧ wr.ownsRow w2.heap.size 4 1 (.slice (some ⟨w2.heap.size, 0, none⟩) l.length l.length) l.length (valCells l t n k) ∧ Below w.heap.size w wr ∧ Below w2.heap.size w2 wr) (fun i _ => l.length - (intOf i).toNat)
  case atStart => exact ⟨0, Nat.zero_le _, rfl, by rw [valCells_zero]; exact hown, hbl, hb3⟩
  case round =>
    obtain ⟨k, hk, rfl, hown, hbl, hb3⟩ := hrel
    by_cases hlt : k < l.length
    · rcases hl with rfl | ⟨b, off, rfl, hb, hc⟩
      · simp at hlt
      obtain ⟨d1, d2, d3⟩ := hc k hlt
      replace d1 := (hb3.cell (p := ⟨b, off + k * 3, none⟩) hb).trans d1
      replace d2 := (hb3.cell (p := ⟨b, off + k * 3 + 1, none⟩) hb).trans d2
      replace d3 := (hb3.cell (p := ⟨b, off + k * 3 + 2, none⟩) hb).trans d3
      have g0 := ckeep hb3 c0.out
      have g1 := ckeep hb3 c1.out
      have e0 : wr.cell? ⟨w2.heap.size, k, none⟩ = some (.bool false) := by rw [hown.cellAt k (by omega)]; exact valCells_hole l t n k hlt
      have f0 := hown.frozenAt k
      have hB' : w2.heap.size < wr.heap.size := blt e0
      have lg := blt g0
      have ld := blt d1
      have HV := Lib.hid (fun j (hj : j < k) => (hown.cellAt j (by omega)).trans (valCells_get l t n k j hj))
      have hq := ndChk_zero (HALL.out k hlt)
      have HS := Lib.hid (fun o b hb => valStep (b := b) hlt o hb hown)
      have HBL := Lib.hid (fun (o : Obj) (u : Value) => (hbl.setCell (show w.heap.size ≤ (⟨w2.heap.size, k, none⟩ : Addr).block from hb2s) u).alloc (by simpa using hbl.size) o)
      have HB3 := Lib.hid (fun (o : Obj) (u : Value) => (hb3.setCell (show w2.heap.size ≤ (⟨w2.heap.size, k, none⟩ : Addr).block from Nat.le_refl _) u).alloc (by simpa using hb3.size) o)
      clear hc hown
      generalize hx : l[k] = x at *
      obtain ⟨kk, aa, bb⟩ := x
      clear hx
      simp only at hq d1 d2 d3
      rcases hq with rfl | ⟨rfl, ha0, ha1⟩ | ⟨rfl, ha0, ha1, hb1⟩ | ⟨rfl, ha0, ha1⟩ | ⟨hk5, ha0, ha1, hb0, hb1⟩
      · go_wp2
        go_roundw
        case rel => exact ⟨k + 1, by omega, by go_num, HS.out _ _ (by simp [ndVal]), HBL.out _ _, HB3.out _ _⟩
        case measure => simp [intOf]; omega
      · go_wp2
        all_goals go_roundw
        case rel => exact ⟨k + 1, by omega, by go_num, HS.out _ _ (by simp [ndVal]), HBL.out _ _, HB3.out _ _⟩
        case measure => simp [intOf]; omega
      · by_cases hn : aa ≤ n
        · go_wp2
          all_goals go_roundw
          case rel => exact ⟨k + 1, by omega, by go_num, HS.out _ _ (by simp [ndVal, hn]), HBL.out _ _, HB3.out _ _⟩
          case measure => simp [intOf]; omega
        · have hd : decide (aa ≤ n) = false := by simpa using hn
          go_wp2
          all_goals go_roundw
          case rel => exact ⟨k + 1, by omega, by go_num, HS.out _ _ (by simp [ndVal, hn]), HBL.out _ _, HB3.out _ _⟩
          case measure => simp [intOf]; omega
      · obtain ⟨j, rfl⟩ := Int.eq_ofNat_of_zero_le ha0
        have e1 := HV.out j (by omega)
        go_wp2
        all_goals go_roundw
        case rel => exact ⟨k + 1, by omega, by go_num, HS.out _ _ (by simp [ndVal]), HBL.out _ _, HB3.out _ _⟩
        case measure => simp [intOf]; omega
      · obtain ⟨j, rfl⟩ := Int.eq_ofNat_of_zero_le ha0
        obtain ⟨j', rfl⟩ := Int.eq_ofNat_of_zero_le hb0
        have e1 := HV.out j (by omega)
        have e2 := HV.out j' (by omega)
        rcases hk5 with rfl | rfl
        all_goals cases hj : (valsK l t n k).getD j false
        all_goals rw [hj] at e1
        · have HJ := Lib.hid hj
          clear hj
          go_wp2
          all_goals go_roundw
          case rel => exact ⟨k + 1, by omega, by go_num, HS.out _ _ (by have := HJ.out; simp [List.getD] at this; simp [ndVal, this]), HBL.out _ _, HB3.out _ _⟩
          case measure => simp [intOf]; omega
        · have HJ := Lib.hid hj
          clear hj
          go_wp2
          all_goals go_roundw
          case rel => exact ⟨k + 1, by omega, by go_num, HS.out _ _ (by have := HJ.out; simp [List.getD] at this; simp [ndVal, this]), HBL.out _ _, HB3.out _ _⟩
          case measure => simp [intOf]; omega
        · have HJ := Lib.hid hj
          clear hj
          go_wp2
          all_goals go_roundw
          case rel => exact ⟨k + 1, by omega, by go_num, HS.out _ _ (by have := HJ.out; simp [List.getD] at this; simp [ndVal, this]), HBL.out _ _, HB3.out _ _⟩
          case measure => simp [intOf]; omega
        · have HJ := Lib.hid hj
          clear hj
          go_wp2
          all_goals go_roundw
          case rel => exact ⟨k + 1, by omega, by go_num, HS.out _ _ (by have := HJ.out; simp [List.getD] at this; simp [ndVal, this]), HBL.out _ _, HB3.out _ _⟩
          case measure => simp [intOf]; omega
    · obtain rfl : k = l.length := by omega
      have e1 := (hown.cellAt (l.length - 1) (by omega)).trans (valCells_get l t n l.length (l.length - 1) (by omega))
      have hi := IntWalk.i64_in ((l.length : Int) - 1) (by omega)
      have HV := Lib.hid (show formVal l t n = (valsK l t n l.length).getD (l.length - 1) false from rfl)
      clear hl hown
      generalize (valsK l t n l.length).getD (l.length - 1) false = b at *
      go_wp2
      go_ret2
      exact ⟨ret_be (by rw [H.out.1, HV.out]) H.out.2.symm, hbl⟩
end Go.Proofs.Ytcanefjjpeoikaa
