/- What was unpacked is packed as it was. No walk here. What reedref.SameBatch does with two empty batches. -/
import Derived.Test.YthnkmjjldggecaaMWireU
import Derived.Test.YthnkmjjldggecaaMWireP
import Derived.Test.YthnkmjjldggecaaMShelf7
import Derived.Test.YthnkmjjldggecaaMWire6
namespace Go.Proofs.Ythnkmjjldggecaa
open Go.RowKit
theorem last3 {u : ByteArray} (h : u.size = 3) : u.data.toList = b3 (headN u) := by
  have h1 : numB u false (headN u) = false := by
    unfold numB; rw [if_neg (by omega), if_neg (by omega)]
  obtain ⟨h2, -⟩ := num_fore h1
  have h3 : numV u (headN u) = headN u := by unfold numV; rw [if_neg (by omega), if_neg (by omega)]
  rw [h3] at h2
  have h4 := congrArg List.length h2
  rw [List.length_append, ← size_list] at h4
  have h5 : (b3 (headN u)).length = 3 := rfl
  have h6 : (numR u).data.toList = [] := List.eq_nil_of_length_eq_zero (by omega)
  rw [h6, List.append_nil] at h2
  exact h2
theorem split3 {s : ByteArray} (h : ¬ s.size < 3) : s.data.toList = (upT s).data.toList ++ b3 (upSum s) := by
  have h1 : (s.extract (s.size - 3) s.size).size = 3 := by rw [ByteArray.size_extract]; omega
  unfold upT upSum
  rw [← last3 h1, extract_take, extract_list, List.take_append_drop]
theorem upE_zero {s : ByteArray} (h : upE s = 0) : ¬ 20000 < s.size ∧ ¬ s.size < 3 ∧ sumOf (upT s) = upSum s ∧ upBad (upT s) = false := by
  unfold upE at h
  split at h
  · exact absurd h (by decide)
  rename_i h1
  split at h
  · exact absurd h (by decide)
  rename_i h2
  split at h
  · exact absurd h (by decide)
  rename_i h3
  split at h
  · exact absurd h (by decide)
  rename_i h4
  exact ⟨h1, h2, by simpa using h3, by simpa using h4⟩
theorem upBad_false {t : ByteArray} (h : upBad t = false) : (partsRd t).2.2 = false ∧ (partsRd t).2.1 = ⟨#[]⟩ ∧ batchChk (btRd t) = 0 := by
  unfold upBad at h
  simp only [Bool.or_eq_false_iff, decide_eq_false_iff_not, Decidable.not_not] at h
  exact h
theorem bytes_list (s : ByteArray) : (⟨s.data.toList.toArray⟩ : ByteArray) = s := by
  obtain ⟨⟨l⟩⟩ := s; rfl
theorem up_ok {s : ByteArray} (h : upE s = 0) : batchChk (upB s) = 0 ∧ packE (upB s) = 0 ∧ packS (upB s) = s := by
  obtain ⟨h1, h2, h3, h4⟩ := upE_zero h
  obtain ⟨h5, h6, h7⟩ := upBad_false h4
  have e : upB s = btRd (upT s) := by unfold upB; rw [if_pos h]
  rw [e]
  have h8 := bt_fore h5
  rw [h6] at h8
  have h9 : (upT s).data.toList = bodyW (btRd (upT s)) := by rw [h8]; exact List.append_nil _
  have h10 : fullW (btRd (upT s)) = s.data.toList := by
    unfold fullW
    rw [← h9, bytes_list, nums_one, h3, ← split3 h2]
  have h11 : packE (btRd (upT s)) = 0 := by
    unfold packE
    rw [if_neg (by rw [h7]; decide), h10, if_neg (by rw [← size_list]; exact h1)]
  refine ⟨h7, h11, ?_⟩
  unfold packS
  rw [if_pos h11, h10, bytes_list]
theorem up_fail {s : ByteArray} (h : upE s ≠ 0) : upB s = ⟨0, 0, [], [], []⟩ := by unfold upB; rw [if_neg h]
theorem BtOk.rows {w : World} {base : Nat} {vv gv pv : Value} {b : Bt} (h : UpRes w base vv gv pv b) (hb : BtOk b) : BtAt w vv gv pv b :=
  ⟨h.v.at_ (fun v hv => ⟨(hb.vers v hv).past.len, (hb.vers v hv).len⟩) (by have := hb.vlen; omega), h.g.at_ (fun g hg => ⟨(hb.gone g hg).past.len, (hb.gone g hg).len⟩) (by have := hb.glen; omega), h.p.at_ (fun p hp => hb.parts p hp) (by have := hb.plen; omega)⟩
end Go.Proofs.Ythnkmjjldggecaa
namespace Go.Proofs.Ythnkmjjldggecaa
open Go.RowKit
set_option maxRecDepth 100000 in
set_option maxHeartbeats 2000000 in
theorem eqGone0_c (a b : Option Addr) (c d : Nat) (F : Value) (w : World) :
    Calls Try.prog 96 #[.slice a 0 c, .slice b 0 d, F] w fun e w' => e = .returned (.bool true) ∧ Below w.heap.size w w' := by
  go_enter Try.func96, Try.ntmps96
  go_wp2
  go_loopw [17] (fun i wr => i = .int .i64 0 ∧ Below w.heap.size w wr) (fun _ _ => 0)
  case atStart => exact ⟨rfl, Below.refl _ _⟩
  case round =>
    obtain ⟨rfl, hb⟩ := hrel
    go_wp2
    go_ret
    exact ⟨rfl, hb⟩
set_option maxRecDepth 100000 in
set_option maxHeartbeats 2000000 in
theorem eqPart0_c (a b : Option Addr) (c d : Nat) (F : Value) (w : World) :
    Calls Try.prog 98 #[.slice a 0 c, .slice b 0 d, F] w fun e w' => e = .returned (.bool true) ∧ Below w.heap.size w w' := by
  go_enter Try.func98, Try.ntmps98
  go_wp2
  go_loopw [17] (fun i wr => i = .int .i64 0 ∧ Below w.heap.size w wr) (fun _ _ => 0)
  case atStart => exact ⟨rfl, Below.refl _ _⟩
  case round =>
    obtain ⟨rfl, hb⟩ := hrel
    go_wp2
    go_ret
    exact ⟨rfl, hb⟩
set_option maxRecDepth 100000 in
set_option maxHeartbeats 4000000 in
theorem sameB0_c (a1 a2 a3 : Option Addr) (c1 c2 c3 : Nat) (w : World) (h : RowAt verE w (.slice a1 0 c1) []) :
    Calls Try.prog 39 #[.agg #[.int .i64 0, .int .i64 0, .slice a1 0 c1, .slice a2 0 c2, .slice a3 0 c3], .agg #[.int .i64 0, .int .i64 0, .slice none 0 0, .slice none 0 0, .slice none 0 0]] w fun e w' => e = .returned (.bool true) ∧ Below w.heap.size w w' := by
  have HB1 := Lib.hid (show Below w.heap.size w ((w.alloc (.cells #[.int .i64 0, .int .i64 0, .slice a1 0 c1, .slice a2 0 c2, .slice a3 0 c3] 64)).alloc (.cells #[.int .i64 0, .int .i64 0, .slice none 0 0, .slice none 0 0, .slice none 0 0] 64)) from ((bal _).alloc (by simp) _))
  have HS := Lib.hid (sameS_c (.slice a1 0 c1) (.slice none 0 0) [] [] _ (h.below HB1.out) (RowAt.nil _))
  have K1 := Lib.hid (show ((w.alloc (.cells #[.int .i64 0, .int .i64 0, .slice a1 0 c1, .slice a2 0 c2, .slice a3 0 c3] 64)).alloc (.cells #[.int .i64 0, .int .i64 0, .slice none 0 0, .slice none 0 0, .slice none 0 0] 64)).heap[w.heap.size]? = some (Obj.cells #[.int .i64 0, .int .i64 0, .slice a1 0 c1, .slice a2 0 c2, .slice a3 0 c3] 64 (0, 0)) from alloc_keep _ (alloc_new _ _ _ _ rfl))
  have K2 := Lib.hid (alloc_new (w.alloc (.cells #[.int .i64 0, .int .i64 0, .slice a1 0 c1, .slice a2 0 c2, .slice a3 0 c3] 64)) #[.int .i64 0, .int .i64 0, .slice none 0 0, .slice none 0 0, .slice none 0 0] 64 (w.heap.size + 1) (by simp))
  clear h
  go_enter Try.func39, Try.ntmps39
  go_wp2_with fail
  (with_reducible refine (HS.out).mono ?_)
  rintro e w1 ⟨b, rfl, hb, hbl⟩
  obtain rfl : b = true := by simpa using hb
  have K3 := Lib.hid (below_keep hbl K1.out)
  have K4 := Lib.hid (below_keep hbl K2.out)
  have HB2 := Lib.hid (bstep HB1.out hbl)
  have x3 := cell_of_block (j := 3) K3.out rfl
  have y3 := cell_of_block (j := 3) K4.out rfl
  have l1 := hlt_of K3.out
  have l2 := hlt_of K4.out
  clear hb hbl HS K1 K2 HB1
  go_wp2_with fail
  (with_reducible refine (eqGone0_c _ _ _ _ _ _).mono ?_)
  rintro e w2 ⟨rfl, hbl⟩
  have K5 := Lib.hid (below_keep hbl K3.out)
  have K6 := Lib.hid (below_keep hbl K4.out)
  have HB3 := Lib.hid (bstep HB2.out hbl)
  have x4 := cell_of_block (j := 4) K5.out rfl
  have y4 := cell_of_block (j := 4) K6.out rfl
  have l3 := hlt_of K5.out
  have l4 := hlt_of K6.out
  clear hbl x3 y3 l1 l2 K3 K4 HB2
  go_wp2_with fail
  (with_reducible refine (eqPart0_c _ _ _ _ _ _).mono ?_)
  rintro e w3 ⟨rfl, hbl⟩
  have HB4 := Lib.hid (bstep HB3.out hbl)
  clear hbl x4 y4 l3 l4
  go_wp2
  go_ret
  exact ⟨rfl, HB4.out⟩
end Go.Proofs.Ythnkmjjldggecaa
