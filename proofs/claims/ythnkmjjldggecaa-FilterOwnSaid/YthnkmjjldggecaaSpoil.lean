/- What the laws' marked and spoil do. Written by a small program (gen/spoil.py). -/
import Derived.Test.YthnkmjjldggecaaSpoil0
import Derived.Test.YthnkmjjldggecaaMClaims
import Derived.Test.YthnkmjjldggecaaMixed
namespace Go.Proofs.Ythnkmjjldggecaa
open Go.RowKit
theorem rep_get {size : Nat} {xc : List Value} (hx : xc.length = size) {i j : Nat} (hi : i < 3) (hj : j < size) : ((List.replicate 3 xc).flatten)[i * size + j]? = xc[j]? := by
  subst hx
  match i, hi with
  | 0, _ => simp [List.replicate, List.getElem?_append_left hj]
  | 1, _ =>
    rw [show (List.replicate 3 xc).flatten = xc ++ (xc ++ xc) by simp [List.replicate], List.getElem?_append_right (by omega), List.getElem?_append_left (by omega)]
    congr 1; omega
  | 2, _ =>
    rw [show (List.replicate 3 xc).flatten = xc ++ (xc ++ xc) by simp [List.replicate], List.getElem?_append_right (by omega), List.getElem?_append_right (by omega)]
    congr 1; omega
theorem Roomy.spare {w : World} {base e size n g : Nat} {xs xc : List Value} {c : Nat} (h : Roomy w base e size (.slice (some ⟨g, 0, none⟩) n c) n xs (List.replicate 3 xc).flatten) (hx : xc.length = size) {i j : Nat} {u : Value} (hi : i < 3) (hj : j < size) (hu : xc[j]? = some u) : w.cell? ⟨g, n * size + (i * size + j), none⟩ = some u := by
  obtain ⟨g', h1, -, h3⟩ := h.row
  simp only [Value.slice.injEq, Option.some.injEq, Addr.mk.injEq, and_true] at h1
  obtain ⟨rfl, -⟩ := h1
  refine cell_of_block h3 ?_
  rw [List.getElem?_toArray, List.getElem?_append_right (by rw [h.lx]; omega), h.lx, show n * size + (i * size + j) - n * size = i * size + j by omega, rep_get hx hi hj]
  exact hu
theorem Roomy.shape {w : World} {base e size n : Nat} {v : Value} {xs sp : List Value} (h : Roomy w base e size v n xs sp) : ∃ g, v = .slice (some ⟨g, 0, none⟩) n (n + 3) ∧ g < w.heap.size ∧ base ≤ g := by
  obtain ⟨g, h1, h2, h3⟩ := h.row
  exact ⟨g, h1, hlt_of h3, h2⟩
set_option maxRecDepth 100000 in
set_option maxHeartbeats 4000000 in
theorem marked_int (v : Value) (base n : Nat) (xs : List Value) (a0 : Int) (w : World) (h : Roomy w base 3 1 v n xs (List.replicate 3 ([.int .i64 a0] : List Value)).flatten) (hn9 : n ≤ 140737488355328) :
    Calls Try.prog 24 #[v, (.int .i64 a0)] w fun e w' => e = .returned (.bool true) ∧ Below w.heap.size w w' := by
  obtain ⟨g, rfl, hg, -⟩ := h.shape
  have HR := Lib.hid h
  clear h
  obtain ⟨W, hW⟩ : ∃ W, W = w := ⟨_, rfl⟩
  have HB0 := Lib.hid (show Below w.heap.size w W by rw [hW]; exact Below.refl _ _)
  go_enter Try.func24, Try.ntmps24
  go_wp2_with fail
  rw [← hW]
  clear hW
  have hq3 : (n : Int) + 3 - n = 3 := by omega
  have hq4 : n + 3 - n = 3 := by omega
  go_wp2
  go_loopw [14] (fun v wr => ∃ i : Nat, i ≤ 3 ∧ v = .int .i64 i ∧ Below W.heap.size W wr) (fun v _ => 3 - (intOf v).toNat)
  case atStart => exact ⟨0, by omega, rfl, Below.refl _ _⟩
  case round =>
    obtain ⟨i, hi, rfl, hb⟩ := hrel
    have HB := Lib.hid hb
    clear hb
    by_cases hlt : i < 3
    · have hltb : decide ((i : Int) < 3) = true := by simp; omega
      have HRW := ((HR.out.below HB0.out).below HB.out)
      have c0 := HRW.spare rfl hlt (j := 0) (by decide) rfl
      have hgw : g < wr.heap.size := Nat.lt_of_lt_of_le hg (Nat.le_trans HB0.out.size HB.out.size)
      clear HRW
      simp only [Nat.mul_one, Nat.add_zero, ← Nat.add_assoc] at c0
      skip
      go_wp2
      go_roundw
      case rel => exact ⟨i + 1, by omega, by go_num, HB.out⟩
      case measure => simp [intOf] <;> omega
    · obtain rfl : i = 3 := by omega
      have HF := Lib.hid (bstep HB0.out HB.out)
      clear HB
      go_wp2
      go_ret
      exact ⟨rfl, HF.out⟩
set_option maxRecDepth 100000 in
set_option maxHeartbeats 4000000 in
theorem spoil_int (v : Value) (a0 : Int) (w : World) (h : ShRow w 3 1 v) :
    Calls Try.prog 30 #[v, (.int .i64 a0)] w fun e w' => e = .returned (.tuple #[]) ∧ Sp (fun k => v.ownBlock = some k) w w' := by
  rcases h with rfl | ⟨g, n, cap, cur, rfl, hnc, hcm, hg, hs⟩
  · go_enter Try.func30, Try.ntmps30
    go_wp2
    go_loopw [11] (fun v wr => v = .int .i64 0 ∧ Below w.heap.size w wr) (fun _ _ => 0)
    case atStart => exact ⟨rfl, Below.refl _ _⟩
    case round =>
      obtain ⟨rfl, hb⟩ := hrel
      go_wp2
      refine bodyPost_end (v := .tuple #[]) ?_ rfl ?_
      · simp [results, Try.results30, go_sem]
      · exact ⟨rfl, Sp.of_below hb⟩
  obtain ⟨W, hW⟩ : ∃ W, W = w := ⟨_, rfl⟩
  have HB0 := Lib.hid (show Below w.heap.size w W by rw [hW]; exact Below.refl _ _)
  have HG := Lib.hid (below_keep HB0.out hg)
  have HX := Lib.hid (show ∀ i : Nat, i < cap → ((i : Int) < 9223372036854775807 ∧ cap ≤ 9223372036854775807) by intro i hi; unfold maxLen at hcm; omega)
  have hcm2 : cap ≤ 9223372036854775807 := by unfold maxLen at hcm; omega
  have HSZ := Lib.hid hs
  clear hg hs hcm
  go_enter Try.func30, Try.ntmps30
  go_wp2_with fail
  rw [← hW]
  clear hW
  go_wp2
  go_loopw [11] (fun v wr => ∃ i : Nat, i ≤ cap ∧ v = .int .i64 i ∧ Sp (fun k => k = g) W wr) (fun v _ => cap - (intOf v).toNat)
  case atStart => exact ⟨0, by omega, rfl, Sp.refl _ _⟩
  case round =>
    obtain ⟨i, hi, rfl, hb⟩ := hrel
    have HB := Lib.hid hb
    clear hb
    by_cases hlt : i < cap
    · have hltb : decide ((i : Int) < (cap : Int)) = true := by simp; omega
      obtain ⟨cs, hcs, hcz⟩ := HB.out.shape _ _ _ HG.out
      have HC := Lib.hid (hcz.trans HSZ.out)
      have HN := Lib.hid (HB.out.trans (Sp.row [.int .i64 a0] wr (i * 1) cs hcs))
      obtain ⟨⟨q0, r0⟩, f0⟩ := sh_cell hcs HC.out hlt (j := 0) (by decide)
      have hRl := hlt_of hcs
      simp only [Nat.add_zero, Nat.mul_one] at r0 f0 HN
      clear hcs hcz
      go_wp2
      go_roundw
      case rel => exact ⟨i + 1, by omega, by go_num, HN.out⟩
      case measure => simp [intOf] <;> omega
    · obtain rfl : i = cap := by omega
      have HF := Lib.hid ((Sp.of_below HB0.out).trans HB.out)
      clear HB
      go_wp2
      refine bodyPost_end (v := .tuple #[]) ?_ rfl ?_
      · simp [results, Try.results30, go_sem]
      · exact ⟨rfl, HF.out.mono fun k hk => by rw [hk]; rfl⟩
set_option maxRecDepth 100000 in
set_option maxHeartbeats 4000000 in
theorem marked_span (v : Value) (base n : Nat) (xs : List Value) (a0 a1 : Int) (w : World) (h : Roomy w base 50 2 v n xs (List.replicate 3 ([.int .i64 a0, .int .i64 a1] : List Value)).flatten) (hn9 : n ≤ 140737488355328) :
    Calls Try.prog 82 #[v, (.agg #[.int .i64 a0, .int .i64 a1])] w fun e w' => e = .returned (.bool true) ∧ Below w.heap.size w w' := by
  obtain ⟨g, rfl, hg, -⟩ := h.shape
  have HR := Lib.hid h
  clear h
  obtain ⟨W, hW⟩ : ∃ W, W = w.alloc (.cells #[.int .i64 a0, .int .i64 a1] 50) := ⟨_, rfl⟩
  have HB0 := Lib.hid (show Below w.heap.size w W by rw [hW]; exact bal _)
  have K := Lib.hid (show W.heap[w.heap.size]? = some (.cells #[.int .i64 a0, .int .i64 a1] 50 (0, 0)) by rw [hW]; exact alloc_new _ _ _ _ rfl)
  go_enter Try.func82, Try.ntmps82
  go_wp2_with fail
  rw [← hW]
  clear hW
  have hq3 : (n : Int) + 3 - n = 3 := by omega
  have hq4 : n + 3 - n = 3 := by omega
  go_wp2
  go_loopw [14] (fun v wr => ∃ i : Nat, i ≤ 3 ∧ v = .int .i64 i ∧ Below W.heap.size W wr) (fun v _ => 3 - (intOf v).toNat)
  case atStart => exact ⟨0, by omega, rfl, Below.refl _ _⟩
  case round =>
    obtain ⟨i, hi, rfl, hb⟩ := hrel
    have HB := Lib.hid hb
    clear hb
    by_cases hlt : i < 3
    · have hltb : decide ((i : Int) < 3) = true := by simp; omega
      have HRW := ((HR.out.below HB0.out).below HB.out)
      have c0 := HRW.spare rfl hlt (j := 0) (by decide) rfl
      have c1 := HRW.spare rfl hlt (j := 1) (by decide) rfl
      have hgw : g < wr.heap.size := Nat.lt_of_lt_of_le hg (Nat.le_trans HB0.out.size HB.out.size)
      clear HRW
      simp only [Nat.mul_one, Nat.add_zero, ← Nat.add_assoc] at c0 c1
      skip
      have kb := below_keep HB.out K.out
      have k0 := cell_of_block (j := 0) kb rfl
      have k1 := cell_of_block (j := 1) kb rfl
      have kl := hlt_of kb
      clear kb
      go_wp2
      go_roundw
      case rel => exact ⟨i + 1, by omega, by go_num, bstep HB.out (bal _)⟩
      case measure => simp [intOf] <;> omega
    · obtain rfl : i = 3 := by omega
      have HF := Lib.hid (bstep HB0.out HB.out)
      clear HB
      go_wp2
      go_ret
      exact ⟨rfl, HF.out⟩
set_option maxRecDepth 100000 in
set_option maxHeartbeats 4000000 in
theorem spoil_span (v : Value) (a0 a1 : Int) (w : World) (h : ShRow w 50 2 v) :
    Calls Try.prog 83 #[v, (.agg #[.int .i64 a0, .int .i64 a1])] w fun e w' => e = .returned (.tuple #[]) ∧ Sp (fun k => v.ownBlock = some k) w w' := by
  rcases h with rfl | ⟨g, n, cap, cur, rfl, hnc, hcm, hg, hs⟩
  · go_enter Try.func83, Try.ntmps83
    go_wp2
    go_loopw [11] (fun v wr => v = .int .i64 0 ∧ Below w.heap.size w wr) (fun _ _ => 0)
    case atStart => exact ⟨rfl, bal _⟩
    case round =>
      obtain ⟨rfl, hb⟩ := hrel
      go_wp2
      refine bodyPost_end (v := .tuple #[]) ?_ rfl ?_
      · simp [results, Try.results83, go_sem]
      · exact ⟨rfl, Sp.of_below hb⟩
  obtain ⟨W, hW⟩ : ∃ W, W = w.alloc (.cells #[.int .i64 a0, .int .i64 a1] 50) := ⟨_, rfl⟩
  have HB0 := Lib.hid (show Below w.heap.size w W by rw [hW]; exact bal _)
  have HG := Lib.hid (below_keep HB0.out hg)
  have HX := Lib.hid (show ∀ i : Nat, i < cap → ((i : Int) < 9223372036854775807 ∧ cap ≤ 9223372036854775807) by intro i hi; unfold maxLen at hcm; omega)
  have hcm2 : cap ≤ 9223372036854775807 := by unfold maxLen at hcm; omega
  have K := Lib.hid (show W.heap[w.heap.size]? = some (.cells #[.int .i64 a0, .int .i64 a1] 50 (0, 0)) by rw [hW]; exact alloc_new _ _ _ _ rfl)
  have hgw : g < w.heap.size := hlt_of hg
  have HSZ := Lib.hid hs
  clear hg hs hcm
  go_enter Try.func83, Try.ntmps83
  go_wp2_with fail
  rw [← hW]
  clear hW
  go_wp2
  go_loopw [11] (fun v wr => ∃ i : Nat, i ≤ cap ∧ v = .int .i64 i ∧ Sp (fun k => k = g) W wr) (fun v _ => cap - (intOf v).toNat)
  case atStart => exact ⟨0, by omega, rfl, Sp.refl _ _⟩
  case round =>
    obtain ⟨i, hi, rfl, hb⟩ := hrel
    have HB := Lib.hid hb
    clear hb
    by_cases hlt : i < cap
    · have hltb : decide ((i : Int) < (cap : Int)) = true := by simp; omega
      obtain ⟨cs, hcs, hcz⟩ := HB.out.shape _ _ _ HG.out
      have HC := Lib.hid (hcz.trans HSZ.out)
      have HN := Lib.hid (HB.out.trans (Sp.row [.int .i64 a0, .int .i64 a1] wr (i * 2) cs hcs))
      obtain ⟨⟨q0, r0⟩, f0⟩ := sh_cell hcs HC.out hlt (j := 0) (by decide)
      obtain ⟨⟨q1, r1⟩, f1⟩ := sh_cell hcs HC.out hlt (j := 1) (by decide)
      have hRl := hlt_of hcs
      simp only [Nat.add_zero, Nat.mul_one] at r0 f0 HN
      have kb := HB.out.block K.out (by omega)
      have k0 := cell_of_block (j := 0) kb rfl
      have k1 := cell_of_block (j := 1) kb rfl
      have kl := hlt_of kb
      clear kb
      clear hcs hcz
      go_wp2
      go_roundw
      case rel => exact ⟨i + 1, by omega, by go_num, HN.out⟩
      case measure => simp [intOf] <;> omega
    · obtain rfl : i = cap := by omega
      have HF := Lib.hid ((Sp.of_below HB0.out).trans HB.out)
      clear HB
      go_wp2
      refine bodyPost_end (v := .tuple #[]) ?_ rfl ?_
      · simp [results, Try.results83, go_sem]
      · exact ⟨rfl, HF.out.mono fun k hk => by rw [hk]; rfl⟩
set_option maxRecDepth 100000 in
set_option maxHeartbeats 4000000 in
theorem marked_node (v : Value) (base n : Nat) (xs : List Value) (a0 a1 a2 : Int) (w : World) (h : Roomy w base 30 3 v n xs (List.replicate 3 ([.int .i64 a0, .int .i64 a1, .int .i64 a2] : List Value)).flatten) (hn9 : n ≤ 140737488355328) :
    Calls Try.prog 26 #[v, (.agg #[.int .i64 a0, .int .i64 a1, .int .i64 a2])] w fun e w' => e = .returned (.bool true) ∧ Below w.heap.size w w' := by
  obtain ⟨g, rfl, hg, -⟩ := h.shape
  have HR := Lib.hid h
  clear h
  obtain ⟨W, hW⟩ : ∃ W, W = w.alloc (.cells #[.int .i64 a0, .int .i64 a1, .int .i64 a2] 30) := ⟨_, rfl⟩
  have HB0 := Lib.hid (show Below w.heap.size w W by rw [hW]; exact bal _)
  have K := Lib.hid (show W.heap[w.heap.size]? = some (.cells #[.int .i64 a0, .int .i64 a1, .int .i64 a2] 30 (0, 0)) by rw [hW]; exact alloc_new _ _ _ _ rfl)
  go_enter Try.func26, Try.ntmps26
  go_wp2_with fail
  rw [← hW]
  clear hW
  have hq3 : (n : Int) + 3 - n = 3 := by omega
  have hq4 : n + 3 - n = 3 := by omega
  go_wp2
  go_loopw [14] (fun v wr => ∃ i : Nat, i ≤ 3 ∧ v = .int .i64 i ∧ Below W.heap.size W wr) (fun v _ => 3 - (intOf v).toNat)
  case atStart => exact ⟨0, by omega, rfl, Below.refl _ _⟩
  case round =>
    obtain ⟨i, hi, rfl, hb⟩ := hrel
    have HB := Lib.hid hb
    clear hb
    by_cases hlt : i < 3
    · have hltb : decide ((i : Int) < 3) = true := by simp; omega
      have HRW := ((HR.out.below HB0.out).below HB.out)
      have c0 := HRW.spare rfl hlt (j := 0) (by decide) rfl
      have c1 := HRW.spare rfl hlt (j := 1) (by decide) rfl
      have c2 := HRW.spare rfl hlt (j := 2) (by decide) rfl
      have hgw : g < wr.heap.size := Nat.lt_of_lt_of_le hg (Nat.le_trans HB0.out.size HB.out.size)
      clear HRW
      simp only [Nat.mul_one, Nat.add_zero, ← Nat.add_assoc] at c0 c1 c2
      skip
      have kb := below_keep HB.out K.out
      have k0 := cell_of_block (j := 0) kb rfl
      have k1 := cell_of_block (j := 1) kb rfl
      have k2 := cell_of_block (j := 2) kb rfl
      have kl := hlt_of kb
      clear kb
      go_wp2
      go_roundw
      case rel => exact ⟨i + 1, by omega, by go_num, bstep HB.out (bal _)⟩
      case measure => simp [intOf] <;> omega
    · obtain rfl : i = 3 := by omega
      have HF := Lib.hid (bstep HB0.out HB.out)
      clear HB
      go_wp2
      go_ret
      exact ⟨rfl, HF.out⟩
set_option maxRecDepth 100000 in
set_option maxHeartbeats 4000000 in
theorem spoil_node (v : Value) (a0 a1 a2 : Int) (w : World) (h : ShRow w 30 3 v) :
    Calls Try.prog 31 #[v, (.agg #[.int .i64 a0, .int .i64 a1, .int .i64 a2])] w fun e w' => e = .returned (.tuple #[]) ∧ Sp (fun k => v.ownBlock = some k) w w' := by
  rcases h with rfl | ⟨g, n, cap, cur, rfl, hnc, hcm, hg, hs⟩
  · go_enter Try.func31, Try.ntmps31
    go_wp2
    go_loopw [11] (fun v wr => v = .int .i64 0 ∧ Below w.heap.size w wr) (fun _ _ => 0)
    case atStart => exact ⟨rfl, bal _⟩
    case round =>
      obtain ⟨rfl, hb⟩ := hrel
      go_wp2
      refine bodyPost_end (v := .tuple #[]) ?_ rfl ?_
      · simp [results, Try.results31, go_sem]
      · exact ⟨rfl, Sp.of_below hb⟩
  obtain ⟨W, hW⟩ : ∃ W, W = w.alloc (.cells #[.int .i64 a0, .int .i64 a1, .int .i64 a2] 30) := ⟨_, rfl⟩
  have HB0 := Lib.hid (show Below w.heap.size w W by rw [hW]; exact bal _)
  have HG := Lib.hid (below_keep HB0.out hg)
  have HX := Lib.hid (show ∀ i : Nat, i < cap → ((i : Int) < 9223372036854775807 ∧ cap ≤ 9223372036854775807) by intro i hi; unfold maxLen at hcm; omega)
  have hcm2 : cap ≤ 9223372036854775807 := by unfold maxLen at hcm; omega
  have K := Lib.hid (show W.heap[w.heap.size]? = some (.cells #[.int .i64 a0, .int .i64 a1, .int .i64 a2] 30 (0, 0)) by rw [hW]; exact alloc_new _ _ _ _ rfl)
  have hgw : g < w.heap.size := hlt_of hg
  have HSZ := Lib.hid hs
  clear hg hs hcm
  go_enter Try.func31, Try.ntmps31
  go_wp2_with fail
  rw [← hW]
  clear hW
  go_wp2
  go_loopw [11] (fun v wr => ∃ i : Nat, i ≤ cap ∧ v = .int .i64 i ∧ Sp (fun k => k = g) W wr) (fun v _ => cap - (intOf v).toNat)
  case atStart => exact ⟨0, by omega, rfl, Sp.refl _ _⟩
  case round =>
    obtain ⟨i, hi, rfl, hb⟩ := hrel
    have HB := Lib.hid hb
    clear hb
    by_cases hlt : i < cap
    · have hltb : decide ((i : Int) < (cap : Int)) = true := by simp; omega
      obtain ⟨cs, hcs, hcz⟩ := HB.out.shape _ _ _ HG.out
      have HC := Lib.hid (hcz.trans HSZ.out)
      have HN := Lib.hid (HB.out.trans (Sp.row [.int .i64 a0, .int .i64 a1, .int .i64 a2] wr (i * 3) cs hcs))
      obtain ⟨⟨q0, r0⟩, f0⟩ := sh_cell hcs HC.out hlt (j := 0) (by decide)
      obtain ⟨⟨q1, r1⟩, f1⟩ := sh_cell hcs HC.out hlt (j := 1) (by decide)
      obtain ⟨⟨q2, r2⟩, f2⟩ := sh_cell hcs HC.out hlt (j := 2) (by decide)
      have hRl := hlt_of hcs
      simp only [Nat.add_zero, Nat.mul_one] at r0 f0 HN
      have kb := HB.out.block K.out (by omega)
      have k0 := cell_of_block (j := 0) kb rfl
      have k1 := cell_of_block (j := 1) kb rfl
      have k2 := cell_of_block (j := 2) kb rfl
      have kl := hlt_of kb
      clear kb
      clear hcs hcz
      go_wp2
      go_roundw
      case rel => exact ⟨i + 1, by omega, by go_num, HN.out⟩
      case measure => simp [intOf] <;> omega
    · obtain rfl : i = cap := by omega
      have HF := Lib.hid ((Sp.of_below HB0.out).trans HB.out)
      clear HB
      go_wp2
      refine bodyPost_end (v := .tuple #[]) ?_ rfl ?_
      · simp [results, Try.results31, go_sem]
      · exact ⟨rfl, HF.out.mono fun k hk => by rw [hk]; rfl⟩
set_option maxRecDepth 100000 in
set_option maxHeartbeats 4000000 in
theorem spoil_box (v : Value) (a0 a1 : Int) (w : World) (h : ShRow w 125 3 v) :
    Calls Try.prog 84 #[v, (.agg #[.int .i64 a0, .int .i64 a1, .slice none 0 0])] w fun e w' => e = .returned (.tuple #[]) ∧ Sp (fun k => v.ownBlock = some k) w w' := by
  rcases h with rfl | ⟨g, n, cap, cur, rfl, hnc, hcm, hg, hs⟩
  · go_enter Try.func84, Try.ntmps84
    go_wp2
    go_loopw [11] (fun v wr => v = .int .i64 0 ∧ Below w.heap.size w wr) (fun _ _ => 0)
    case atStart => exact ⟨rfl, bal _⟩
    case round =>
      obtain ⟨rfl, hb⟩ := hrel
      go_wp2
      refine bodyPost_end (v := .tuple #[]) ?_ rfl ?_
      · simp [results, Try.results84, go_sem]
      · exact ⟨rfl, Sp.of_below hb⟩
  obtain ⟨W, hW⟩ : ∃ W, W = w.alloc (.cells #[.int .i64 a0, .int .i64 a1, .slice none 0 0] 125) := ⟨_, rfl⟩
  have HB0 := Lib.hid (show Below w.heap.size w W by rw [hW]; exact bal _)
  have HG := Lib.hid (below_keep HB0.out hg)
  have HX := Lib.hid (show ∀ i : Nat, i < cap → ((i : Int) < 9223372036854775807 ∧ cap ≤ 9223372036854775807) by intro i hi; unfold maxLen at hcm; omega)
  have hcm2 : cap ≤ 9223372036854775807 := by unfold maxLen at hcm; omega
  have K := Lib.hid (show W.heap[w.heap.size]? = some (.cells #[.int .i64 a0, .int .i64 a1, .slice none 0 0] 125 (0, 0)) by rw [hW]; exact alloc_new _ _ _ _ rfl)
  have hgw : g < w.heap.size := hlt_of hg
  have HSZ := Lib.hid hs
  clear hg hs hcm
  go_enter Try.func84, Try.ntmps84
  go_wp2_with fail
  rw [← hW]
  clear hW
  go_wp2
  go_loopw [11] (fun v wr => ∃ i : Nat, i ≤ cap ∧ v = .int .i64 i ∧ Sp (fun k => k = g) W wr) (fun v _ => cap - (intOf v).toNat)
  case atStart => exact ⟨0, by omega, rfl, Sp.refl _ _⟩
  case round =>
    obtain ⟨i, hi, rfl, hb⟩ := hrel
    have HB := Lib.hid hb
    clear hb
    by_cases hlt : i < cap
    · have hltb : decide ((i : Int) < (cap : Int)) = true := by simp; omega
      obtain ⟨cs, hcs, hcz⟩ := HB.out.shape _ _ _ HG.out
      have HC := Lib.hid (hcz.trans HSZ.out)
      have HN := Lib.hid (HB.out.trans (Sp.row [.int .i64 a0, .int .i64 a1, .slice none 0 0] wr (i * 3) cs hcs))
      obtain ⟨⟨q0, r0⟩, f0⟩ := sh_cell hcs HC.out hlt (j := 0) (by decide)
      obtain ⟨⟨q1, r1⟩, f1⟩ := sh_cell hcs HC.out hlt (j := 1) (by decide)
      obtain ⟨⟨q2, r2⟩, f2⟩ := sh_cell hcs HC.out hlt (j := 2) (by decide)
      have hRl := hlt_of hcs
      simp only [Nat.add_zero, Nat.mul_one] at r0 f0 HN
      have kb := HB.out.block K.out (by omega)
      have k0 := cell_of_block (j := 0) kb rfl
      have k1 := cell_of_block (j := 1) kb rfl
      have k2 := cell_of_block (j := 2) kb rfl
      have kl := hlt_of kb
      clear kb
      clear hcs hcz
      go_wp2
      go_roundw
      case rel => exact ⟨i + 1, by omega, by go_num, HN.out⟩
      case measure => simp [intOf] <;> omega
    · obtain rfl : i = cap := by omega
      have HF := Lib.hid ((Sp.of_below HB0.out).trans HB.out)
      clear HB
      go_wp2
      refine bodyPost_end (v := .tuple #[]) ?_ rfl ?_
      · simp [results, Try.results84, go_sem]
      · exact ⟨rfl, HF.out.mono fun k hk => by rw [hk]; rfl⟩
end Go.Proofs.Ythnkmjjldggecaa
