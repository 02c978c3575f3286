/- What slices.Equal does to integers and to dots; reedref.SameKnow, know.Within. -/
import Derived.Test.YtboakoipdfmpcaaGreatMKnow5
namespace Go.Proofs.YtboakoipdfmpcaaGreat
open Go.RowKit
set_option maxRecDepth 100000 in
set_option maxHeartbeats 400000 in
theorem eqInts_c (va vb : Value) (a b : List Int) (w : World) (ha : IsAt w va a) (hb : IsAt w vb b) :
    Calls Tryz.prog 183 #[va, vb] w fun e w' => e = .returned (.bool (a == b)) ∧ Below w.heap.size w w' := by
  obtain ⟨xa, ca, rfl, hcap, hm, -, hla⟩ := ha.open_
  obtain ⟨xb, cb, rfl, hcapb, hmb, -, hlb⟩ := hb.open_
  clear ha hb
  go_enter Tryz.func183, Tryz.ntmps183
  by_cases hlen : a.length = b.length
  · rw [← hlen]
    rw [← hlen] at hcapb hmb
    have HL := Lib.hid hlen
    clear hlen
    go_wp2
    go_loopw [13] (fun i wr => ∃ k : Nat, k ≤ a.length ∧ i = .int .i64 k ∧ a.take k = b.take k ∧ Below w.heap.size w wr) (fun i _ => a.length - (intOf i).toNat)
    case atStart => exact ⟨0, Nat.zero_le _, rfl, rfl, Below.refl _ _⟩
    case round =>
      obtain ⟨k, hk, rfl, heq, hbl⟩ := hrel
      have HE := Lib.hid heq
      clear heq
      by_cases hlt : k < a.length
      · rcases hla with rfl | ⟨b0, off, rfl, hb0, hc⟩
        · simp at hlt
        rcases hlb with rfl | ⟨b1, off1, rfl, hb1, hc1⟩
        · have := HL.out; simp at this; rw [this] at hlt; simp at hlt
        have hltb : k < b.length := by have := HL.out; omega
        have d1 := (hbl.cell (p := ⟨b0, off + k, none⟩) hb0).trans (hc k hlt)
        have d2 := (hbl.cell (p := ⟨b1, off1 + k, none⟩) hb1).trans (hc1 k hltb)
        have HTA := Lib.hid (List.take_succ_eq_append_getElem hlt)
        have HTB := Lib.hid (List.take_succ_eq_append_getElem hltb)
        have HGA := Lib.hid (fun h : a = b => show a[k] = b[k] by subst h; rfl)
        clear hc hc1
        generalize a[k] = x at *
        generalize b[k] = y at *
        by_cases hxy : x = y
        · have hx : (x != y) = false := by simp [hxy]
          have HXY := Lib.hid hxy
          clear hxy
          go_wp2
          go_quiet (fail)
          go_wp2
          go_roundw
          case rel => exact ⟨k + 1, by omega, by go_num, by rw [HTA.out, HTB.out, HE.out, HXY.out], below_drewN hbl _⟩
          case measure => simp [intOf]; omega
        · have hx : (x != y) = true := by simp [hxy]
          have HXY := Lib.hid hxy
          clear hxy
          go_wp2
          go_quiet (fail)
          go_wp2
          go_ret
          exact ⟨ret_bool (by symm; rw [beq_eq_false_iff_ne]; intro e; exact HXY.out (HGA.out e)), below_drewN hbl _⟩
      · go_wp2
        go_ret
        have : k = a.length := by omega
        subst this
        exact ⟨ret_bool (by have h := HE.out; rw [List.take_length, HL.out, List.take_length] at h; simp [h]), hbl⟩
  · have H := Lib.hid hlen
    have h' : ((a.length : Int) != b.length) = true := by simp; omega
    clear hlen
    go_wp2
    go_ret
    exact ⟨ret_bool (by symm; simpa using fun h => H.out (by rw [h])), Below.refl _ _⟩
set_option maxRecDepth 100000 in
set_option maxHeartbeats 400000 in
theorem eqDots_c (va vb : Value) (a b : Dots) (w : World) (ha : DsAt w va a) (hb : DsAt w vb b) :
    Calls Tryz.prog 184 #[va, vb] w fun e w' => e = .returned (.bool (a == b)) ∧ Below w.heap.size w w' := by
  obtain ⟨xa, ca, rfl, hcap, hm, -, hla⟩ := ha.open_
  obtain ⟨xb, cb, rfl, hcapb, hmb, -, hlb⟩ := hb.open_
  clear ha hb
  go_enter Tryz.func184, Tryz.ntmps184
  by_cases hlen : a.length = b.length
  · rw [← hlen]
    rw [← hlen] at hcapb hmb
    have HL := Lib.hid hlen
    clear hlen
    go_wp2
    go_loopw [13] (fun i wr => ∃ k : Nat, k ≤ a.length ∧ i = .int .i64 k ∧ a.take k = b.take k ∧ Below w.heap.size w wr) (fun i _ => a.length - (intOf i).toNat)
    case atStart => exact ⟨0, Nat.zero_le _, rfl, rfl, Below.refl _ _⟩
    case round =>
      obtain ⟨k, hk, rfl, heq, hbl⟩ := hrel
      have HE := Lib.hid heq
      clear heq
      by_cases hlt : k < a.length
      · rcases hla with rfl | ⟨b0, off, rfl, hb0, hc⟩
        · simp at hlt
        rcases hlb with rfl | ⟨b1, off1, rfl, hb1, hc1⟩
        · have := HL.out; simp at this; rw [this] at hlt; simp at hlt
        have hltb : k < b.length := by have := HL.out; omega
        obtain ⟨c1, c2⟩ := hc k hlt
        obtain ⟨c3, c4⟩ := hc1 k hltb
        have d1 := (hbl.cell (p := ⟨b0, off + k * 2, none⟩) hb0).trans c1
        have d2 := (hbl.cell (p := ⟨b0, off + k * 2 + 1, none⟩) hb0).trans c2
        have d3 := (hbl.cell (p := ⟨b1, off1 + k * 2, none⟩) hb1).trans c3
        have d4 := (hbl.cell (p := ⟨b1, off1 + k * 2 + 1, none⟩) hb1).trans c4
        have HTA := Lib.hid (List.take_succ_eq_append_getElem hlt)
        have HTB := Lib.hid (List.take_succ_eq_append_getElem hltb)
        have HGA := Lib.hid (fun h : a = b => show a[k] = b[k] by subst h; rfl)
        clear c1 c2 c3 c4 hc hc1
        generalize a[k] = x at *
        generalize b[k] = y at *
        have heqs := eqDot
        have heqg := eqGuardDot
        by_cases hxy : x = y
        · have hx : (x.1 == y.1 && x.2 == y.2) = true := by simp [hxy]
          have HXY := Lib.hid hxy
          clear hxy
          go_wp2
          go_quiet (fail)
          go_wp2
          go_roundw
          case rel => exact ⟨k + 1, by omega, by go_num, by rw [HTA.out, HTB.out, HE.out, HXY.out], below_drewN hbl _⟩
          case measure => simp [intOf]; omega
        · have hx : (x.1 == y.1 && x.2 == y.2) = false := by rw [Bool.eq_false_iff]; intro h; apply hxy; simp at h; exact Prod.ext h.1 h.2
          have HXY := Lib.hid hxy
          clear hxy
          go_wp2
          go_quiet (fail)
          go_wp2
          go_ret
          exact ⟨ret_bool (by symm; rw [beq_eq_false_iff_ne]; intro e; exact HXY.out (HGA.out e)), below_drewN hbl _⟩
      · go_wp2
        go_ret
        have : k = a.length := by omega
        subst this
        exact ⟨ret_bool (by have h := HE.out; rw [List.take_length, HL.out, List.take_length] at h; simp [h]), hbl⟩
  · have H := Lib.hid hlen
    have h' : ((a.length : Int) != b.length) = true := by simp; omega
    clear hlen
    go_wp2
    go_ret
    exact ⟨ret_bool (by symm; simpa using fun h => H.out (by rw [h])), Below.refl _ _⟩

theorem kn_eq (a b : Kn) : decide (a = b) = ((a.vec == b.vec) && (a.more == b.more)) := by
  cases a; cases b
  rw [Bool.eq_iff_iff]
  simp
set_option maxRecDepth 100000 in
set_option maxHeartbeats 400000 in
theorem sameK_c (ua va ub vb : Value) (a b : Kn) (w : World) (ha : KnAt w ua va a) (hb : KnAt w ub vb b) :
    Calls Tryz.prog 121 #[.agg #[ua, va], .agg #[ub, vb]] w fun e w' => e = .returned (.bool (decide (a = b))) ∧ Below w.heap.size w w' := by
  obtain ⟨xa, ca, rfl⟩ := ha.vec.shape
  obtain ⟨ya, da, rfl⟩ := ha.more.shape
  obtain ⟨xb, cb, rfl⟩ := hb.vec.shape
  obtain ⟨yb, db, rfl⟩ := hb.more.shape
  obtain ⟨W, hW⟩ : ∃ W, W = (w.alloc (.cells #[.slice xa a.vec.length ca, .slice ya a.more.length da] 73)).alloc (.cells #[.slice xb b.vec.length cb, .slice yb b.more.length db] 73) := ⟨_, rfl⟩
  have hbW : Below w.heap.size w W := by rw [hW]; exact (bal _).alloc (by simp) _
  have hA : W.heap[w.heap.size]? = some (Obj.cells #[.slice xa a.vec.length ca, .slice ya a.more.length da] 73 (0, 0)) := by rw [hW]; exact alloc_keep _ (alloc_new _ _ _ _ rfl)
  have hB : W.heap[w.heap.size + 1]? = some (Obj.cells #[.slice xb b.vec.length cb, .slice yb b.more.length db] 73 (0, 0)) := by rw [hW]; exact alloc_new _ _ _ _ (by simp)
  have A := Lib.hid hA
  have B := Lib.hid hB
  have a0 := cell_of_block (j := 0) hA rfl
  have b0 := cell_of_block (j := 0) hB rfl
  have H := Lib.hid (kn_eq a b)
  have HA := Lib.hid (ha.below hbW)
  have HB := Lib.hid (hb.below hbW)
  have HBW := Lib.hid hbW
  clear hbW ha hb hA hB
  go_enter Tryz.func121, Tryz.ntmps121
  go_wp2_with fail
  rw [← hW]
  clear hW
  (with_reducible refine (eqInts_c _ _ _ _ _ HA.out.vec HB.out.vec).mono ?_)
  rintro e w1 ⟨rfl, hb1⟩
  have hA := below_keep hb1 A.out
  have hB := below_keep hb1 B.out
  have a1 := cell_of_block (j := 1) hA rfl
  have b1 := cell_of_block (j := 1) hB rfl
  have HA1 := Lib.hid (HA.out.below hb1)
  have HB1 := Lib.hid (HB.out.below hb1)
  have hbl := HBW.out.trans (hb1.mono HBW.out.size)
  clear hb1 HA HB HBW a0 b0 hA hB
  cases hx : (a.vec == b.vec)
  · rw [hx] at H
    have H2 := Lib.hid (show decide (a = b) = false by rw [H.out]; rfl)
    clear hx H
    go_wp2
    go_ret
    exact ⟨ret_bool H2.out.symm, hbl⟩
  rw [hx] at H
  have H2 := Lib.hid (show decide (a = b) = (a.more == b.more) by rw [H.out]; rfl)
  clear hx H
  go_wp2_with fail
  (with_reducible refine (eqDots_c _ _ _ _ _ HA1.out.more HB1.out.more).mono ?_)
  rintro e w2 ⟨rfl, hb2⟩
  replace hbl := bstep hbl hb2
  clear hb2 a1 b1
  go_wp2
  go_ret
  exact ⟨ret_bool H2.out.symm, hbl⟩
/-- What Within answers. -/
def knWithin (a b : Kn) : Bool := decide (formK (orK (knIn a) (knIn b)) = b)
def knWithinB (a b : Kn) : Bool := if knTwo a b = 0 then knWithin a b else false
set_option maxRecDepth 100000 in
set_option maxHeartbeats 1000000 in
theorem kwithin_c (ua va ub vb : Value) (a b : Kn) (w : World) (ha : KnAt w ua va a) (hb : KnAt w ub vb b) :
    Calls Tryz.prog 219 #[.agg #[ua, va], .agg #[ub, vb]] w fun e w' => e = .returned (.tuple #[.bool (knWithinB a b), .int .i64 (knTwo a b)]) ∧ Below w.heap.size w w' := by
  obtain ⟨xa, ca, rfl⟩ := ha.vec.shape
  obtain ⟨ya, da, rfl⟩ := ha.more.shape
  obtain ⟨xb, cb, rfl⟩ := hb.vec.shape
  obtain ⟨yb, db, rfl⟩ := hb.more.shape
  obtain ⟨W, hW⟩ : ∃ W, W = (w.alloc (.cells #[.slice xa a.vec.length ca, .slice ya a.more.length da] 73)).alloc (.cells #[.slice xb b.vec.length cb, .slice yb b.more.length db] 73) := ⟨_, rfl⟩
  have hbW : Below w.heap.size w W := by rw [hW]; exact (bal _).alloc (by simp) _
  have A := Lib.hid (show W.heap[w.heap.size]? = some (Obj.cells #[.slice xa a.vec.length ca, .slice ya a.more.length da] 73 (0, 0)) by rw [hW]; exact alloc_keep _ (alloc_new _ _ _ _ rfl))
  have B := Lib.hid (show W.heap[w.heap.size + 1]? = some (Obj.cells #[.slice xb b.vec.length cb, .slice yb b.more.length db] 73 (0, 0)) by rw [hW]; exact alloc_new _ _ _ _ (by simp))
  have HA := Lib.hid (ha.below hbW)
  have HB := Lib.hid (hb.below hbW)
  have HBW := Lib.hid hbW
  clear hbW ha hb
  go_enter Tryz.func219, Tryz.ntmps219
  go_wp2_with fail
  rw [← hW]
  clear hW
  (with_reducible refine (ktwo_c _ _ _ _ a b _ HA.out HB.out).mono ?_)
  rintro e w1 ⟨rfl, hb1⟩
  have A1 := Lib.hid (below_keep hb1 A.out)
  have B1 := Lib.hid (below_keep hb1 B.out)
  have HA1 := Lib.hid (HA.out.below hb1)
  have HB1 := Lib.hid (HB.out.below hb1)
  have hbl := HBW.out.trans (hb1.mono HBW.out.size)
  clear hb1 A B HA HB HBW
  cases hx : (knTwo a b == 0)
  · have H := Lib.hid (show knWithinB a b = false by unfold knWithinB; rw [if_neg (by simpa using hx)])
    have h' : (knTwo a b != 0) = true := by simp [bne, hx]
    clear hx
    go_wp2
    go_ret2
    exact ⟨ret_be H.out.symm rfl, hbl⟩
  have h0 : knTwo a b = 0 := by simpa using hx
  have H0 := Lib.hid h0
  have H := Lib.hid (show knWithinB a b = decide (formK (orK (knIn a) (knIn b)) = b) by unfold knWithinB knWithin; rw [if_pos h0])
  have HE := Lib.hid (show resE (knTwo a b) (orK (knIn a) (knIn b)) = kE (formK (orK (knIn a) (knIn b))) by unfold resE; rw [if_pos h0])
  have H60 := Lib.hid (knChk_zero.1 (knTwo_zero.1 h0).2).2
  rw [h0]
  have a0 := cell_of_block (j := 0) A1.out rfl
  have a1 := cell_of_block (j := 1) A1.out rfl
  have b0 := cell_of_block (j := 0) B1.out rfl
  have b1 := cell_of_block (j := 1) B1.out rfl
  clear hx h0
  go_wp2_with fail
  (with_reducible refine (kjoin_c _ _ _ _ a b _ HA1.out HB1.out).mono ?_)
  rintro e w2 ⟨x, y, rfl, hr, hb2⟩
  rw [HE.out] at hr ⊢
  have hB := below_keep hb2 B1.out
  have HB2 := Lib.hid (HB1.out.below hb2)
  replace hbl := bstep hbl hb2
  clear hb2 a0 a1 b0 b1
  by_cases hl : 60 < (formK (orK (knIn a) (knIn b))).more.length
  · have hk : kE (formK (orK (knIn a) (knIn b))) = 2 := by unfold kE; rw [if_pos hl]
    rw [hk] at hr ⊢
    obtain ⟨h, -⟩ | ⟨-, rfl, rfl⟩ := hr
    · exact absurd h (by decide)
    have HF := Lib.hid (show decide (formK (orK (knIn a) (knIn b)) = b) = false by
      rw [decide_eq_false_iff_not]; intro e; rw [e] at hl; have := H60.out; omega)
    clear hl hk hB
    go_wp2
    go_ret2
    exact ⟨ret_be (by rw [H.out, HF.out]) H0.out.symm, hbl.alloc hbl.size _⟩
  have hk : kE (formK (orK (knIn a) (knIn b))) = 0 := by unfold kE; rw [if_neg hl]
  rw [hk] at hr ⊢
  obtain ⟨-, ho⟩ | ⟨h, -, -⟩ := hr
  rotate_left
  · exact absurd rfl h
  have hat := formK_at ho
  generalize hKK : formK (orK (knIn a) (knIn b)) = K at *
  obtain ⟨xk, ck, rfl⟩ := hat.vec.shape
  obtain ⟨yk, dk, rfl⟩ := hat.more.shape
  have HK := Lib.hid (hat.below (bal (.cells #[.slice xk K.vec.length ck, .slice yk K.more.length dk] 73)))
  have HB3 := Lib.hid (HB2.out.below (bal (.cells #[.slice xk K.vec.length ck, .slice yk K.more.length dk] 73)))
  have kb := alloc_new w2 #[.slice xk K.vec.length ck, .slice yk K.more.length dk] 73 _ rfl
  have KB := Lib.hid kb
  have BB := Lib.hid (alloc_keep (.cells #[.slice xk K.vec.length ck, .slice yk K.more.length dk] 73) hB)
  have b0 := cell_of_block (j := 0) BB.out rfl
  have HBL3 := Lib.hid (hbl.alloc hbl.size (.cells #[.slice xk K.vec.length ck, .slice yk K.more.length dk] 73))
  have HQ := Lib.hid (kn_eq K b)
  clear hKK hat ho hl hk hB kb hbl
  go_wp2_with fail
  (with_reducible refine (eqInts_c _ _ _ _ _ HK.out.vec HB3.out.vec).mono ?_)
  rintro e w3 ⟨rfl, hb3⟩
  have hK3 := below_keep hb3 KB.out
  have hB3 := below_keep hb3 BB.out
  have a1 := cell_of_block (j := 1) hK3 rfl
  have b1 := cell_of_block (j := 1) hB3 rfl
  have HK4 := Lib.hid (HK.out.below hb3)
  have HB4 := Lib.hid (HB3.out.below hb3)
  have hbl := bstep HBL3.out hb3
  clear hb3 hK3 hB3 b0
  cases hx : (K.vec == b.vec)
  · rw [hx] at HQ
    have H2 := Lib.hid (show knWithinB a b = false by rw [H.out, HQ.out]; rfl)
    clear hx
    go_wp2
    go_ret2
    exact ⟨ret_be H2.out.symm H0.out.symm, hbl⟩
  rw [hx] at HQ
  have H2 := Lib.hid (show knWithinB a b = (K.more == b.more) by rw [H.out, HQ.out]; rfl)
  clear hx
  go_wp2_with fail
  (with_reducible refine (eqDots_c _ _ _ _ _ HK4.out.more HB4.out.more).mono ?_)
  rintro e w4 ⟨rfl, hb4⟩
  replace hbl := bstep hbl hb4
  clear hb4 a1 b1
  go_wp2
  go_ret2
  exact ⟨ret_be H2.out.symm H0.out.symm, hbl⟩
end Go.Proofs.YtboakoipdfmpcaaGreat
