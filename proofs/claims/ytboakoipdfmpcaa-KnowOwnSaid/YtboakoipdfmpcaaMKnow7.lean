/- What slices.Equal does to integers and to dots; reedref.SameKnow, know.Within. What know.Add does. Written by a small program (gen/know8.py). -/
import Derived.Test.YtboakoipdfmpcaaMKnow5
namespace Go.Proofs.Ytboakoipdfmpcaa
open Go.RowKit
set_option maxRecDepth 100000 in
set_option maxHeartbeats 400000 in
theorem eqInts_c (va vb : Value) (a b : List Int) (w : World) (ha : IsAt w va a) (hb : IsAt w vb b) :
    Calls Try.prog 45 #[va, vb] w fun e w' => e = .returned (.bool (a == b)) ∧ Below w.heap.size w w' := by
  obtain ⟨xa, ca, rfl, hcap, hm, -, hla⟩ := ha.open_
  obtain ⟨xb, cb, rfl, hcapb, hmb, -, hlb⟩ := hb.open_
  clear ha hb
  go_enter Try.func45, Try.ntmps45
  by_cases hlen : a.length = b.length
  · rw [← hlen]
    rw [← hlen] at hcapb hmb
    have HL := Lib.hid hlen
    clear hlen
    go_wp2
    go_loopw [13] (fun i wr => ∃ k : Nat, k ≤ a.length ∧ i = .int .i64 k ∧ a.take k = b.take k ∧ Below w.heap.size w wr) (fun i _ => a.length - (intOf i).toNat)
    case atStart => exact ⟨0, Nat.zero_le _, rfl, rfl, Below.refl _ _⟩
    case round =>
      obtain ⟨k, hk, rfl, heq, hbl⟩ := hrel
      have HE := Lib.hid heq
      clear heq
      by_cases hlt : k < a.length
      · rcases hla with rfl | ⟨b0, off, rfl, hb0, hc⟩
        · simp at hlt
        rcases hlb with rfl | ⟨b1, off1, rfl, hb1, hc1⟩
        · have := HL.out; simp at this; rw [this] at hlt; simp at hlt
        have hltb : k < b.length := by have := HL.out; omega
        have d1 := (hbl.cell (p := ⟨b0, off + k, none⟩) hb0).trans (hc k hlt)
        have d2 := (hbl.cell (p := ⟨b1, off1 + k, none⟩) hb1).trans (hc1 k hltb)
        have HTA := Lib.hid (List.take_succ_eq_append_getElem hlt)
        have HTB := Lib.hid (List.take_succ_eq_append_getElem hltb)
        have HGA := Lib.hid (fun h : a = b => show a[k] = b[k] by subst h; rfl)
        clear hc hc1
        generalize a[k] = x at *
        generalize b[k] = y at *
        by_cases hxy : x = y
        · have hx : (x != y) = false := by simp [hxy]
          have HXY := Lib.hid hxy
          clear hxy
          go_wp2
          go_quiet (fail)
          go_wp2
          go_roundw
          case rel => exact ⟨k + 1, by omega, by go_num, by rw [HTA.out, HTB.out, HE.out, HXY.out], below_drewN hbl _⟩
          case measure => simp [intOf]; omega
        · have hx : (x != y) = true := by simp [hxy]
          have HXY := Lib.hid hxy
          clear hxy
          go_wp2
          go_quiet (fail)
          go_wp2
          go_ret
          exact ⟨ret_bool (by symm; rw [beq_eq_false_iff_ne]; intro e; exact HXY.out (HGA.out e)), below_drewN hbl _⟩
      · go_wp2
        go_ret
        have : k = a.length := by omega
        subst this
        exact ⟨ret_bool (by have h := HE.out; rw [List.take_length, HL.out, List.take_length] at h; simp [h]), hbl⟩
  · have H := Lib.hid hlen
    have h' : ((a.length : Int) != b.length) = true := by simp; omega
    clear hlen
    go_wp2
    go_ret
    exact ⟨ret_bool (by symm; simpa using fun h => H.out (by rw [h])), Below.refl _ _⟩
set_option maxRecDepth 100000 in
set_option maxHeartbeats 400000 in
theorem eqDots_c (va vb : Value) (a b : Dots) (w : World) (ha : DsAt w va a) (hb : DsAt w vb b) :
    Calls Try.prog 46 #[va, vb] w fun e w' => e = .returned (.bool (a == b)) ∧ Below w.heap.size w w' := by
  obtain ⟨xa, ca, rfl, hcap, hm, -, hla⟩ := ha.open_
  obtain ⟨xb, cb, rfl, hcapb, hmb, -, hlb⟩ := hb.open_
  clear ha hb
  go_enter Try.func46, Try.ntmps46
  by_cases hlen : a.length = b.length
  · rw [← hlen]
    rw [← hlen] at hcapb hmb
    have HL := Lib.hid hlen
    clear hlen
    go_wp2
    go_loopw [13] (fun i wr => ∃ k : Nat, k ≤ a.length ∧ i = .int .i64 k ∧ a.take k = b.take k ∧ Below w.heap.size w wr) (fun i _ => a.length - (intOf i).toNat)
    case atStart => exact ⟨0, Nat.zero_le _, rfl, rfl, Below.refl _ _⟩
    case round =>
      obtain ⟨k, hk, rfl, heq, hbl⟩ := hrel
      have HE := Lib.hid heq
      clear heq
      by_cases hlt : k < a.length
      · rcases hla with rfl | ⟨b0, off, rfl, hb0, hc⟩
        · simp at hlt
        rcases hlb with rfl | ⟨b1, off1, rfl, hb1, hc1⟩
        · have := HL.out; simp at this; rw [this] at hlt; simp at hlt
        have hltb : k < b.length := by have := HL.out; omega
        obtain ⟨c1, c2⟩ := hc k hlt
        obtain ⟨c3, c4⟩ := hc1 k hltb
        have d1 := (hbl.cell (p := ⟨b0, off + k * 2, none⟩) hb0).trans c1
        have d2 := (hbl.cell (p := ⟨b0, off + k * 2 + 1, none⟩) hb0).trans c2
        have d3 := (hbl.cell (p := ⟨b1, off1 + k * 2, none⟩) hb1).trans c3
        have d4 := (hbl.cell (p := ⟨b1, off1 + k * 2 + 1, none⟩) hb1).trans c4
        have HTA := Lib.hid (List.take_succ_eq_append_getElem hlt)
        have HTB := Lib.hid (List.take_succ_eq_append_getElem hltb)
        have HGA := Lib.hid (fun h : a = b => show a[k] = b[k] by subst h; rfl)
        clear c1 c2 c3 c4 hc hc1
        generalize a[k] = x at *
        generalize b[k] = y at *
        have heqs := eqDot
        have heqg := eqGuardDot
        by_cases hxy : x = y
        · have hx : (x.1 == y.1 && x.2 == y.2) = true := by simp [hxy]
          have HXY := Lib.hid hxy
          clear hxy
          go_wp2
          go_quiet (fail)
          go_wp2
          go_roundw
          case rel => exact ⟨k + 1, by omega, by go_num, by rw [HTA.out, HTB.out, HE.out, HXY.out], below_drewN hbl _⟩
          case measure => simp [intOf]; omega
        · have hx : (x.1 == y.1 && x.2 == y.2) = false := by rw [Bool.eq_false_iff]; intro h; apply hxy; simp at h; exact Prod.ext h.1 h.2
          have HXY := Lib.hid hxy
          clear hxy
          go_wp2
          go_quiet (fail)
          go_wp2
          go_ret
          exact ⟨ret_bool (by symm; rw [beq_eq_false_iff_ne]; intro e; exact HXY.out (HGA.out e)), below_drewN hbl _⟩
      · go_wp2
        go_ret
        have : k = a.length := by omega
        subst this
        exact ⟨ret_bool (by have h := HE.out; rw [List.take_length, HL.out, List.take_length] at h; simp [h]), hbl⟩
  · have H := Lib.hid hlen
    have h' : ((a.length : Int) != b.length) = true := by simp; omega
    clear hlen
    go_wp2
    go_ret
    exact ⟨ret_bool (by symm; simpa using fun h => H.out (by rw [h])), Below.refl _ _⟩

theorem kn_eq (a b : Kn) : decide (a = b) = ((a.vec == b.vec) && (a.more == b.more)) := by
  cases a; cases b
  rw [Bool.eq_iff_iff]
  simp
set_option maxRecDepth 100000 in
set_option maxHeartbeats 400000 in
theorem sameK_c (ua va ub vb : Value) (a b : Kn) (w : World) (ha : KnAt w ua va a) (hb : KnAt w ub vb b) :
    Calls Try.prog 17 #[.agg #[ua, va], .agg #[ub, vb]] w fun e w' => e = .returned (.bool (decide (a = b))) ∧ Below w.heap.size w w' := by
  obtain ⟨xa, ca, rfl⟩ := ha.vec.shape
  obtain ⟨ya, da, rfl⟩ := ha.more.shape
  obtain ⟨xb, cb, rfl⟩ := hb.vec.shape
  obtain ⟨yb, db, rfl⟩ := hb.more.shape
  obtain ⟨W, hW⟩ : ∃ W, W = (w.alloc (.cells #[.slice xa a.vec.length ca, .slice ya a.more.length da] 25)).alloc (.cells #[.slice xb b.vec.length cb, .slice yb b.more.length db] 25) := ⟨_, rfl⟩
  have hbW : Below w.heap.size w W := by rw [hW]; exact (bal _).alloc (by simp) _
  have hA : W.heap[w.heap.size]? = some (Obj.cells #[.slice xa a.vec.length ca, .slice ya a.more.length da] 25 (0, 0)) := by rw [hW]; exact alloc_keep _ (alloc_new _ _ _ _ rfl)
  have hB : W.heap[w.heap.size + 1]? = some (Obj.cells #[.slice xb b.vec.length cb, .slice yb b.more.length db] 25 (0, 0)) := by rw [hW]; exact alloc_new _ _ _ _ (by simp)
  have A := Lib.hid hA
  have B := Lib.hid hB
  have a0 := cell_of_block (j := 0) hA rfl
  have b0 := cell_of_block (j := 0) hB rfl
  have H := Lib.hid (kn_eq a b)
  have HA := Lib.hid (ha.below hbW)
  have HB := Lib.hid (hb.below hbW)
  have HBW := Lib.hid hbW
  clear hbW ha hb hA hB
  go_enter Try.func17, Try.ntmps17
  go_wp2_with fail
  rw [← hW]
  clear hW
  (with_reducible refine (eqInts_c _ _ _ _ _ HA.out.vec HB.out.vec).mono ?_)
  rintro e w1 ⟨rfl, hb1⟩
  have hA := below_keep hb1 A.out
  have hB := below_keep hb1 B.out
  have a1 := cell_of_block (j := 1) hA rfl
  have b1 := cell_of_block (j := 1) hB rfl
  have HA1 := Lib.hid (HA.out.below hb1)
  have HB1 := Lib.hid (HB.out.below hb1)
  have hbl := HBW.out.trans (hb1.mono HBW.out.size)
  clear hb1 HA HB HBW a0 b0 hA hB
  cases hx : (a.vec == b.vec)
  · rw [hx] at H
    have H2 := Lib.hid (show decide (a = b) = false by rw [H.out]; rfl)
    clear hx H
    go_wp2
    go_ret
    exact ⟨ret_bool H2.out.symm, hbl⟩
  rw [hx] at H
  have H2 := Lib.hid (show decide (a = b) = (a.more == b.more) by rw [H.out]; rfl)
  clear hx H
  go_wp2_with fail
  (with_reducible refine (eqDots_c _ _ _ _ _ HA1.out.more HB1.out.more).mono ?_)
  rintro e w2 ⟨rfl, hb2⟩
  replace hbl := bstep hbl hb2
  clear hb2 a1 b1
  go_wp2
  go_ret
  exact ⟨ret_bool H2.out.symm, hbl⟩
/-- What Within answers. -/
def knWithin (a b : Kn) : Bool := decide (formK (orK (knIn a) (knIn b)) = b)
def knWithinB (a b : Kn) : Bool := if knTwo a b = 0 then knWithin a b else false
set_option maxRecDepth 100000 in
set_option maxHeartbeats 1000000 in
theorem kwithin_c (ua va ub vb : Value) (a b : Kn) (w : World) (ha : KnAt w ua va a) (hb : KnAt w ub vb b) :
    Calls Try.prog 74 #[.agg #[ua, va], .agg #[ub, vb]] w fun e w' => e = .returned (.tuple #[.bool (knWithinB a b), .int .i64 (knTwo a b)]) ∧ Below w.heap.size w w' := by
  obtain ⟨xa, ca, rfl⟩ := ha.vec.shape
  obtain ⟨ya, da, rfl⟩ := ha.more.shape
  obtain ⟨xb, cb, rfl⟩ := hb.vec.shape
  obtain ⟨yb, db, rfl⟩ := hb.more.shape
  obtain ⟨W, hW⟩ : ∃ W, W = (w.alloc (.cells #[.slice xa a.vec.length ca, .slice ya a.more.length da] 25)).alloc (.cells #[.slice xb b.vec.length cb, .slice yb b.more.length db] 25) := ⟨_, rfl⟩
  have hbW : Below w.heap.size w W := by rw [hW]; exact (bal _).alloc (by simp) _
  have A := Lib.hid (show W.heap[w.heap.size]? = some (Obj.cells #[.slice xa a.vec.length ca, .slice ya a.more.length da] 25 (0, 0)) by rw [hW]; exact alloc_keep _ (alloc_new _ _ _ _ rfl))
  have B := Lib.hid (show W.heap[w.heap.size + 1]? = some (Obj.cells #[.slice xb b.vec.length cb, .slice yb b.more.length db] 25 (0, 0)) by rw [hW]; exact alloc_new _ _ _ _ (by simp))
  have HA := Lib.hid (ha.below hbW)
  have HB := Lib.hid (hb.below hbW)
  have HBW := Lib.hid hbW
  clear hbW ha hb
  go_enter Try.func74, Try.ntmps74
  go_wp2_with fail
  rw [← hW]
  clear hW
  (with_reducible refine (ktwo_c _ _ _ _ a b _ HA.out HB.out).mono ?_)
  rintro e w1 ⟨rfl, hb1⟩
  have A1 := Lib.hid (below_keep hb1 A.out)
  have B1 := Lib.hid (below_keep hb1 B.out)
  have HA1 := Lib.hid (HA.out.below hb1)
  have HB1 := Lib.hid (HB.out.below hb1)
  have hbl := HBW.out.trans (hb1.mono HBW.out.size)
  clear hb1 A B HA HB HBW
  cases hx : (knTwo a b == 0)
  · have H := Lib.hid (show knWithinB a b = false by unfold knWithinB; rw [if_neg (by simpa using hx)])
    have h' : (knTwo a b != 0) = true := by simp [bne, hx]
    clear hx
    go_wp2
    go_ret2
    exact ⟨ret_be H.out.symm rfl, hbl⟩
  have h0 : knTwo a b = 0 := by simpa using hx
  have H0 := Lib.hid h0
  have H := Lib.hid (show knWithinB a b = decide (formK (orK (knIn a) (knIn b)) = b) by unfold knWithinB knWithin; rw [if_pos h0])
  have HE := Lib.hid (show resE (knTwo a b) (orK (knIn a) (knIn b)) = kE (formK (orK (knIn a) (knIn b))) by unfold resE; rw [if_pos h0])
  have H60 := Lib.hid (knChk_zero.1 (knTwo_zero.1 h0).2).2
  rw [h0]
  have a0 := cell_of_block (j := 0) A1.out rfl
  have a1 := cell_of_block (j := 1) A1.out rfl
  have b0 := cell_of_block (j := 0) B1.out rfl
  have b1 := cell_of_block (j := 1) B1.out rfl
  clear hx h0
  go_wp2_with fail
  (with_reducible refine (kjoin_c _ _ _ _ a b _ HA1.out HB1.out).mono ?_)
  rintro e w2 ⟨x, y, rfl, hr, hb2⟩
  rw [HE.out] at hr ⊢
  have hB := below_keep hb2 B1.out
  have HB2 := Lib.hid (HB1.out.below hb2)
  replace hbl := bstep hbl hb2
  clear hb2 a0 a1 b0 b1
  by_cases hl : 60 < (formK (orK (knIn a) (knIn b))).more.length
  · have hk : kE (formK (orK (knIn a) (knIn b))) = 2 := by unfold kE; rw [if_pos hl]
    rw [hk] at hr ⊢
    obtain ⟨h, -⟩ | ⟨-, rfl, rfl⟩ := hr
    · exact absurd h (by decide)
    have HF := Lib.hid (show decide (formK (orK (knIn a) (knIn b)) = b) = false by
      rw [decide_eq_false_iff_not]; intro e; rw [e] at hl; have := H60.out; omega)
    clear hl hk hB
    go_wp2
    go_ret2
    exact ⟨ret_be (by rw [H.out, HF.out]) H0.out.symm, hbl.alloc hbl.size _⟩
  have hk : kE (formK (orK (knIn a) (knIn b))) = 0 := by unfold kE; rw [if_neg hl]
  rw [hk] at hr ⊢
  obtain ⟨-, ho⟩ | ⟨h, -, -⟩ := hr
  rotate_left
  · exact absurd rfl h
  have hat := formK_at ho
  generalize hKK : formK (orK (knIn a) (knIn b)) = K at *
  obtain ⟨xk, ck, rfl⟩ := hat.vec.shape
  obtain ⟨yk, dk, rfl⟩ := hat.more.shape
  have HK := Lib.hid (hat.below (bal (.cells #[.slice xk K.vec.length ck, .slice yk K.more.length dk] 25)))
  have HB3 := Lib.hid (HB2.out.below (bal (.cells #[.slice xk K.vec.length ck, .slice yk K.more.length dk] 25)))
  have kb := alloc_new w2 #[.slice xk K.vec.length ck, .slice yk K.more.length dk] 25 _ rfl
  have KB := Lib.hid kb
  have BB := Lib.hid (alloc_keep (.cells #[.slice xk K.vec.length ck, .slice yk K.more.length dk] 25) hB)
  have b0 := cell_of_block (j := 0) BB.out rfl
  have HBL3 := Lib.hid (hbl.alloc hbl.size (.cells #[.slice xk K.vec.length ck, .slice yk K.more.length dk] 25))
  have HQ := Lib.hid (kn_eq K b)
  clear hKK hat ho hl hk hB kb hbl
  go_wp2_with fail
  (with_reducible refine (eqInts_c _ _ _ _ _ HK.out.vec HB3.out.vec).mono ?_)
  rintro e w3 ⟨rfl, hb3⟩
  have hK3 := below_keep hb3 KB.out
  have hB3 := below_keep hb3 BB.out
  have a1 := cell_of_block (j := 1) hK3 rfl
  have b1 := cell_of_block (j := 1) hB3 rfl
  have HK4 := Lib.hid (HK.out.below hb3)
  have HB4 := Lib.hid (HB3.out.below hb3)
  have hbl := bstep HBL3.out hb3
  clear hb3 hK3 hB3 b0
  cases hx : (K.vec == b.vec)
  · rw [hx] at HQ
    have H2 := Lib.hid (show knWithinB a b = false by rw [H.out, HQ.out]; rfl)
    clear hx
    go_wp2
    go_ret2
    exact ⟨ret_be H2.out.symm H0.out.symm, hbl⟩
  rw [hx] at HQ
  have H2 := Lib.hid (show knWithinB a b = (K.more == b.more) by rw [H.out, HQ.out]; rfl)
  clear hx
  go_wp2_with fail
  (with_reducible refine (eqDots_c _ _ _ _ _ HK4.out.more HB4.out.more).mono ?_)
  rintro e w4 ⟨rfl, hb4⟩
  replace hbl := bstep hbl hb4
  clear hb4 a1 b1
  go_wp2
  go_ret2
  exact ⟨ret_be H2.out.symm H0.out.symm, hbl⟩
end Go.Proofs.Ytboakoipdfmpcaa
namespace Go.Proofs.Ytboakoipdfmpcaa
open Go.RowKit
def addP (P : DPred) (s c : Int) : DPred := fun s' c' => P s' c' || decide ((s', c') = (s, c))
theorem add_mem (k : Kn) (s c : Int) : DEq (fun s' c' => decide (c' ≤ vmaxAt [k.vec] s') || decide ((s', c') ∈ k.more ++ [(s, c)])) (addP (knIn k) s c) := by
  intro s' c' _ _ h1 _
  rw [Bool.eq_iff_iff]
  simp only [addP, knIn, Bool.or_eq_true, decide_eq_true_eq, List.mem_append, List.mem_singleton]
  rw [show vmaxAt [k.vec] s' = max 0 (vecAt k.vec s') from rfl]
  have e : (c' ≤ max 0 (vecAt k.vec s')) ↔ (c' ≤ vecAt k.vec s') := by omega
  rw [e, or_assoc]
def addE (k : Kn) (s c : Int) : Int := if knChk k = 0 then (if dotOk (s, c) = true then kE (formK (addP (knIn k) s c)) else 1) else knChk k
theorem vecsOk1 {a : Kn} (ha : KnOk a) : ∀ l ∈ [a.vec], vecOk l := by
  intro l hl
  simp only [List.mem_singleton] at hl
  rw [hl]
  exact ⟨ha.len, ha.bd⟩
theorem dotsOk1 {a : Kn} {d : Int × Int} (ha : KnOk a) (hd : dotOk d = true) : ∀ x ∈ a.more ++ [d], dotOk x = true := by
  intro x hx
  rcases List.mem_append.1 hx with h | h
  · exact (ha.dots x h).1
  · simp only [List.mem_singleton] at h; rw [h]; exact hd
theorem rowOf1 {w : World} {g : Nat} {u : Value} {l : List Int} {t : TypeId} (h : w.heap[g]? = some (Obj.cells #[u] t (0, 0))) (hu : IsAt w u l) : RowAt vecE w (.slice (some ⟨g, 0, none⟩) 1 1) [l] := by
  refine ⟨[[u]], ⟨⟨_, rfl, hu⟩, trivial⟩, CellsAt.mk (Nat.le_refl _) (by decide) (hlt_of h) fun j x hj => ?_⟩
  rw [Nat.zero_add]
  exact cell_of_block h (by simpa using hj)
set_option maxRecDepth 100000 in
set_option maxHeartbeats 4000000 in
theorem kadd_c (ua va : Value) (k : Kn) (s c : Int) (w : World) (ha : KnAt w ua va k) :
    Calls Try.prog 7 #[.agg #[ua, va], .agg #[.int .i64 s, .int .i64 c]] w fun e w' => ∃ (x y : Value), e = .returned (.tuple #[.agg #[x, y], .int .i64 (addE k s c)]) ∧ KnRes w' w.heap.size x y (addE k s c) (formK (addP (knIn k) s c)) ∧ Below w.heap.size w w' := by
  obtain ⟨xa, ca, hua⟩ := ha.vec.shape
  obtain ⟨ya, da, hva⟩ := ha.more.shape
  subst hua hva
  obtain ⟨W, hW⟩ : ∃ W, W = ((w.alloc (.cells #[.slice xa k.vec.length ca, .slice ya k.more.length da] 25)).alloc (.cells #[.int .i64 s, .int .i64 c] 27)).alloc (.cells #[.slice none 0 0, .slice none 0 0] 25) := ⟨_, rfl⟩
  have hbW : Below w.heap.size w W := by rw [hW]; exact ((bal _).alloc (by simp) _).alloc (by simp; omega) _
  have A := Lib.hid (show W.heap[w.heap.size]? = some (Obj.cells #[.slice xa k.vec.length ca, .slice ya k.more.length da] 25 (0, 0)) by rw [hW]; exact alloc_keep _ (alloc_keep _ (alloc_new _ _ _ _ rfl)))
  have B := Lib.hid (show W.heap[w.heap.size + 1]? = some (Obj.cells #[.int .i64 s, .int .i64 c] 27 (0, 0)) by rw [hW]; exact alloc_keep _ (alloc_new _ _ _ _ (by simp)))
  have R := Lib.hid (show W.heap[w.heap.size + 2]? = some (Obj.cells #[.slice none 0 0, .slice none 0 0] 25 (0, 0)) by rw [hW]; exact alloc_new _ _ _ _ (by simp))
  have HA := Lib.hid (ha.below hbW)
  have HBW := Lib.hid hbW
  clear hbW ha
  go_enter Try.func7, Try.ntmps7
  go_wp2_with fail
  rw [show w.heap.size + 1 + 1 = w.heap.size + 2 from rfl, ← hW]
  clear hW
  (with_reducible refine (knChk_c _ _ k _ HA.out).mono ?_)
  rintro e w1 ⟨rfl, hb1⟩
  have A1 := Lib.hid (below_keep hb1 A.out)
  have B1 := Lib.hid (below_keep hb1 B.out)
  have R1 := Lib.hid (below_keep hb1 R.out)
  have HA1 := Lib.hid (HA.out.below hb1)
  have hbl := HBW.out.trans (hb1.mono HBW.out.size)
  clear hb1 A B R HA HBW
  cases hx : (knChk k == 0)
  · have H0 := Lib.hid (show knChk k ≠ 0 by simpa using hx)
    have H := Lib.hid (show addE k s c = knChk k by unfold addE; rw [if_neg H0.out])
    have h' : (knChk k != 0) = true := by simp [bne, hx]
    have r0 := cell_of_block (j := 0) R1.out rfl
    have r1 := cell_of_block (j := 1) R1.out rfl
    have f0 := free_of_block (j := 0) R1.out
    have f1 := free_of_block (j := 1) R1.out
    have hRl := hlt_of R1.out
    clear hx
    go_wp2
    refine bodyPost_ret (v := .tuple #[.agg #[_, _], _]) (by simp [results, Try.results7, go_sem, *]; exact ⟨⟨rfl, rfl⟩, rfl⟩) rfl ?_
    exact ⟨_, _, by rw [H.out], .inr ⟨by rw [H.out]; exact H0.out, rfl, rfl⟩, (hbl.setCell (by simp) _).setCell (by simp) _⟩
  have h0 : knChk k = 0 := by simpa using hx
  have H0 := Lib.hid h0
  have OA := Lib.hid (knChk_zero.1 h0)
  rw [h0]
  clear hx h0
  have b0 := cell_of_block (j := 0) B1.out rfl
  have b1 := cell_of_block (j := 1) B1.out rfl
  go_wp2_with fail
  (with_reducible refine (dot_c s c _).mono ?_)
  rintro e w2 ⟨rfl, hb1⟩
  replace A1 := Lib.hid (below_keep hb1 A1.out)
  replace B1 := Lib.hid (below_keep hb1 B1.out)
  replace R1 := Lib.hid (below_keep hb1 R1.out)
  replace HA1 := Lib.hid (HA1.out.below hb1)
  replace hbl := hbl.trans (hb1.mono hbl.size)
  clear hb1 b0 b1
  cases hd : dotOk (s, c)
  · have H := Lib.hid (show addE k s c = 1 by unfold addE; rw [if_pos H0.out, hd]; rfl)
    have r0 := cell_of_block (j := 0) R1.out rfl
    have r1 := cell_of_block (j := 1) R1.out rfl
    have f0 := free_of_block (j := 0) R1.out
    have f1 := free_of_block (j := 1) R1.out
    have hRl := hlt_of R1.out
    clear hd
    go_wp2
    refine bodyPost_ret (v := .tuple #[.agg #[_, _], _]) (by simp [results, Try.results7, go_sem, *]; exact ⟨⟨rfl, rfl⟩, rfl⟩) rfl ?_
    exact ⟨_, _, by rw [H.out], .inr ⟨by rw [H.out]; decide, rfl, rfl⟩, (hbl.setCell (by simp) _).setCell (by simp) _⟩
  have HD := Lib.hid hd
  have HE := Lib.hid (show addE k s c = kE (formK (addP (knIn k) s c)) by unfold addE; rw [if_pos H0.out, if_pos hd])
  clear hd
  go_wp2_with fail
  have CA0 := Lib.hid (cell_of_block (j := 0) A1.out rfl)
  have CA1 := Lib.hid (cell_of_block (j := 1) A1.out rfl)
  have CB0 := Lib.hid (cell_of_block (j := 0) B1.out rfl)
  have CB1 := Lib.hid (cell_of_block (j := 1) B1.out rfl)
  have hml := OA.out.2
  refine Cl.region0 30 rfl [13] (fun ww => Below w2.heap.size w2 ww) (fun jq => match jq with | 2 => [13] | 5 => [13, 8] | 7 => [13, 8] | 8 => [13] | 9 => [13] | 10 => [13] | 11 => [13] | _ => []) (fun jq v ww => match jq with | 0 => v = .pointer (some ⟨w.heap.size, 0, none⟩) | 1 => v = .slice xa k.vec.length ca | 2 => ∃ g, v = .slice (some ⟨g, 0, none⟩) 1 1 ∧ ww.heap[g]? = some (Obj.cells #[.slice xa k.vec.length ca] 22 (0, 0)) | 3 => v = .pointer (some ⟨w.heap.size, 1, none⟩) | 4 => v = .slice ya k.more.length da | 5 => ∃ a cc, v = .slice a k.more.length cc ∧ ww.ownsRow w2.heap.size 27 2 (.slice a k.more.length cc) k.more.length (spansCells k.more) | 6 => v = .agg #[.int .i64 s, .int .i64 c] | 7 => CellsAt ww v 1 [.int .i64 s, .int .i64 c] | 8 => ∃ a cc, v = .slice a (k.more.length + 1) cc ∧ ww.ownsRow w2.heap.size 27 2 (.slice a (k.more.length + 1) cc) (k.more.length + 1) (spansCells (k.more ++ [(s, c)])) | 9 => ∃ X Y, v = .agg #[X, Y] ∧ KnOwn ww w.heap.size X Y (formK (addP (knIn k) s c)) | 10 => ∃ X Y, v = .tuple #[.agg #[X, Y], .int .i64 (kE (formK (addP (knIn k) s c)))] ∧ KnRes ww w.heap.size X Y (kE (formK (addP (knIn k) s c))) (formK (addP (knIn k) s c)) | 11 => ∃ X Y, v = .agg #[X, Y] ∧ KnRes ww w.heap.size X Y (kE (formK (addP (knIn k) s c))) (formK (addP (knIn k) s c)) | 12 => v = .int .i64 (kE (formK (addP (knIn k) s c))) | 13 => ∃ X Y, ww.heap[w.heap.size + 2]? = some (Obj.cells #[X, Y] 25 (0, 0)) ∧ KnRes ww w.heap.size X Y (kE (formK (addP (knIn k) s c))) (formK (addP (knIn k) s c)) ∧ Below w.heap.size w ww | 14 => v = .int .i64 (kE (formK (addP (knIn k) s c))) | _ => True) (fun ww => True) (fun jq ww ww' => (jq ≠ 13 → jq ≠ 8 → Below ww.heap.size ww ww') ∧ (jq = 8 → AppR w2.heap.size 27 2 ww ww')) Try.mixed (by decide +kernel) trivial ((Below.refl _ _).drew) ?_ (fun jq ww ww' hk h hR => by by_cases hq : jq = 8; (exact (hR.2 hq).below h (Nat.le_refl _) h.size); exact bstep h (hR.1 (by simpa using hk) hq)) ?_ ?_
  · intro q r v w w' hne hk hlt h hR
    match r, hk, hlt, h, hne with
    | 0, _, _, h, _ => exact h
    | 1, _, _, h, _ => exact h
    | 2, hk, _, h, _ =>
      obtain ⟨g, h1, h2⟩ := h
      by_cases hq : q = 8
      · exact ⟨g, h1, (hR.2 hq).keep h2 (by decide)⟩
      · exact ⟨g, h1, below_keep (hR.1 (by simpa using hk) hq) h2⟩
    | 3, _, _, h, _ => exact h
    | 4, _, _, h, _ => exact h
    | 5, hk, _, h, _ =>
      simp only [List.mem_cons, List.not_mem_nil, or_false, not_or] at hk
      have hb := hR.1 hk.1 hk.2
      exact (let ⟨a, cc, h1, h2⟩ := h; ⟨a, cc, h1, owns_below h2 hb⟩)
    | 6, _, _, h, _ => exact h
    | 7, hk, _, h, _ =>
      simp only [List.mem_cons, List.not_mem_nil, or_false, not_or] at hk
      have hb := hR.1 hk.1 hk.2
      exact (h.below hb)
    | 8, hk, hlt, h, hne =>
      have hb := hR.1 (by simpa using hk) (by exact hne)
      exact (let ⟨a, cc, h1, h2⟩ := h; ⟨a, cc, h1, owns_below h2 hb⟩)
    | 9, hk, hlt, h, hne =>
      have hb := hR.1 (by simpa using hk) (by intro e; subst e; exact absurd hlt (by decide +kernel))
      exact (let ⟨x, y, h1, h2⟩ := h; ⟨x, y, h1, h2.below hb⟩)
    | 10, hk, hlt, h, hne =>
      have hb := hR.1 (by simpa using hk) (by intro e; subst e; exact absurd hlt (by decide +kernel))
      exact (let ⟨x, y, h1, h2⟩ := h; ⟨x, y, h1, h2.below hb⟩)
    | 11, hk, hlt, h, hne =>
      have hb := hR.1 (by simpa using hk) (by intro e; subst e; exact absurd hlt (by decide +kernel))
      exact (let ⟨x, y, h1, h2⟩ := h; ⟨x, y, h1, h2.below hb⟩)
    | 12, _, _, h, _ => exact h
    | 13, hk, hlt, h, hne =>
      have hb := hR.1 (by exact hne) (by intro e; subst e; exact absurd hlt (by decide +kernel))
      exact (let ⟨x, y, h1, h2, h3⟩ := h; ⟨x, y, below_keep hb h1, h2.below hb, bstep2 h3 hb⟩)
    | 14, _, _, h, _ => exact h
    | _ + 15, _, _, _, _ => trivial
  · refine ⟨?_, ?_, ?_, ?_, ?_, ?_, ?_, ?_, ?_, ?_, ?_, ?_, ?_, ?_, ?_, trivial⟩
    · intro x wx hG
      have f2 := hG.old 2 (by decide +kernel)
      have hp := hG.pre (by decide +kernel)
      have hg := hG.good
      clear hG
      have hg := hp
      go_wp2
      exact ⟨_, rfl, rfl, trivial, ⟨fun _ _ => Below.refl _ _, fun h => absurd h (by decide)⟩⟩
    · intro x wx hG
      have g0 : (x.tmps.getD 17 undef) = .pointer (some ⟨w.heap.size, 0, none⟩) := hG.claims 0 _ rfl (by decide +kernel) (by decide +kernel)
      have hp := hG.pre (by decide +kernel)
      have hg := hG.good
      clear hG
      have hg := hp
      have c_CA0 := ckeep hg CA0.out
      go_wp2
      exact ⟨_, rfl, rfl, trivial, ⟨fun _ _ => Below.refl _ _, fun h => absurd h (by decide)⟩⟩
    · intro x wx hG
      have g1 : (x.tmps.getD 18 undef) = .slice xa k.vec.length ca := hG.claims 1 _ rfl (by decide +kernel) (by decide +kernel)
      have g1b := g1
      rw [Array.getD_eq_getD_getElem?] at g1b
      have hp := hG.pre (by decide +kernel)
      have hg := hG.good
      clear hG
      have hg := hp
      go_wp2
      exact ⟨_, rfl, ⟨_, rfl, alloc_new _ _ _ _ rfl⟩, trivial, ⟨fun _ _ => bal _, fun h => absurd h (by decide)⟩⟩
    · intro x wx hG
      have f2 := hG.old 2 (by decide +kernel)
      have hp := hG.pre (by decide +kernel)
      have hg := hG.good
      clear hG
      have hg := hp
      go_wp2
      exact ⟨_, rfl, rfl, trivial, ⟨fun _ _ => Below.refl _ _, fun h => absurd h (by decide)⟩⟩
    · intro x wx hG
      have g3 : (x.tmps.getD 20 undef) = .pointer (some ⟨w.heap.size, 1, none⟩) := hG.claims 3 _ rfl (by decide +kernel) (by decide +kernel)
      have hp := hG.pre (by decide +kernel)
      have hg := hG.good
      clear hG
      have hg := hp
      have c_CA1 := ckeep hg CA1.out
      go_wp2
      exact ⟨_, rfl, rfl, trivial, ⟨fun _ _ => Below.refl _ _, fun h => absurd h (by decide)⟩⟩
    · intro x wx hG
      have g4 : (x.tmps.getD 21 undef) = .slice ya k.more.length da := hG.claims 4 _ rfl (by decide +kernel) (by decide +kernel)
      have hp := hG.pre (by decide +kernel)
      have hg := hG.good
      clear hG
      have hg := hp
      have hdx : CellsAt wx (.slice ya k.more.length da) k.more.length (spansCells k.more) := HA1.out.more.below hg
      have HDX := Lib.hid hdx
      clear hdx
      go_wp2_with fail
      (with_reducible refine (DcClone_c _ k.more.length (spansCells k.more) _ HDX.out (spansCells_length _) (spansCells_one _) (by omega)).mono ?_)
      rintro e wq ⟨v9, rfl, h9, hb⟩
      obtain ⟨za, zc, hz⟩ := owns_slice h9
      subst hz
      have H9 := Lib.hid (owns_mono h9 (base' := w2.heap.size) hg.size)
      clear h9
      go_wp2
      exact ⟨_, rfl, ⟨_, _, rfl, H9.out⟩, trivial, ⟨fun _ _ => hb, fun h => absurd h (by decide)⟩⟩
    · intro x wx hG
      have f3 := hG.old 3 (by decide +kernel)
      have hp := hG.pre (by decide +kernel)
      have hg := hG.good
      clear hG
      have hg := hp
      have c_CB0 := ckeep hg CB0.out
      have c_CB1 := ckeep hg CB1.out
      go_wp2
      exact ⟨_, rfl, rfl, trivial, ⟨fun _ _ => Below.refl _ _, fun h => absurd h (by decide)⟩⟩
    · intro x wx hG
      have g6 : (x.tmps.getD 23 undef) = .agg #[.int .i64 s, .int .i64 c] := hG.claims 6 _ rfl (by decide +kernel) (by decide +kernel)
      have g6b := g6
      rw [Array.getD_eq_getD_getElem?] at g6b
      have hp := hG.pre (by decide +kernel)
      have hg := hG.good
      clear hG
      have hg := hp
      go_wp2
      exact ⟨_, rfl, CellsAt.mk (Nat.le_refl _) (by decide) (by simp) (fun j z hj => by rw [Nat.zero_add, World.cell?_alloc_at _ _ _ _ rfl]; simpa using hj), trivial, ⟨fun _ _ => bal _, fun h => absurd h (by decide)⟩⟩
    · intro x wx hG
      have g5 : ∃ a cc, (x.tmps.getD 22 undef) = .slice a k.more.length cc ∧ wx.ownsRow w2.heap.size 27 2 (.slice a k.more.length cc) k.more.length (spansCells k.more) := hG.claims 5 _ rfl (by decide +kernel) (by decide +kernel)
      have g7 : CellsAt wx (x.tmps.getD 24 undef) 1 [.int .i64 s, .int .i64 c] := hG.claims 7 _ rfl (by decide +kernel) (by decide +kernel)
      have hp := hG.pre (by decide +kernel)
      have hg := hG.good
      clear hG
      have hg := hp
      obtain ⟨za, zc, hz, h9⟩ := g5
      have hzb := hz
      rw [Array.getD_eq_getD_getElem?] at hzb
      have H9 := Lib.hid h9
      have G7 := Lib.hid g7
      clear h9 g7
      have hbs := hg.size
      go_wp2_with (at_builtin; refine wpList_append_cells2 rfl (.tmp 22) (.tmp 24) 23 rfl w2.heap.size 27 _ 2 16 Try.underlying23 DcTy.info rfl (by decide) _ k.more.length _ hz H9.out _ 1 _ rfl G7.out rfl (by intro u hu; simp at hu; rcases hu with rfl | rfl <;> rfl) hbs (by unfold maxLen; omega) (by omega) ?_)
      intro v' wq ho hgr
      obtain ⟨qa, qc, hq⟩ := owns_slice ho
      subst hq
      have HO := Lib.hid ho
      have HGR := Lib.hid hgr
      clear ho hgr
      go_wp2
      exact ⟨_, rfl, ⟨_, _, rfl, by rw [spansCells_append]; exact HO.out⟩, trivial, ⟨fun _ h => absurd rfl h, fun _ => AppR.mk H9.out HGR.out⟩⟩
    · intro x wx hG
      have g2 : ∃ g, (x.tmps.getD 19 undef) = .slice (some ⟨g, 0, none⟩) 1 1 ∧ wx.heap[g]? = some (Obj.cells #[.slice xa k.vec.length ca] 22 (0, 0)) := hG.claims 2 _ rfl (by decide +kernel) (by decide +kernel)
      have g8 : ∃ a cc, (x.tmps.getD 25 undef) = .slice a (k.more.length + 1) cc ∧ wx.ownsRow w2.heap.size 27 2 (.slice a (k.more.length + 1) cc) (k.more.length + 1) (spansCells (k.more ++ [(s, c)])) := hG.claims 8 _ rfl (by decide +kernel) (by decide +kernel)
      have hp := hG.pre (by decide +kernel)
      have hg := hG.good
      clear hG
      have hg := hp
      obtain ⟨g9, hg1, hg2⟩ := g2
      obtain ⟨za, zc, hz, h9⟩ := g8
      have G2 := Lib.hid (rowOf1 hg2 (HA1.out.vec.below hg))
      have hat : DsAt wx (.slice za (k.more.length + 1) zc) (k.more ++ [(s, c)]) := by have := CellsAt.of_owns h9 (by omega); unfold DsAt; rw [List.length_append, List.length_singleton]; exact this
      have G8 := Lib.hid hat
      clear hg2 h9 hat
      go_wp2_with fail
      (with_reducible refine (made_f _ _ _ _ (addP (knIn k) s c) _ G2.out G8.out (vecsOk1 OA.out.1) (dotsOk1 OA.out.1 HD.out) (by simp only [List.length_append, List.length_singleton]; omega) (add_mem k s c)).mono ?_)
      rintro e wq ⟨u9, v9, rfl, h9, hb⟩
      have H9 := Lib.hid (h9.mono (base' := w.heap.size) (by have := hbl.size; have := hg.size; omega))
      clear h9
      go_wp2
      exact ⟨_, rfl, ⟨_, _, rfl, H9.out⟩, trivial, ⟨fun _ _ => hb, fun h => absurd h (by decide)⟩⟩
    · intro x wx hG
      have g9 : ∃ X Y, (x.tmps.getD 26 undef) = .agg #[X, Y] ∧ KnOwn wx w.heap.size X Y (formK (addP (knIn k) s c)) := hG.claims 9 _ rfl (by decide +kernel) (by decide +kernel)
      have hp := hG.pre (by decide +kernel)
      have hg := hG.good
      clear hG
      have hg := hp
      obtain ⟨x9, y9, hx9, h9⟩ := g9
      have H9 := Lib.hid h9
      clear h9
      go_wp2_with fail
      (with_reducible refine (ktold_c _ _ _ _ _ H9.out (by have := formM_len (addP (knIn k) s c); omega)).mono ?_)
      rintro e wq ⟨u9, v9, rfl, h8, hb⟩
      have H8 := Lib.hid h8
      clear h8
      go_wp2
      exact ⟨_, rfl, ⟨_, _, rfl, H8.out⟩, trivial, ⟨fun _ _ => hb, fun h => absurd h (by decide)⟩⟩
    · intro x wx hG
      have g10 : ∃ X Y, (x.tmps.getD 27 undef) = .tuple #[.agg #[X, Y], .int .i64 (kE (formK (addP (knIn k) s c)))] ∧ KnRes wx w.heap.size X Y (kE (formK (addP (knIn k) s c))) (formK (addP (knIn k) s c)) := hG.claims 10 _ rfl (by decide +kernel) (by decide +kernel)
      have hp := hG.pre (by decide +kernel)
      have hg := hG.good
      clear hG
      have hg := hp
      obtain ⟨x9, y9, hx9, h9⟩ := g10
      have H9 := Lib.hid h9
      clear h9
      go_wp2
      exact ⟨_, rfl, ⟨_, _, rfl, H9.out⟩, trivial, ⟨fun _ _ => Below.refl _ _, fun h => absurd h (by decide)⟩⟩
    · intro x wx hG
      have g10 : ∃ X Y, (x.tmps.getD 27 undef) = .tuple #[.agg #[X, Y], .int .i64 (kE (formK (addP (knIn k) s c)))] ∧ KnRes wx w.heap.size X Y (kE (formK (addP (knIn k) s c))) (formK (addP (knIn k) s c)) := hG.claims 10 _ rfl (by decide +kernel) (by decide +kernel)
      have hp := hG.pre (by decide +kernel)
      have hg := hG.good
      clear hG
      have hg := hp
      obtain ⟨x9, y9, hx9, h9⟩ := g10
      clear h9
      go_wp2
      exact ⟨_, rfl, rfl, trivial, ⟨fun _ _ => Below.refl _ _, fun h => absurd h (by decide)⟩⟩
    · intro x wx hG
      have f4 := hG.old 4 (by decide +kernel)
      have g11 : ∃ X Y, (x.tmps.getD 28 undef) = .agg #[X, Y] ∧ KnRes wx w.heap.size X Y (kE (formK (addP (knIn k) s c))) (formK (addP (knIn k) s c)) := hG.claims 11 _ rfl (by decide +kernel) (by decide +kernel)
      have hp := hG.pre (by decide +kernel)
      have hg := hG.good
      clear hG
      have hg := hp
      obtain ⟨x9, y9, hx9, h9⟩ := g11
      obtain ⟨qa, qn, qc, qb, qm, qd, hq1, hq2⟩ := h9.shape
      subst hq1 hq2
      have H9 := Lib.hid h9
      have hR := hp.block (w.heap.size + 2) (hlt_of R1.out)
      rw [R1.out] at hR
      have HR := Lib.hid hR
      have r0 := cell_of_block (j := 0) hR rfl
      have r1 := cell_of_block (j := 1) hR rfl
      have f0 := free_of_block (j := 0) hR
      have f1 := free_of_block (j := 1) hR
      have hRl := hlt_of hR
      have HBLX := Lib.hid (hbl.trans (hp.mono hbl.size))
      clear h9 hR
      go_wp2
      exact ⟨undef, rfl, ⟨_, _, by rw [heap_set_same (heap_set_same HR.out)]; rfl, (H9.out.set HR.out).set (heap_set_same HR.out), (HBLX.out.setCell (by simp) _).setCell (by simp) _⟩, trivial, ⟨fun h => absurd rfl h, fun h => absurd h (by decide)⟩⟩
    · intro x wx hG
      have g12 : (x.tmps.getD 29 undef) = .int .i64 (kE (formK (addP (knIn k) s c))) := hG.claims 12 _ rfl (by decide +kernel) (by decide +kernel)
      have hg := hG.good
      clear hG
      go_wp2
      exact ⟨_, rfl, rfl, trivial, ⟨fun _ _ => Below.refl _ _, fun h => absurd h (by decide)⟩⟩
  · intro vals w3 hg hF
    obtain ⟨g0, g1, g2, g3, g4, g5, g6, g7, g8, g9, g10, g11, g12, g13, g14, -⟩ := hF
    have e0 : vals 0 = .pointer (some ⟨w.heap.size, 0, none⟩) := g0 rfl
    have e1 : vals 1 = .slice xa k.vec.length ca := g1 rfl
    have e3 : vals 3 = .pointer (some ⟨w.heap.size, 1, none⟩) := g3 rfl
    have e4 : vals 4 = .slice ya k.more.length da := g4 rfl
    have e6 : vals 6 = .agg #[.int .i64 s, .int .i64 c] := g6 rfl
    have e12 : vals 12 = .int .i64 (kE (formK (addP (knIn k) s c))) := g12 rfl
    replace g13 : ∃ X Y, w3.heap[w.heap.size + 2]? = some (Obj.cells #[X, Y] 25 (0, 0)) ∧ KnRes w3 w.heap.size X Y (kE (formK (addP (knIn k) s c))) (formK (addP (knIn k) s c)) ∧ Below w.heap.size w w3 := g13 rfl
    have e14 : vals 14 = .int .i64 (kE (formK (addP (knIn k) s c))) := g14 rfl
    simp only [Cl.puts, e0, e1, e3, e4, e6, e12, e14]
    clear e0 e1 e3 e4 e6 e12 e14 g0 g1 g2 g3 g4 g5 g6 g7 g8 g9 g10 g11 g12 g14
    go_simp
    obtain ⟨x9, y9, h1, h2, h3⟩ := g13
    obtain ⟨qa, qn, qc, qb, qm, qd, hq1, hq2⟩ := h2.shape
    subst hq1 hq2
    have r0 := cell_of_block (j := 0) h1 rfl
    have r1 := cell_of_block (j := 1) h1 rfl
    have H2 := Lib.hid h2
    clear h1 h2
    go_wp2
    refine bodyPost_ret (v := .tuple #[.agg #[_, _], _]) (by simp [results, Try.results7, go_sem, *]; exact ⟨⟨rfl, rfl⟩, rfl⟩) rfl ?_
    exact ⟨_, _, by rw [HE.out], by rw [HE.out]; exact H2.out, h3⟩
end Go.Proofs.Ytboakoipdfmpcaa
