/- Filters with room behind their lists: what memory holds. No walk here. What the laws' room, kept and waste do to a filter. What the laws' waste does to a filter, said by its own blocks. -/
import Derived.Test.YtboakoipdfmpcaaMRoom
import Derived.Test.YtboakoipdfmpcaaMFilterP
import Derived.Test.YtboakoipdfmpcaaMSameB
namespace Go.Proofs.Ytboakoipdfmpcaa
open Go.RowKit
def spB : List Value := (List.replicate 3 [Value.int .i64 77, .int .i64 0, .slice none 0 0]).flatten
def spS : List Value := (List.replicate 3 [Value.int .i64 78, .int .i64 0]).flatten
/-- A filter with room behind its lists, all of it the call's own. -/
def RoomF (w : World) (base : Nat) (v : Value) (l : Bxs) : Prop :=
  ∃ us : List Value, us.length = l.length ∧ Roomy w base 57 3 v l.length (bxCells l us) spB ∧ ∀ i (h : i < l.length) (h' : i < us.length), Roomy w base 60 2 us[i] l[i].sp.length (spansCells l[i].sp) spS
theorem RoomF.below {w w' : World} {base : Nat} {v : Value} {l : Bxs} (h : RoomF w base v l) (hb : Below w.heap.size w w') : RoomF w' base v l := by
  obtain ⟨us, h1, h2, h3⟩ := h
  exact ⟨us, h1, h2.below hb, fun i hi hi' => (h3 i hi hi').below hb⟩
theorem RoomF.mono {w : World} {base base' : Nat} {v : Value} {l : Bxs} (h : RoomF w base v l) (hb : base' ≤ base) : RoomF w base' v l := by
  obtain ⟨us, h1, h2, h3⟩ := h
  exact ⟨us, h1, h2.mono hb, fun i hi hi' => (h3 i hi hi').mono hb⟩
theorem RoomF.own {w : World} {base : Nat} {v : Value} {l : Bxs} (h : RoomF w base v l) : BxsOwn w base 57 60 v l := by
  obtain ⟨us, h1, h2, h3⟩ := h
  exact ⟨us, h1, h2.owns, fun i hi hi' => (h3 i hi hi').owns⟩
theorem RoomF.at_ {w : World} {base : Nat} {v : Value} {l : Bxs} (h : RoomF w base v l) (hl : l.length ≤ 140737488355328) (hs : ∀ b ∈ l, b.sp.length ≤ 140737488355328) : BxsAt w v l := by
  obtain ⟨us, h1, h2, h3⟩ := h
  exact ⟨us, h1, CellsAt.of_owns h2.owns hl, fun i hi hi' => CellsAt.of_owns (h3 i hi hi').owns (hs _ (List.getElem_mem hi))⟩
/-- Sizes that came in. -/
structure SzF (l : Bxs) : Prop where
  len : l.length * 40 ≤ 140737488355328
  sp : ∀ b ∈ l, b.sp.length * 16 ≤ 140737488355328
theorem SzF.l {l : Bxs} (h : SzF l) : l.length ≤ 140737488355328 := by have := h.len; omega
theorem SzF.s {l : Bxs} (h : SzF l) : ∀ b ∈ l, b.sp.length ≤ 140737488355328 := fun b hb => by have := h.sp b hb; omega
theorem bxCells_at {l : Bxs} {us : List Value} (hu : us.length = l.length) {k : Nat} (hk : k < l.length) : (bxCells l us)[k * 3]? = some (.int .i64 l[k].y) ∧ (bxCells l us)[k * 3 + 1]? = some (.int .i64 l[k].n) ∧ (bxCells l us)[k * 3 + 2]? = us[k]? := by
  induction l generalizing us k with
  | nil => simp at hk
  | cons b l ih =>
    cases us with
    | nil => simp at hu
    | cons u us =>
      cases k with
      | zero => exact ⟨rfl, rfl, rfl⟩
      | succ k =>
        obtain ⟨a1, a2, a3⟩ := ih (us := us) (by simpa using hu) (k := k) (by simpa using hk)
        rw [show (k + 1) * 3 = k * 3 + 3 by omega]
        exact ⟨a1, a2, a3⟩
theorem bxCells_set {l : Bxs} {us : List Value} (hu : us.length = l.length) {k : Nat} (hk : k < l.length) (u : Value) : bxCells l (us.set k u) = (bxCells l us).set (k * 3 + 2) u := by
  induction l generalizing us k with
  | nil => simp at hk
  | cons b l ih =>
    cases us with
    | nil => simp at hu
    | cons u' us =>
      cases k with
      | zero => rfl
      | succ k =>
        have := ih (us := us) (by simpa using hu) (k := k) (by simpa using hk)
        rw [show (k + 1) * 3 + 2 = (k * 3 + 2) + 3 by omega]
        show Value.int .i64 b.y :: .int .i64 b.n :: u' :: bxCells l (us.set k u) = _
        rw [this]; rfl
/-- While the lists of the boxes are copied: k of them are. -/
structure RmSt (w0 w : World) (v : Value) (l : Bxs) (us0 : List Value) (k : Nat) (us : List Value) : Prop where
  bel : Below w0.heap.size w0 w
  len : us.length = l.length
  row : Roomy w w0.heap.size 57 3 v l.length (bxCells l us) spB
  new : ∀ i (h : i < l.length) (h' : i < us.length), i < k → Roomy w w0.heap.size 60 2 us[i] l[i].sp.length (spansCells l[i].sp) spS
  old : ∀ i, k ≤ i → us[i]? = us0[i]?
theorem RmSt.step {w0 w w2 : World} {l : Bxs} {us0 us : List Value} {k g c : Nat} {u : Value} (h : RmSt w0 w (.slice (some ⟨g, 0, none⟩) l.length c) l us0 k us) (hk : k < l.length) (hb : Below w.heap.size w w2) (hu : Roomy w2 w.heap.size 60 2 u l[k].sp.length (spansCells l[k].sp) spS) : RmSt w0 (w2.setCell ⟨g, k * 3 + 2, none⟩ u) (.slice (some ⟨g, 0, none⟩) l.length c) l us0 (k + 1) (us.set k u) := by
  obtain ⟨g', h1, h2, h3⟩ := (h.row.below hb).row
  have h1' := h1
  simp only [Value.slice.injEq, Option.some.injEq, Addr.mk.injEq, and_true] at h1'
  obtain ⟨rfl, hc⟩ := h1'
  refine ⟨(bstep h.bel hb).setCell h2 _, by rw [List.length_set]; exact h.len, ?_, ?_, ?_⟩
  · refine ⟨by rw [bxCells_length _ _ (by rw [List.length_set]; exact h.len)], h.row.ls, h.row.mx, g, h1, h2, ?_⟩
    rw [heap_set_same h3, List.setIfInBounds_toArray, List.set_append, if_pos (by rw [bxCells_length _ _ h.len]; omega), bxCells_set h.len hk]
  · intro i hi hi' hik
    rw [List.length_set] at hi'
    by_cases he : i = k
    · subst he
      simp only [List.getElem_set_self]
      exact (hu.mono (h.bel.size)).setOther h3 (by decide)
    · rw [List.getElem_set_ne (by omega)]
      exact ((h.new i hi hi' (by omega)).below hb).setOther h3 (by decide)
  · intro i hi
    rw [List.getElem?_set_ne (by omega)]
    exact h.old i (by omega)
theorem RmSt.done {w0 w : World} {v : Value} {l : Bxs} {us0 us : List Value} (h : RmSt w0 w v l us0 l.length us) : RoomF w w0.heap.size v l := ⟨us, h.len, h.row, fun i hi hi' => h.new i hi hi' hi⟩
end Go.Proofs.Ytboakoipdfmpcaa
namespace Go.Proofs.Ytboakoipdfmpcaa
open Go.RowKit
theorem bxCells_one (l : Bxs) (us : List Value) (h : ∀ u ∈ us, u.oneCell' = true) : ∀ u ∈ bxCells l us, u.oneCell' = true := by
  induction l generalizing us with
  | nil => simp [bxCells]
  | cons b l ih =>
    cases us with
    | nil => simp [bxCells]
    | cons u us =>
      intro x hx
      simp only [bxCells, List.mem_cons] at hx
      rcases hx with rfl | rfl | rfl | hx
      · rfl
      · rfl
      · exact h _ List.mem_cons_self
      · exact ih us (fun y hy => h y (List.mem_cons_of_mem _ hy)) x hx
set_option maxRecDepth 100000 in
set_option maxHeartbeats 4000000 in
theorem room_c (v : Value) (l : Bxs) (w : World) (hv : BxsAt w v l) (hz : SzF l) :
    Calls Try.prog 6 #[v] w fun e w' => ∃ v', e = .returned v' ∧ RoomF w' w.heap.size v' l ∧ Below w.heap.size w w' := by
  obtain ⟨us0, hu0, hc0, hs0⟩ := hv
  obtain ⟨a, cap, rfl⟩ := hc0.shape
  have hone : ∀ u ∈ us0, u.oneCell' = true := by
    intro u hu
    obtain ⟨i, hi, rfl⟩ := List.mem_iff_getElem.1 hu
    obtain ⟨a, c, h⟩ := (hs0 i (by omega) hi).shape
    rw [h]; rfl
  have HR := Lib.hid (roomy_box (.slice a l.length cap) l.length (bxCells l us0) 77 0 w hc0 (bxCells_length l us0 hu0) (bxCells_one l us0 hone) hz.len)
  have HU0 := Lib.hid hu0
  have HS0 := Lib.hid hs0
  have hl9 := hz.l
  have HZ := Lib.hid hz
  clear hu0 hc0 hs0 hone hz
  go_enter Try.func6, Try.ntmps6
  go_wp2_with fail
  (with_reducible refine (HR.out).mono ?_)
  rintro e w1 ⟨v1, rfl, hr, hb⟩
  obtain ⟨g, rfl, hg1, hg0⟩ := hr.shape
  have M0 := Lib.hid (show RmSt w w1 (.slice (some ⟨g, 0, none⟩) l.length (l.length + 3)) l us0 0 us0 from ⟨hb, HU0.out, hr, fun _ _ _ h => absurd h (Nat.not_lt_zero _), fun _ _ => rfl⟩)
  clear hr hb HR hg1
  go_wp2
  go_loopw [11] (fun i wr => ∃ (k : Nat) (us : List Value), k ≤ l.length ∧ i = .int .i64 k ∧ RmSt w wr (.slice (some ⟨g, 0, none⟩) l.length (l.length + 3)) l us0 k us) (fun i _ => l.length - (intOf i).toNat)
  case atStart => exact ⟨0, us0, Nat.zero_le _, rfl, M0.out⟩
  case round =>
    obtain ⟨k, us, hk, rfl, hM⟩ := hrel
    have M := Lib.hid hM
    clear M0 hM
    by_cases hlt : k < l.length
    · have hltb : decide ((k : Int) < (l.length : Int)) = true := by simp; omega
      have hul := M.out.len
      have hku : k < us.length := by omega
      have hku0 : k < us0.length := by have := HU0.out; omega
      obtain ⟨g', e1, e2, e3⟩ := M.out.row.row
      simp only [Value.slice.injEq, Option.some.injEq, Addr.mk.injEq, and_true] at e1
      obtain ⟨rfl, -⟩ := e1
      have huk : us[k]? = some us0[k] := by rw [M.out.old k (Nat.le_refl _), List.getElem?_eq_getElem hku0]
      have d2 := cell_of_block (j := k * 3 + 2) e3 (by rw [List.getElem?_toArray, List.getElem?_append_left (by rw [bxCells_length _ _ hul]; omega), (bxCells_at hul hlt).2.2]; exact huk)
      have hgw := hlt_of e3
      have hsp := (HS0.out k hlt hku0).below M.out.bel
      have HRS := Lib.hid (roomy_span us0[k] l[k].sp.length (spansCells l[k].sp) 78 0 wr hsp (spansCells_length _) (spansCells_one _) (HZ.out.sp _ (List.getElem_mem hlt)))
      have HST := Lib.hid (fun w2 (hb : Below wr.heap.size wr w2) u (hu : Roomy w2 wr.heap.size 60 2 u l[k].sp.length (spansCells l[k].sp) spS) => M.out.step hlt hb hu)
      obtain ⟨sa, sc, hss⟩ := hsp.shape
      clear e3 e2 hul hku hsp
      generalize us0[k] = u0 at *
      subst hss
      go_wp2_with fail
      (with_reducible refine (HRS.out).mono ?_)
      rintro e w2 ⟨u', rfl, hu', hb2⟩
      have HN := Lib.hid (HST.out w2 hb2 u' hu')
      obtain ⟨gu, rfl, -, -⟩ := hu'.shape
      obtain ⟨g', e1, e2, e3⟩ := (M.out.row.below hb2).row
      simp only [Value.slice.injEq, Option.some.injEq, Addr.mk.injEq, and_true] at e1
      obtain ⟨rfl, -⟩ := e1
      have d2' := ckeep hb2 d2
      have hf := free_of_block (j := k * 3 + 2) e3
      have hgw2 := hlt_of e3
      clear e3 e2 hu' hb2 HRS HST d2 huk M
      go_wp2
      go_roundw
      case rel => exact ⟨k + 1, _, by omega, by go_num, HN.out⟩
      case measure => simp [intOf] <;> omega
    · obtain rfl : k = l.length := by omega
      have HF := Lib.hid M.out.done
      have HB := Lib.hid M.out.bel
      clear M
      go_wp2
      go_ret
      exact ⟨_, rfl, HF.out, HB.out⟩
set_option maxRecDepth 100000 in
set_option maxHeartbeats 4000000 in
theorem kept_c (v v2 : Value) (base : Nat) (l : Bxs) (w : World) (hv : RoomF w base v l) (hv2 : BxsAt w v2 l) (hz : SzF l) :
    Calls Try.prog 13 #[v, v2] w fun e w' => e = .returned (.bool true) ∧ Below w.heap.size w w' := by
  have HA := Lib.hid (hv.at_ hz.l hz.s)
  obtain ⟨us, hu, hr, hs⟩ := hv
  obtain ⟨g, rfl, hg, -⟩ := hr.shape
  obtain ⟨a2, c2, rfl⟩ := hv2.shape
  have HR := Lib.hid hr
  have HU := Lib.hid hu
  have HS := Lib.hid hs
  have H2 := Lib.hid hv2
  have HZ := Lib.hid hz
  have hl9 := hz.l
  clear hv2 hr hu hs hz
  go_enter Try.func13, Try.ntmps13
  go_wp2
  go_loopw [11] (fun i wr => ∃ k : Nat, k ≤ l.length ∧ i = .int .i64 k ∧ Below w.heap.size w wr) (fun i _ => l.length - (intOf i).toNat)
  case atStart => exact ⟨0, Nat.zero_le _, rfl, Below.refl _ _⟩
  case round =>
    obtain ⟨k, hk, rfl, hb⟩ := hrel
    have HB := Lib.hid hb
    clear hb
    by_cases hlt : k < l.length
    · have hltb : decide ((k : Int) < (l.length : Int)) = true := by simp; omega
      have hku : k < us.length := by have := HU.out; omega
      obtain ⟨g', e1, e2, e3⟩ := (HR.out.below HB.out).row
      simp only [Value.slice.injEq, Option.some.injEq, Addr.mk.injEq, and_true] at e1
      obtain ⟨rfl, -⟩ := e1
      obtain ⟨b0, b1, b2⟩ := bxCells_at HU.out hlt
      have hbl := bxCells_length _ _ HU.out
      have d0 := cell_of_block (j := k * 3) e3 (by rw [List.getElem?_toArray, List.getElem?_append_left (by rw [hbl]; omega)]; exact b0)
      have d1 := cell_of_block (j := k * 3 + 1) e3 (by rw [List.getElem?_toArray, List.getElem?_append_left (by rw [hbl]; omega)]; exact b1)
      have d2 := cell_of_block (j := k * 3 + 2) e3 (by rw [List.getElem?_toArray, List.getElem?_append_left (by rw [hbl]; omega), b2]; exact List.getElem?_eq_getElem hku)
      have hgw := hlt_of e3
      have HSK := Lib.hid ((HS.out k hlt hku).below HB.out)
      obtain ⟨gu, hgu, -, -⟩ := HSK.out.shape
      have hsl := HZ.out.s _ (List.getElem_mem hlt)
      clear e3 e2 b0 b1 b2 hbl
      generalize us[k] = uk at *
      subst hgu
      generalize l[k] = bk at *
      have HB1 := Lib.hid (show Below wr.heap.size wr (wr.alloc (.cells #[.int .i64 bk.y, .int .i64 bk.n, .slice (some ⟨gu, 0, none⟩) bk.sp.length (bk.sp.length + 3)] 57)) from bal _)
      have HMK := Lib.hid (marked_span _ base bk.sp.length (spansCells bk.sp) 78 0 _ (HSK.out.below HB1.out) hsl)
      go_wp2_with fail
      (with_reducible refine (HMK.out).mono ?_)
      rintro e w2 ⟨rfl, hb2⟩
      have HN := Lib.hid (bstep (bstep HB.out HB1.out) hb2)
      clear hb2 HMK HB1 HSK d0 d1 d2 HB
      go_wp2
      go_roundw
      case rel => exact ⟨k + 1, by omega, by go_num, HN.out⟩
      case measure => simp [intOf] <;> omega
    · obtain rfl : k = l.length := by omega
      have hq3 : (l.length : Int) + 3 - l.length = 3 := by omega
      have hq4 : l.length + 3 - l.length = 3 := by omega
      obtain ⟨w3, hw3⟩ : ∃ w3, w3 = wr := ⟨_, rfl⟩
      rw [← hw3] at HB ⊢
      clear hw3 hlt hk
      go_wp2
      go_loopw [28] (fun v wr => ∃ i : Nat, i ≤ 3 ∧ v = .int .i64 i ∧ Below w.heap.size w wr) (fun v _ => 3 - (intOf v).toNat)
      case atStart => exact ⟨0, by omega, rfl, HB.out⟩
      case round =>
        obtain ⟨i, hi, rfl, hb⟩ := hrel
        clear HB
        have HB := Lib.hid hb
        clear hb
        by_cases hlt : i < 3
        · have hltb : decide ((i : Int) < 3) = true := by simp; omega
          have HRW := HR.out.below HB.out
          unfold spB at HRW
          have c0 := HRW.spare rfl hlt (j := 0) (by decide) rfl
          have c1 := HRW.spare rfl hlt (j := 1) (by decide) rfl
          have c2 := HRW.spare rfl hlt (j := 2) (by decide) rfl
          have hgw : g < wr.heap.size := Nat.lt_of_lt_of_le hg HB.out.size
          clear HRW
          simp only [Nat.add_zero, ← Nat.add_assoc] at c0 c1 c2
          go_wp2
          go_roundw
          case rel => exact ⟨i + 1, by omega, by go_num, bstep HB.out (bal _)⟩
          case measure => simp [intOf] <;> omega
        · obtain rfl : i = 3 := by omega
          have HSM := Lib.hid (sameFil_c _ _ l l wr (HA.out.below HB.out) (H2.out.below HB.out))
          go_wp2_with fail
          (with_reducible refine (HSM.out).mono ?_)
          rintro e w4 ⟨q, rfl, hq, hb4⟩
          obtain rfl : q = true := by simpa using hq
          have HN := Lib.hid (bstep HB.out hb4)
          clear hb4 HSM hq
          go_wp2
          go_ret
          exact ⟨rfl, HN.out⟩
end Go.Proofs.Ytboakoipdfmpcaa
namespace Go.Proofs.Ytboakoipdfmpcaa
open Go.RowKit
/-- A filter: its row, the rows of its boxes, the boxes. -/
structure Fz where
  v : Value
  us : List Value
  l : Bxs
def fzS (z : Fz) (q : Nat) : Prop := z.v.ownBlock = some q ∨ ∃ y ∈ z.us, y.ownBlock = some q
structure FzOwn (w : World) (base : Nat) (z : Fz) : Prop where
  len : z.us.length = z.l.length
  row : w.ownsRow base 57 3 z.v z.l.length (bxCells z.l z.us)
  each : ∀ i (h : i < z.l.length) (h' : i < z.us.length), w.ownsRow base 60 2 z.us[i] z.l[i].sp.length (spansCells z.l[i].sp)
set_option maxRecDepth 100000 in
set_option maxHeartbeats 4000000 in
theorem waste_s (v : Value) (lo : Nat) (us : List Value) (l : Bxs) (w : World) (hv : FzOwn w lo ⟨v, us, l⟩) (hz : SzF l) :
    Calls Try.prog 16 #[v] w fun e w' => e = .returned (.tuple #[]) ∧ Sp (fzS ⟨v, us, l⟩) w w' := by
  obtain ⟨hu, hr, hs⟩ := hv
  simp only at hu hr hs
  obtain ⟨a, c, hva⟩ := owns_slice hr
  have HC := Lib.hid (CellsAt.of_owns hr hz.l)
  have HR := Lib.hid hr
  have HU := Lib.hid hu
  have HS := Lib.hid hs
  have hl9 := hz.l
  subst hva
  clear hr hu hs hz
  go_enter Try.func16, Try.ntmps16
  go_wp2
  go_loopw [6] (fun i wr => ∃ k : Nat, k ≤ l.length ∧ i = .int .i64 k ∧ Sp (fun k => (∃ y ∈ us, y.ownBlock = some k) ∧ (Value.slice a l.length c).ownBlock ≠ some k) w wr) (fun i _ => l.length - (intOf i).toNat)
  case atStart => exact ⟨0, Nat.zero_le _, rfl, Sp.refl _ _⟩
  case round =>
    obtain ⟨k, hk, rfl, hb⟩ := hrel
    have HB := Lib.hid hb
    clear hb
    by_cases hlt : k < l.length
    · have hltb : decide ((k : Int) < (l.length : Int)) = true := by simp; omega
      have hku : k < us.length := by have := HU.out; omega
      obtain ⟨a', c', e1, -, -, -, e2⟩ := HC.out
      simp only [Value.slice.injEq, true_and] at e1
      obtain ⟨rfl, rfl⟩ := e1
      rcases e2 with hnil | ⟨b, off, rfl, hbw, hcc⟩
      · have := bxCells_length _ _ HU.out; rw [hnil] at this; simp at this; omega
      obtain ⟨b0, b1, b2⟩ := bxCells_at HU.out hlt
      have hkeep := fun j x (h : (bxCells l us)[j]? = some x) => (show wr.cell? ⟨b, off + j, none⟩ = some x from (HB.out.cell (p := ⟨b, off + j, none⟩) hbw (by simp [Value.ownBlock])).trans (hcc j x h))
      have d0 := hkeep _ _ b0
      have d1 := hkeep _ _ b1
      have d2 := hkeep _ _ (b2.trans (List.getElem?_eq_getElem hku))
      have hgw : b < wr.heap.size := Nat.lt_of_lt_of_le hbw HB.out.size
      rw [← Nat.add_assoc] at d1 d2
      have HSK := Lib.hid ((ShRow.of_owns (HS.out k hlt hku)).sp HB.out)
      have HNE := Lib.hid (show ∀ q, us[k].ownBlock = some q → (∃ y ∈ us, y.ownBlock = some q) ∧ (Value.slice (some ⟨b, off, none⟩) l.length c).ownBlock ≠ some q from fun q hq => ⟨⟨_, List.getElem_mem hku, hq⟩, fun h => by
        obtain ⟨cs, h1⟩ := owns_type HR.out h
        obtain ⟨cs2, h2⟩ := owns_type (HS.out k hlt hku) hq
        rw [h1] at h2
        simp only [Option.some.injEq, Obj.cells.injEq] at h2
        exact absurd h2.2.1 (by decide)⟩)
      obtain ⟨ua, uc, hus⟩ := owns_slice (HS.out k hlt hku)
      clear hcc b0 b1 b2 hkeep
      generalize us[k] = uk at *
      subst hus
      generalize l[k] = bk at *
      have HB1 := Lib.hid (show Below wr.heap.size wr (wr.alloc (.cells #[.int .i64 bk.y, .int .i64 bk.n, .slice ua bk.sp.length uc] 57)) from bal _)
      have HMK := Lib.hid (spoil_span _ 5 0 _ (HSK.out.sp (S := fun _ => False) (Sp.of_below HB1.out)))
      go_wp2_with fail
      (with_reducible refine (HMK.out).mono ?_)
      rintro e w2 ⟨rfl, hs2⟩
      have HN := Lib.hid (HB.out.trans ((Sp.of_below HB1.out).trans (hs2.mono HNE.out)))
      clear hs2 HMK HB1 HSK d0 d1 d2 HB
      go_wp2
      go_roundw
      case rel => exact ⟨k + 1, by omega, by go_num, HN.out⟩
      case measure => simp [intOf] <;> omega
    · obtain rfl : k = l.length := by omega
      have HSB := Lib.hid (spoil_box _ 0 5 wr ((ShRow.of_owns HR.out).sp HB.out))
      go_wp2_with fail
      (with_reducible refine (HSB.out).mono ?_)
      rintro e w2 ⟨rfl, hs2⟩
      have HN := Lib.hid ((HB.out.mono (T := fzS ⟨.slice a l.length c, us, l⟩) fun _ h => .inr h.1).trans (hs2.mono fun q hq => .inl hq))
      clear hs2 HSB HB
      go_wp2
      refine bodyPost_end (v := .tuple #[]) ?_ rfl ?_
      · simp [results, Try.results16, go_sem]
      · exact ⟨rfl, HN.out⟩
end Go.Proofs.Ytboakoipdfmpcaa
