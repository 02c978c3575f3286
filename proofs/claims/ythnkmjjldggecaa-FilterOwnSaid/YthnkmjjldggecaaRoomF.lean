/- What the laws' room, kept and waste do to a filter. -/
import Derived.Test.YthnkmjjldggecaaRoomF0
import Derived.Test.YthnkmjjldggecaaRoomy
import Derived.Test.YthnkmjjldggecaaSpoil
import Derived.Test.YthnkmjjldggecaaMSameB
namespace Go.Proofs.Ythnkmjjldggecaa
open Go.RowKit
theorem bxCells_one (l : Bxs) (us : List Value) (h : ∀ u ∈ us, u.oneCell' = true) : ∀ u ∈ bxCells l us, u.oneCell' = true := by
  induction l generalizing us with
  | nil => simp [bxCells]
  | cons b l ih =>
    cases us with
    | nil => simp [bxCells]
    | cons u us =>
      intro x hx
      simp only [bxCells, List.mem_cons] at hx
      rcases hx with rfl | rfl | rfl | hx
      · rfl
      · rfl
      · exact h _ List.mem_cons_self
      · exact ih us (fun y hy => h y (List.mem_cons_of_mem _ hy)) x hx
set_option maxRecDepth 100000 in
set_option maxHeartbeats 4000000 in
theorem room_c (v : Value) (l : Bxs) (w : World) (hv : BxsAt w v l) (hz : SzF l) :
    Calls Try.prog 12 #[v] w fun e w' => ∃ v', e = .returned v' ∧ RoomF w' w.heap.size v' l ∧ Below w.heap.size w w' := by
  obtain ⟨us0, hu0, hc0, hs0⟩ := hv
  obtain ⟨a, cap, rfl⟩ := hc0.shape
  have hone : ∀ u ∈ us0, u.oneCell' = true := by
    intro u hu
    obtain ⟨i, hi, rfl⟩ := List.mem_iff_getElem.1 hu
    obtain ⟨a, c, h⟩ := (hs0 i (by omega) hi).shape
    rw [h]; rfl
  have HR := Lib.hid (roomy_box (.slice a l.length cap) l.length (bxCells l us0) 77 0 w hc0 (bxCells_length l us0 hu0) (bxCells_one l us0 hone) hz.len)
  have HU0 := Lib.hid hu0
  have HS0 := Lib.hid hs0
  have hl9 := hz.l
  have HZ := Lib.hid hz
  clear hu0 hc0 hs0 hone hz
  go_enter Try.func12, Try.ntmps12
  go_wp2_with fail
  (with_reducible refine (HR.out).mono ?_)
  rintro e w1 ⟨v1, rfl, hr, hb⟩
  obtain ⟨g, rfl, hg1, hg0⟩ := hr.shape
  have M0 := Lib.hid (show RmSt w w1 (.slice (some ⟨g, 0, none⟩) l.length (l.length + 3)) l us0 0 us0 from ⟨hb, HU0.out, hr, fun _ _ _ h => absurd h (Nat.not_lt_zero _), fun _ _ => rfl⟩)
  clear hr hb HR hg1
  go_wp2
  go_loopw [11] (fun i wr => ∃ (k : Nat) (us : List Value), k ≤ l.length ∧ i = .int .i64 k ∧ RmSt w wr (.slice (some ⟨g, 0, none⟩) l.length (l.length + 3)) l us0 k us) (fun i _ => l.length - (intOf i).toNat)
  case atStart => exact ⟨0, us0, Nat.zero_le _, rfl, M0.out⟩
  case round =>
    obtain ⟨k, us, hk, rfl, hM⟩ := hrel
    have M := Lib.hid hM
    clear M0 hM
    by_cases hlt : k < l.length
    · have hltb : decide ((k : Int) < (l.length : Int)) = true := by simp; omega
      have hul := M.out.len
      have hku : k < us.length := by omega
      have hku0 : k < us0.length := by have := HU0.out; omega
      obtain ⟨g', e1, e2, e3⟩ := M.out.row.row
      simp only [Value.slice.injEq, Option.some.injEq, Addr.mk.injEq, and_true] at e1
      obtain ⟨rfl, -⟩ := e1
      have huk : us[k]? = some us0[k] := by rw [M.out.old k (Nat.le_refl _), List.getElem?_eq_getElem hku0]
      have d2 := cell_of_block (j := k * 3 + 2) e3 (by rw [List.getElem?_toArray, List.getElem?_append_left (by rw [bxCells_length _ _ hul]; omega), (bxCells_at hul hlt).2.2]; exact huk)
      have hgw := hlt_of e3
      have hsp := (HS0.out k hlt hku0).below M.out.bel
      have HRS := Lib.hid (roomy_span us0[k] l[k].sp.length (spansCells l[k].sp) 78 0 wr hsp (spansCells_length _) (spansCells_one _) (HZ.out.sp _ (List.getElem_mem hlt)))
      have HST := Lib.hid (fun w2 (hb : Below wr.heap.size wr w2) u (hu : Roomy w2 wr.heap.size 50 2 u l[k].sp.length (spansCells l[k].sp) spS) => M.out.step hlt hb hu)
      obtain ⟨sa, sc, hss⟩ := hsp.shape
      clear e3 e2 hul hku hsp
      generalize us0[k] = u0 at *
      subst hss
      go_wp2_with fail
      (with_reducible refine (HRS.out).mono ?_)
      rintro e w2 ⟨u', rfl, hu', hb2⟩
      have HN := Lib.hid (HST.out w2 hb2 u' hu')
      obtain ⟨gu, rfl, -, -⟩ := hu'.shape
      obtain ⟨g', e1, e2, e3⟩ := (M.out.row.below hb2).row
      simp only [Value.slice.injEq, Option.some.injEq, Addr.mk.injEq, and_true] at e1
      obtain ⟨rfl, -⟩ := e1
      have d2' := ckeep hb2 d2
      have hf := free_of_block (j := k * 3 + 2) e3
      have hgw2 := hlt_of e3
      clear e3 e2 hu' hb2 HRS HST d2 huk M
      go_wp2
      go_roundw
      case rel => exact ⟨k + 1, _, by omega, by go_num, HN.out⟩
      case measure => simp [intOf] <;> omega
    · obtain rfl : k = l.length := by omega
      have HF := Lib.hid M.out.done
      have HB := Lib.hid M.out.bel
      clear M
      go_wp2
      go_ret
      exact ⟨_, rfl, HF.out, HB.out⟩
set_option maxRecDepth 100000 in
set_option maxHeartbeats 4000000 in
theorem kept_c (v v2 : Value) (base : Nat) (l : Bxs) (w : World) (hv : RoomF w base v l) (hv2 : BxsAt w v2 l) (hz : SzF l) :
    Calls Try.prog 22 #[v, v2] w fun e w' => e = .returned (.bool true) ∧ Below w.heap.size w w' := by
  have HA := Lib.hid (hv.at_ hz.l hz.s)
  obtain ⟨us, hu, hr, hs⟩ := hv
  obtain ⟨g, rfl, hg, -⟩ := hr.shape
  obtain ⟨a2, c2, rfl⟩ := hv2.shape
  have HR := Lib.hid hr
  have HU := Lib.hid hu
  have HS := Lib.hid hs
  have H2 := Lib.hid hv2
  have HZ := Lib.hid hz
  have hl9 := hz.l
  clear hv2 hr hu hs hz
  go_enter Try.func22, Try.ntmps22
  go_wp2
  go_loopw [11] (fun i wr => ∃ k : Nat, k ≤ l.length ∧ i = .int .i64 k ∧ Below w.heap.size w wr) (fun i _ => l.length - (intOf i).toNat)
  case atStart => exact ⟨0, Nat.zero_le _, rfl, Below.refl _ _⟩
  case round =>
    obtain ⟨k, hk, rfl, hb⟩ := hrel
    have HB := Lib.hid hb
    clear hb
    by_cases hlt : k < l.length
    · have hltb : decide ((k : Int) < (l.length : Int)) = true := by simp; omega
      have hku : k < us.length := by have := HU.out; omega
      obtain ⟨g', e1, e2, e3⟩ := (HR.out.below HB.out).row
      simp only [Value.slice.injEq, Option.some.injEq, Addr.mk.injEq, and_true] at e1
      obtain ⟨rfl, -⟩ := e1
      obtain ⟨b0, b1, b2⟩ := bxCells_at HU.out hlt
      have hbl := bxCells_length _ _ HU.out
      have d0 := cell_of_block (j := k * 3) e3 (by rw [List.getElem?_toArray, List.getElem?_append_left (by rw [hbl]; omega)]; exact b0)
      have d1 := cell_of_block (j := k * 3 + 1) e3 (by rw [List.getElem?_toArray, List.getElem?_append_left (by rw [hbl]; omega)]; exact b1)
      have d2 := cell_of_block (j := k * 3 + 2) e3 (by rw [List.getElem?_toArray, List.getElem?_append_left (by rw [hbl]; omega), b2]; exact List.getElem?_eq_getElem hku)
      have hgw := hlt_of e3
      have HSK := Lib.hid ((HS.out k hlt hku).below HB.out)
      obtain ⟨gu, hgu, -, -⟩ := HSK.out.shape
      have hsl := HZ.out.s _ (List.getElem_mem hlt)
      clear e3 e2 b0 b1 b2 hbl
      generalize us[k] = uk at *
      subst hgu
      generalize l[k] = bk at *
      have HB1 := Lib.hid (show Below wr.heap.size wr (wr.alloc (.cells #[.int .i64 bk.y, .int .i64 bk.n, .slice (some ⟨gu, 0, none⟩) bk.sp.length (bk.sp.length + 3)] 125)) from bal _)
      have HMK := Lib.hid (marked_span _ base bk.sp.length (spansCells bk.sp) 78 0 _ (HSK.out.below HB1.out) hsl)
      go_wp2_with fail
      (with_reducible refine (HMK.out).mono ?_)
      rintro e w2 ⟨rfl, hb2⟩
      have HN := Lib.hid (bstep (bstep HB.out HB1.out) hb2)
      clear hb2 HMK HB1 HSK d0 d1 d2 HB
      go_wp2
      go_roundw
      case rel => exact ⟨k + 1, by omega, by go_num, HN.out⟩
      case measure => simp [intOf] <;> omega
    · obtain rfl : k = l.length := by omega
      have hq3 : (l.length : Int) + 3 - l.length = 3 := by omega
      have hq4 : l.length + 3 - l.length = 3 := by omega
      obtain ⟨w3, hw3⟩ : ∃ w3, w3 = wr := ⟨_, rfl⟩
      rw [← hw3] at HB ⊢
      clear hw3 hlt hk
      go_wp2
      go_loopw [28] (fun v wr => ∃ i : Nat, i ≤ 3 ∧ v = .int .i64 i ∧ Below w.heap.size w wr) (fun v _ => 3 - (intOf v).toNat)
      case atStart => exact ⟨0, by omega, rfl, HB.out⟩
      case round =>
        obtain ⟨i, hi, rfl, hb⟩ := hrel
        clear HB
        have HB := Lib.hid hb
        clear hb
        by_cases hlt : i < 3
        · have hltb : decide ((i : Int) < 3) = true := by simp; omega
          have HRW := HR.out.below HB.out
          unfold spB at HRW
          have c0 := HRW.spare rfl hlt (j := 0) (by decide) rfl
          have c1 := HRW.spare rfl hlt (j := 1) (by decide) rfl
          have c2 := HRW.spare rfl hlt (j := 2) (by decide) rfl
          have hgw : g < wr.heap.size := Nat.lt_of_lt_of_le hg HB.out.size
          clear HRW
          simp only [Nat.add_zero, ← Nat.add_assoc] at c0 c1 c2
          go_wp2
          go_roundw
          case rel => exact ⟨i + 1, by omega, by go_num, bstep HB.out (bal _)⟩
          case measure => simp [intOf] <;> omega
        · obtain rfl : i = 3 := by omega
          have HSM := Lib.hid (sameFil_c _ _ l l wr (HA.out.below HB.out) (H2.out.below HB.out))
          go_wp2_with fail
          (with_reducible refine (HSM.out).mono ?_)
          rintro e w4 ⟨q, rfl, hq, hb4⟩
          obtain rfl : q = true := by simpa using hq
          have HN := Lib.hid (bstep HB.out hb4)
          clear hb4 HSM hq
          go_wp2
          go_ret
          exact ⟨rfl, HN.out⟩
set_option maxRecDepth 100000 in
set_option maxHeartbeats 4000000 in
theorem waste_c (v : Value) (lo hi : Nat) (l : Bxs) (w : World) (hv : OwnF w lo hi v l) (hz : SzF l) :
    Calls Try.prog 29 #[v] w fun e w' => e = .returned (.tuple #[]) ∧ Sp (fun k => lo ≤ k ∧ k < hi) w w' := by
  obtain ⟨us, hu, hr, hs, hiv, hiu⟩ := hv
  obtain ⟨a, c, hva⟩ := owns_slice hr
  have HC := Lib.hid (CellsAt.of_owns hr hz.l)
  have HR := Lib.hid hr
  have HU := Lib.hid hu
  have HS := Lib.hid hs
  have HIV := Lib.hid hiv
  have HIU := Lib.hid hiu
  have hl9 := hz.l
  subst hva
  clear hr hu hs hiv hiu hz
  go_enter Try.func29, Try.ntmps29
  go_wp2
  go_loopw [6] (fun i wr => ∃ k : Nat, k ≤ l.length ∧ i = .int .i64 k ∧ Sp (fun k => (lo ≤ k ∧ k < hi) ∧ (Value.slice a l.length c).ownBlock ≠ some k) w wr) (fun i _ => l.length - (intOf i).toNat)
  case atStart => exact ⟨0, Nat.zero_le _, rfl, Sp.refl _ _⟩
  case round =>
    obtain ⟨k, hk, rfl, hb⟩ := hrel
    have HB := Lib.hid hb
    clear hb
    by_cases hlt : k < l.length
    · have hltb : decide ((k : Int) < (l.length : Int)) = true := by simp; omega
      have hku : k < us.length := by have := HU.out; omega
      obtain ⟨a', c', e1, -, -, -, e2⟩ := HC.out
      simp only [Value.slice.injEq, true_and] at e1
      obtain ⟨rfl, rfl⟩ := e1
      rcases e2 with hnil | ⟨b, off, rfl, hbw, hcc⟩
      · have := bxCells_length _ _ HU.out; rw [hnil] at this; simp at this; omega
      obtain ⟨b0, b1, b2⟩ := bxCells_at HU.out hlt
      have hkeep := fun j x (h : (bxCells l us)[j]? = some x) => (show wr.cell? ⟨b, off + j, none⟩ = some x from (HB.out.cell (p := ⟨b, off + j, none⟩) hbw (by simp [Value.ownBlock])).trans (hcc j x h))
      have d0 := hkeep _ _ b0
      have d1 := hkeep _ _ b1
      have d2 := hkeep _ _ (b2.trans (List.getElem?_eq_getElem hku))
      have hgw : b < wr.heap.size := Nat.lt_of_lt_of_le hbw HB.out.size
      rw [← Nat.add_assoc] at d1 d2
      have HSK := Lib.hid ((ShRow.of_owns (HS.out k hlt hku)).sp HB.out)
      have HNE := Lib.hid (show ∀ q, us[k].ownBlock = some q → (lo ≤ q ∧ q < hi) ∧ (Value.slice (some ⟨b, off, none⟩) l.length c).ownBlock ≠ some q from fun q hq => ⟨HIU.out _ (List.getElem_mem hku) q hq, fun h => by
        obtain ⟨cs, h1⟩ := owns_type HR.out h
        obtain ⟨cs2, h2⟩ := owns_type (HS.out k hlt hku) hq
        rw [h1] at h2
        simp only [Option.some.injEq, Obj.cells.injEq] at h2
        exact absurd h2.2.1 (by decide)⟩)
      obtain ⟨ua, uc, hus⟩ := owns_slice (HS.out k hlt hku)
      clear hcc b0 b1 b2 hkeep
      generalize us[k] = uk at *
      subst hus
      generalize l[k] = bk at *
      have HB1 := Lib.hid (show Below wr.heap.size wr (wr.alloc (.cells #[.int .i64 bk.y, .int .i64 bk.n, .slice ua bk.sp.length uc] 125)) from bal _)
      have HMK := Lib.hid (spoil_span _ 5 0 _ (HSK.out.sp (S := fun _ => False) (Sp.of_below HB1.out)))
      go_wp2_with fail
      (with_reducible refine (HMK.out).mono ?_)
      rintro e w2 ⟨rfl, hs2⟩
      have HN := Lib.hid (HB.out.trans ((Sp.of_below HB1.out).trans (hs2.mono HNE.out)))
      clear hs2 HMK HB1 HSK d0 d1 d2 HB
      go_wp2
      go_roundw
      case rel => exact ⟨k + 1, by omega, by go_num, HN.out⟩
      case measure => simp [intOf] <;> omega
    · obtain rfl : k = l.length := by omega
      have HSB := Lib.hid (spoil_box _ 0 5 wr ((ShRow.of_owns HR.out).sp HB.out))
      go_wp2_with fail
      (with_reducible refine (HSB.out).mono ?_)
      rintro e w2 ⟨rfl, hs2⟩
      have HN := Lib.hid ((HB.out.mono fun _ h => h.1).trans (hs2.mono fun q hq => HIV.out q hq))
      clear hs2 HSB HB
      go_wp2
      refine bodyPost_end (v := .tuple #[]) ?_ rfl ?_
      · simp [results, Try.results29, go_sem]
      · exact ⟨rfl, HN.out⟩
end Go.Proofs.Ythnkmjjldggecaa
