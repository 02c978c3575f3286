/- What the laws' roomy does: a copy with three elements behind it. Written by a small program (gen/roomy.py). -/
import Derived.Test.YthnkmjjldggecaaRoom0
import Derived.Test.YthnkmjjldggecaaMClaims
import Derived.Test.YthnkmjjldggecaaMixed
namespace Go.Proofs.Ythnkmjjldggecaa
open Go.RowKit
set_option maxRecDepth 100000 in
theorem RmTy.int : (Try.prog.info? 3).map (fun i => (i.zero, i.size, i.bytes)) = some (some (.int .i64 0), 1, 8) := by kernel_rfl
set_option maxRecDepth 100000 in
set_option maxHeartbeats 4000000 in
theorem roomy_int (v : Value) (n : Nat) (xs : List Value) (a0 : Int) (w : World) (hv : CellsAt w v n xs) (hl : xs.length = n * 1) (h1 : ∀ u ∈ xs, u.oneCell' = true) (hn : n * 8 ≤ 140737488355328) :
    Calls Try.prog 13 #[v, (.int .i64 a0)] w fun e w' => ∃ v', e = .returned v' ∧ Roomy w' w.heap.size 3 1 v' n xs (List.replicate 3 ([.int .i64 a0] : List Value)).flatten ∧ Below w.heap.size w w' := by
  obtain ⟨va, vc, rfl⟩ := hv.shape
  obtain ⟨W, hW⟩ : ∃ W, W = w := ⟨_, rfl⟩
  have hbw : Below w.heap.size w W := by rw [hW]; exact Below.refl _ _
  have hsw : W.heap.size = w.heap.size + 0 := by rw [hW]; rfl
  obtain ⟨w2, hmk, hown, hb2⟩ := mk_room (P := Try.prog) W 23 3 (.int .i64 0) 1 8 Try.underlying23 RmTy.int (n + 3) ((n : Int) + 3) rfl (by omega) (by unfold maxLen; omega)
  rw [hsw] at hmk hown
  obtain ⟨g, hg⟩ : ∃ g, g = w.heap.size + 0 := ⟨_, rfl⟩
  rw [← hg] at hmk hown
  have HBX := Lib.hid (show ([] : List Value) ≠ [] → w2.heap[w.heap.size]? = some (.cells ([] : List Value).toArray 3 (0, 0)) from fun h => absurd rfl h)
  have HB2 := Lib.hid (bstep hbw hb2)
  have HV := Lib.hid ((hv.below hbw).below hb2)
  have HO := Lib.hid hown
  have H1 := Lib.hid h1
  have HN := Lib.hid hn
  have hn9 : n ≤ 140737488355328 := by omega
  have HG := Lib.hid hg
  have HL := Lib.hid hl
  rw [hW] at hmk
  clear hv hbw hb2 hown h1 hn hsw hg
  go_enter Try.func13, Try.ntmps13
  go_wp2_with (at_builtin; refine wpList_append_spare2 rfl (.tmp 10) (.tmp 11) 23 rfl g 3 (.int .i64 0) 1 8 Try.underlying23 RmTy.int (by decide) g 0 (n + 3) [] rfl HO.out _ n xs rfl HV.out HL.out H1.out (by omega) ?_)
  rintro w3 hown3 hgr3
  have hb3 : Below w.heap.size w w3 := HB2.out.grown hgr3 HB2.out.size (fun k hk => by have := HG.out; simp at hk; omega)
  have HS := Lib.hid (RSt.start (xc := [.int .i64 a0]) (X := []) hb3 (by have := HG.out; omega) (by intro h; exact absurd rfl h) (fun h => absurd rfl h) hown3)
  clear hown3 hgr3 hb3 HBX HO H1 hmk hW
  try rw [Nat.zero_add]
  go_wp2
  go_loopw [13] (fun v wr => ∃ i : Nat, i ≤ 3 ∧ v = .int .i64 i ∧ RSt w wr 3 1 g n xs [.int .i64 a0] [] i) (fun v _ => 3 - (intOf v).toNat)
  case atStart => exact ⟨0, by omega, rfl, HS.out⟩
  case round =>
    obtain ⟨i, hi, rfl, hr⟩ := hrel
    clear HS HB2
    by_cases hlt : i < 3
    · have HR := Lib.hid hr
      have hltb : decide ((i : Int) < 3) = true := by simp; omega
      have HX := Lib.hid (hr.set rfl HL.out hlt)
      clear hr
      have HQ := HR.out
      obtain ⟨⟨q0, r0⟩, f0⟩ := HQ.cell rfl HL.out hlt 0 (by decide)
      have hRl := hlt_of HQ.blk.choose_spec.2
      clear HQ
      simp only [Nat.add_zero, Nat.mul_one] at r0 f0 HX
      go_wp2
      go_roundw
      case rel => exact ⟨i + 1, by omega, by go_num, HX.out⟩
      case measure => simp [intOf] <;> omega
    · obtain rfl : i = 3 := by omega
      have HR := Lib.hid (hr.done rfl HL.out (by unfold maxLen; omega))
      have HB := Lib.hid hr.bel
      clear hr
      go_wp2
      go_ret
      exact ⟨_, rfl, HR.out, HB.out⟩
set_option maxRecDepth 100000 in
theorem RmTy.span : (Try.prog.info? 50).map (fun i => (i.zero, i.size, i.bytes)) = some (some (.agg #[.int .i64 0, .int .i64 0]), 2, 16) := by kernel_rfl
set_option maxRecDepth 100000 in
set_option maxHeartbeats 4000000 in
theorem roomy_span (v : Value) (n : Nat) (xs : List Value) (a0 a1 : Int) (w : World) (hv : CellsAt w v n xs) (hl : xs.length = n * 2) (h1 : ∀ u ∈ xs, u.oneCell' = true) (hn : n * 16 ≤ 140737488355328) :
    Calls Try.prog 71 #[v, (.agg #[.int .i64 a0, .int .i64 a1])] w fun e w' => ∃ v', e = .returned v' ∧ Roomy w' w.heap.size 50 2 v' n xs (List.replicate 3 ([.int .i64 a0, .int .i64 a1] : List Value)).flatten ∧ Below w.heap.size w w' := by
  obtain ⟨va, vc, rfl⟩ := hv.shape
  obtain ⟨W, hW⟩ : ∃ W, W = w.alloc (.cells #[.int .i64 a0, .int .i64 a1] 50) := ⟨_, rfl⟩
  have hbw : Below w.heap.size w W := by rw [hW]; exact bal _
  have hsw : W.heap.size = w.heap.size + 1 := by rw [hW]; simp
  obtain ⟨w2, hmk, hown, hb2⟩ := mk_room (P := Try.prog) W 38 50 (.agg #[.int .i64 0, .int .i64 0]) 2 16 Try.underlying38 RmTy.span (n + 3) ((n : Int) + 3) rfl (by omega) (by unfold maxLen; omega)
  rw [hsw] at hmk hown
  obtain ⟨g, hg⟩ : ∃ g, g = w.heap.size + 1 := ⟨_, rfl⟩
  rw [← hg] at hmk hown
  have HBX := Lib.hid (show ([.int .i64 a0, .int .i64 a1] : List Value) ≠ [] → w2.heap[w.heap.size]? = some (.cells ([.int .i64 a0, .int .i64 a1] : List Value).toArray 50 (0, 0)) from fun _ => below_keep hb2 (by rw [hW]; exact alloc_new _ _ _ _ rfl))
  have HB2 := Lib.hid (bstep hbw hb2)
  have HV := Lib.hid ((hv.below hbw).below hb2)
  have HO := Lib.hid hown
  have H1 := Lib.hid h1
  have HN := Lib.hid hn
  have hn9 : n ≤ 140737488355328 := by omega
  have HG := Lib.hid hg
  have HL := Lib.hid hl
  rw [hW] at hmk
  clear hv hbw hb2 hown h1 hn hsw hg
  go_enter Try.func71, Try.ntmps71
  skip
  go_wp2_with (at_builtin; refine wpList_append_spare2 rfl (.tmp 10) (.tmp 11) 38 rfl g 50 (.agg #[.int .i64 0, .int .i64 0]) 2 16 Try.underlying38 RmTy.span (by decide) g 0 (n + 3) [] rfl HO.out _ n xs rfl HV.out HL.out H1.out (by omega) ?_)
  rintro w3 hown3 hgr3
  have hb3 : Below w.heap.size w w3 := HB2.out.grown hgr3 HB2.out.size (fun k hk => by have := HG.out; simp at hk; omega)
  have HS := Lib.hid (RSt.start (xc := [.int .i64 a0, .int .i64 a1]) (X := [.int .i64 a0, .int .i64 a1]) hb3 (by have := HG.out; omega) (by intro _; have := HG.out; omega) (fun h => (hgr3.block _ (by have := hlt_of (HBX.out h); omega) (by have := HG.out; simp; omega)).trans (HBX.out h)) hown3)
  clear hown3 hgr3 hb3 HBX HO H1 hmk hW
  try rw [Nat.zero_add]
  go_wp2
  go_loopw [13] (fun v wr => ∃ i : Nat, i ≤ 3 ∧ v = .int .i64 i ∧ RSt w wr 50 2 g n xs [.int .i64 a0, .int .i64 a1] [.int .i64 a0, .int .i64 a1] i) (fun v _ => 3 - (intOf v).toNat)
  case atStart => exact ⟨0, by omega, rfl, HS.out⟩
  case round =>
    obtain ⟨i, hi, rfl, hr⟩ := hrel
    clear HS HB2
    by_cases hlt : i < 3
    · have HR := Lib.hid hr
      have hltb : decide ((i : Int) < 3) = true := by simp; omega
      have HX := Lib.hid (hr.set rfl HL.out hlt)
      clear hr
      go_wp2
      refine Cl.region0 29 rfl [11] (fun w => Below wr.heap.size wr w) (fun _ => []) (fun jq v ww => match jq with | 0 => v = .slice (some ⟨g, 0, none⟩) n (n + 3) | 1 => v = .slice va n vc | 2 => v = .int .i64 (n : Nat) | 3 => v = .int .i64 ((n : Int) + 3) | 4 => v = .slice (some ⟨g, 0, none⟩) (n + 3) (n + 3) | 5 => v = .slice va n vc | 6 => v = .int .i64 (n : Nat) | 7 => v = .int .i64 (i : Nat) | 8 => v = .int .i64 ((n : Int) + (i : Int)) | 9 => v = .agg #[.int .i64 a0, .int .i64 a1] | 10 => v = .pointer (some ⟨g, (n + i) * 2, none⟩) | 11 => RSt w ww 50 2 g n xs [.int .i64 a0, .int .i64 a1] [.int .i64 a0, .int .i64 a1] (i + 1) | _ => True) (fun ww => True) (fun jq ww ww' => jq ≠ 11 → Below ww.heap.size ww ww') Try.mixed (by decide +kernel) trivial ((Below.refl _ _).drew) ?_ (fun q w w' hk h hR => bstep h (hR (by simpa using hk))) ?_ ?_
      · intro q r v w w' hne hk hlt h hR
        match r, hk, hlt, h, hne with
        | 0, _, _, h, _ => exact h
        | 1, _, _, h, _ => exact h
        | 2, _, _, h, _ => exact h
        | 3, _, _, h, _ => exact h
        | 4, _, _, h, _ => exact h
        | 5, _, _, h, _ => exact h
        | 6, _, _, h, _ => exact h
        | 7, _, _, h, _ => exact h
        | 8, _, _, h, _ => exact h
        | 9, _, _, h, _ => exact h
        | 10, _, _, h, _ => exact h
        | 11, _, _, h, hne => exact h.below (hR (by exact hne))
        | _ + 12, _, _, _, _ => trivial
      · refine ⟨?_, ?_, ?_, ?_, ?_, ?_, ?_, ?_, ?_, ?_, ?_, ?_, trivial⟩
        · intro x wx hG
          have f5 := hG.old 5 (by decide +kernel)
          have hp := hG.pre (by decide +kernel)
          have hg := hG.good
          clear hG
          go_wp2
          exact ⟨_, rfl, rfl, hg, fun _ => Below.refl _ _⟩
        · intro x wx hG
          have f0 := hG.old 0 (by decide +kernel)
          have hp := hG.pre (by decide +kernel)
          have hg := hG.good
          clear hG
          go_wp2
          exact ⟨_, rfl, rfl, hg, fun _ => Below.refl _ _⟩
        · intro x wx hG
          have g1 : (x.tmps.getD 17 undef) = .slice va n vc := hG.claims 1 _ rfl (by decide +kernel) (by decide +kernel)
          have hp := hG.pre (by decide +kernel)
          have hg := hG.good
          clear hG
          go_wp2
          exact ⟨_, rfl, rfl, hg, fun _ => Below.refl _ _⟩
        · intro x wx hG
          have g2 : (x.tmps.getD 18 undef) = .int .i64 (n : Nat) := hG.claims 2 _ rfl (by decide +kernel) (by decide +kernel)
          have hp := hG.pre (by decide +kernel)
          have hg := hG.good
          clear hG
          go_wp2
          exact ⟨_, rfl, rfl, hg, fun _ => Below.refl _ _⟩
        · intro x wx hG
          have g0 : (x.tmps.getD 16 undef) = .slice (some ⟨g, 0, none⟩) n (n + 3) := hG.claims 0 _ rfl (by decide +kernel) (by decide +kernel)
          have g3 : (x.tmps.getD 19 undef) = .int .i64 ((n : Int) + 3) := hG.claims 3 _ rfl (by decide +kernel) (by decide +kernel)
          have hp := hG.pre (by decide +kernel)
          have hg := hG.good
          clear hG
          go_wp2
          exact ⟨_, rfl, rfl, hg, fun _ => Below.refl _ _⟩
        · intro x wx hG
          have f0 := hG.old 0 (by decide +kernel)
          have hp := hG.pre (by decide +kernel)
          have hg := hG.good
          clear hG
          go_wp2
          exact ⟨_, rfl, rfl, hg, fun _ => Below.refl _ _⟩
        · intro x wx hG
          have g5 : (x.tmps.getD 21 undef) = .slice va n vc := hG.claims 5 _ rfl (by decide +kernel) (by decide +kernel)
          have hp := hG.pre (by decide +kernel)
          have hg := hG.good
          clear hG
          go_wp2
          exact ⟨_, rfl, rfl, hg, fun _ => Below.refl _ _⟩
        · intro x wx hG
          have f6 := hG.old 6 (by decide +kernel)
          have hp := hG.pre (by decide +kernel)
          have hg := hG.good
          clear hG
          go_wp2
          exact ⟨_, rfl, rfl, hg, fun _ => Below.refl _ _⟩
        · intro x wx hG
          have g6 : (x.tmps.getD 22 undef) = .int .i64 (n : Nat) := hG.claims 6 _ rfl (by decide +kernel) (by decide +kernel)
          have g7 : (x.tmps.getD 23 undef) = .int .i64 (i : Nat) := hG.claims 7 _ rfl (by decide +kernel) (by decide +kernel)
          have hp := hG.pre (by decide +kernel)
          have hg := hG.good
          clear hG
          go_wp2
          exact ⟨_, rfl, rfl, hg, fun _ => Below.refl _ _⟩
        · intro x wx hG
          have f3 := hG.old 3 (by decide +kernel)
          have hp := hG.pre (by decide +kernel)
          have hg := hG.good
          clear hG
          have kb := (HR.out.below hp).box (by simp)
          have k0 := cell_of_block (j := 0) kb rfl
          have k1 := cell_of_block (j := 1) kb rfl
          have kl := hlt_of kb
          clear kb
          go_wp2
          exact ⟨_, rfl, rfl, hg, fun _ => Below.refl _ _⟩
        · intro x wx hG
          have g4 : (x.tmps.getD 20 undef) = .slice (some ⟨g, 0, none⟩) (n + 3) (n + 3) := hG.claims 4 _ rfl (by decide +kernel) (by decide +kernel)
          have g8 : (x.tmps.getD 24 undef) = .int .i64 ((n : Int) + (i : Int)) := hG.claims 8 _ rfl (by decide +kernel) (by decide +kernel)
          have hp := hG.pre (by decide +kernel)
          have hg := hG.good
          clear hG
          go_wp2
          exact ⟨_, rfl, rfl, hg, fun _ => Below.refl _ _⟩
        · intro x wx hG
          have g10 : (x.tmps.getD 26 undef) = .pointer (some ⟨g, (n + i) * 2, none⟩) := hG.claims 10 _ rfl (by decide +kernel) (by decide +kernel)
          have g9 : (x.tmps.getD 25 undef) = .agg #[.int .i64 a0, .int .i64 a1] := hG.claims 9 _ rfl (by decide +kernel) (by decide +kernel)
          have hp := hG.pre (by decide +kernel)
          have hg := hG.good
          clear hG
          have HQ := HR.out.below hp
          obtain ⟨⟨q0, r0⟩, f0⟩ := HQ.cell rfl HL.out hlt 0 (by decide)
          obtain ⟨⟨q1, r1⟩, f1⟩ := HQ.cell rfl HL.out hlt 1 (by decide)
          have HN9 := Lib.hid (HQ.set rfl HL.out hlt)
          have hRl := hlt_of HQ.blk.choose_spec.2
          clear HQ hp hg
          simp only [Nat.add_zero] at r0 f0
          go_wp2
          exact ⟨undef, rfl, HN9.out, trivial, fun h => absurd rfl h⟩
      · intro vals wz hg hF
        obtain ⟨g0, g1, g2, g3, g4, g5, g6, g7, g8, g9, g10, g11, -⟩ := hF
        have e0 : vals 0 = .slice (some ⟨g, 0, none⟩) n (n + 3) := g0 rfl
        have e1 : vals 1 = .slice va n vc := g1 rfl
        have e2 : vals 2 = .int .i64 (n : Nat) := g2 rfl
        have e3 : vals 3 = .int .i64 ((n : Int) + 3) := g3 rfl
        have e4 : vals 4 = .slice (some ⟨g, 0, none⟩) (n + 3) (n + 3) := g4 rfl
        have e5 : vals 5 = .slice va n vc := g5 rfl
        have e6 : vals 6 = .int .i64 (n : Nat) := g6 rfl
        have e7 : vals 7 = .int .i64 (i : Nat) := g7 rfl
        have e8 : vals 8 = .int .i64 ((n : Int) + (i : Int)) := g8 rfl
        have e9 : vals 9 = .agg #[.int .i64 a0, .int .i64 a1] := g9 rfl
        have e10 : vals 10 = .pointer (some ⟨g, (n + i) * 2, none⟩) := g10 rfl
        replace g11 : RSt w wz 50 2 g n xs [.int .i64 a0, .int .i64 a1] [.int .i64 a0, .int .i64 a1] (i + 1) := g11 rfl
        simp only [Cl.puts, e0, e1, e2, e3, e4, e5, e6, e7, e8, e9, e10]
        clear e0 e1 e2 e3 e4 e5 e6 e7 e8 e9 e10 g0 g1 g2 g3 g4 g5 g6 g7 g8 g9 g10
        go_simp
        go_wp2
        go_roundw
        case rel => exact ⟨i + 1, by omega, by go_num, g11⟩
        case measure => simp [intOf] <;> omega
    · obtain rfl : i = 3 := by omega
      have HR := Lib.hid (hr.done rfl HL.out (by unfold maxLen; omega))
      have HB := Lib.hid hr.bel
      clear hr
      go_wp2
      go_ret
      exact ⟨_, rfl, HR.out, HB.out⟩
set_option maxRecDepth 100000 in
theorem RmTy.node : (Try.prog.info? 30).map (fun i => (i.zero, i.size, i.bytes)) = some (some (.agg #[.int .i64 0, .int .i64 0, .int .i64 0]), 3, 24) := by kernel_rfl
set_option maxRecDepth 100000 in
set_option maxHeartbeats 4000000 in
theorem roomy_node (v : Value) (n : Nat) (xs : List Value) (a0 a1 a2 : Int) (w : World) (hv : CellsAt w v n xs) (hl : xs.length = n * 3) (h1 : ∀ u ∈ xs, u.oneCell' = true) (hn : n * 24 ≤ 140737488355328) :
    Calls Try.prog 14 #[v, (.agg #[.int .i64 a0, .int .i64 a1, .int .i64 a2])] w fun e w' => ∃ v', e = .returned v' ∧ Roomy w' w.heap.size 30 3 v' n xs (List.replicate 3 ([.int .i64 a0, .int .i64 a1, .int .i64 a2] : List Value)).flatten ∧ Below w.heap.size w w' := by
  obtain ⟨va, vc, rfl⟩ := hv.shape
  obtain ⟨W, hW⟩ : ∃ W, W = w.alloc (.cells #[.int .i64 a0, .int .i64 a1, .int .i64 a2] 30) := ⟨_, rfl⟩
  have hbw : Below w.heap.size w W := by rw [hW]; exact bal _
  have hsw : W.heap.size = w.heap.size + 1 := by rw [hW]; simp
  obtain ⟨w2, hmk, hown, hb2⟩ := mk_room (P := Try.prog) W 24 30 (.agg #[.int .i64 0, .int .i64 0, .int .i64 0]) 3 24 Try.underlying24 RmTy.node (n + 3) ((n : Int) + 3) rfl (by omega) (by unfold maxLen; omega)
  rw [hsw] at hmk hown
  obtain ⟨g, hg⟩ : ∃ g, g = w.heap.size + 1 := ⟨_, rfl⟩
  rw [← hg] at hmk hown
  have HBX := Lib.hid (show ([.int .i64 a0, .int .i64 a1, .int .i64 a2] : List Value) ≠ [] → w2.heap[w.heap.size]? = some (.cells ([.int .i64 a0, .int .i64 a1, .int .i64 a2] : List Value).toArray 30 (0, 0)) from fun _ => below_keep hb2 (by rw [hW]; exact alloc_new _ _ _ _ rfl))
  have HB2 := Lib.hid (bstep hbw hb2)
  have HV := Lib.hid ((hv.below hbw).below hb2)
  have HO := Lib.hid hown
  have H1 := Lib.hid h1
  have HN := Lib.hid hn
  have hn9 : n ≤ 140737488355328 := by omega
  have HG := Lib.hid hg
  have HL := Lib.hid hl
  rw [hW] at hmk
  clear hv hbw hb2 hown h1 hn hsw hg
  go_enter Try.func14, Try.ntmps14
  skip
  go_wp2_with (at_builtin; refine wpList_append_spare2 rfl (.tmp 10) (.tmp 11) 24 rfl g 30 (.agg #[.int .i64 0, .int .i64 0, .int .i64 0]) 3 24 Try.underlying24 RmTy.node (by decide) g 0 (n + 3) [] rfl HO.out _ n xs rfl HV.out HL.out H1.out (by omega) ?_)
  rintro w3 hown3 hgr3
  have hb3 : Below w.heap.size w w3 := HB2.out.grown hgr3 HB2.out.size (fun k hk => by have := HG.out; simp at hk; omega)
  have HS := Lib.hid (RSt.start (xc := [.int .i64 a0, .int .i64 a1, .int .i64 a2]) (X := [.int .i64 a0, .int .i64 a1, .int .i64 a2]) hb3 (by have := HG.out; omega) (by intro _; have := HG.out; omega) (fun h => (hgr3.block _ (by have := hlt_of (HBX.out h); omega) (by have := HG.out; simp; omega)).trans (HBX.out h)) hown3)
  clear hown3 hgr3 hb3 HBX HO H1 hmk hW
  try rw [Nat.zero_add]
  go_wp2
  go_loopw [13] (fun v wr => ∃ i : Nat, i ≤ 3 ∧ v = .int .i64 i ∧ RSt w wr 30 3 g n xs [.int .i64 a0, .int .i64 a1, .int .i64 a2] [.int .i64 a0, .int .i64 a1, .int .i64 a2] i) (fun v _ => 3 - (intOf v).toNat)
  case atStart => exact ⟨0, by omega, rfl, HS.out⟩
  case round =>
    obtain ⟨i, hi, rfl, hr⟩ := hrel
    clear HS HB2
    by_cases hlt : i < 3
    · have HR := Lib.hid hr
      have hltb : decide ((i : Int) < 3) = true := by simp; omega
      have HX := Lib.hid (hr.set rfl HL.out hlt)
      clear hr
      go_wp2
      refine Cl.region0 29 rfl [11] (fun w => Below wr.heap.size wr w) (fun _ => []) (fun jq v ww => match jq with | 0 => v = .slice (some ⟨g, 0, none⟩) n (n + 3) | 1 => v = .slice va n vc | 2 => v = .int .i64 (n : Nat) | 3 => v = .int .i64 ((n : Int) + 3) | 4 => v = .slice (some ⟨g, 0, none⟩) (n + 3) (n + 3) | 5 => v = .slice va n vc | 6 => v = .int .i64 (n : Nat) | 7 => v = .int .i64 (i : Nat) | 8 => v = .int .i64 ((n : Int) + (i : Int)) | 9 => v = .agg #[.int .i64 a0, .int .i64 a1, .int .i64 a2] | 10 => v = .pointer (some ⟨g, (n + i) * 3, none⟩) | 11 => RSt w ww 30 3 g n xs [.int .i64 a0, .int .i64 a1, .int .i64 a2] [.int .i64 a0, .int .i64 a1, .int .i64 a2] (i + 1) | _ => True) (fun ww => True) (fun jq ww ww' => jq ≠ 11 → Below ww.heap.size ww ww') Try.mixed (by decide +kernel) trivial ((Below.refl _ _).drew) ?_ (fun q w w' hk h hR => bstep h (hR (by simpa using hk))) ?_ ?_
      · intro q r v w w' hne hk hlt h hR
        match r, hk, hlt, h, hne with
        | 0, _, _, h, _ => exact h
        | 1, _, _, h, _ => exact h
        | 2, _, _, h, _ => exact h
        | 3, _, _, h, _ => exact h
        | 4, _, _, h, _ => exact h
        | 5, _, _, h, _ => exact h
        | 6, _, _, h, _ => exact h
        | 7, _, _, h, _ => exact h
        | 8, _, _, h, _ => exact h
        | 9, _, _, h, _ => exact h
        | 10, _, _, h, _ => exact h
        | 11, _, _, h, hne => exact h.below (hR (by exact hne))
        | _ + 12, _, _, _, _ => trivial
      · refine ⟨?_, ?_, ?_, ?_, ?_, ?_, ?_, ?_, ?_, ?_, ?_, ?_, trivial⟩
        · intro x wx hG
          have f5 := hG.old 5 (by decide +kernel)
          have hp := hG.pre (by decide +kernel)
          have hg := hG.good
          clear hG
          go_wp2
          exact ⟨_, rfl, rfl, hg, fun _ => Below.refl _ _⟩
        · intro x wx hG
          have f0 := hG.old 0 (by decide +kernel)
          have hp := hG.pre (by decide +kernel)
          have hg := hG.good
          clear hG
          go_wp2
          exact ⟨_, rfl, rfl, hg, fun _ => Below.refl _ _⟩
        · intro x wx hG
          have g1 : (x.tmps.getD 17 undef) = .slice va n vc := hG.claims 1 _ rfl (by decide +kernel) (by decide +kernel)
          have hp := hG.pre (by decide +kernel)
          have hg := hG.good
          clear hG
          go_wp2
          exact ⟨_, rfl, rfl, hg, fun _ => Below.refl _ _⟩
        · intro x wx hG
          have g2 : (x.tmps.getD 18 undef) = .int .i64 (n : Nat) := hG.claims 2 _ rfl (by decide +kernel) (by decide +kernel)
          have hp := hG.pre (by decide +kernel)
          have hg := hG.good
          clear hG
          go_wp2
          exact ⟨_, rfl, rfl, hg, fun _ => Below.refl _ _⟩
        · intro x wx hG
          have g0 : (x.tmps.getD 16 undef) = .slice (some ⟨g, 0, none⟩) n (n + 3) := hG.claims 0 _ rfl (by decide +kernel) (by decide +kernel)
          have g3 : (x.tmps.getD 19 undef) = .int .i64 ((n : Int) + 3) := hG.claims 3 _ rfl (by decide +kernel) (by decide +kernel)
          have hp := hG.pre (by decide +kernel)
          have hg := hG.good
          clear hG
          go_wp2
          exact ⟨_, rfl, rfl, hg, fun _ => Below.refl _ _⟩
        · intro x wx hG
          have f0 := hG.old 0 (by decide +kernel)
          have hp := hG.pre (by decide +kernel)
          have hg := hG.good
          clear hG
          go_wp2
          exact ⟨_, rfl, rfl, hg, fun _ => Below.refl _ _⟩
        · intro x wx hG
          have g5 : (x.tmps.getD 21 undef) = .slice va n vc := hG.claims 5 _ rfl (by decide +kernel) (by decide +kernel)
          have hp := hG.pre (by decide +kernel)
          have hg := hG.good
          clear hG
          go_wp2
          exact ⟨_, rfl, rfl, hg, fun _ => Below.refl _ _⟩
        · intro x wx hG
          have f6 := hG.old 6 (by decide +kernel)
          have hp := hG.pre (by decide +kernel)
          have hg := hG.good
          clear hG
          go_wp2
          exact ⟨_, rfl, rfl, hg, fun _ => Below.refl _ _⟩
        · intro x wx hG
          have g6 : (x.tmps.getD 22 undef) = .int .i64 (n : Nat) := hG.claims 6 _ rfl (by decide +kernel) (by decide +kernel)
          have g7 : (x.tmps.getD 23 undef) = .int .i64 (i : Nat) := hG.claims 7 _ rfl (by decide +kernel) (by decide +kernel)
          have hp := hG.pre (by decide +kernel)
          have hg := hG.good
          clear hG
          go_wp2
          exact ⟨_, rfl, rfl, hg, fun _ => Below.refl _ _⟩
        · intro x wx hG
          have f3 := hG.old 3 (by decide +kernel)
          have hp := hG.pre (by decide +kernel)
          have hg := hG.good
          clear hG
          have kb := (HR.out.below hp).box (by simp)
          have k0 := cell_of_block (j := 0) kb rfl
          have k1 := cell_of_block (j := 1) kb rfl
          have k2 := cell_of_block (j := 2) kb rfl
          have kl := hlt_of kb
          clear kb
          go_wp2
          exact ⟨_, rfl, rfl, hg, fun _ => Below.refl _ _⟩
        · intro x wx hG
          have g4 : (x.tmps.getD 20 undef) = .slice (some ⟨g, 0, none⟩) (n + 3) (n + 3) := hG.claims 4 _ rfl (by decide +kernel) (by decide +kernel)
          have g8 : (x.tmps.getD 24 undef) = .int .i64 ((n : Int) + (i : Int)) := hG.claims 8 _ rfl (by decide +kernel) (by decide +kernel)
          have hp := hG.pre (by decide +kernel)
          have hg := hG.good
          clear hG
          go_wp2
          exact ⟨_, rfl, rfl, hg, fun _ => Below.refl _ _⟩
        · intro x wx hG
          have g10 : (x.tmps.getD 26 undef) = .pointer (some ⟨g, (n + i) * 3, none⟩) := hG.claims 10 _ rfl (by decide +kernel) (by decide +kernel)
          have g9 : (x.tmps.getD 25 undef) = .agg #[.int .i64 a0, .int .i64 a1, .int .i64 a2] := hG.claims 9 _ rfl (by decide +kernel) (by decide +kernel)
          have hp := hG.pre (by decide +kernel)
          have hg := hG.good
          clear hG
          have HQ := HR.out.below hp
          obtain ⟨⟨q0, r0⟩, f0⟩ := HQ.cell rfl HL.out hlt 0 (by decide)
          obtain ⟨⟨q1, r1⟩, f1⟩ := HQ.cell rfl HL.out hlt 1 (by decide)
          obtain ⟨⟨q2, r2⟩, f2⟩ := HQ.cell rfl HL.out hlt 2 (by decide)
          have HN9 := Lib.hid (HQ.set rfl HL.out hlt)
          have hRl := hlt_of HQ.blk.choose_spec.2
          clear HQ hp hg
          simp only [Nat.add_zero] at r0 f0
          go_wp2
          exact ⟨undef, rfl, HN9.out, trivial, fun h => absurd rfl h⟩
      · intro vals wz hg hF
        obtain ⟨g0, g1, g2, g3, g4, g5, g6, g7, g8, g9, g10, g11, -⟩ := hF
        have e0 : vals 0 = .slice (some ⟨g, 0, none⟩) n (n + 3) := g0 rfl
        have e1 : vals 1 = .slice va n vc := g1 rfl
        have e2 : vals 2 = .int .i64 (n : Nat) := g2 rfl
        have e3 : vals 3 = .int .i64 ((n : Int) + 3) := g3 rfl
        have e4 : vals 4 = .slice (some ⟨g, 0, none⟩) (n + 3) (n + 3) := g4 rfl
        have e5 : vals 5 = .slice va n vc := g5 rfl
        have e6 : vals 6 = .int .i64 (n : Nat) := g6 rfl
        have e7 : vals 7 = .int .i64 (i : Nat) := g7 rfl
        have e8 : vals 8 = .int .i64 ((n : Int) + (i : Int)) := g8 rfl
        have e9 : vals 9 = .agg #[.int .i64 a0, .int .i64 a1, .int .i64 a2] := g9 rfl
        have e10 : vals 10 = .pointer (some ⟨g, (n + i) * 3, none⟩) := g10 rfl
        replace g11 : RSt w wz 30 3 g n xs [.int .i64 a0, .int .i64 a1, .int .i64 a2] [.int .i64 a0, .int .i64 a1, .int .i64 a2] (i + 1) := g11 rfl
        simp only [Cl.puts, e0, e1, e2, e3, e4, e5, e6, e7, e8, e9, e10]
        clear e0 e1 e2 e3 e4 e5 e6 e7 e8 e9 e10 g0 g1 g2 g3 g4 g5 g6 g7 g8 g9 g10
        go_simp
        go_wp2
        go_roundw
        case rel => exact ⟨i + 1, by omega, by go_num, g11⟩
        case measure => simp [intOf] <;> omega
    · obtain rfl : i = 3 := by omega
      have HR := Lib.hid (hr.done rfl HL.out (by unfold maxLen; omega))
      have HB := Lib.hid hr.bel
      clear hr
      go_wp2
      go_ret
      exact ⟨_, rfl, HR.out, HB.out⟩
set_option maxRecDepth 100000 in
theorem RmTy.box : (Try.prog.info? 125).map (fun i => (i.zero, i.size, i.bytes)) = some (some (.agg #[.int .i64 0, .int .i64 0, .slice none 0 0]), 3, 40) := by kernel_rfl
set_option maxRecDepth 100000 in
set_option maxHeartbeats 4000000 in
theorem roomy_box (v : Value) (n : Nat) (xs : List Value) (a0 a1 : Int) (w : World) (hv : CellsAt w v n xs) (hl : xs.length = n * 3) (h1 : ∀ u ∈ xs, u.oneCell' = true) (hn : n * 40 ≤ 140737488355328) :
    Calls Try.prog 70 #[v, (.agg #[.int .i64 a0, .int .i64 a1, .slice none 0 0])] w fun e w' => ∃ v', e = .returned v' ∧ Roomy w' w.heap.size 125 3 v' n xs (List.replicate 3 ([.int .i64 a0, .int .i64 a1, .slice none 0 0] : List Value)).flatten ∧ Below w.heap.size w w' := by
  obtain ⟨va, vc, rfl⟩ := hv.shape
  obtain ⟨W, hW⟩ : ∃ W, W = w.alloc (.cells #[.int .i64 a0, .int .i64 a1, .slice none 0 0] 125) := ⟨_, rfl⟩
  have hbw : Below w.heap.size w W := by rw [hW]; exact bal _
  have hsw : W.heap.size = w.heap.size + 1 := by rw [hW]; simp
  obtain ⟨w2, hmk, hown, hb2⟩ := mk_room (P := Try.prog) W 22 125 (.agg #[.int .i64 0, .int .i64 0, .slice none 0 0]) 3 40 Try.underlying22 RmTy.box (n + 3) ((n : Int) + 3) rfl (by omega) (by unfold maxLen; omega)
  rw [hsw] at hmk hown
  obtain ⟨g, hg⟩ : ∃ g, g = w.heap.size + 1 := ⟨_, rfl⟩
  rw [← hg] at hmk hown
  have HBX := Lib.hid (show ([.int .i64 a0, .int .i64 a1, .slice none 0 0] : List Value) ≠ [] → w2.heap[w.heap.size]? = some (.cells ([.int .i64 a0, .int .i64 a1, .slice none 0 0] : List Value).toArray 125 (0, 0)) from fun _ => below_keep hb2 (by rw [hW]; exact alloc_new _ _ _ _ rfl))
  have HB2 := Lib.hid (bstep hbw hb2)
  have HV := Lib.hid ((hv.below hbw).below hb2)
  have HO := Lib.hid hown
  have H1 := Lib.hid h1
  have HN := Lib.hid hn
  have hn9 : n ≤ 140737488355328 := by omega
  have HG := Lib.hid hg
  have HL := Lib.hid hl
  rw [hW] at hmk
  clear hv hbw hb2 hown h1 hn hsw hg
  go_enter Try.func70, Try.ntmps70
  skip
  go_wp2_with (at_builtin; refine wpList_append_spare2 rfl (.tmp 10) (.tmp 11) 22 rfl g 125 (.agg #[.int .i64 0, .int .i64 0, .slice none 0 0]) 3 40 Try.underlying22 RmTy.box (by decide) g 0 (n + 3) [] rfl HO.out _ n xs rfl HV.out HL.out H1.out (by omega) ?_)
  rintro w3 hown3 hgr3
  have hb3 : Below w.heap.size w w3 := HB2.out.grown hgr3 HB2.out.size (fun k hk => by have := HG.out; simp at hk; omega)
  have HS := Lib.hid (RSt.start (xc := [.int .i64 a0, .int .i64 a1, .slice none 0 0]) (X := [.int .i64 a0, .int .i64 a1, .slice none 0 0]) hb3 (by have := HG.out; omega) (by intro _; have := HG.out; omega) (fun h => (hgr3.block _ (by have := hlt_of (HBX.out h); omega) (by have := HG.out; simp; omega)).trans (HBX.out h)) hown3)
  clear hown3 hgr3 hb3 HBX HO H1 hmk hW
  try rw [Nat.zero_add]
  go_wp2
  go_loopw [13] (fun v wr => ∃ i : Nat, i ≤ 3 ∧ v = .int .i64 i ∧ RSt w wr 125 3 g n xs [.int .i64 a0, .int .i64 a1, .slice none 0 0] [.int .i64 a0, .int .i64 a1, .slice none 0 0] i) (fun v _ => 3 - (intOf v).toNat)
  case atStart => exact ⟨0, by omega, rfl, HS.out⟩
  case round =>
    obtain ⟨i, hi, rfl, hr⟩ := hrel
    clear HS HB2
    by_cases hlt : i < 3
    · have HR := Lib.hid hr
      have hltb : decide ((i : Int) < 3) = true := by simp; omega
      have HX := Lib.hid (hr.set rfl HL.out hlt)
      clear hr
      go_wp2
      refine Cl.region0 29 rfl [11] (fun w => Below wr.heap.size wr w) (fun _ => []) (fun jq v ww => match jq with | 0 => v = .slice (some ⟨g, 0, none⟩) n (n + 3) | 1 => v = .slice va n vc | 2 => v = .int .i64 (n : Nat) | 3 => v = .int .i64 ((n : Int) + 3) | 4 => v = .slice (some ⟨g, 0, none⟩) (n + 3) (n + 3) | 5 => v = .slice va n vc | 6 => v = .int .i64 (n : Nat) | 7 => v = .int .i64 (i : Nat) | 8 => v = .int .i64 ((n : Int) + (i : Int)) | 9 => v = .agg #[.int .i64 a0, .int .i64 a1, .slice none 0 0] | 10 => v = .pointer (some ⟨g, (n + i) * 3, none⟩) | 11 => RSt w ww 125 3 g n xs [.int .i64 a0, .int .i64 a1, .slice none 0 0] [.int .i64 a0, .int .i64 a1, .slice none 0 0] (i + 1) | _ => True) (fun ww => True) (fun jq ww ww' => jq ≠ 11 → Below ww.heap.size ww ww') Try.mixed (by decide +kernel) trivial ((Below.refl _ _).drew) ?_ (fun q w w' hk h hR => bstep h (hR (by simpa using hk))) ?_ ?_
      · intro q r v w w' hne hk hlt h hR
        match r, hk, hlt, h, hne with
        | 0, _, _, h, _ => exact h
        | 1, _, _, h, _ => exact h
        | 2, _, _, h, _ => exact h
        | 3, _, _, h, _ => exact h
        | 4, _, _, h, _ => exact h
        | 5, _, _, h, _ => exact h
        | 6, _, _, h, _ => exact h
        | 7, _, _, h, _ => exact h
        | 8, _, _, h, _ => exact h
        | 9, _, _, h, _ => exact h
        | 10, _, _, h, _ => exact h
        | 11, _, _, h, hne => exact h.below (hR (by exact hne))
        | _ + 12, _, _, _, _ => trivial
      · refine ⟨?_, ?_, ?_, ?_, ?_, ?_, ?_, ?_, ?_, ?_, ?_, ?_, trivial⟩
        · intro x wx hG
          have f5 := hG.old 5 (by decide +kernel)
          have hp := hG.pre (by decide +kernel)
          have hg := hG.good
          clear hG
          go_wp2
          exact ⟨_, rfl, rfl, hg, fun _ => Below.refl _ _⟩
        · intro x wx hG
          have f0 := hG.old 0 (by decide +kernel)
          have hp := hG.pre (by decide +kernel)
          have hg := hG.good
          clear hG
          go_wp2
          exact ⟨_, rfl, rfl, hg, fun _ => Below.refl _ _⟩
        · intro x wx hG
          have g1 : (x.tmps.getD 17 undef) = .slice va n vc := hG.claims 1 _ rfl (by decide +kernel) (by decide +kernel)
          have hp := hG.pre (by decide +kernel)
          have hg := hG.good
          clear hG
          go_wp2
          exact ⟨_, rfl, rfl, hg, fun _ => Below.refl _ _⟩
        · intro x wx hG
          have g2 : (x.tmps.getD 18 undef) = .int .i64 (n : Nat) := hG.claims 2 _ rfl (by decide +kernel) (by decide +kernel)
          have hp := hG.pre (by decide +kernel)
          have hg := hG.good
          clear hG
          go_wp2
          exact ⟨_, rfl, rfl, hg, fun _ => Below.refl _ _⟩
        · intro x wx hG
          have g0 : (x.tmps.getD 16 undef) = .slice (some ⟨g, 0, none⟩) n (n + 3) := hG.claims 0 _ rfl (by decide +kernel) (by decide +kernel)
          have g3 : (x.tmps.getD 19 undef) = .int .i64 ((n : Int) + 3) := hG.claims 3 _ rfl (by decide +kernel) (by decide +kernel)
          have hp := hG.pre (by decide +kernel)
          have hg := hG.good
          clear hG
          go_wp2
          exact ⟨_, rfl, rfl, hg, fun _ => Below.refl _ _⟩
        · intro x wx hG
          have f0 := hG.old 0 (by decide +kernel)
          have hp := hG.pre (by decide +kernel)
          have hg := hG.good
          clear hG
          go_wp2
          exact ⟨_, rfl, rfl, hg, fun _ => Below.refl _ _⟩
        · intro x wx hG
          have g5 : (x.tmps.getD 21 undef) = .slice va n vc := hG.claims 5 _ rfl (by decide +kernel) (by decide +kernel)
          have hp := hG.pre (by decide +kernel)
          have hg := hG.good
          clear hG
          go_wp2
          exact ⟨_, rfl, rfl, hg, fun _ => Below.refl _ _⟩
        · intro x wx hG
          have f6 := hG.old 6 (by decide +kernel)
          have hp := hG.pre (by decide +kernel)
          have hg := hG.good
          clear hG
          go_wp2
          exact ⟨_, rfl, rfl, hg, fun _ => Below.refl _ _⟩
        · intro x wx hG
          have g6 : (x.tmps.getD 22 undef) = .int .i64 (n : Nat) := hG.claims 6 _ rfl (by decide +kernel) (by decide +kernel)
          have g7 : (x.tmps.getD 23 undef) = .int .i64 (i : Nat) := hG.claims 7 _ rfl (by decide +kernel) (by decide +kernel)
          have hp := hG.pre (by decide +kernel)
          have hg := hG.good
          clear hG
          go_wp2
          exact ⟨_, rfl, rfl, hg, fun _ => Below.refl _ _⟩
        · intro x wx hG
          have f3 := hG.old 3 (by decide +kernel)
          have hp := hG.pre (by decide +kernel)
          have hg := hG.good
          clear hG
          have kb := (HR.out.below hp).box (by simp)
          have k0 := cell_of_block (j := 0) kb rfl
          have k1 := cell_of_block (j := 1) kb rfl
          have k2 := cell_of_block (j := 2) kb rfl
          have kl := hlt_of kb
          clear kb
          go_wp2
          exact ⟨_, rfl, rfl, hg, fun _ => Below.refl _ _⟩
        · intro x wx hG
          have g4 : (x.tmps.getD 20 undef) = .slice (some ⟨g, 0, none⟩) (n + 3) (n + 3) := hG.claims 4 _ rfl (by decide +kernel) (by decide +kernel)
          have g8 : (x.tmps.getD 24 undef) = .int .i64 ((n : Int) + (i : Int)) := hG.claims 8 _ rfl (by decide +kernel) (by decide +kernel)
          have hp := hG.pre (by decide +kernel)
          have hg := hG.good
          clear hG
          go_wp2
          exact ⟨_, rfl, rfl, hg, fun _ => Below.refl _ _⟩
        · intro x wx hG
          have g10 : (x.tmps.getD 26 undef) = .pointer (some ⟨g, (n + i) * 3, none⟩) := hG.claims 10 _ rfl (by decide +kernel) (by decide +kernel)
          have g9 : (x.tmps.getD 25 undef) = .agg #[.int .i64 a0, .int .i64 a1, .slice none 0 0] := hG.claims 9 _ rfl (by decide +kernel) (by decide +kernel)
          have hp := hG.pre (by decide +kernel)
          have hg := hG.good
          clear hG
          have HQ := HR.out.below hp
          obtain ⟨⟨q0, r0⟩, f0⟩ := HQ.cell rfl HL.out hlt 0 (by decide)
          obtain ⟨⟨q1, r1⟩, f1⟩ := HQ.cell rfl HL.out hlt 1 (by decide)
          obtain ⟨⟨q2, r2⟩, f2⟩ := HQ.cell rfl HL.out hlt 2 (by decide)
          have HN9 := Lib.hid (HQ.set rfl HL.out hlt)
          have hRl := hlt_of HQ.blk.choose_spec.2
          clear HQ hp hg
          simp only [Nat.add_zero] at r0 f0
          go_wp2
          exact ⟨undef, rfl, HN9.out, trivial, fun h => absurd rfl h⟩
      · intro vals wz hg hF
        obtain ⟨g0, g1, g2, g3, g4, g5, g6, g7, g8, g9, g10, g11, -⟩ := hF
        have e0 : vals 0 = .slice (some ⟨g, 0, none⟩) n (n + 3) := g0 rfl
        have e1 : vals 1 = .slice va n vc := g1 rfl
        have e2 : vals 2 = .int .i64 (n : Nat) := g2 rfl
        have e3 : vals 3 = .int .i64 ((n : Int) + 3) := g3 rfl
        have e4 : vals 4 = .slice (some ⟨g, 0, none⟩) (n + 3) (n + 3) := g4 rfl
        have e5 : vals 5 = .slice va n vc := g5 rfl
        have e6 : vals 6 = .int .i64 (n : Nat) := g6 rfl
        have e7 : vals 7 = .int .i64 (i : Nat) := g7 rfl
        have e8 : vals 8 = .int .i64 ((n : Int) + (i : Int)) := g8 rfl
        have e9 : vals 9 = .agg #[.int .i64 a0, .int .i64 a1, .slice none 0 0] := g9 rfl
        have e10 : vals 10 = .pointer (some ⟨g, (n + i) * 3, none⟩) := g10 rfl
        replace g11 : RSt w wz 125 3 g n xs [.int .i64 a0, .int .i64 a1, .slice none 0 0] [.int .i64 a0, .int .i64 a1, .slice none 0 0] (i + 1) := g11 rfl
        simp only [Cl.puts, e0, e1, e2, e3, e4, e5, e6, e7, e8, e9, e10]
        clear e0 e1 e2 e3 e4 e5 e6 e7 e8 e9 e10 g0 g1 g2 g3 g4 g5 g6 g7 g8 g9 g10
        go_simp
        go_wp2
        go_roundw
        case rel => exact ⟨i + 1, by omega, by go_num, g11⟩
        case measure => simp [intOf] <;> omega
    · obtain rfl : i = 3 := by omega
      have HR := Lib.hid (hr.done rfl HL.out (by unfold maxLen; omega))
      have HB := Lib.hid hr.bel
      clear hr
      go_wp2
      go_ret
      exact ⟨_, rfl, HR.out, HB.out⟩
end Go.Proofs.Ythnkmjjldggecaa
