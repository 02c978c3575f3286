/- The walk of KnowVectors: it returns true, whatever the arguments are. Written by a small program (gen/know_laws.py). -/
import Derived.Test.YtippljiicnpieaaVecLaw
namespace Go.Proofs.Ytippljiicnpieaa
open Go.RowKit
set_option maxRecDepth 100000 in
set_option maxHeartbeats 4000000 in
theorem KnowVectors_walk (va vb : Value) (lla llb : List Int) (w : World) (ha : IsAt w va lla) (hb0 : IsAt w vb llb) :
    Calls Try.prog 12 #[va, vb] w fun e w' => e = .returned (.bool true) ∧ Below w.heap.size w w' := by
  obtain ⟨aa, ac, rfl, hacap, halen, -, hal⟩ := ha.open_
  obtain ⟨ba, bc, rfl, hbcap, hblen, -, hbl0⟩ := hb0.open_
  have HAL := Lib.hid hal
  have HBL := Lib.hid hbl0
  clear hal hbl0 ha hb0
  have hbel := Below.refl w.heap.size w
  go_enter Try.func12, Try.ntmps12
  have hal := bal (W := w) (.cells #[.int .i64 3, .int .i64 1] 3)
  replace hbel := bstep hbel hal
  clear hal
  have hal := bal (W := (w).alloc (.cells #[.int .i64 3, .int .i64 1] 3)) (.cells #[.int .i64 2, .int .i64 5] 3)
  replace hbel := bstep hbel hal
  clear hal
  have kp : KV (((w).alloc (.cells #[.int .i64 3, .int .i64 1] 3)).alloc (.cells #[.int .i64 2, .int .i64 5] 3)) (.slice (some ⟨w.heap.size, 0, none⟩) 2 2) (.slice none 0 0) (knIn ⟨[3, 1], []⟩) := KV.of_at ⟨ints1 (l := [3, 1]) (alloc_keep _ (alloc_new _ _ _ _ rfl)) (by decide), CellsAt.nil _⟩ (vecKn_ok (by decide) (by simp) (by simp)) (vec_sm (by simp))
  have kq : KV (((w).alloc (.cells #[.int .i64 3, .int .i64 1] 3)).alloc (.cells #[.int .i64 2, .int .i64 5] 3)) (.slice (some ⟨w.heap.size + 1, 0, none⟩) 2 2) (.slice none 0 0) (knIn ⟨[2, 5], []⟩) := KV.of_at ⟨ints1 (l := [2, 5]) (alloc_new _ _ _ _ (by simp)) (by decide), CellsAt.nil _⟩ (vecKn_ok (by decide) (by simp) (by simp)) (vec_sm (by simp))
  go_wp2_with fail
  (with_reducible refine (join_s _ _ _ _ _ _ _ kp kq).mono ?_)
  rintro e w1 ⟨la, ln, lc, lb, lm, ld, rfl, kl, hb⟩
  replace hbel := bstep hbel hb
  clear hb
  clear kp kq
  have hal := bal (W := w1) (.cells #[(.slice la ln lc), (.slice lb lm ld)] 30)
  replace kl := kl.below hal
  replace hbel := bstep hbel hal
  have c_l0 := cat w1 #[(.slice la ln lc), (.slice lb lm ld)] 30 0 _ rfl _ rfl
  have c_l1 := cat w1 #[(.slice la ln lc), (.slice lb lm ld)] 30 1 _ rfl _ rfl
  clear hal
  have hal := bal (W := w1.alloc (.cells #[(.slice la ln lc), (.slice lb lm ld)] 30)) (.cells #[.int .i64 3, .int .i64 5] 3)
  replace kl := kl.below hal
  replace c_l0 := ckeep hal c_l0
  replace c_l1 := ckeep hal c_l1
  replace hbel := bstep hbel hal
  clear hal
  have kv : IsAt ((w1.alloc (.cells #[(.slice la ln lc), (.slice lb lm ld)] 30)).alloc (.cells #[.int .i64 3, .int .i64 5] 3)) (.slice la ln lc) [3, 5] := by have h := kl.at_.vec; rw [lit_join] at h; exact h
  have kw : IsAt ((w1.alloc (.cells #[(.slice la ln lc), (.slice lb lm ld)] 30)).alloc (.cells #[.int .i64 3, .int .i64 5] 3)) (.slice (some ⟨w1.heap.size + 1, 0, none⟩) 2 2) [3, 5] := ints1 (l := [3, 5]) (alloc_new _ _ _ _ (by simp)) (by decide)
  go_wp2_with fail
  (with_reducible refine (eqInts_c _ _ _ _ _ kv kw).mono ?_)
  rintro e w2 ⟨rfl, hb⟩
  replace kl := kl.below hb
  replace c_l0 := ckeep hb c_l0
  replace c_l1 := ckeep hb c_l1
  replace hbel := bstep hbel hb
  clear hb
  rw [show (([3, 5] : List Int) == [3, 5]) = true from rfl]
  clear kv kw kl c_l0 c_l1
  obtain ⟨f, hf⟩ : ∃ f, f = xOf lla := ⟨_, rfl⟩
  obtain ⟨g, hg⟩ : ∃ g, g = xOf llb := ⟨_, rfl⟩
  have FF := Lib.hid (show FB f by rw [hf]; exact xOf_bd _)
  have FG := Lib.hid (show FB g by rw [hg]; exact xOf_bd _)
  have HST := Lib.hid (show VSt w ((((w2.alloc (.cells #[.int .i64 0, .int .i64 0, .int .i64 0, .int .i64 0, .int .i64 0] 83)).alloc (.cells #[.int .i64 0, .int .i64 0, .int .i64 0, .int .i64 0, .int .i64 0] 83)).alloc (.cells #[.int .i64 0, .int .i64 0, .int .i64 0, .int .i64 0, .int .i64 0] 83)).alloc (.cells #[.int .i64 0, .int .i64 0, .int .i64 0, .int .i64 0, .int .i64 0] 83)) w2.heap.size f g 0 0 0 0 from ⟨alloc_keep _ (alloc_keep _ (alloc_keep _ (alloc_new _ _ _ _ rfl))), alloc_keep _ (alloc_keep _ (alloc_new _ _ _ _ (by simp))), alloc_keep _ (alloc_new _ _ _ _ (by simp)), alloc_new _ _ _ _ (by simp), bstep (bstep (bstep (bstep hbel (bal _)) (bal _)) (bal _)) (bal _), hbel.size⟩)
  clear hbel
  have HF := Lib.hid hf
  have HG := Lib.hid hg
  clear hf hg
  go_wp2
  go_loopw [11, 37] (fun wi i wr => ∃ (q : Nat), q ≤ 5 ∧ i = .int .i64 q ∧ wi = .bool (withinN f g q) ∧ VSt w wr w2.heap.size f g q q q q) (fun _ i _ => 5 - (intOf i).toNat)
  case atStart => exact ⟨0, by omega, rfl, rfl, HST.out⟩
  case round =>
    clear HST
    obtain ⟨q, hq, rfl, rfl, hM⟩ := hrel
    have M := Lib.hid hM
    clear hM
    by_cases hlt : q < 5
    · have hltb : decide ((q : Int) < 5) = true := by simp; omega
      by_cases hl0 : q < lla.length
      · rcases HAL.out with hnil | ⟨b0, off0, rfl, hb0, hc0⟩
        · rw [hnil] at hl0; simp at hl0
        have c1 := (M.out.bel.cell (p := ⟨b0, off0 + q, none⟩) hb0).trans (hc0 q hl0)
        have HFQ := Lib.hid (show f q = ((wiN lla[q] 50 : Nat) : Int) by rw [HF.out]; unfold xOf; rw [dif_pos hl0])
        have hlb0 : decide ((q : Int) < (lla.length : Int)) = true := by simp; omega
        clear hc0
        generalize lla[q] = x0 at *
        have HWC := Lib.hid (fun w2 => wiN_c x0 50 w2 (by decide) (by decide))
        go_wp2_with fail
        (with_reducible refine (HWC.out _).mono ?_)
        rintro e wb0 ⟨rfl, hb⟩
        have M2 := Lib.hid (M.out.below hb)
        rw [← HFQ.out]
        clear hb c1 M HWC HFQ
        have M := M2
        clear M2
        have c0 := cell_of_block (j := q) M.out.x (upC_get0 f q hlt)
        have f0 := free_of_block (j := q) M.out.x
        have hl0 := hlt_of M.out.x
        have M2 := Lib.hid (M.out.setX hlt)
        clear M
        have M := M2
        clear M2
        by_cases hl1 : q < llb.length
        · rcases HBL.out with hnil | ⟨b1, off1, rfl, hb1, hc1⟩
          · rw [hnil] at hl1; simp at hl1
          have c1 := (M.out.bel.cell (p := ⟨b1, off1 + q, none⟩) hb1).trans (hc1 q hl1)
          have HFQ := Lib.hid (show g q = ((wiN llb[q] 50 : Nat) : Int) by rw [HG.out]; unfold xOf; rw [dif_pos hl1])
          have hlb1 : decide ((q : Int) < (llb.length : Int)) = true := by simp; omega
          clear hc1
          generalize llb[q] = x0 at *
          have HWC := Lib.hid (fun w2 => wiN_c x0 50 w2 (by decide) (by decide))
          go_wp2_with fail
          (with_reducible refine (HWC.out _).mono ?_)
          rintro e wb1 ⟨rfl, hb⟩
          have M2 := Lib.hid (M.out.below hb)
          rw [← HFQ.out]
          clear hb c1 M HWC HFQ
          have M := M2
          clear M2
          have c0 := cell_of_block (j := q) M.out.y (upC_get0 g q hlt)
          have f0 := free_of_block (j := q) M.out.y
          have hl0 := hlt_of M.out.y
          have M2 := Lib.hid (M.out.setY hlt)
          clear M
          have M := M2
          clear M2
          go_wp2
          obtain ⟨wv, hwv⟩ : ∃ wv, wv = (wb1.setCell ⟨w2.heap.size + 1, q, none⟩ (.int .i64 (g q))) := ⟨_, rfl⟩
          rw [← hwv] at M ⊢
          (try clear c0 f0 hl0)
          clear hwv
          refine Cl.region0 150 rfl [] (fun _ => True) (fun _ => []) (fun jq v ww => match jq with | 0 => v = .int .i64 (q : Nat) | 1 => v = .int .i64 (q : Nat) | 2 => v = .int .i64 (q : Nat) | 3 => v = .pointer (some ⟨w2.heap.size, q, none⟩) | 4 => v = .int .i64 (f q) | 5 => v = .int .i64 (q : Nat) | 6 => v = .pointer (some ⟨w2.heap.size + 1, q, none⟩) | 7 => v = .int .i64 (g q) | 8 => v = .int .i64 (max (f q) (g q)) | 9 => v = .int .i64 (q : Nat) | 10 => v = .pointer (some ⟨w2.heap.size, q, none⟩) | 11 => v = .int .i64 (f q) | 12 => v = .int .i64 (q : Nat) | 13 => v = .pointer (some ⟨w2.heap.size + 1, q, none⟩) | 14 => v = .int .i64 (g q) | 15 => v = .int .i64 (min (f q) (g q)) | 16 => v = .pointer (some ⟨w2.heap.size + 2, q, none⟩) | 17 => ww.heap[w2.heap.size + 2]? = some (Obj.cells (intsC (upV (fun s => max (f s) (g s)) (q + 1))).toArray 83 (0, 0)) | 18 => v = .pointer (some ⟨w2.heap.size + 3, q, none⟩) | 19 => ww.heap[w2.heap.size + 3]? = some (Obj.cells (intsC (upV (fun s => min (f s) (g s)) (q + 1))).toArray 83 (0, 0)) | _ => True) (fun ww => VG w ww w2.heap.size f g q) (fun jq ww ww' => (jq ≠ 17 → jq ≠ 19 → Below ww.heap.size ww ww') ∧ (jq = 17 → ∃ u, ww' = ww.setCell ⟨w2.heap.size + 2, q, none⟩ u) ∧ (jq = 19 → ∃ u, ww' = ww.setCell ⟨w2.heap.size + 3, q, none⟩ u)) Try.mixed (by decide +kernel) (VG.of hlt M.out) trivial ?_ (fun _ _ _ _ _ _ => trivial) ?_ ?_
          · intro qq r v w w' hne hk hlt h hR
            match r, hk, hlt, h, hne with
            | 0, _, _, h, _ => exact h
            | 1, _, _, h, _ => exact h
            | 2, _, _, h, _ => exact h
            | 3, _, _, h, _ => exact h
            | 4, _, _, h, _ => exact h
            | 5, _, _, h, _ => exact h
            | 6, _, _, h, _ => exact h
            | 7, _, _, h, _ => exact h
            | 8, _, _, h, _ => exact h
            | 9, _, _, h, _ => exact h
            | 10, _, _, h, _ => exact h
            | 11, _, _, h, _ => exact h
            | 12, _, _, h, _ => exact h
            | 13, _, _, h, _ => exact h
            | 14, _, _, h, _ => exact h
            | 15, _, _, h, _ => exact h
            | 16, _, _, h, _ => exact h
            | 17, _, _, h, hne =>
              by_cases hqq : qq = 19
              · obtain ⟨u, hu⟩ := hR.2.2 hqq
                have h1 : w.heap[w2.heap.size + 2]? = some (Obj.cells (intsC (upV (fun s => max (f s) (g s)) (q + 1))).toArray 83 (0, 0)) := h
                show w'.heap[w2.heap.size + 2]? = some (Obj.cells (intsC (upV (fun s => max (f s) (g s)) (q + 1))).toArray 83 (0, 0))
                rw [hu]; exact (heap_set_other (by omega)).trans h1
              · exact below_keep (hR.1 (by exact hne) hqq) h
            | 18, _, _, h, _ => exact h
            | 19, _, _, h, hne =>
              by_cases hqq : qq = 17
              · obtain ⟨u, hu⟩ := hR.2.1 hqq
                have h1 : w.heap[w2.heap.size + 3]? = some (Obj.cells (intsC (upV (fun s => min (f s) (g s)) (q + 1))).toArray 83 (0, 0)) := h
                show w'.heap[w2.heap.size + 3]? = some (Obj.cells (intsC (upV (fun s => min (f s) (g s)) (q + 1))).toArray 83 (0, 0))
                rw [hu]; exact (heap_set_other (by omega)).trans h1
              · exact below_keep (hR.1 hqq (by exact hne)) h
            | _ + 20, _, _, _, _ => trivial
          · refine ⟨?_, ?_, ?_, ?_, ?_, ?_, ?_, ?_, ?_, ?_, ?_, ?_, ?_, ?_, ?_, ?_, ?_, ?_, ?_, ?_, trivial⟩
            · intro x wx hG
              have f12 := hG.old 12 (by decide +kernel)
              have hg := hG.good
              clear hG
              go_wp2
              exact ⟨_, rfl, rfl, hg, ⟨fun _ _ => Below.refl _ _, fun h => absurd h (by decide), fun h => absurd h (by decide)⟩⟩
            · intro x wx hG
              have f12 := hG.old 12 (by decide +kernel)
              have hg := hG.good
              clear hG
              go_wp2
              exact ⟨_, rfl, rfl, hg, ⟨fun _ _ => Below.refl _ _, fun h => absurd h (by decide), fun h => absurd h (by decide)⟩⟩
            · intro x wx hG
              have f12 := hG.old 12 (by decide +kernel)
              have hg := hG.good
              clear hG
              go_wp2
              exact ⟨_, rfl, rfl, hg, ⟨fun _ _ => Below.refl _ _, fun h => absurd h (by decide), fun h => absurd h (by decide)⟩⟩
            · intro x wx hG
              have f7 := hG.old 7 (by decide +kernel)
              have g2 : (x.tmps.getD 64 undef) = .int .i64 (q : Nat) := hG.claims 2 _ rfl (by decide +kernel) (by decide +kernel)
              have hg := hG.good
              clear hG
              go_wp2
              exact ⟨_, rfl, rfl, hg, ⟨fun _ _ => Below.refl _ _, fun h => absurd h (by decide), fun h => absurd h (by decide)⟩⟩
            · intro x wx hG
              have g3 : (x.tmps.getD 65 undef) = .pointer (some ⟨w2.heap.size, q, none⟩) := hG.claims 3 _ rfl (by decide +kernel) (by decide +kernel)
              have hg := hG.good
              clear hG
              have cX := cell_of_block (j := q) hg.1 (upC_get f (q + 1) q hlt (Nat.lt_succ_self q))
              go_wp2
              exact ⟨_, rfl, rfl, hg, ⟨fun _ _ => Below.refl _ _, fun h => absurd h (by decide), fun h => absurd h (by decide)⟩⟩
            · intro x wx hG
              have f12 := hG.old 12 (by decide +kernel)
              have hg := hG.good
              clear hG
              go_wp2
              exact ⟨_, rfl, rfl, hg, ⟨fun _ _ => Below.refl _ _, fun h => absurd h (by decide), fun h => absurd h (by decide)⟩⟩
            · intro x wx hG
              have f8 := hG.old 8 (by decide +kernel)
              have g5 : (x.tmps.getD 67 undef) = .int .i64 (q : Nat) := hG.claims 5 _ rfl (by decide +kernel) (by decide +kernel)
              have hg := hG.good
              clear hG
              go_wp2
              exact ⟨_, rfl, rfl, hg, ⟨fun _ _ => Below.refl _ _, fun h => absurd h (by decide), fun h => absurd h (by decide)⟩⟩
            · intro x wx hG
              have g6 : (x.tmps.getD 68 undef) = .pointer (some ⟨w2.heap.size + 1, q, none⟩) := hG.claims 6 _ rfl (by decide +kernel) (by decide +kernel)
              have hg := hG.good
              clear hG
              have cY := cell_of_block (j := q) hg.2.1 (upC_get g (q + 1) q hlt (Nat.lt_succ_self q))
              go_wp2
              exact ⟨_, rfl, rfl, hg, ⟨fun _ _ => Below.refl _ _, fun h => absurd h (by decide), fun h => absurd h (by decide)⟩⟩
            · intro x wx hG
              have g4 : (x.tmps.getD 66 undef) = .int .i64 (f q) := hG.claims 4 _ rfl (by decide +kernel) (by decide +kernel)
              have g7 : (x.tmps.getD 69 undef) = .int .i64 (g q) := hG.claims 7 _ rfl (by decide +kernel) (by decide +kernel)
              have hg := hG.good
              clear hG
              go_wp2
              exact ⟨_, rfl, rfl, hg, ⟨fun _ _ => Below.refl _ _, fun h => absurd h (by decide), fun h => absurd h (by decide)⟩⟩
            · intro x wx hG
              have f12 := hG.old 12 (by decide +kernel)
              have hg := hG.good
              clear hG
              go_wp2
              exact ⟨_, rfl, rfl, hg, ⟨fun _ _ => Below.refl _ _, fun h => absurd h (by decide), fun h => absurd h (by decide)⟩⟩
            · intro x wx hG
              have f7 := hG.old 7 (by decide +kernel)
              have g9 : (x.tmps.getD 71 undef) = .int .i64 (q : Nat) := hG.claims 9 _ rfl (by decide +kernel) (by decide +kernel)
              have hg := hG.good
              clear hG
              go_wp2
              exact ⟨_, rfl, rfl, hg, ⟨fun _ _ => Below.refl _ _, fun h => absurd h (by decide), fun h => absurd h (by decide)⟩⟩
            · intro x wx hG
              have g10 : (x.tmps.getD 72 undef) = .pointer (some ⟨w2.heap.size, q, none⟩) := hG.claims 10 _ rfl (by decide +kernel) (by decide +kernel)
              have hg := hG.good
              clear hG
              have cX := cell_of_block (j := q) hg.1 (upC_get f (q + 1) q hlt (Nat.lt_succ_self q))
              go_wp2
              exact ⟨_, rfl, rfl, hg, ⟨fun _ _ => Below.refl _ _, fun h => absurd h (by decide), fun h => absurd h (by decide)⟩⟩
            · intro x wx hG
              have f12 := hG.old 12 (by decide +kernel)
              have hg := hG.good
              clear hG
              go_wp2
              exact ⟨_, rfl, rfl, hg, ⟨fun _ _ => Below.refl _ _, fun h => absurd h (by decide), fun h => absurd h (by decide)⟩⟩
            · intro x wx hG
              have f8 := hG.old 8 (by decide +kernel)
              have g12 : (x.tmps.getD 74 undef) = .int .i64 (q : Nat) := hG.claims 12 _ rfl (by decide +kernel) (by decide +kernel)
              have hg := hG.good
              clear hG
              go_wp2
              exact ⟨_, rfl, rfl, hg, ⟨fun _ _ => Below.refl _ _, fun h => absurd h (by decide), fun h => absurd h (by decide)⟩⟩
            · intro x wx hG
              have g13 : (x.tmps.getD 75 undef) = .pointer (some ⟨w2.heap.size + 1, q, none⟩) := hG.claims 13 _ rfl (by decide +kernel) (by decide +kernel)
              have hg := hG.good
              clear hG
              have cY := cell_of_block (j := q) hg.2.1 (upC_get g (q + 1) q hlt (Nat.lt_succ_self q))
              go_wp2
              exact ⟨_, rfl, rfl, hg, ⟨fun _ _ => Below.refl _ _, fun h => absurd h (by decide), fun h => absurd h (by decide)⟩⟩
            · intro x wx hG
              have g11 : (x.tmps.getD 73 undef) = .int .i64 (f q) := hG.claims 11 _ rfl (by decide +kernel) (by decide +kernel)
              have g14 : (x.tmps.getD 76 undef) = .int .i64 (g q) := hG.claims 14 _ rfl (by decide +kernel) (by decide +kernel)
              have hg := hG.good
              clear hG
              go_wp2
              exact ⟨_, rfl, rfl, hg, ⟨fun _ _ => Below.refl _ _, fun h => absurd h (by decide), fun h => absurd h (by decide)⟩⟩
            · intro x wx hG
              have f9 := hG.old 9 (by decide +kernel)
              have g0 : (x.tmps.getD 62 undef) = .int .i64 (q : Nat) := hG.claims 0 _ rfl (by decide +kernel) (by decide +kernel)
              have hg := hG.good
              clear hG
              go_wp2
              exact ⟨_, rfl, rfl, hg, ⟨fun _ _ => Below.refl _ _, fun h => absurd h (by decide), fun h => absurd h (by decide)⟩⟩
            · intro x wx hG
              have g16 : (x.tmps.getD 78 undef) = .pointer (some ⟨w2.heap.size + 2, q, none⟩) := hG.claims 16 _ rfl (by decide +kernel) (by decide +kernel)
              have g8 : (x.tmps.getD 70 undef) = .int .i64 (max (f q) (g q)) := hG.claims 8 _ rfl (by decide +kernel) (by decide +kernel)
              have hg := hG.good
              clear hG
              obtain ⟨cs, hcs, hlc, hset⟩ := hg.2.2.1
              have r0 := cell_of_block (j := q) hcs (Array.getElem?_eq_getElem hlc)
              have f0 := free_of_block (j := q) hcs
              have hRl := hlt_of hcs
              have HCS := Lib.hid hcs
              have HG := Lib.hid hg
              have HS := Lib.hid hset
              clear hcs hset hg
              go_wp2
              exact ⟨undef, rfl, ((heap_set_same HCS.out).trans (congrArg (fun x => some (Obj.cells x 83 (0, 0))) HS.out)), VG.setO HG.out HCS.out HS.out, ⟨fun h => absurd rfl h, fun _ => ⟨_, rfl⟩, fun h => absurd h (by decide)⟩⟩
            · intro x wx hG
              have f10 := hG.old 10 (by decide +kernel)
              have g1 : (x.tmps.getD 63 undef) = .int .i64 (q : Nat) := hG.claims 1 _ rfl (by decide +kernel) (by decide +kernel)
              have hg := hG.good
              clear hG
              go_wp2
              exact ⟨_, rfl, rfl, hg, ⟨fun _ _ => Below.refl _ _, fun h => absurd h (by decide), fun h => absurd h (by decide)⟩⟩
            · intro x wx hG
              have g18 : (x.tmps.getD 79 undef) = .pointer (some ⟨w2.heap.size + 3, q, none⟩) := hG.claims 18 _ rfl (by decide +kernel) (by decide +kernel)
              have g15 : (x.tmps.getD 77 undef) = .int .i64 (min (f q) (g q)) := hG.claims 15 _ rfl (by decide +kernel) (by decide +kernel)
              have hg := hG.good
              clear hG
              obtain ⟨cs, hcs, hlc, hset⟩ := hg.2.2.2.1
              have r0 := cell_of_block (j := q) hcs (Array.getElem?_eq_getElem hlc)
              have f0 := free_of_block (j := q) hcs
              have hRl := hlt_of hcs
              have HCS := Lib.hid hcs
              have HG := Lib.hid hg
              have HS := Lib.hid hset
              clear hcs hset hg
              go_wp2
              exact ⟨undef, rfl, ((heap_set_same HCS.out).trans (congrArg (fun x => some (Obj.cells x 83 (0, 0))) HS.out)), VG.setA HG.out HCS.out HS.out, ⟨fun _ h => absurd rfl h, fun h => absurd h (by decide), fun _ => ⟨_, rfl⟩⟩⟩
          · intro vals wu hg hF
            obtain ⟨g0, g1, g2, g3, g4, g5, g6, g7, g8, g9, g10, g11, g12, g13, g14, g15, g16, g17, g18, g19, -⟩ := hF
            have e0 : vals 0 = .int .i64 (q : Nat) := g0 rfl
            have e1 : vals 1 = .int .i64 (q : Nat) := g1 rfl
            have e2 : vals 2 = .int .i64 (q : Nat) := g2 rfl
            have e3 : vals 3 = .pointer (some ⟨w2.heap.size, q, none⟩) := g3 rfl
            have e4 : vals 4 = .int .i64 (f q) := g4 rfl
            have e5 : vals 5 = .int .i64 (q : Nat) := g5 rfl
            have e6 : vals 6 = .pointer (some ⟨w2.heap.size + 1, q, none⟩) := g6 rfl
            have e7 : vals 7 = .int .i64 (g q) := g7 rfl
            have e8 : vals 8 = .int .i64 (max (f q) (g q)) := g8 rfl
            have e9 : vals 9 = .int .i64 (q : Nat) := g9 rfl
            have e10 : vals 10 = .pointer (some ⟨w2.heap.size, q, none⟩) := g10 rfl
            have e11 : vals 11 = .int .i64 (f q) := g11 rfl
            have e12 : vals 12 = .int .i64 (q : Nat) := g12 rfl
            have e13 : vals 13 = .pointer (some ⟨w2.heap.size + 1, q, none⟩) := g13 rfl
            have e14 : vals 14 = .int .i64 (g q) := g14 rfl
            have e15 : vals 15 = .int .i64 (min (f q) (g q)) := g15 rfl
            have e16 : vals 16 = .pointer (some ⟨w2.heap.size + 2, q, none⟩) := g16 rfl
            replace g17 : wu.heap[w2.heap.size + 2]? = some (Obj.cells (intsC (upV (fun s => max (f s) (g s)) (q + 1))).toArray 83 (0, 0)) := g17 rfl
            have e18 : vals 18 = .pointer (some ⟨w2.heap.size + 3, q, none⟩) := g18 rfl
            replace g19 : wu.heap[w2.heap.size + 3]? = some (Obj.cells (intsC (upV (fun s => min (f s) (g s)) (q + 1))).toArray 83 (0, 0)) := g19 rfl
            simp only [Cl.puts, e0, e1, e2, e3, e4, e5, e6, e7, e8, e9, e10, e11, e12, e13, e14, e15, e16, e18]
            clear e0 e1 e2 e3 e4 e5 e6 e7 e8 e9 e10 e11 e12 e13 e14 e15 e16 e18 g0 g1 g2 g3 g4 g5 g6 g7 g8 g9 g10 g11 g12 g13 g14 g15 g16 g18
            go_simp
            have M := Lib.hid (VG.done hg g17 g19)
            clear g17 g19 hg
            have HWS := Lib.hid (withinN_succ f g q)
            generalize withinN f g q = wq at *
            cases wq
            · go_wp2
              refine Cl.region0 150 rfl [] (fun _ => True) (fun _ => []) (fun jq v ww => match jq with | 0 => v = .bool false | 1 => v = .bool false | 2 => v = undef | 3 => v = undef | 4 => v = undef | 5 => v = undef | 6 => v = undef | 7 => v = undef | 8 => v = undef | 9 => v = .bool false | 10 => v = .bool false | _ => True) (fun ww => Below wu.heap.size wu ww) (fun jq ww ww' => Below ww.heap.size ww ww') Try.mixed (by decide +kernel) (Below.refl _ _).drew trivial (fun q r v w w' _ _ _ h _ => h) (fun _ _ _ _ _ _ => trivial) ?_ ?_
              · refine ⟨?_, ?_, ?_, ?_, ?_, ?_, ?_, ?_, ?_, ?_, ?_, trivial⟩
                · intro x wx hG
                  have f11 := hG.old 11 (by decide +kernel)
                  have hg := hG.good
                  clear hG
                  go_wp2
                  exact ⟨_, rfl, rfl, hg, Below.refl _ _⟩
                · intro x wx hG
                  have g0 : (x.tmps.getD 80 undef) = .bool false := hG.claims 0 _ rfl (by decide +kernel) (by decide +kernel)
                  have hg := hG.good
                  clear hG
                  go_wp2
                  exact ⟨_, rfl, rfl, hg, Below.refl _ _⟩
                · intro x wx hG
                  have gg : (x.tmps.getD 81 undef) = .bool false := hG.claims 1 _ rfl (by decide +kernel) (by decide +kernel)
                  replace gg := Cl.opt (hG.size.trans (show _ = 150 from rfl)) (by decide) gg
                  have hg := hG.good
                  clear hG
                  go_wp2
                  exact ⟨_, rfl, rfl, hg, Below.refl _ _⟩
                · intro x wx hG
                  have gg : (x.tmps.getD 81 undef) = .bool false := hG.claims 1 _ rfl (by decide +kernel) (by decide +kernel)
                  replace gg := Cl.opt (hG.size.trans (show _ = 150 from rfl)) (by decide) gg
                  have hg := hG.good
                  clear hG
                  go_wp2
                  exact ⟨_, rfl, rfl, hg, Below.refl _ _⟩
                · intro x wx hG
                  have gg : (x.tmps.getD 81 undef) = .bool false := hG.claims 1 _ rfl (by decide +kernel) (by decide +kernel)
                  replace gg := Cl.opt (hG.size.trans (show _ = 150 from rfl)) (by decide) gg
                  have hg := hG.good
                  clear hG
                  go_wp2
                  exact ⟨_, rfl, rfl, hg, Below.refl _ _⟩
                · intro x wx hG
                  have gg : (x.tmps.getD 81 undef) = .bool false := hG.claims 1 _ rfl (by decide +kernel) (by decide +kernel)
                  replace gg := Cl.opt (hG.size.trans (show _ = 150 from rfl)) (by decide) gg
                  have hg := hG.good
                  clear hG
                  go_wp2
                  exact ⟨_, rfl, rfl, hg, Below.refl _ _⟩
                · intro x wx hG
                  have gg : (x.tmps.getD 81 undef) = .bool false := hG.claims 1 _ rfl (by decide +kernel) (by decide +kernel)
                  replace gg := Cl.opt (hG.size.trans (show _ = 150 from rfl)) (by decide) gg
                  have hg := hG.good
                  clear hG
                  go_wp2
                  exact ⟨_, rfl, rfl, hg, Below.refl _ _⟩
                · intro x wx hG
                  have gg : (x.tmps.getD 81 undef) = .bool false := hG.claims 1 _ rfl (by decide +kernel) (by decide +kernel)
                  replace gg := Cl.opt (hG.size.trans (show _ = 150 from rfl)) (by decide) gg
                  have hg := hG.good
                  clear hG
                  go_wp2
                  exact ⟨_, rfl, rfl, hg, Below.refl _ _⟩
                · intro x wx hG
                  have gg : (x.tmps.getD 81 undef) = .bool false := hG.claims 1 _ rfl (by decide +kernel) (by decide +kernel)
                  replace gg := Cl.opt (hG.size.trans (show _ = 150 from rfl)) (by decide) gg
                  have hg := hG.good
                  clear hG
                  go_wp2
                  exact ⟨_, rfl, rfl, hg, Below.refl _ _⟩
                · intro x wx hG
                  have g1 : (x.tmps.getD 81 undef) = .bool false := hG.claims 1 _ rfl (by decide +kernel) (by decide +kernel)
                  have g8 : (x.tmps.getD 88 undef) = undef := hG.claims 8 _ rfl (by decide +kernel) (by decide +kernel)
                  have hg := hG.good
                  clear hG
                  go_wp2
                  exact ⟨_, rfl, rfl, hg, Below.refl _ _⟩
                · intro x wx hG
                  have g9 : (x.tmps.getD 89 undef) = .bool false := hG.claims 9 _ rfl (by decide +kernel) (by decide +kernel)
                  have hg := hG.good
                  clear hG
                  go_wp2
                  exact ⟨_, rfl, rfl, hg, Below.refl _ _⟩
              · intro vals wt hg hF
                obtain ⟨g0, g1, g2, g3, g4, g5, g6, g7, g8, g9, g10, -⟩ := hF
                have e0 : vals 0 = .bool false := g0 rfl
                have e1 : vals 1 = .bool false := g1 rfl
                have e2 : vals 2 = undef := g2 rfl
                have e3 : vals 3 = undef := g3 rfl
                have e4 : vals 4 = undef := g4 rfl
                have e5 : vals 5 = undef := g5 rfl
                have e6 : vals 6 = undef := g6 rfl
                have e7 : vals 7 = undef := g7 rfl
                have e8 : vals 8 = undef := g8 rfl
                have e9 : vals 9 = .bool false := g9 rfl
                have e10 : vals 10 = .bool false := g10 rfl
                simp only [Cl.puts, e0, e1, e2, e3, e4, e5, e6, e7, e8, e9, e10]
                clear e0 e1 e2 e3 e4 e5 e6 e7 e8 e9 e10 g0 g1 g2 g3 g4 g5 g6 g7 g8 g9 g10
                go_simp
                have M2 := Lib.hid (M.out.below hg)
                clear M hg
                go_wp2
                go_roundw
                case rel => exact ⟨q + 1, by omega, by go_num, by rw [HWS.out]; rfl, M2.out⟩
                case measure => simp [intOf] <;> omega
            · go_wp2
              refine Cl.region0 150 rfl [] (fun _ => True) (fun _ => []) (fun jq v ww => match jq with | 0 => v = .bool true | 1 => v = .bool true | 2 => v = .int .i64 (q : Nat) | 3 => v = .pointer (some ⟨w2.heap.size, q, none⟩) | 4 => v = .int .i64 (f q) | 5 => v = .int .i64 (q : Nat) | 6 => v = .pointer (some ⟨w2.heap.size + 1, q, none⟩) | 7 => v = .int .i64 (g q) | 8 => v = .bool (decide (f q ≤ g q)) | 9 => v = .bool (decide (f q ≤ g q)) | 10 => v = .bool (decide (f q ≤ g q)) | _ => True) (fun ww => Below wu.heap.size wu ww) (fun jq ww ww' => Below ww.heap.size ww ww') Try.mixed (by decide +kernel) (Below.refl _ _).drew trivial (fun q r v w w' _ _ _ h _ => h) (fun _ _ _ _ _ _ => trivial) ?_ ?_
              · refine ⟨?_, ?_, ?_, ?_, ?_, ?_, ?_, ?_, ?_, ?_, ?_, trivial⟩
                · intro x wx hG
                  have f11 := hG.old 11 (by decide +kernel)
                  have hg := hG.good
                  clear hG
                  go_wp2
                  exact ⟨_, rfl, rfl, hg, Below.refl _ _⟩
                · intro x wx hG
                  have g0 : (x.tmps.getD 80 undef) = .bool true := hG.claims 0 _ rfl (by decide +kernel) (by decide +kernel)
                  have hg := hG.good
                  clear hG
                  go_wp2
                  exact ⟨_, rfl, rfl, hg, Below.refl _ _⟩
                · intro x wx hG
                  have f12 := hG.old 12 (by decide +kernel)
                  have gg : (x.tmps.getD 81 undef) = .bool true := hG.claims 1 _ rfl (by decide +kernel) (by decide +kernel)
                  replace gg := Cl.opt (hG.size.trans (show _ = 150 from rfl)) (by decide) gg
                  have hg := hG.good
                  clear hG
                  go_wp2
                  exact ⟨_, rfl, rfl, hg, Below.refl _ _⟩
                · intro x wx hG
                  have f7 := hG.old 7 (by decide +kernel)
                  have g2 : (x.tmps.getD 82 undef) = .int .i64 (q : Nat) := hG.claims 2 _ rfl (by decide +kernel) (by decide +kernel)
                  have gg : (x.tmps.getD 81 undef) = .bool true := hG.claims 1 _ rfl (by decide +kernel) (by decide +kernel)
                  replace gg := Cl.opt (hG.size.trans (show _ = 150 from rfl)) (by decide) gg
                  have hg := hG.good
                  clear hG
                  go_wp2
                  exact ⟨_, rfl, rfl, hg, Below.refl _ _⟩
                · intro x wx hG
                  have g3 : (x.tmps.getD 83 undef) = .pointer (some ⟨w2.heap.size, q, none⟩) := hG.claims 3 _ rfl (by decide +kernel) (by decide +kernel)
                  have gg : (x.tmps.getD 81 undef) = .bool true := hG.claims 1 _ rfl (by decide +kernel) (by decide +kernel)
                  replace gg := Cl.opt (hG.size.trans (show _ = 150 from rfl)) (by decide) gg
                  have hg := hG.good
                  clear hG
                  have cX := cell_of_block (j := q) (below_keep hg M.out.x) (upC_get f (q + 1) q hlt (Nat.lt_succ_self q))
                  go_wp2
                  exact ⟨_, rfl, rfl, hg, Below.refl _ _⟩
                · intro x wx hG
                  have f12 := hG.old 12 (by decide +kernel)
                  have gg : (x.tmps.getD 81 undef) = .bool true := hG.claims 1 _ rfl (by decide +kernel) (by decide +kernel)
                  replace gg := Cl.opt (hG.size.trans (show _ = 150 from rfl)) (by decide) gg
                  have hg := hG.good
                  clear hG
                  go_wp2
                  exact ⟨_, rfl, rfl, hg, Below.refl _ _⟩
                · intro x wx hG
                  have f8 := hG.old 8 (by decide +kernel)
                  have g5 : (x.tmps.getD 85 undef) = .int .i64 (q : Nat) := hG.claims 5 _ rfl (by decide +kernel) (by decide +kernel)
                  have gg : (x.tmps.getD 81 undef) = .bool true := hG.claims 1 _ rfl (by decide +kernel) (by decide +kernel)
                  replace gg := Cl.opt (hG.size.trans (show _ = 150 from rfl)) (by decide) gg
                  have hg := hG.good
                  clear hG
                  go_wp2
                  exact ⟨_, rfl, rfl, hg, Below.refl _ _⟩
                · intro x wx hG
                  have g6 : (x.tmps.getD 86 undef) = .pointer (some ⟨w2.heap.size + 1, q, none⟩) := hG.claims 6 _ rfl (by decide +kernel) (by decide +kernel)
                  have gg : (x.tmps.getD 81 undef) = .bool true := hG.claims 1 _ rfl (by decide +kernel) (by decide +kernel)
                  replace gg := Cl.opt (hG.size.trans (show _ = 150 from rfl)) (by decide) gg
                  have hg := hG.good
                  clear hG
                  have cY := cell_of_block (j := q) (below_keep hg M.out.y) (upC_get g (q + 1) q hlt (Nat.lt_succ_self q))
                  go_wp2
                  exact ⟨_, rfl, rfl, hg, Below.refl _ _⟩
                · intro x wx hG
                  have g4 : (x.tmps.getD 84 undef) = .int .i64 (f q) := hG.claims 4 _ rfl (by decide +kernel) (by decide +kernel)
                  have g7 : (x.tmps.getD 87 undef) = .int .i64 (g q) := hG.claims 7 _ rfl (by decide +kernel) (by decide +kernel)
                  have gg : (x.tmps.getD 81 undef) = .bool true := hG.claims 1 _ rfl (by decide +kernel) (by decide +kernel)
                  replace gg := Cl.opt (hG.size.trans (show _ = 150 from rfl)) (by decide) gg
                  have hg := hG.good
                  clear hG
                  go_wp2
                  exact ⟨_, rfl, rfl, hg, Below.refl _ _⟩
                · intro x wx hG
                  have g1 : (x.tmps.getD 81 undef) = .bool true := hG.claims 1 _ rfl (by decide +kernel) (by decide +kernel)
                  have g8 : (x.tmps.getD 88 undef) = .bool (decide (f q ≤ g q)) := hG.claims 8 _ rfl (by decide +kernel) (by decide +kernel)
                  have hg := hG.good
                  clear hG
                  go_wp2
                  exact ⟨_, rfl, rfl, hg, Below.refl _ _⟩
                · intro x wx hG
                  have g9 : (x.tmps.getD 89 undef) = .bool (decide (f q ≤ g q)) := hG.claims 9 _ rfl (by decide +kernel) (by decide +kernel)
                  have hg := hG.good
                  clear hG
                  go_wp2
                  exact ⟨_, rfl, rfl, hg, Below.refl _ _⟩
              · intro vals wt hg hF
                obtain ⟨g0, g1, g2, g3, g4, g5, g6, g7, g8, g9, g10, -⟩ := hF
                have e0 : vals 0 = .bool true := g0 rfl
                have e1 : vals 1 = .bool true := g1 rfl
                have e2 : vals 2 = .int .i64 (q : Nat) := g2 rfl
                have e3 : vals 3 = .pointer (some ⟨w2.heap.size, q, none⟩) := g3 rfl
                have e4 : vals 4 = .int .i64 (f q) := g4 rfl
                have e5 : vals 5 = .int .i64 (q : Nat) := g5 rfl
                have e6 : vals 6 = .pointer (some ⟨w2.heap.size + 1, q, none⟩) := g6 rfl
                have e7 : vals 7 = .int .i64 (g q) := g7 rfl
                have e8 : vals 8 = .bool (decide (f q ≤ g q)) := g8 rfl
                have e9 : vals 9 = .bool (decide (f q ≤ g q)) := g9 rfl
                have e10 : vals 10 = .bool (decide (f q ≤ g q)) := g10 rfl
                simp only [Cl.puts, e0, e1, e2, e3, e4, e5, e6, e7, e8, e9, e10]
                clear e0 e1 e2 e3 e4 e5 e6 e7 e8 e9 e10 g0 g1 g2 g3 g4 g5 g6 g7 g8 g9 g10
                go_simp
                have M2 := Lib.hid (M.out.below hg)
                clear M hg
                go_wp2
                go_roundw
                case rel => exact ⟨q + 1, by omega, by go_num, by rw [HWS.out]; rfl, M2.out⟩
                case measure => simp [intOf] <;> omega
        · have M2 := Lib.hid (M.out.skipY (show g q = 0 by rw [HG.out]; unfold xOf; rw [dif_neg hl1]))
          have hlb1 : decide ((q : Int) < (llb.length : Int)) = false := by simp; omega
          clear M
          have M := M2
          clear M2
          go_wp2
          obtain ⟨wv, hwv⟩ : ∃ wv, wv = (wb0.setCell ⟨w2.heap.size, q, none⟩ (.int .i64 (f q))) := ⟨_, rfl⟩
          rw [← hwv] at M ⊢
          (try clear c0 f0 hl0)
          clear hwv
          refine Cl.region0 150 rfl [] (fun _ => True) (fun _ => []) (fun jq v ww => match jq with | 0 => v = .int .i64 (q : Nat) | 1 => v = .int .i64 (q : Nat) | 2 => v = .int .i64 (q : Nat) | 3 => v = .pointer (some ⟨w2.heap.size, q, none⟩) | 4 => v = .int .i64 (f q) | 5 => v = .int .i64 (q : Nat) | 6 => v = .pointer (some ⟨w2.heap.size + 1, q, none⟩) | 7 => v = .int .i64 (g q) | 8 => v = .int .i64 (max (f q) (g q)) | 9 => v = .int .i64 (q : Nat) | 10 => v = .pointer (some ⟨w2.heap.size, q, none⟩) | 11 => v = .int .i64 (f q) | 12 => v = .int .i64 (q : Nat) | 13 => v = .pointer (some ⟨w2.heap.size + 1, q, none⟩) | 14 => v = .int .i64 (g q) | 15 => v = .int .i64 (min (f q) (g q)) | 16 => v = .pointer (some ⟨w2.heap.size + 2, q, none⟩) | 17 => ww.heap[w2.heap.size + 2]? = some (Obj.cells (intsC (upV (fun s => max (f s) (g s)) (q + 1))).toArray 83 (0, 0)) | 18 => v = .pointer (some ⟨w2.heap.size + 3, q, none⟩) | 19 => ww.heap[w2.heap.size + 3]? = some (Obj.cells (intsC (upV (fun s => min (f s) (g s)) (q + 1))).toArray 83 (0, 0)) | _ => True) (fun ww => VG w ww w2.heap.size f g q) (fun jq ww ww' => (jq ≠ 17 → jq ≠ 19 → Below ww.heap.size ww ww') ∧ (jq = 17 → ∃ u, ww' = ww.setCell ⟨w2.heap.size + 2, q, none⟩ u) ∧ (jq = 19 → ∃ u, ww' = ww.setCell ⟨w2.heap.size + 3, q, none⟩ u)) Try.mixed (by decide +kernel) (VG.of hlt M.out) trivial ?_ (fun _ _ _ _ _ _ => trivial) ?_ ?_
          · intro qq r v w w' hne hk hlt h hR
            match r, hk, hlt, h, hne with
            | 0, _, _, h, _ => exact h
            | 1, _, _, h, _ => exact h
            | 2, _, _, h, _ => exact h
            | 3, _, _, h, _ => exact h
            | 4, _, _, h, _ => exact h
            | 5, _, _, h, _ => exact h
            | 6, _, _, h, _ => exact h
            | 7, _, _, h, _ => exact h
            | 8, _, _, h, _ => exact h
            | 9, _, _, h, _ => exact h
            | 10, _, _, h, _ => exact h
            | 11, _, _, h, _ => exact h
            | 12, _, _, h, _ => exact h
            | 13, _, _, h, _ => exact h
            | 14, _, _, h, _ => exact h
            | 15, _, _, h, _ => exact h
            | 16, _, _, h, _ => exact h
            | 17, _, _, h, hne =>
              by_cases hqq : qq = 19
              · obtain ⟨u, hu⟩ := hR.2.2 hqq
                have h1 : w.heap[w2.heap.size + 2]? = some (Obj.cells (intsC (upV (fun s => max (f s) (g s)) (q + 1))).toArray 83 (0, 0)) := h
                show w'.heap[w2.heap.size + 2]? = some (Obj.cells (intsC (upV (fun s => max (f s) (g s)) (q + 1))).toArray 83 (0, 0))
                rw [hu]; exact (heap_set_other (by omega)).trans h1
              · exact below_keep (hR.1 (by exact hne) hqq) h
            | 18, _, _, h, _ => exact h
            | 19, _, _, h, hne =>
              by_cases hqq : qq = 17
              · obtain ⟨u, hu⟩ := hR.2.1 hqq
                have h1 : w.heap[w2.heap.size + 3]? = some (Obj.cells (intsC (upV (fun s => min (f s) (g s)) (q + 1))).toArray 83 (0, 0)) := h
                show w'.heap[w2.heap.size + 3]? = some (Obj.cells (intsC (upV (fun s => min (f s) (g s)) (q + 1))).toArray 83 (0, 0))
                rw [hu]; exact (heap_set_other (by omega)).trans h1
              · exact below_keep (hR.1 hqq (by exact hne)) h
            | _ + 20, _, _, _, _ => trivial
          · refine ⟨?_, ?_, ?_, ?_, ?_, ?_, ?_, ?_, ?_, ?_, ?_, ?_, ?_, ?_, ?_, ?_, ?_, ?_, ?_, ?_, trivial⟩
            · intro x wx hG
              have f12 := hG.old 12 (by decide +kernel)
              have hg := hG.good
              clear hG
              go_wp2
              exact ⟨_, rfl, rfl, hg, ⟨fun _ _ => Below.refl _ _, fun h => absurd h (by decide), fun h => absurd h (by decide)⟩⟩
            · intro x wx hG
              have f12 := hG.old 12 (by decide +kernel)
              have hg := hG.good
              clear hG
              go_wp2
              exact ⟨_, rfl, rfl, hg, ⟨fun _ _ => Below.refl _ _, fun h => absurd h (by decide), fun h => absurd h (by decide)⟩⟩
            · intro x wx hG
              have f12 := hG.old 12 (by decide +kernel)
              have hg := hG.good
              clear hG
              go_wp2
              exact ⟨_, rfl, rfl, hg, ⟨fun _ _ => Below.refl _ _, fun h => absurd h (by decide), fun h => absurd h (by decide)⟩⟩
            · intro x wx hG
              have f7 := hG.old 7 (by decide +kernel)
              have g2 : (x.tmps.getD 64 undef) = .int .i64 (q : Nat) := hG.claims 2 _ rfl (by decide +kernel) (by decide +kernel)
              have hg := hG.good
              clear hG
              go_wp2
              exact ⟨_, rfl, rfl, hg, ⟨fun _ _ => Below.refl _ _, fun h => absurd h (by decide), fun h => absurd h (by decide)⟩⟩
            · intro x wx hG
              have g3 : (x.tmps.getD 65 undef) = .pointer (some ⟨w2.heap.size, q, none⟩) := hG.claims 3 _ rfl (by decide +kernel) (by decide +kernel)
              have hg := hG.good
              clear hG
              have cX := cell_of_block (j := q) hg.1 (upC_get f (q + 1) q hlt (Nat.lt_succ_self q))
              go_wp2
              exact ⟨_, rfl, rfl, hg, ⟨fun _ _ => Below.refl _ _, fun h => absurd h (by decide), fun h => absurd h (by decide)⟩⟩
            · intro x wx hG
              have f12 := hG.old 12 (by decide +kernel)
              have hg := hG.good
              clear hG
              go_wp2
              exact ⟨_, rfl, rfl, hg, ⟨fun _ _ => Below.refl _ _, fun h => absurd h (by decide), fun h => absurd h (by decide)⟩⟩
            · intro x wx hG
              have f8 := hG.old 8 (by decide +kernel)
              have g5 : (x.tmps.getD 67 undef) = .int .i64 (q : Nat) := hG.claims 5 _ rfl (by decide +kernel) (by decide +kernel)
              have hg := hG.good
              clear hG
              go_wp2
              exact ⟨_, rfl, rfl, hg, ⟨fun _ _ => Below.refl _ _, fun h => absurd h (by decide), fun h => absurd h (by decide)⟩⟩
            · intro x wx hG
              have g6 : (x.tmps.getD 68 undef) = .pointer (some ⟨w2.heap.size + 1, q, none⟩) := hG.claims 6 _ rfl (by decide +kernel) (by decide +kernel)
              have hg := hG.good
              clear hG
              have cY := cell_of_block (j := q) hg.2.1 (upC_get g (q + 1) q hlt (Nat.lt_succ_self q))
              go_wp2
              exact ⟨_, rfl, rfl, hg, ⟨fun _ _ => Below.refl _ _, fun h => absurd h (by decide), fun h => absurd h (by decide)⟩⟩
            · intro x wx hG
              have g4 : (x.tmps.getD 66 undef) = .int .i64 (f q) := hG.claims 4 _ rfl (by decide +kernel) (by decide +kernel)
              have g7 : (x.tmps.getD 69 undef) = .int .i64 (g q) := hG.claims 7 _ rfl (by decide +kernel) (by decide +kernel)
              have hg := hG.good
              clear hG
              go_wp2
              exact ⟨_, rfl, rfl, hg, ⟨fun _ _ => Below.refl _ _, fun h => absurd h (by decide), fun h => absurd h (by decide)⟩⟩
            · intro x wx hG
              have f12 := hG.old 12 (by decide +kernel)
              have hg := hG.good
              clear hG
              go_wp2
              exact ⟨_, rfl, rfl, hg, ⟨fun _ _ => Below.refl _ _, fun h => absurd h (by decide), fun h => absurd h (by decide)⟩⟩
            · intro x wx hG
              have f7 := hG.old 7 (by decide +kernel)
              have g9 : (x.tmps.getD 71 undef) = .int .i64 (q : Nat) := hG.claims 9 _ rfl (by decide +kernel) (by decide +kernel)
              have hg := hG.good
              clear hG
              go_wp2
              exact ⟨_, rfl, rfl, hg, ⟨fun _ _ => Below.refl _ _, fun h => absurd h (by decide), fun h => absurd h (by decide)⟩⟩
            · intro x wx hG
              have g10 : (x.tmps.getD 72 undef) = .pointer (some ⟨w2.heap.size, q, none⟩) := hG.claims 10 _ rfl (by decide +kernel) (by decide +kernel)
              have hg := hG.good
              clear hG
              have cX := cell_of_block (j := q) hg.1 (upC_get f (q + 1) q hlt (Nat.lt_succ_self q))
              go_wp2
              exact ⟨_, rfl, rfl, hg, ⟨fun _ _ => Below.refl _ _, fun h => absurd h (by decide), fun h => absurd h (by decide)⟩⟩
            · intro x wx hG
              have f12 := hG.old 12 (by decide +kernel)
              have hg := hG.good
              clear hG
              go_wp2
              exact ⟨_, rfl, rfl, hg, ⟨fun _ _ => Below.refl _ _, fun h => absurd h (by decide), fun h => absurd h (by decide)⟩⟩
            · intro x wx hG
              have f8 := hG.old 8 (by decide +kernel)
              have g12 : (x.tmps.getD 74 undef) = .int .i64 (q : Nat) := hG.claims 12 _ rfl (by decide +kernel) (by decide +kernel)
              have hg := hG.good
              clear hG
              go_wp2
              exact ⟨_, rfl, rfl, hg, ⟨fun _ _ => Below.refl _ _, fun h => absurd h (by decide), fun h => absurd h (by decide)⟩⟩
            · intro x wx hG
              have g13 : (x.tmps.getD 75 undef) = .pointer (some ⟨w2.heap.size + 1, q, none⟩) := hG.claims 13 _ rfl (by decide +kernel) (by decide +kernel)
              have hg := hG.good
              clear hG
              have cY := cell_of_block (j := q) hg.2.1 (upC_get g (q + 1) q hlt (Nat.lt_succ_self q))
              go_wp2
              exact ⟨_, rfl, rfl, hg, ⟨fun _ _ => Below.refl _ _, fun h => absurd h (by decide), fun h => absurd h (by decide)⟩⟩
            · intro x wx hG
              have g11 : (x.tmps.getD 73 undef) = .int .i64 (f q) := hG.claims 11 _ rfl (by decide +kernel) (by decide +kernel)
              have g14 : (x.tmps.getD 76 undef) = .int .i64 (g q) := hG.claims 14 _ rfl (by decide +kernel) (by decide +kernel)
              have hg := hG.good
              clear hG
              go_wp2
              exact ⟨_, rfl, rfl, hg, ⟨fun _ _ => Below.refl _ _, fun h => absurd h (by decide), fun h => absurd h (by decide)⟩⟩
            · intro x wx hG
              have f9 := hG.old 9 (by decide +kernel)
              have g0 : (x.tmps.getD 62 undef) = .int .i64 (q : Nat) := hG.claims 0 _ rfl (by decide +kernel) (by decide +kernel)
              have hg := hG.good
              clear hG
              go_wp2
              exact ⟨_, rfl, rfl, hg, ⟨fun _ _ => Below.refl _ _, fun h => absurd h (by decide), fun h => absurd h (by decide)⟩⟩
            · intro x wx hG
              have g16 : (x.tmps.getD 78 undef) = .pointer (some ⟨w2.heap.size + 2, q, none⟩) := hG.claims 16 _ rfl (by decide +kernel) (by decide +kernel)
              have g8 : (x.tmps.getD 70 undef) = .int .i64 (max (f q) (g q)) := hG.claims 8 _ rfl (by decide +kernel) (by decide +kernel)
              have hg := hG.good
              clear hG
              obtain ⟨cs, hcs, hlc, hset⟩ := hg.2.2.1
              have r0 := cell_of_block (j := q) hcs (Array.getElem?_eq_getElem hlc)
              have f0 := free_of_block (j := q) hcs
              have hRl := hlt_of hcs
              have HCS := Lib.hid hcs
              have HG := Lib.hid hg
              have HS := Lib.hid hset
              clear hcs hset hg
              go_wp2
              exact ⟨undef, rfl, ((heap_set_same HCS.out).trans (congrArg (fun x => some (Obj.cells x 83 (0, 0))) HS.out)), VG.setO HG.out HCS.out HS.out, ⟨fun h => absurd rfl h, fun _ => ⟨_, rfl⟩, fun h => absurd h (by decide)⟩⟩
            · intro x wx hG
              have f10 := hG.old 10 (by decide +kernel)
              have g1 : (x.tmps.getD 63 undef) = .int .i64 (q : Nat) := hG.claims 1 _ rfl (by decide +kernel) (by decide +kernel)
              have hg := hG.good
              clear hG
              go_wp2
              exact ⟨_, rfl, rfl, hg, ⟨fun _ _ => Below.refl _ _, fun h => absurd h (by decide), fun h => absurd h (by decide)⟩⟩
            · intro x wx hG
              have g18 : (x.tmps.getD 79 undef) = .pointer (some ⟨w2.heap.size + 3, q, none⟩) := hG.claims 18 _ rfl (by decide +kernel) (by decide +kernel)
              have g15 : (x.tmps.getD 77 undef) = .int .i64 (min (f q) (g q)) := hG.claims 15 _ rfl (by decide +kernel) (by decide +kernel)
              have hg := hG.good
              clear hG
              obtain ⟨cs, hcs, hlc, hset⟩ := hg.2.2.2.1
              have r0 := cell_of_block (j := q) hcs (Array.getElem?_eq_getElem hlc)
              have f0 := free_of_block (j := q) hcs
              have hRl := hlt_of hcs
              have HCS := Lib.hid hcs
              have HG := Lib.hid hg
              have HS := Lib.hid hset
              clear hcs hset hg
              go_wp2
              exact ⟨undef, rfl, ((heap_set_same HCS.out).trans (congrArg (fun x => some (Obj.cells x 83 (0, 0))) HS.out)), VG.setA HG.out HCS.out HS.out, ⟨fun _ h => absurd rfl h, fun h => absurd h (by decide), fun _ => ⟨_, rfl⟩⟩⟩
          · intro vals wu hg hF
            obtain ⟨g0, g1, g2, g3, g4, g5, g6, g7, g8, g9, g10, g11, g12, g13, g14, g15, g16, g17, g18, g19, -⟩ := hF
            have e0 : vals 0 = .int .i64 (q : Nat) := g0 rfl
            have e1 : vals 1 = .int .i64 (q : Nat) := g1 rfl
            have e2 : vals 2 = .int .i64 (q : Nat) := g2 rfl
            have e3 : vals 3 = .pointer (some ⟨w2.heap.size, q, none⟩) := g3 rfl
            have e4 : vals 4 = .int .i64 (f q) := g4 rfl
            have e5 : vals 5 = .int .i64 (q : Nat) := g5 rfl
            have e6 : vals 6 = .pointer (some ⟨w2.heap.size + 1, q, none⟩) := g6 rfl
            have e7 : vals 7 = .int .i64 (g q) := g7 rfl
            have e8 : vals 8 = .int .i64 (max (f q) (g q)) := g8 rfl
            have e9 : vals 9 = .int .i64 (q : Nat) := g9 rfl
            have e10 : vals 10 = .pointer (some ⟨w2.heap.size, q, none⟩) := g10 rfl
            have e11 : vals 11 = .int .i64 (f q) := g11 rfl
            have e12 : vals 12 = .int .i64 (q : Nat) := g12 rfl
            have e13 : vals 13 = .pointer (some ⟨w2.heap.size + 1, q, none⟩) := g13 rfl
            have e14 : vals 14 = .int .i64 (g q) := g14 rfl
            have e15 : vals 15 = .int .i64 (min (f q) (g q)) := g15 rfl
            have e16 : vals 16 = .pointer (some ⟨w2.heap.size + 2, q, none⟩) := g16 rfl
            replace g17 : wu.heap[w2.heap.size + 2]? = some (Obj.cells (intsC (upV (fun s => max (f s) (g s)) (q + 1))).toArray 83 (0, 0)) := g17 rfl
            have e18 : vals 18 = .pointer (some ⟨w2.heap.size + 3, q, none⟩) := g18 rfl
            replace g19 : wu.heap[w2.heap.size + 3]? = some (Obj.cells (intsC (upV (fun s => min (f s) (g s)) (q + 1))).toArray 83 (0, 0)) := g19 rfl
            simp only [Cl.puts, e0, e1, e2, e3, e4, e5, e6, e7, e8, e9, e10, e11, e12, e13, e14, e15, e16, e18]
            clear e0 e1 e2 e3 e4 e5 e6 e7 e8 e9 e10 e11 e12 e13 e14 e15 e16 e18 g0 g1 g2 g3 g4 g5 g6 g7 g8 g9 g10 g11 g12 g13 g14 g15 g16 g18
            go_simp
            have M := Lib.hid (VG.done hg g17 g19)
            clear g17 g19 hg
            have HWS := Lib.hid (withinN_succ f g q)
            generalize withinN f g q = wq at *
            cases wq
            · go_wp2
              refine Cl.region0 150 rfl [] (fun _ => True) (fun _ => []) (fun jq v ww => match jq with | 0 => v = .bool false | 1 => v = .bool false | 2 => v = undef | 3 => v = undef | 4 => v = undef | 5 => v = undef | 6 => v = undef | 7 => v = undef | 8 => v = undef | 9 => v = .bool false | 10 => v = .bool false | _ => True) (fun ww => Below wu.heap.size wu ww) (fun jq ww ww' => Below ww.heap.size ww ww') Try.mixed (by decide +kernel) (Below.refl _ _).drew trivial (fun q r v w w' _ _ _ h _ => h) (fun _ _ _ _ _ _ => trivial) ?_ ?_
              · refine ⟨?_, ?_, ?_, ?_, ?_, ?_, ?_, ?_, ?_, ?_, ?_, trivial⟩
                · intro x wx hG
                  have f11 := hG.old 11 (by decide +kernel)
                  have hg := hG.good
                  clear hG
                  go_wp2
                  exact ⟨_, rfl, rfl, hg, Below.refl _ _⟩
                · intro x wx hG
                  have g0 : (x.tmps.getD 80 undef) = .bool false := hG.claims 0 _ rfl (by decide +kernel) (by decide +kernel)
                  have hg := hG.good
                  clear hG
                  go_wp2
                  exact ⟨_, rfl, rfl, hg, Below.refl _ _⟩
                · intro x wx hG
                  have gg : (x.tmps.getD 81 undef) = .bool false := hG.claims 1 _ rfl (by decide +kernel) (by decide +kernel)
                  replace gg := Cl.opt (hG.size.trans (show _ = 150 from rfl)) (by decide) gg
                  have hg := hG.good
                  clear hG
                  go_wp2
                  exact ⟨_, rfl, rfl, hg, Below.refl _ _⟩
                · intro x wx hG
                  have gg : (x.tmps.getD 81 undef) = .bool false := hG.claims 1 _ rfl (by decide +kernel) (by decide +kernel)
                  replace gg := Cl.opt (hG.size.trans (show _ = 150 from rfl)) (by decide) gg
                  have hg := hG.good
                  clear hG
                  go_wp2
                  exact ⟨_, rfl, rfl, hg, Below.refl _ _⟩
                · intro x wx hG
                  have gg : (x.tmps.getD 81 undef) = .bool false := hG.claims 1 _ rfl (by decide +kernel) (by decide +kernel)
                  replace gg := Cl.opt (hG.size.trans (show _ = 150 from rfl)) (by decide) gg
                  have hg := hG.good
                  clear hG
                  go_wp2
                  exact ⟨_, rfl, rfl, hg, Below.refl _ _⟩
                · intro x wx hG
                  have gg : (x.tmps.getD 81 undef) = .bool false := hG.claims 1 _ rfl (by decide +kernel) (by decide +kernel)
                  replace gg := Cl.opt (hG.size.trans (show _ = 150 from rfl)) (by decide) gg
                  have hg := hG.good
                  clear hG
                  go_wp2
                  exact ⟨_, rfl, rfl, hg, Below.refl _ _⟩
                · intro x wx hG
                  have gg : (x.tmps.getD 81 undef) = .bool false := hG.claims 1 _ rfl (by decide +kernel) (by decide +kernel)
                  replace gg := Cl.opt (hG.size.trans (show _ = 150 from rfl)) (by decide) gg
                  have hg := hG.good
                  clear hG
                  go_wp2
                  exact ⟨_, rfl, rfl, hg, Below.refl _ _⟩
                · intro x wx hG
                  have gg : (x.tmps.getD 81 undef) = .bool false := hG.claims 1 _ rfl (by decide +kernel) (by decide +kernel)
                  replace gg := Cl.opt (hG.size.trans (show _ = 150 from rfl)) (by decide) gg
                  have hg := hG.good
                  clear hG
                  go_wp2
                  exact ⟨_, rfl, rfl, hg, Below.refl _ _⟩
                · intro x wx hG
                  have gg : (x.tmps.getD 81 undef) = .bool false := hG.claims 1 _ rfl (by decide +kernel) (by decide +kernel)
                  replace gg := Cl.opt (hG.size.trans (show _ = 150 from rfl)) (by decide) gg
                  have hg := hG.good
                  clear hG
                  go_wp2
                  exact ⟨_, rfl, rfl, hg, Below.refl _ _⟩
                · intro x wx hG
                  have g1 : (x.tmps.getD 81 undef) = .bool false := hG.claims 1 _ rfl (by decide +kernel) (by decide +kernel)
                  have g8 : (x.tmps.getD 88 undef) = undef := hG.claims 8 _ rfl (by decide +kernel) (by decide +kernel)
                  have hg := hG.good
                  clear hG
                  go_wp2
                  exact ⟨_, rfl, rfl, hg, Below.refl _ _⟩
                · intro x wx hG
                  have g9 : (x.tmps.getD 89 undef) = .bool false := hG.claims 9 _ rfl (by decide +kernel) (by decide +kernel)
                  have hg := hG.good
                  clear hG
                  go_wp2
                  exact ⟨_, rfl, rfl, hg, Below.refl _ _⟩
              · intro vals wt hg hF
                obtain ⟨g0, g1, g2, g3, g4, g5, g6, g7, g8, g9, g10, -⟩ := hF
                have e0 : vals 0 = .bool false := g0 rfl
                have e1 : vals 1 = .bool false := g1 rfl
                have e2 : vals 2 = undef := g2 rfl
                have e3 : vals 3 = undef := g3 rfl
                have e4 : vals 4 = undef := g4 rfl
                have e5 : vals 5 = undef := g5 rfl
                have e6 : vals 6 = undef := g6 rfl
                have e7 : vals 7 = undef := g7 rfl
                have e8 : vals 8 = undef := g8 rfl
                have e9 : vals 9 = .bool false := g9 rfl
                have e10 : vals 10 = .bool false := g10 rfl
                simp only [Cl.puts, e0, e1, e2, e3, e4, e5, e6, e7, e8, e9, e10]
                clear e0 e1 e2 e3 e4 e5 e6 e7 e8 e9 e10 g0 g1 g2 g3 g4 g5 g6 g7 g8 g9 g10
                go_simp
                have M2 := Lib.hid (M.out.below hg)
                clear M hg
                go_wp2
                go_roundw
                case rel => exact ⟨q + 1, by omega, by go_num, by rw [HWS.out]; rfl, M2.out⟩
                case measure => simp [intOf] <;> omega
            · go_wp2
              refine Cl.region0 150 rfl [] (fun _ => True) (fun _ => []) (fun jq v ww => match jq with | 0 => v = .bool true | 1 => v = .bool true | 2 => v = .int .i64 (q : Nat) | 3 => v = .pointer (some ⟨w2.heap.size, q, none⟩) | 4 => v = .int .i64 (f q) | 5 => v = .int .i64 (q : Nat) | 6 => v = .pointer (some ⟨w2.heap.size + 1, q, none⟩) | 7 => v = .int .i64 (g q) | 8 => v = .bool (decide (f q ≤ g q)) | 9 => v = .bool (decide (f q ≤ g q)) | 10 => v = .bool (decide (f q ≤ g q)) | _ => True) (fun ww => Below wu.heap.size wu ww) (fun jq ww ww' => Below ww.heap.size ww ww') Try.mixed (by decide +kernel) (Below.refl _ _).drew trivial (fun q r v w w' _ _ _ h _ => h) (fun _ _ _ _ _ _ => trivial) ?_ ?_
              · refine ⟨?_, ?_, ?_, ?_, ?_, ?_, ?_, ?_, ?_, ?_, ?_, trivial⟩
                · intro x wx hG
                  have f11 := hG.old 11 (by decide +kernel)
                  have hg := hG.good
                  clear hG
                  go_wp2
                  exact ⟨_, rfl, rfl, hg, Below.refl _ _⟩
                · intro x wx hG
                  have g0 : (x.tmps.getD 80 undef) = .bool true := hG.claims 0 _ rfl (by decide +kernel) (by decide +kernel)
                  have hg := hG.good
                  clear hG
                  go_wp2
                  exact ⟨_, rfl, rfl, hg, Below.refl _ _⟩
                · intro x wx hG
                  have f12 := hG.old 12 (by decide +kernel)
                  have gg : (x.tmps.getD 81 undef) = .bool true := hG.claims 1 _ rfl (by decide +kernel) (by decide +kernel)
                  replace gg := Cl.opt (hG.size.trans (show _ = 150 from rfl)) (by decide) gg
                  have hg := hG.good
                  clear hG
                  go_wp2
                  exact ⟨_, rfl, rfl, hg, Below.refl _ _⟩
                · intro x wx hG
                  have f7 := hG.old 7 (by decide +kernel)
                  have g2 : (x.tmps.getD 82 undef) = .int .i64 (q : Nat) := hG.claims 2 _ rfl (by decide +kernel) (by decide +kernel)
                  have gg : (x.tmps.getD 81 undef) = .bool true := hG.claims 1 _ rfl (by decide +kernel) (by decide +kernel)
                  replace gg := Cl.opt (hG.size.trans (show _ = 150 from rfl)) (by decide) gg
                  have hg := hG.good
                  clear hG
                  go_wp2
                  exact ⟨_, rfl, rfl, hg, Below.refl _ _⟩
                · intro x wx hG
                  have g3 : (x.tmps.getD 83 undef) = .pointer (some ⟨w2.heap.size, q, none⟩) := hG.claims 3 _ rfl (by decide +kernel) (by decide +kernel)
                  have gg : (x.tmps.getD 81 undef) = .bool true := hG.claims 1 _ rfl (by decide +kernel) (by decide +kernel)
                  replace gg := Cl.opt (hG.size.trans (show _ = 150 from rfl)) (by decide) gg
                  have hg := hG.good
                  clear hG
                  have cX := cell_of_block (j := q) (below_keep hg M.out.x) (upC_get f (q + 1) q hlt (Nat.lt_succ_self q))
                  go_wp2
                  exact ⟨_, rfl, rfl, hg, Below.refl _ _⟩
                · intro x wx hG
                  have f12 := hG.old 12 (by decide +kernel)
                  have gg : (x.tmps.getD 81 undef) = .bool true := hG.claims 1 _ rfl (by decide +kernel) (by decide +kernel)
                  replace gg := Cl.opt (hG.size.trans (show _ = 150 from rfl)) (by decide) gg
                  have hg := hG.good
                  clear hG
                  go_wp2
                  exact ⟨_, rfl, rfl, hg, Below.refl _ _⟩
                · intro x wx hG
                  have f8 := hG.old 8 (by decide +kernel)
                  have g5 : (x.tmps.getD 85 undef) = .int .i64 (q : Nat) := hG.claims 5 _ rfl (by decide +kernel) (by decide +kernel)
                  have gg : (x.tmps.getD 81 undef) = .bool true := hG.claims 1 _ rfl (by decide +kernel) (by decide +kernel)
                  replace gg := Cl.opt (hG.size.trans (show _ = 150 from rfl)) (by decide) gg
                  have hg := hG.good
                  clear hG
                  go_wp2
                  exact ⟨_, rfl, rfl, hg, Below.refl _ _⟩
                · intro x wx hG
                  have g6 : (x.tmps.getD 86 undef) = .pointer (some ⟨w2.heap.size + 1, q, none⟩) := hG.claims 6 _ rfl (by decide +kernel) (by decide +kernel)
                  have gg : (x.tmps.getD 81 undef) = .bool true := hG.claims 1 _ rfl (by decide +kernel) (by decide +kernel)
                  replace gg := Cl.opt (hG.size.trans (show _ = 150 from rfl)) (by decide) gg
                  have hg := hG.good
                  clear hG
                  have cY := cell_of_block (j := q) (below_keep hg M.out.y) (upC_get g (q + 1) q hlt (Nat.lt_succ_self q))
                  go_wp2
                  exact ⟨_, rfl, rfl, hg, Below.refl _ _⟩
                · intro x wx hG
                  have g4 : (x.tmps.getD 84 undef) = .int .i64 (f q) := hG.claims 4 _ rfl (by decide +kernel) (by decide +kernel)
                  have g7 : (x.tmps.getD 87 undef) = .int .i64 (g q) := hG.claims 7 _ rfl (by decide +kernel) (by decide +kernel)
                  have gg : (x.tmps.getD 81 undef) = .bool true := hG.claims 1 _ rfl (by decide +kernel) (by decide +kernel)
                  replace gg := Cl.opt (hG.size.trans (show _ = 150 from rfl)) (by decide) gg
                  have hg := hG.good
                  clear hG
                  go_wp2
                  exact ⟨_, rfl, rfl, hg, Below.refl _ _⟩
                · intro x wx hG
                  have g1 : (x.tmps.getD 81 undef) = .bool true := hG.claims 1 _ rfl (by decide +kernel) (by decide +kernel)
                  have g8 : (x.tmps.getD 88 undef) = .bool (decide (f q ≤ g q)) := hG.claims 8 _ rfl (by decide +kernel) (by decide +kernel)
                  have hg := hG.good
                  clear hG
                  go_wp2
                  exact ⟨_, rfl, rfl, hg, Below.refl _ _⟩
                · intro x wx hG
                  have g9 : (x.tmps.getD 89 undef) = .bool (decide (f q ≤ g q)) := hG.claims 9 _ rfl (by decide +kernel) (by decide +kernel)
                  have hg := hG.good
                  clear hG
                  go_wp2
                  exact ⟨_, rfl, rfl, hg, Below.refl _ _⟩
              · intro vals wt hg hF
                obtain ⟨g0, g1, g2, g3, g4, g5, g6, g7, g8, g9, g10, -⟩ := hF
                have e0 : vals 0 = .bool true := g0 rfl
                have e1 : vals 1 = .bool true := g1 rfl
                have e2 : vals 2 = .int .i64 (q : Nat) := g2 rfl
                have e3 : vals 3 = .pointer (some ⟨w2.heap.size, q, none⟩) := g3 rfl
                have e4 : vals 4 = .int .i64 (f q) := g4 rfl
                have e5 : vals 5 = .int .i64 (q : Nat) := g5 rfl
                have e6 : vals 6 = .pointer (some ⟨w2.heap.size + 1, q, none⟩) := g6 rfl
                have e7 : vals 7 = .int .i64 (g q) := g7 rfl
                have e8 : vals 8 = .bool (decide (f q ≤ g q)) := g8 rfl
                have e9 : vals 9 = .bool (decide (f q ≤ g q)) := g9 rfl
                have e10 : vals 10 = .bool (decide (f q ≤ g q)) := g10 rfl
                simp only [Cl.puts, e0, e1, e2, e3, e4, e5, e6, e7, e8, e9, e10]
                clear e0 e1 e2 e3 e4 e5 e6 e7 e8 e9 e10 g0 g1 g2 g3 g4 g5 g6 g7 g8 g9 g10
                go_simp
                have M2 := Lib.hid (M.out.below hg)
                clear M hg
                go_wp2
                go_roundw
                case rel => exact ⟨q + 1, by omega, by go_num, by rw [HWS.out]; rfl, M2.out⟩
                case measure => simp [intOf] <;> omega
      · have M2 := Lib.hid (M.out.skipX (show f q = 0 by rw [HF.out]; unfold xOf; rw [dif_neg hl0]))
        have hlb0 : decide ((q : Int) < (lla.length : Int)) = false := by simp; omega
        clear M
        have M := M2
        clear M2
        by_cases hl1 : q < llb.length
        · rcases HBL.out with hnil | ⟨b1, off1, rfl, hb1, hc1⟩
          · rw [hnil] at hl1; simp at hl1
          have c1 := (M.out.bel.cell (p := ⟨b1, off1 + q, none⟩) hb1).trans (hc1 q hl1)
          have HFQ := Lib.hid (show g q = ((wiN llb[q] 50 : Nat) : Int) by rw [HG.out]; unfold xOf; rw [dif_pos hl1])
          have hlb1 : decide ((q : Int) < (llb.length : Int)) = true := by simp; omega
          clear hc1
          generalize llb[q] = x0 at *
          have HWC := Lib.hid (fun w2 => wiN_c x0 50 w2 (by decide) (by decide))
          go_wp2_with fail
          (with_reducible refine (HWC.out _).mono ?_)
          rintro e wb1 ⟨rfl, hb⟩
          have M2 := Lib.hid (M.out.below hb)
          rw [← HFQ.out]
          clear hb c1 M HWC HFQ
          have M := M2
          clear M2
          have c0 := cell_of_block (j := q) M.out.y (upC_get0 g q hlt)
          have f0 := free_of_block (j := q) M.out.y
          have hl0 := hlt_of M.out.y
          have M2 := Lib.hid (M.out.setY hlt)
          clear M
          have M := M2
          clear M2
          go_wp2
          obtain ⟨wv, hwv⟩ : ∃ wv, wv = (wb1.setCell ⟨w2.heap.size + 1, q, none⟩ (.int .i64 (g q))) := ⟨_, rfl⟩
          rw [← hwv] at M ⊢
          (try clear c0 f0 hl0)
          clear hwv
          refine Cl.region0 150 rfl [] (fun _ => True) (fun _ => []) (fun jq v ww => match jq with | 0 => v = .int .i64 (q : Nat) | 1 => v = .int .i64 (q : Nat) | 2 => v = .int .i64 (q : Nat) | 3 => v = .pointer (some ⟨w2.heap.size, q, none⟩) | 4 => v = .int .i64 (f q) | 5 => v = .int .i64 (q : Nat) | 6 => v = .pointer (some ⟨w2.heap.size + 1, q, none⟩) | 7 => v = .int .i64 (g q) | 8 => v = .int .i64 (max (f q) (g q)) | 9 => v = .int .i64 (q : Nat) | 10 => v = .pointer (some ⟨w2.heap.size, q, none⟩) | 11 => v = .int .i64 (f q) | 12 => v = .int .i64 (q : Nat) | 13 => v = .pointer (some ⟨w2.heap.size + 1, q, none⟩) | 14 => v = .int .i64 (g q) | 15 => v = .int .i64 (min (f q) (g q)) | 16 => v = .pointer (some ⟨w2.heap.size + 2, q, none⟩) | 17 => ww.heap[w2.heap.size + 2]? = some (Obj.cells (intsC (upV (fun s => max (f s) (g s)) (q + 1))).toArray 83 (0, 0)) | 18 => v = .pointer (some ⟨w2.heap.size + 3, q, none⟩) | 19 => ww.heap[w2.heap.size + 3]? = some (Obj.cells (intsC (upV (fun s => min (f s) (g s)) (q + 1))).toArray 83 (0, 0)) | _ => True) (fun ww => VG w ww w2.heap.size f g q) (fun jq ww ww' => (jq ≠ 17 → jq ≠ 19 → Below ww.heap.size ww ww') ∧ (jq = 17 → ∃ u, ww' = ww.setCell ⟨w2.heap.size + 2, q, none⟩ u) ∧ (jq = 19 → ∃ u, ww' = ww.setCell ⟨w2.heap.size + 3, q, none⟩ u)) Try.mixed (by decide +kernel) (VG.of hlt M.out) trivial ?_ (fun _ _ _ _ _ _ => trivial) ?_ ?_
          · intro qq r v w w' hne hk hlt h hR
            match r, hk, hlt, h, hne with
            | 0, _, _, h, _ => exact h
            | 1, _, _, h, _ => exact h
            | 2, _, _, h, _ => exact h
            | 3, _, _, h, _ => exact h
            | 4, _, _, h, _ => exact h
            | 5, _, _, h, _ => exact h
            | 6, _, _, h, _ => exact h
            | 7, _, _, h, _ => exact h
            | 8, _, _, h, _ => exact h
            | 9, _, _, h, _ => exact h
            | 10, _, _, h, _ => exact h
            | 11, _, _, h, _ => exact h
            | 12, _, _, h, _ => exact h
            | 13, _, _, h, _ => exact h
            | 14, _, _, h, _ => exact h
            | 15, _, _, h, _ => exact h
            | 16, _, _, h, _ => exact h
            | 17, _, _, h, hne =>
              by_cases hqq : qq = 19
              · obtain ⟨u, hu⟩ := hR.2.2 hqq
                have h1 : w.heap[w2.heap.size + 2]? = some (Obj.cells (intsC (upV (fun s => max (f s) (g s)) (q + 1))).toArray 83 (0, 0)) := h
                show w'.heap[w2.heap.size + 2]? = some (Obj.cells (intsC (upV (fun s => max (f s) (g s)) (q + 1))).toArray 83 (0, 0))
                rw [hu]; exact (heap_set_other (by omega)).trans h1
              · exact below_keep (hR.1 (by exact hne) hqq) h
            | 18, _, _, h, _ => exact h
            | 19, _, _, h, hne =>
              by_cases hqq : qq = 17
              · obtain ⟨u, hu⟩ := hR.2.1 hqq
                have h1 : w.heap[w2.heap.size + 3]? = some (Obj.cells (intsC (upV (fun s => min (f s) (g s)) (q + 1))).toArray 83 (0, 0)) := h
                show w'.heap[w2.heap.size + 3]? = some (Obj.cells (intsC (upV (fun s => min (f s) (g s)) (q + 1))).toArray 83 (0, 0))
                rw [hu]; exact (heap_set_other (by omega)).trans h1
              · exact below_keep (hR.1 hqq (by exact hne)) h
            | _ + 20, _, _, _, _ => trivial
          · refine ⟨?_, ?_, ?_, ?_, ?_, ?_, ?_, ?_, ?_, ?_, ?_, ?_, ?_, ?_, ?_, ?_, ?_, ?_, ?_, ?_, trivial⟩
            · intro x wx hG
              have f12 := hG.old 12 (by decide +kernel)
              have hg := hG.good
              clear hG
              go_wp2
              exact ⟨_, rfl, rfl, hg, ⟨fun _ _ => Below.refl _ _, fun h => absurd h (by decide), fun h => absurd h (by decide)⟩⟩
            · intro x wx hG
              have f12 := hG.old 12 (by decide +kernel)
              have hg := hG.good
              clear hG
              go_wp2
              exact ⟨_, rfl, rfl, hg, ⟨fun _ _ => Below.refl _ _, fun h => absurd h (by decide), fun h => absurd h (by decide)⟩⟩
            · intro x wx hG
              have f12 := hG.old 12 (by decide +kernel)
              have hg := hG.good
              clear hG
              go_wp2
              exact ⟨_, rfl, rfl, hg, ⟨fun _ _ => Below.refl _ _, fun h => absurd h (by decide), fun h => absurd h (by decide)⟩⟩
            · intro x wx hG
              have f7 := hG.old 7 (by decide +kernel)
              have g2 : (x.tmps.getD 64 undef) = .int .i64 (q : Nat) := hG.claims 2 _ rfl (by decide +kernel) (by decide +kernel)
              have hg := hG.good
              clear hG
              go_wp2
              exact ⟨_, rfl, rfl, hg, ⟨fun _ _ => Below.refl _ _, fun h => absurd h (by decide), fun h => absurd h (by decide)⟩⟩
            · intro x wx hG
              have g3 : (x.tmps.getD 65 undef) = .pointer (some ⟨w2.heap.size, q, none⟩) := hG.claims 3 _ rfl (by decide +kernel) (by decide +kernel)
              have hg := hG.good
              clear hG
              have cX := cell_of_block (j := q) hg.1 (upC_get f (q + 1) q hlt (Nat.lt_succ_self q))
              go_wp2
              exact ⟨_, rfl, rfl, hg, ⟨fun _ _ => Below.refl _ _, fun h => absurd h (by decide), fun h => absurd h (by decide)⟩⟩
            · intro x wx hG
              have f12 := hG.old 12 (by decide +kernel)
              have hg := hG.good
              clear hG
              go_wp2
              exact ⟨_, rfl, rfl, hg, ⟨fun _ _ => Below.refl _ _, fun h => absurd h (by decide), fun h => absurd h (by decide)⟩⟩
            · intro x wx hG
              have f8 := hG.old 8 (by decide +kernel)
              have g5 : (x.tmps.getD 67 undef) = .int .i64 (q : Nat) := hG.claims 5 _ rfl (by decide +kernel) (by decide +kernel)
              have hg := hG.good
              clear hG
              go_wp2
              exact ⟨_, rfl, rfl, hg, ⟨fun _ _ => Below.refl _ _, fun h => absurd h (by decide), fun h => absurd h (by decide)⟩⟩
            · intro x wx hG
              have g6 : (x.tmps.getD 68 undef) = .pointer (some ⟨w2.heap.size + 1, q, none⟩) := hG.claims 6 _ rfl (by decide +kernel) (by decide +kernel)
              have hg := hG.good
              clear hG
              have cY := cell_of_block (j := q) hg.2.1 (upC_get g (q + 1) q hlt (Nat.lt_succ_self q))
              go_wp2
              exact ⟨_, rfl, rfl, hg, ⟨fun _ _ => Below.refl _ _, fun h => absurd h (by decide), fun h => absurd h (by decide)⟩⟩
            · intro x wx hG
              have g4 : (x.tmps.getD 66 undef) = .int .i64 (f q) := hG.claims 4 _ rfl (by decide +kernel) (by decide +kernel)
              have g7 : (x.tmps.getD 69 undef) = .int .i64 (g q) := hG.claims 7 _ rfl (by decide +kernel) (by decide +kernel)
              have hg := hG.good
              clear hG
              go_wp2
              exact ⟨_, rfl, rfl, hg, ⟨fun _ _ => Below.refl _ _, fun h => absurd h (by decide), fun h => absurd h (by decide)⟩⟩
            · intro x wx hG
              have f12 := hG.old 12 (by decide +kernel)
              have hg := hG.good
              clear hG
              go_wp2
              exact ⟨_, rfl, rfl, hg, ⟨fun _ _ => Below.refl _ _, fun h => absurd h (by decide), fun h => absurd h (by decide)⟩⟩
            · intro x wx hG
              have f7 := hG.old 7 (by decide +kernel)
              have g9 : (x.tmps.getD 71 undef) = .int .i64 (q : Nat) := hG.claims 9 _ rfl (by decide +kernel) (by decide +kernel)
              have hg := hG.good
              clear hG
              go_wp2
              exact ⟨_, rfl, rfl, hg, ⟨fun _ _ => Below.refl _ _, fun h => absurd h (by decide), fun h => absurd h (by decide)⟩⟩
            · intro x wx hG
              have g10 : (x.tmps.getD 72 undef) = .pointer (some ⟨w2.heap.size, q, none⟩) := hG.claims 10 _ rfl (by decide +kernel) (by decide +kernel)
              have hg := hG.good
              clear hG
              have cX := cell_of_block (j := q) hg.1 (upC_get f (q + 1) q hlt (Nat.lt_succ_self q))
              go_wp2
              exact ⟨_, rfl, rfl, hg, ⟨fun _ _ => Below.refl _ _, fun h => absurd h (by decide), fun h => absurd h (by decide)⟩⟩
            · intro x wx hG
              have f12 := hG.old 12 (by decide +kernel)
              have hg := hG.good
              clear hG
              go_wp2
              exact ⟨_, rfl, rfl, hg, ⟨fun _ _ => Below.refl _ _, fun h => absurd h (by decide), fun h => absurd h (by decide)⟩⟩
            · intro x wx hG
              have f8 := hG.old 8 (by decide +kernel)
              have g12 : (x.tmps.getD 74 undef) = .int .i64 (q : Nat) := hG.claims 12 _ rfl (by decide +kernel) (by decide +kernel)
              have hg := hG.good
              clear hG
              go_wp2
              exact ⟨_, rfl, rfl, hg, ⟨fun _ _ => Below.refl _ _, fun h => absurd h (by decide), fun h => absurd h (by decide)⟩⟩
            · intro x wx hG
              have g13 : (x.tmps.getD 75 undef) = .pointer (some ⟨w2.heap.size + 1, q, none⟩) := hG.claims 13 _ rfl (by decide +kernel) (by decide +kernel)
              have hg := hG.good
              clear hG
              have cY := cell_of_block (j := q) hg.2.1 (upC_get g (q + 1) q hlt (Nat.lt_succ_self q))
              go_wp2
              exact ⟨_, rfl, rfl, hg, ⟨fun _ _ => Below.refl _ _, fun h => absurd h (by decide), fun h => absurd h (by decide)⟩⟩
            · intro x wx hG
              have g11 : (x.tmps.getD 73 undef) = .int .i64 (f q) := hG.claims 11 _ rfl (by decide +kernel) (by decide +kernel)
              have g14 : (x.tmps.getD 76 undef) = .int .i64 (g q) := hG.claims 14 _ rfl (by decide +kernel) (by decide +kernel)
              have hg := hG.good
              clear hG
              go_wp2
              exact ⟨_, rfl, rfl, hg, ⟨fun _ _ => Below.refl _ _, fun h => absurd h (by decide), fun h => absurd h (by decide)⟩⟩
            · intro x wx hG
              have f9 := hG.old 9 (by decide +kernel)
              have g0 : (x.tmps.getD 62 undef) = .int .i64 (q : Nat) := hG.claims 0 _ rfl (by decide +kernel) (by decide +kernel)
              have hg := hG.good
              clear hG
              go_wp2
              exact ⟨_, rfl, rfl, hg, ⟨fun _ _ => Below.refl _ _, fun h => absurd h (by decide), fun h => absurd h (by decide)⟩⟩
            · intro x wx hG
              have g16 : (x.tmps.getD 78 undef) = .pointer (some ⟨w2.heap.size + 2, q, none⟩) := hG.claims 16 _ rfl (by decide +kernel) (by decide +kernel)
              have g8 : (x.tmps.getD 70 undef) = .int .i64 (max (f q) (g q)) := hG.claims 8 _ rfl (by decide +kernel) (by decide +kernel)
              have hg := hG.good
              clear hG
              obtain ⟨cs, hcs, hlc, hset⟩ := hg.2.2.1
              have r0 := cell_of_block (j := q) hcs (Array.getElem?_eq_getElem hlc)
              have f0 := free_of_block (j := q) hcs
              have hRl := hlt_of hcs
              have HCS := Lib.hid hcs
              have HG := Lib.hid hg
              have HS := Lib.hid hset
              clear hcs hset hg
              go_wp2
              exact ⟨undef, rfl, ((heap_set_same HCS.out).trans (congrArg (fun x => some (Obj.cells x 83 (0, 0))) HS.out)), VG.setO HG.out HCS.out HS.out, ⟨fun h => absurd rfl h, fun _ => ⟨_, rfl⟩, fun h => absurd h (by decide)⟩⟩
            · intro x wx hG
              have f10 := hG.old 10 (by decide +kernel)
              have g1 : (x.tmps.getD 63 undef) = .int .i64 (q : Nat) := hG.claims 1 _ rfl (by decide +kernel) (by decide +kernel)
              have hg := hG.good
              clear hG
              go_wp2
              exact ⟨_, rfl, rfl, hg, ⟨fun _ _ => Below.refl _ _, fun h => absurd h (by decide), fun h => absurd h (by decide)⟩⟩
            · intro x wx hG
              have g18 : (x.tmps.getD 79 undef) = .pointer (some ⟨w2.heap.size + 3, q, none⟩) := hG.claims 18 _ rfl (by decide +kernel) (by decide +kernel)
              have g15 : (x.tmps.getD 77 undef) = .int .i64 (min (f q) (g q)) := hG.claims 15 _ rfl (by decide +kernel) (by decide +kernel)
              have hg := hG.good
              clear hG
              obtain ⟨cs, hcs, hlc, hset⟩ := hg.2.2.2.1
              have r0 := cell_of_block (j := q) hcs (Array.getElem?_eq_getElem hlc)
              have f0 := free_of_block (j := q) hcs
              have hRl := hlt_of hcs
              have HCS := Lib.hid hcs
              have HG := Lib.hid hg
              have HS := Lib.hid hset
              clear hcs hset hg
              go_wp2
              exact ⟨undef, rfl, ((heap_set_same HCS.out).trans (congrArg (fun x => some (Obj.cells x 83 (0, 0))) HS.out)), VG.setA HG.out HCS.out HS.out, ⟨fun _ h => absurd rfl h, fun h => absurd h (by decide), fun _ => ⟨_, rfl⟩⟩⟩
          · intro vals wu hg hF
            obtain ⟨g0, g1, g2, g3, g4, g5, g6, g7, g8, g9, g10, g11, g12, g13, g14, g15, g16, g17, g18, g19, -⟩ := hF
            have e0 : vals 0 = .int .i64 (q : Nat) := g0 rfl
            have e1 : vals 1 = .int .i64 (q : Nat) := g1 rfl
            have e2 : vals 2 = .int .i64 (q : Nat) := g2 rfl
            have e3 : vals 3 = .pointer (some ⟨w2.heap.size, q, none⟩) := g3 rfl
            have e4 : vals 4 = .int .i64 (f q) := g4 rfl
            have e5 : vals 5 = .int .i64 (q : Nat) := g5 rfl
            have e6 : vals 6 = .pointer (some ⟨w2.heap.size + 1, q, none⟩) := g6 rfl
            have e7 : vals 7 = .int .i64 (g q) := g7 rfl
            have e8 : vals 8 = .int .i64 (max (f q) (g q)) := g8 rfl
            have e9 : vals 9 = .int .i64 (q : Nat) := g9 rfl
            have e10 : vals 10 = .pointer (some ⟨w2.heap.size, q, none⟩) := g10 rfl
            have e11 : vals 11 = .int .i64 (f q) := g11 rfl
            have e12 : vals 12 = .int .i64 (q : Nat) := g12 rfl
            have e13 : vals 13 = .pointer (some ⟨w2.heap.size + 1, q, none⟩) := g13 rfl
            have e14 : vals 14 = .int .i64 (g q) := g14 rfl
            have e15 : vals 15 = .int .i64 (min (f q) (g q)) := g15 rfl
            have e16 : vals 16 = .pointer (some ⟨w2.heap.size + 2, q, none⟩) := g16 rfl
            replace g17 : wu.heap[w2.heap.size + 2]? = some (Obj.cells (intsC (upV (fun s => max (f s) (g s)) (q + 1))).toArray 83 (0, 0)) := g17 rfl
            have e18 : vals 18 = .pointer (some ⟨w2.heap.size + 3, q, none⟩) := g18 rfl
            replace g19 : wu.heap[w2.heap.size + 3]? = some (Obj.cells (intsC (upV (fun s => min (f s) (g s)) (q + 1))).toArray 83 (0, 0)) := g19 rfl
            simp only [Cl.puts, e0, e1, e2, e3, e4, e5, e6, e7, e8, e9, e10, e11, e12, e13, e14, e15, e16, e18]
            clear e0 e1 e2 e3 e4 e5 e6 e7 e8 e9 e10 e11 e12 e13 e14 e15 e16 e18 g0 g1 g2 g3 g4 g5 g6 g7 g8 g9 g10 g11 g12 g13 g14 g15 g16 g18
            go_simp
            have M := Lib.hid (VG.done hg g17 g19)
            clear g17 g19 hg
            have HWS := Lib.hid (withinN_succ f g q)
            generalize withinN f g q = wq at *
            cases wq
            · go_wp2
              refine Cl.region0 150 rfl [] (fun _ => True) (fun _ => []) (fun jq v ww => match jq with | 0 => v = .bool false | 1 => v = .bool false | 2 => v = undef | 3 => v = undef | 4 => v = undef | 5 => v = undef | 6 => v = undef | 7 => v = undef | 8 => v = undef | 9 => v = .bool false | 10 => v = .bool false | _ => True) (fun ww => Below wu.heap.size wu ww) (fun jq ww ww' => Below ww.heap.size ww ww') Try.mixed (by decide +kernel) (Below.refl _ _).drew trivial (fun q r v w w' _ _ _ h _ => h) (fun _ _ _ _ _ _ => trivial) ?_ ?_
              · refine ⟨?_, ?_, ?_, ?_, ?_, ?_, ?_, ?_, ?_, ?_, ?_, trivial⟩
                · intro x wx hG
                  have f11 := hG.old 11 (by decide +kernel)
                  have hg := hG.good
                  clear hG
                  go_wp2
                  exact ⟨_, rfl, rfl, hg, Below.refl _ _⟩
                · intro x wx hG
                  have g0 : (x.tmps.getD 80 undef) = .bool false := hG.claims 0 _ rfl (by decide +kernel) (by decide +kernel)
                  have hg := hG.good
                  clear hG
                  go_wp2
                  exact ⟨_, rfl, rfl, hg, Below.refl _ _⟩
                · intro x wx hG
                  have gg : (x.tmps.getD 81 undef) = .bool false := hG.claims 1 _ rfl (by decide +kernel) (by decide +kernel)
                  replace gg := Cl.opt (hG.size.trans (show _ = 150 from rfl)) (by decide) gg
                  have hg := hG.good
                  clear hG
                  go_wp2
                  exact ⟨_, rfl, rfl, hg, Below.refl _ _⟩
                · intro x wx hG
                  have gg : (x.tmps.getD 81 undef) = .bool false := hG.claims 1 _ rfl (by decide +kernel) (by decide +kernel)
                  replace gg := Cl.opt (hG.size.trans (show _ = 150 from rfl)) (by decide) gg
                  have hg := hG.good
                  clear hG
                  go_wp2
                  exact ⟨_, rfl, rfl, hg, Below.refl _ _⟩
                · intro x wx hG
                  have gg : (x.tmps.getD 81 undef) = .bool false := hG.claims 1 _ rfl (by decide +kernel) (by decide +kernel)
                  replace gg := Cl.opt (hG.size.trans (show _ = 150 from rfl)) (by decide) gg
                  have hg := hG.good
                  clear hG
                  go_wp2
                  exact ⟨_, rfl, rfl, hg, Below.refl _ _⟩
                · intro x wx hG
                  have gg : (x.tmps.getD 81 undef) = .bool false := hG.claims 1 _ rfl (by decide +kernel) (by decide +kernel)
                  replace gg := Cl.opt (hG.size.trans (show _ = 150 from rfl)) (by decide) gg
                  have hg := hG.good
                  clear hG
                  go_wp2
                  exact ⟨_, rfl, rfl, hg, Below.refl _ _⟩
                · intro x wx hG
                  have gg : (x.tmps.getD 81 undef) = .bool false := hG.claims 1 _ rfl (by decide +kernel) (by decide +kernel)
                  replace gg := Cl.opt (hG.size.trans (show _ = 150 from rfl)) (by decide) gg
                  have hg := hG.good
                  clear hG
                  go_wp2
                  exact ⟨_, rfl, rfl, hg, Below.refl _ _⟩
                · intro x wx hG
                  have gg : (x.tmps.getD 81 undef) = .bool false := hG.claims 1 _ rfl (by decide +kernel) (by decide +kernel)
                  replace gg := Cl.opt (hG.size.trans (show _ = 150 from rfl)) (by decide) gg
                  have hg := hG.good
                  clear hG
                  go_wp2
                  exact ⟨_, rfl, rfl, hg, Below.refl _ _⟩
                · intro x wx hG
                  have gg : (x.tmps.getD 81 undef) = .bool false := hG.claims 1 _ rfl (by decide +kernel) (by decide +kernel)
                  replace gg := Cl.opt (hG.size.trans (show _ = 150 from rfl)) (by decide) gg
                  have hg := hG.good
                  clear hG
                  go_wp2
                  exact ⟨_, rfl, rfl, hg, Below.refl _ _⟩
                · intro x wx hG
                  have g1 : (x.tmps.getD 81 undef) = .bool false := hG.claims 1 _ rfl (by decide +kernel) (by decide +kernel)
                  have g8 : (x.tmps.getD 88 undef) = undef := hG.claims 8 _ rfl (by decide +kernel) (by decide +kernel)
                  have hg := hG.good
                  clear hG
                  go_wp2
                  exact ⟨_, rfl, rfl, hg, Below.refl _ _⟩
                · intro x wx hG
                  have g9 : (x.tmps.getD 89 undef) = .bool false := hG.claims 9 _ rfl (by decide +kernel) (by decide +kernel)
                  have hg := hG.good
                  clear hG
                  go_wp2
                  exact ⟨_, rfl, rfl, hg, Below.refl _ _⟩
              · intro vals wt hg hF
                obtain ⟨g0, g1, g2, g3, g4, g5, g6, g7, g8, g9, g10, -⟩ := hF
                have e0 : vals 0 = .bool false := g0 rfl
                have e1 : vals 1 = .bool false := g1 rfl
                have e2 : vals 2 = undef := g2 rfl
                have e3 : vals 3 = undef := g3 rfl
                have e4 : vals 4 = undef := g4 rfl
                have e5 : vals 5 = undef := g5 rfl
                have e6 : vals 6 = undef := g6 rfl
                have e7 : vals 7 = undef := g7 rfl
                have e8 : vals 8 = undef := g8 rfl
                have e9 : vals 9 = .bool false := g9 rfl
                have e10 : vals 10 = .bool false := g10 rfl
                simp only [Cl.puts, e0, e1, e2, e3, e4, e5, e6, e7, e8, e9, e10]
                clear e0 e1 e2 e3 e4 e5 e6 e7 e8 e9 e10 g0 g1 g2 g3 g4 g5 g6 g7 g8 g9 g10
                go_simp
                have M2 := Lib.hid (M.out.below hg)
                clear M hg
                go_wp2
                go_roundw
                case rel => exact ⟨q + 1, by omega, by go_num, by rw [HWS.out]; rfl, M2.out⟩
                case measure => simp [intOf] <;> omega
            · go_wp2
              refine Cl.region0 150 rfl [] (fun _ => True) (fun _ => []) (fun jq v ww => match jq with | 0 => v = .bool true | 1 => v = .bool true | 2 => v = .int .i64 (q : Nat) | 3 => v = .pointer (some ⟨w2.heap.size, q, none⟩) | 4 => v = .int .i64 (f q) | 5 => v = .int .i64 (q : Nat) | 6 => v = .pointer (some ⟨w2.heap.size + 1, q, none⟩) | 7 => v = .int .i64 (g q) | 8 => v = .bool (decide (f q ≤ g q)) | 9 => v = .bool (decide (f q ≤ g q)) | 10 => v = .bool (decide (f q ≤ g q)) | _ => True) (fun ww => Below wu.heap.size wu ww) (fun jq ww ww' => Below ww.heap.size ww ww') Try.mixed (by decide +kernel) (Below.refl _ _).drew trivial (fun q r v w w' _ _ _ h _ => h) (fun _ _ _ _ _ _ => trivial) ?_ ?_
              · refine ⟨?_, ?_, ?_, ?_, ?_, ?_, ?_, ?_, ?_, ?_, ?_, trivial⟩
                · intro x wx hG
                  have f11 := hG.old 11 (by decide +kernel)
                  have hg := hG.good
                  clear hG
                  go_wp2
                  exact ⟨_, rfl, rfl, hg, Below.refl _ _⟩
                · intro x wx hG
                  have g0 : (x.tmps.getD 80 undef) = .bool true := hG.claims 0 _ rfl (by decide +kernel) (by decide +kernel)
                  have hg := hG.good
                  clear hG
                  go_wp2
                  exact ⟨_, rfl, rfl, hg, Below.refl _ _⟩
                · intro x wx hG
                  have f12 := hG.old 12 (by decide +kernel)
                  have gg : (x.tmps.getD 81 undef) = .bool true := hG.claims 1 _ rfl (by decide +kernel) (by decide +kernel)
                  replace gg := Cl.opt (hG.size.trans (show _ = 150 from rfl)) (by decide) gg
                  have hg := hG.good
                  clear hG
                  go_wp2
                  exact ⟨_, rfl, rfl, hg, Below.refl _ _⟩
                · intro x wx hG
                  have f7 := hG.old 7 (by decide +kernel)
                  have g2 : (x.tmps.getD 82 undef) = .int .i64 (q : Nat) := hG.claims 2 _ rfl (by decide +kernel) (by decide +kernel)
                  have gg : (x.tmps.getD 81 undef) = .bool true := hG.claims 1 _ rfl (by decide +kernel) (by decide +kernel)
                  replace gg := Cl.opt (hG.size.trans (show _ = 150 from rfl)) (by decide) gg
                  have hg := hG.good
                  clear hG
                  go_wp2
                  exact ⟨_, rfl, rfl, hg, Below.refl _ _⟩
                · intro x wx hG
                  have g3 : (x.tmps.getD 83 undef) = .pointer (some ⟨w2.heap.size, q, none⟩) := hG.claims 3 _ rfl (by decide +kernel) (by decide +kernel)
                  have gg : (x.tmps.getD 81 undef) = .bool true := hG.claims 1 _ rfl (by decide +kernel) (by decide +kernel)
                  replace gg := Cl.opt (hG.size.trans (show _ = 150 from rfl)) (by decide) gg
                  have hg := hG.good
                  clear hG
                  have cX := cell_of_block (j := q) (below_keep hg M.out.x) (upC_get f (q + 1) q hlt (Nat.lt_succ_self q))
                  go_wp2
                  exact ⟨_, rfl, rfl, hg, Below.refl _ _⟩
                · intro x wx hG
                  have f12 := hG.old 12 (by decide +kernel)
                  have gg : (x.tmps.getD 81 undef) = .bool true := hG.claims 1 _ rfl (by decide +kernel) (by decide +kernel)
                  replace gg := Cl.opt (hG.size.trans (show _ = 150 from rfl)) (by decide) gg
                  have hg := hG.good
                  clear hG
                  go_wp2
                  exact ⟨_, rfl, rfl, hg, Below.refl _ _⟩
                · intro x wx hG
                  have f8 := hG.old 8 (by decide +kernel)
                  have g5 : (x.tmps.getD 85 undef) = .int .i64 (q : Nat) := hG.claims 5 _ rfl (by decide +kernel) (by decide +kernel)
                  have gg : (x.tmps.getD 81 undef) = .bool true := hG.claims 1 _ rfl (by decide +kernel) (by decide +kernel)
                  replace gg := Cl.opt (hG.size.trans (show _ = 150 from rfl)) (by decide) gg
                  have hg := hG.good
                  clear hG
                  go_wp2
                  exact ⟨_, rfl, rfl, hg, Below.refl _ _⟩
                · intro x wx hG
                  have g6 : (x.tmps.getD 86 undef) = .pointer (some ⟨w2.heap.size + 1, q, none⟩) := hG.claims 6 _ rfl (by decide +kernel) (by decide +kernel)
                  have gg : (x.tmps.getD 81 undef) = .bool true := hG.claims 1 _ rfl (by decide +kernel) (by decide +kernel)
                  replace gg := Cl.opt (hG.size.trans (show _ = 150 from rfl)) (by decide) gg
                  have hg := hG.good
                  clear hG
                  have cY := cell_of_block (j := q) (below_keep hg M.out.y) (upC_get g (q + 1) q hlt (Nat.lt_succ_self q))
                  go_wp2
                  exact ⟨_, rfl, rfl, hg, Below.refl _ _⟩
                · intro x wx hG
                  have g4 : (x.tmps.getD 84 undef) = .int .i64 (f q) := hG.claims 4 _ rfl (by decide +kernel) (by decide +kernel)
                  have g7 : (x.tmps.getD 87 undef) = .int .i64 (g q) := hG.claims 7 _ rfl (by decide +kernel) (by decide +kernel)
                  have gg : (x.tmps.getD 81 undef) = .bool true := hG.claims 1 _ rfl (by decide +kernel) (by decide +kernel)
                  replace gg := Cl.opt (hG.size.trans (show _ = 150 from rfl)) (by decide) gg
                  have hg := hG.good
                  clear hG
                  go_wp2
                  exact ⟨_, rfl, rfl, hg, Below.refl _ _⟩
                · intro x wx hG
                  have g1 : (x.tmps.getD 81 undef) = .bool true := hG.claims 1 _ rfl (by decide +kernel) (by decide +kernel)
                  have g8 : (x.tmps.getD 88 undef) = .bool (decide (f q ≤ g q)) := hG.claims 8 _ rfl (by decide +kernel) (by decide +kernel)
                  have hg := hG.good
                  clear hG
                  go_wp2
                  exact ⟨_, rfl, rfl, hg, Below.refl _ _⟩
                · intro x wx hG
                  have g9 : (x.tmps.getD 89 undef) = .bool (decide (f q ≤ g q)) := hG.claims 9 _ rfl (by decide +kernel) (by decide +kernel)
                  have hg := hG.good
                  clear hG
                  go_wp2
                  exact ⟨_, rfl, rfl, hg, Below.refl _ _⟩
              · intro vals wt hg hF
                obtain ⟨g0, g1, g2, g3, g4, g5, g6, g7, g8, g9, g10, -⟩ := hF
                have e0 : vals 0 = .bool true := g0 rfl
                have e1 : vals 1 = .bool true := g1 rfl
                have e2 : vals 2 = .int .i64 (q : Nat) := g2 rfl
                have e3 : vals 3 = .pointer (some ⟨w2.heap.size, q, none⟩) := g3 rfl
                have e4 : vals 4 = .int .i64 (f q) := g4 rfl
                have e5 : vals 5 = .int .i64 (q : Nat) := g5 rfl
                have e6 : vals 6 = .pointer (some ⟨w2.heap.size + 1, q, none⟩) := g6 rfl
                have e7 : vals 7 = .int .i64 (g q) := g7 rfl
                have e8 : vals 8 = .bool (decide (f q ≤ g q)) := g8 rfl
                have e9 : vals 9 = .bool (decide (f q ≤ g q)) := g9 rfl
                have e10 : vals 10 = .bool (decide (f q ≤ g q)) := g10 rfl
                simp only [Cl.puts, e0, e1, e2, e3, e4, e5, e6, e7, e8, e9, e10]
                clear e0 e1 e2 e3 e4 e5 e6 e7 e8 e9 e10 g0 g1 g2 g3 g4 g5 g6 g7 g8 g9 g10
                go_simp
                have M2 := Lib.hid (M.out.below hg)
                clear M hg
                go_wp2
                go_roundw
                case rel => exact ⟨q + 1, by omega, by go_num, by rw [HWS.out]; rfl, M2.out⟩
                case measure => simp [intOf] <;> omega
        · have M2 := Lib.hid (M.out.skipY (show g q = 0 by rw [HG.out]; unfold xOf; rw [dif_neg hl1]))
          have hlb1 : decide ((q : Int) < (llb.length : Int)) = false := by simp; omega
          clear M
          have M := M2
          clear M2
          go_wp2
          obtain ⟨wv, hwv⟩ : ∃ wv, wv = wr := ⟨_, rfl⟩
          rw [← hwv] at M ⊢
          (try clear c0 f0 hl0)
          clear hwv
          refine Cl.region0 150 rfl [] (fun _ => True) (fun _ => []) (fun jq v ww => match jq with | 0 => v = .int .i64 (q : Nat) | 1 => v = .int .i64 (q : Nat) | 2 => v = .int .i64 (q : Nat) | 3 => v = .pointer (some ⟨w2.heap.size, q, none⟩) | 4 => v = .int .i64 (f q) | 5 => v = .int .i64 (q : Nat) | 6 => v = .pointer (some ⟨w2.heap.size + 1, q, none⟩) | 7 => v = .int .i64 (g q) | 8 => v = .int .i64 (max (f q) (g q)) | 9 => v = .int .i64 (q : Nat) | 10 => v = .pointer (some ⟨w2.heap.size, q, none⟩) | 11 => v = .int .i64 (f q) | 12 => v = .int .i64 (q : Nat) | 13 => v = .pointer (some ⟨w2.heap.size + 1, q, none⟩) | 14 => v = .int .i64 (g q) | 15 => v = .int .i64 (min (f q) (g q)) | 16 => v = .pointer (some ⟨w2.heap.size + 2, q, none⟩) | 17 => ww.heap[w2.heap.size + 2]? = some (Obj.cells (intsC (upV (fun s => max (f s) (g s)) (q + 1))).toArray 83 (0, 0)) | 18 => v = .pointer (some ⟨w2.heap.size + 3, q, none⟩) | 19 => ww.heap[w2.heap.size + 3]? = some (Obj.cells (intsC (upV (fun s => min (f s) (g s)) (q + 1))).toArray 83 (0, 0)) | _ => True) (fun ww => VG w ww w2.heap.size f g q) (fun jq ww ww' => (jq ≠ 17 → jq ≠ 19 → Below ww.heap.size ww ww') ∧ (jq = 17 → ∃ u, ww' = ww.setCell ⟨w2.heap.size + 2, q, none⟩ u) ∧ (jq = 19 → ∃ u, ww' = ww.setCell ⟨w2.heap.size + 3, q, none⟩ u)) Try.mixed (by decide +kernel) (VG.of hlt M.out) trivial ?_ (fun _ _ _ _ _ _ => trivial) ?_ ?_
          · intro qq r v w w' hne hk hlt h hR
            match r, hk, hlt, h, hne with
            | 0, _, _, h, _ => exact h
            | 1, _, _, h, _ => exact h
            | 2, _, _, h, _ => exact h
            | 3, _, _, h, _ => exact h
            | 4, _, _, h, _ => exact h
            | 5, _, _, h, _ => exact h
            | 6, _, _, h, _ => exact h
            | 7, _, _, h, _ => exact h
            | 8, _, _, h, _ => exact h
            | 9, _, _, h, _ => exact h
            | 10, _, _, h, _ => exact h
            | 11, _, _, h, _ => exact h
            | 12, _, _, h, _ => exact h
            | 13, _, _, h, _ => exact h
            | 14, _, _, h, _ => exact h
            | 15, _, _, h, _ => exact h
            | 16, _, _, h, _ => exact h
            | 17, _, _, h, hne =>
              by_cases hqq : qq = 19
              · obtain ⟨u, hu⟩ := hR.2.2 hqq
                have h1 : w.heap[w2.heap.size + 2]? = some (Obj.cells (intsC (upV (fun s => max (f s) (g s)) (q + 1))).toArray 83 (0, 0)) := h
                show w'.heap[w2.heap.size + 2]? = some (Obj.cells (intsC (upV (fun s => max (f s) (g s)) (q + 1))).toArray 83 (0, 0))
                rw [hu]; exact (heap_set_other (by omega)).trans h1
              · exact below_keep (hR.1 (by exact hne) hqq) h
            | 18, _, _, h, _ => exact h
            | 19, _, _, h, hne =>
              by_cases hqq : qq = 17
              · obtain ⟨u, hu⟩ := hR.2.1 hqq
                have h1 : w.heap[w2.heap.size + 3]? = some (Obj.cells (intsC (upV (fun s => min (f s) (g s)) (q + 1))).toArray 83 (0, 0)) := h
                show w'.heap[w2.heap.size + 3]? = some (Obj.cells (intsC (upV (fun s => min (f s) (g s)) (q + 1))).toArray 83 (0, 0))
                rw [hu]; exact (heap_set_other (by omega)).trans h1
              · exact below_keep (hR.1 hqq (by exact hne)) h
            | _ + 20, _, _, _, _ => trivial
          · refine ⟨?_, ?_, ?_, ?_, ?_, ?_, ?_, ?_, ?_, ?_, ?_, ?_, ?_, ?_, ?_, ?_, ?_, ?_, ?_, ?_, trivial⟩
            · intro x wx hG
              have f12 := hG.old 12 (by decide +kernel)
              have hg := hG.good
              clear hG
              go_wp2
              exact ⟨_, rfl, rfl, hg, ⟨fun _ _ => Below.refl _ _, fun h => absurd h (by decide), fun h => absurd h (by decide)⟩⟩
            · intro x wx hG
              have f12 := hG.old 12 (by decide +kernel)
              have hg := hG.good
              clear hG
              go_wp2
              exact ⟨_, rfl, rfl, hg, ⟨fun _ _ => Below.refl _ _, fun h => absurd h (by decide), fun h => absurd h (by decide)⟩⟩
            · intro x wx hG
              have f12 := hG.old 12 (by decide +kernel)
              have hg := hG.good
              clear hG
              go_wp2
              exact ⟨_, rfl, rfl, hg, ⟨fun _ _ => Below.refl _ _, fun h => absurd h (by decide), fun h => absurd h (by decide)⟩⟩
            · intro x wx hG
              have f7 := hG.old 7 (by decide +kernel)
              have g2 : (x.tmps.getD 64 undef) = .int .i64 (q : Nat) := hG.claims 2 _ rfl (by decide +kernel) (by decide +kernel)
              have hg := hG.good
              clear hG
              go_wp2
              exact ⟨_, rfl, rfl, hg, ⟨fun _ _ => Below.refl _ _, fun h => absurd h (by decide), fun h => absurd h (by decide)⟩⟩
            · intro x wx hG
              have g3 : (x.tmps.getD 65 undef) = .pointer (some ⟨w2.heap.size, q, none⟩) := hG.claims 3 _ rfl (by decide +kernel) (by decide +kernel)
              have hg := hG.good
              clear hG
              have cX := cell_of_block (j := q) hg.1 (upC_get f (q + 1) q hlt (Nat.lt_succ_self q))
              go_wp2
              exact ⟨_, rfl, rfl, hg, ⟨fun _ _ => Below.refl _ _, fun h => absurd h (by decide), fun h => absurd h (by decide)⟩⟩
            · intro x wx hG
              have f12 := hG.old 12 (by decide +kernel)
              have hg := hG.good
              clear hG
              go_wp2
              exact ⟨_, rfl, rfl, hg, ⟨fun _ _ => Below.refl _ _, fun h => absurd h (by decide), fun h => absurd h (by decide)⟩⟩
            · intro x wx hG
              have f8 := hG.old 8 (by decide +kernel)
              have g5 : (x.tmps.getD 67 undef) = .int .i64 (q : Nat) := hG.claims 5 _ rfl (by decide +kernel) (by decide +kernel)
              have hg := hG.good
              clear hG
              go_wp2
              exact ⟨_, rfl, rfl, hg, ⟨fun _ _ => Below.refl _ _, fun h => absurd h (by decide), fun h => absurd h (by decide)⟩⟩
            · intro x wx hG
              have g6 : (x.tmps.getD 68 undef) = .pointer (some ⟨w2.heap.size + 1, q, none⟩) := hG.claims 6 _ rfl (by decide +kernel) (by decide +kernel)
              have hg := hG.good
              clear hG
              have cY := cell_of_block (j := q) hg.2.1 (upC_get g (q + 1) q hlt (Nat.lt_succ_self q))
              go_wp2
              exact ⟨_, rfl, rfl, hg, ⟨fun _ _ => Below.refl _ _, fun h => absurd h (by decide), fun h => absurd h (by decide)⟩⟩
            · intro x wx hG
              have g4 : (x.tmps.getD 66 undef) = .int .i64 (f q) := hG.claims 4 _ rfl (by decide +kernel) (by decide +kernel)
              have g7 : (x.tmps.getD 69 undef) = .int .i64 (g q) := hG.claims 7 _ rfl (by decide +kernel) (by decide +kernel)
              have hg := hG.good
              clear hG
              go_wp2
              exact ⟨_, rfl, rfl, hg, ⟨fun _ _ => Below.refl _ _, fun h => absurd h (by decide), fun h => absurd h (by decide)⟩⟩
            · intro x wx hG
              have f12 := hG.old 12 (by decide +kernel)
              have hg := hG.good
              clear hG
              go_wp2
              exact ⟨_, rfl, rfl, hg, ⟨fun _ _ => Below.refl _ _, fun h => absurd h (by decide), fun h => absurd h (by decide)⟩⟩
            · intro x wx hG
              have f7 := hG.old 7 (by decide +kernel)
              have g9 : (x.tmps.getD 71 undef) = .int .i64 (q : Nat) := hG.claims 9 _ rfl (by decide +kernel) (by decide +kernel)
              have hg := hG.good
              clear hG
              go_wp2
              exact ⟨_, rfl, rfl, hg, ⟨fun _ _ => Below.refl _ _, fun h => absurd h (by decide), fun h => absurd h (by decide)⟩⟩
            · intro x wx hG
              have g10 : (x.tmps.getD 72 undef) = .pointer (some ⟨w2.heap.size, q, none⟩) := hG.claims 10 _ rfl (by decide +kernel) (by decide +kernel)
              have hg := hG.good
              clear hG
              have cX := cell_of_block (j := q) hg.1 (upC_get f (q + 1) q hlt (Nat.lt_succ_self q))
              go_wp2
              exact ⟨_, rfl, rfl, hg, ⟨fun _ _ => Below.refl _ _, fun h => absurd h (by decide), fun h => absurd h (by decide)⟩⟩
            · intro x wx hG
              have f12 := hG.old 12 (by decide +kernel)
              have hg := hG.good
              clear hG
              go_wp2
              exact ⟨_, rfl, rfl, hg, ⟨fun _ _ => Below.refl _ _, fun h => absurd h (by decide), fun h => absurd h (by decide)⟩⟩
            · intro x wx hG
              have f8 := hG.old 8 (by decide +kernel)
              have g12 : (x.tmps.getD 74 undef) = .int .i64 (q : Nat) := hG.claims 12 _ rfl (by decide +kernel) (by decide +kernel)
              have hg := hG.good
              clear hG
              go_wp2
              exact ⟨_, rfl, rfl, hg, ⟨fun _ _ => Below.refl _ _, fun h => absurd h (by decide), fun h => absurd h (by decide)⟩⟩
            · intro x wx hG
              have g13 : (x.tmps.getD 75 undef) = .pointer (some ⟨w2.heap.size + 1, q, none⟩) := hG.claims 13 _ rfl (by decide +kernel) (by decide +kernel)
              have hg := hG.good
              clear hG
              have cY := cell_of_block (j := q) hg.2.1 (upC_get g (q + 1) q hlt (Nat.lt_succ_self q))
              go_wp2
              exact ⟨_, rfl, rfl, hg, ⟨fun _ _ => Below.refl _ _, fun h => absurd h (by decide), fun h => absurd h (by decide)⟩⟩
            · intro x wx hG
              have g11 : (x.tmps.getD 73 undef) = .int .i64 (f q) := hG.claims 11 _ rfl (by decide +kernel) (by decide +kernel)
              have g14 : (x.tmps.getD 76 undef) = .int .i64 (g q) := hG.claims 14 _ rfl (by decide +kernel) (by decide +kernel)
              have hg := hG.good
              clear hG
              go_wp2
              exact ⟨_, rfl, rfl, hg, ⟨fun _ _ => Below.refl _ _, fun h => absurd h (by decide), fun h => absurd h (by decide)⟩⟩
            · intro x wx hG
              have f9 := hG.old 9 (by decide +kernel)
              have g0 : (x.tmps.getD 62 undef) = .int .i64 (q : Nat) := hG.claims 0 _ rfl (by decide +kernel) (by decide +kernel)
              have hg := hG.good
              clear hG
              go_wp2
              exact ⟨_, rfl, rfl, hg, ⟨fun _ _ => Below.refl _ _, fun h => absurd h (by decide), fun h => absurd h (by decide)⟩⟩
            · intro x wx hG
              have g16 : (x.tmps.getD 78 undef) = .pointer (some ⟨w2.heap.size + 2, q, none⟩) := hG.claims 16 _ rfl (by decide +kernel) (by decide +kernel)
              have g8 : (x.tmps.getD 70 undef) = .int .i64 (max (f q) (g q)) := hG.claims 8 _ rfl (by decide +kernel) (by decide +kernel)
              have hg := hG.good
              clear hG
              obtain ⟨cs, hcs, hlc, hset⟩ := hg.2.2.1
              have r0 := cell_of_block (j := q) hcs (Array.getElem?_eq_getElem hlc)
              have f0 := free_of_block (j := q) hcs
              have hRl := hlt_of hcs
              have HCS := Lib.hid hcs
              have HG := Lib.hid hg
              have HS := Lib.hid hset
              clear hcs hset hg
              go_wp2
              exact ⟨undef, rfl, ((heap_set_same HCS.out).trans (congrArg (fun x => some (Obj.cells x 83 (0, 0))) HS.out)), VG.setO HG.out HCS.out HS.out, ⟨fun h => absurd rfl h, fun _ => ⟨_, rfl⟩, fun h => absurd h (by decide)⟩⟩
            · intro x wx hG
              have f10 := hG.old 10 (by decide +kernel)
              have g1 : (x.tmps.getD 63 undef) = .int .i64 (q : Nat) := hG.claims 1 _ rfl (by decide +kernel) (by decide +kernel)
              have hg := hG.good
              clear hG
              go_wp2
              exact ⟨_, rfl, rfl, hg, ⟨fun _ _ => Below.refl _ _, fun h => absurd h (by decide), fun h => absurd h (by decide)⟩⟩
            · intro x wx hG
              have g18 : (x.tmps.getD 79 undef) = .pointer (some ⟨w2.heap.size + 3, q, none⟩) := hG.claims 18 _ rfl (by decide +kernel) (by decide +kernel)
              have g15 : (x.tmps.getD 77 undef) = .int .i64 (min (f q) (g q)) := hG.claims 15 _ rfl (by decide +kernel) (by decide +kernel)
              have hg := hG.good
              clear hG
              obtain ⟨cs, hcs, hlc, hset⟩ := hg.2.2.2.1
              have r0 := cell_of_block (j := q) hcs (Array.getElem?_eq_getElem hlc)
              have f0 := free_of_block (j := q) hcs
              have hRl := hlt_of hcs
              have HCS := Lib.hid hcs
              have HG := Lib.hid hg
              have HS := Lib.hid hset
              clear hcs hset hg
              go_wp2
              exact ⟨undef, rfl, ((heap_set_same HCS.out).trans (congrArg (fun x => some (Obj.cells x 83 (0, 0))) HS.out)), VG.setA HG.out HCS.out HS.out, ⟨fun _ h => absurd rfl h, fun h => absurd h (by decide), fun _ => ⟨_, rfl⟩⟩⟩
          · intro vals wu hg hF
            obtain ⟨g0, g1, g2, g3, g4, g5, g6, g7, g8, g9, g10, g11, g12, g13, g14, g15, g16, g17, g18, g19, -⟩ := hF
            have e0 : vals 0 = .int .i64 (q : Nat) := g0 rfl
            have e1 : vals 1 = .int .i64 (q : Nat) := g1 rfl
            have e2 : vals 2 = .int .i64 (q : Nat) := g2 rfl
            have e3 : vals 3 = .pointer (some ⟨w2.heap.size, q, none⟩) := g3 rfl
            have e4 : vals 4 = .int .i64 (f q) := g4 rfl
            have e5 : vals 5 = .int .i64 (q : Nat) := g5 rfl
            have e6 : vals 6 = .pointer (some ⟨w2.heap.size + 1, q, none⟩) := g6 rfl
            have e7 : vals 7 = .int .i64 (g q) := g7 rfl
            have e8 : vals 8 = .int .i64 (max (f q) (g q)) := g8 rfl
            have e9 : vals 9 = .int .i64 (q : Nat) := g9 rfl
            have e10 : vals 10 = .pointer (some ⟨w2.heap.size, q, none⟩) := g10 rfl
            have e11 : vals 11 = .int .i64 (f q) := g11 rfl
            have e12 : vals 12 = .int .i64 (q : Nat) := g12 rfl
            have e13 : vals 13 = .pointer (some ⟨w2.heap.size + 1, q, none⟩) := g13 rfl
            have e14 : vals 14 = .int .i64 (g q) := g14 rfl
            have e15 : vals 15 = .int .i64 (min (f q) (g q)) := g15 rfl
            have e16 : vals 16 = .pointer (some ⟨w2.heap.size + 2, q, none⟩) := g16 rfl
            replace g17 : wu.heap[w2.heap.size + 2]? = some (Obj.cells (intsC (upV (fun s => max (f s) (g s)) (q + 1))).toArray 83 (0, 0)) := g17 rfl
            have e18 : vals 18 = .pointer (some ⟨w2.heap.size + 3, q, none⟩) := g18 rfl
            replace g19 : wu.heap[w2.heap.size + 3]? = some (Obj.cells (intsC (upV (fun s => min (f s) (g s)) (q + 1))).toArray 83 (0, 0)) := g19 rfl
            simp only [Cl.puts, e0, e1, e2, e3, e4, e5, e6, e7, e8, e9, e10, e11, e12, e13, e14, e15, e16, e18]
            clear e0 e1 e2 e3 e4 e5 e6 e7 e8 e9 e10 e11 e12 e13 e14 e15 e16 e18 g0 g1 g2 g3 g4 g5 g6 g7 g8 g9 g10 g11 g12 g13 g14 g15 g16 g18
            go_simp
            have M := Lib.hid (VG.done hg g17 g19)
            clear g17 g19 hg
            have HWS := Lib.hid (withinN_succ f g q)
            generalize withinN f g q = wq at *
            cases wq
            · go_wp2
              refine Cl.region0 150 rfl [] (fun _ => True) (fun _ => []) (fun jq v ww => match jq with | 0 => v = .bool false | 1 => v = .bool false | 2 => v = undef | 3 => v = undef | 4 => v = undef | 5 => v = undef | 6 => v = undef | 7 => v = undef | 8 => v = undef | 9 => v = .bool false | 10 => v = .bool false | _ => True) (fun ww => Below wu.heap.size wu ww) (fun jq ww ww' => Below ww.heap.size ww ww') Try.mixed (by decide +kernel) (Below.refl _ _).drew trivial (fun q r v w w' _ _ _ h _ => h) (fun _ _ _ _ _ _ => trivial) ?_ ?_
              · refine ⟨?_, ?_, ?_, ?_, ?_, ?_, ?_, ?_, ?_, ?_, ?_, trivial⟩
                · intro x wx hG
                  have f11 := hG.old 11 (by decide +kernel)
                  have hg := hG.good
                  clear hG
                  go_wp2
                  exact ⟨_, rfl, rfl, hg, Below.refl _ _⟩
                · intro x wx hG
                  have g0 : (x.tmps.getD 80 undef) = .bool false := hG.claims 0 _ rfl (by decide +kernel) (by decide +kernel)
                  have hg := hG.good
                  clear hG
                  go_wp2
                  exact ⟨_, rfl, rfl, hg, Below.refl _ _⟩
                · intro x wx hG
                  have gg : (x.tmps.getD 81 undef) = .bool false := hG.claims 1 _ rfl (by decide +kernel) (by decide +kernel)
                  replace gg := Cl.opt (hG.size.trans (show _ = 150 from rfl)) (by decide) gg
                  have hg := hG.good
                  clear hG
                  go_wp2
                  exact ⟨_, rfl, rfl, hg, Below.refl _ _⟩
                · intro x wx hG
                  have gg : (x.tmps.getD 81 undef) = .bool false := hG.claims 1 _ rfl (by decide +kernel) (by decide +kernel)
                  replace gg := Cl.opt (hG.size.trans (show _ = 150 from rfl)) (by decide) gg
                  have hg := hG.good
                  clear hG
                  go_wp2
                  exact ⟨_, rfl, rfl, hg, Below.refl _ _⟩
                · intro x wx hG
                  have gg : (x.tmps.getD 81 undef) = .bool false := hG.claims 1 _ rfl (by decide +kernel) (by decide +kernel)
                  replace gg := Cl.opt (hG.size.trans (show _ = 150 from rfl)) (by decide) gg
                  have hg := hG.good
                  clear hG
                  go_wp2
                  exact ⟨_, rfl, rfl, hg, Below.refl _ _⟩
                · intro x wx hG
                  have gg : (x.tmps.getD 81 undef) = .bool false := hG.claims 1 _ rfl (by decide +kernel) (by decide +kernel)
                  replace gg := Cl.opt (hG.size.trans (show _ = 150 from rfl)) (by decide) gg
                  have hg := hG.good
                  clear hG
                  go_wp2
                  exact ⟨_, rfl, rfl, hg, Below.refl _ _⟩
                · intro x wx hG
                  have gg : (x.tmps.getD 81 undef) = .bool false := hG.claims 1 _ rfl (by decide +kernel) (by decide +kernel)
                  replace gg := Cl.opt (hG.size.trans (show _ = 150 from rfl)) (by decide) gg
                  have hg := hG.good
                  clear hG
                  go_wp2
                  exact ⟨_, rfl, rfl, hg, Below.refl _ _⟩
                · intro x wx hG
                  have gg : (x.tmps.getD 81 undef) = .bool false := hG.claims 1 _ rfl (by decide +kernel) (by decide +kernel)
                  replace gg := Cl.opt (hG.size.trans (show _ = 150 from rfl)) (by decide) gg
                  have hg := hG.good
                  clear hG
                  go_wp2
                  exact ⟨_, rfl, rfl, hg, Below.refl _ _⟩
                · intro x wx hG
                  have gg : (x.tmps.getD 81 undef) = .bool false := hG.claims 1 _ rfl (by decide +kernel) (by decide +kernel)
                  replace gg := Cl.opt (hG.size.trans (show _ = 150 from rfl)) (by decide) gg
                  have hg := hG.good
                  clear hG
                  go_wp2
                  exact ⟨_, rfl, rfl, hg, Below.refl _ _⟩
                · intro x wx hG
                  have g1 : (x.tmps.getD 81 undef) = .bool false := hG.claims 1 _ rfl (by decide +kernel) (by decide +kernel)
                  have g8 : (x.tmps.getD 88 undef) = undef := hG.claims 8 _ rfl (by decide +kernel) (by decide +kernel)
                  have hg := hG.good
                  clear hG
                  go_wp2
                  exact ⟨_, rfl, rfl, hg, Below.refl _ _⟩
                · intro x wx hG
                  have g9 : (x.tmps.getD 89 undef) = .bool false := hG.claims 9 _ rfl (by decide +kernel) (by decide +kernel)
                  have hg := hG.good
                  clear hG
                  go_wp2
                  exact ⟨_, rfl, rfl, hg, Below.refl _ _⟩
              · intro vals wt hg hF
                obtain ⟨g0, g1, g2, g3, g4, g5, g6, g7, g8, g9, g10, -⟩ := hF
                have e0 : vals 0 = .bool false := g0 rfl
                have e1 : vals 1 = .bool false := g1 rfl
                have e2 : vals 2 = undef := g2 rfl
                have e3 : vals 3 = undef := g3 rfl
                have e4 : vals 4 = undef := g4 rfl
                have e5 : vals 5 = undef := g5 rfl
                have e6 : vals 6 = undef := g6 rfl
                have e7 : vals 7 = undef := g7 rfl
                have e8 : vals 8 = undef := g8 rfl
                have e9 : vals 9 = .bool false := g9 rfl
                have e10 : vals 10 = .bool false := g10 rfl
                simp only [Cl.puts, e0, e1, e2, e3, e4, e5, e6, e7, e8, e9, e10]
                clear e0 e1 e2 e3 e4 e5 e6 e7 e8 e9 e10 g0 g1 g2 g3 g4 g5 g6 g7 g8 g9 g10
                go_simp
                have M2 := Lib.hid (M.out.below hg)
                clear M hg
                go_wp2
                go_roundw
                case rel => exact ⟨q + 1, by omega, by go_num, by rw [HWS.out]; rfl, M2.out⟩
                case measure => simp [intOf] <;> omega
            · go_wp2
              refine Cl.region0 150 rfl [] (fun _ => True) (fun _ => []) (fun jq v ww => match jq with | 0 => v = .bool true | 1 => v = .bool true | 2 => v = .int .i64 (q : Nat) | 3 => v = .pointer (some ⟨w2.heap.size, q, none⟩) | 4 => v = .int .i64 (f q) | 5 => v = .int .i64 (q : Nat) | 6 => v = .pointer (some ⟨w2.heap.size + 1, q, none⟩) | 7 => v = .int .i64 (g q) | 8 => v = .bool (decide (f q ≤ g q)) | 9 => v = .bool (decide (f q ≤ g q)) | 10 => v = .bool (decide (f q ≤ g q)) | _ => True) (fun ww => Below wu.heap.size wu ww) (fun jq ww ww' => Below ww.heap.size ww ww') Try.mixed (by decide +kernel) (Below.refl _ _).drew trivial (fun q r v w w' _ _ _ h _ => h) (fun _ _ _ _ _ _ => trivial) ?_ ?_
              · refine ⟨?_, ?_, ?_, ?_, ?_, ?_, ?_, ?_, ?_, ?_, ?_, trivial⟩
                · intro x wx hG
                  have f11 := hG.old 11 (by decide +kernel)
                  have hg := hG.good
                  clear hG
                  go_wp2
                  exact ⟨_, rfl, rfl, hg, Below.refl _ _⟩
                · intro x wx hG
                  have g0 : (x.tmps.getD 80 undef) = .bool true := hG.claims 0 _ rfl (by decide +kernel) (by decide +kernel)
                  have hg := hG.good
                  clear hG
                  go_wp2
                  exact ⟨_, rfl, rfl, hg, Below.refl _ _⟩
                · intro x wx hG
                  have f12 := hG.old 12 (by decide +kernel)
                  have gg : (x.tmps.getD 81 undef) = .bool true := hG.claims 1 _ rfl (by decide +kernel) (by decide +kernel)
                  replace gg := Cl.opt (hG.size.trans (show _ = 150 from rfl)) (by decide) gg
                  have hg := hG.good
                  clear hG
                  go_wp2
                  exact ⟨_, rfl, rfl, hg, Below.refl _ _⟩
                · intro x wx hG
                  have f7 := hG.old 7 (by decide +kernel)
                  have g2 : (x.tmps.getD 82 undef) = .int .i64 (q : Nat) := hG.claims 2 _ rfl (by decide +kernel) (by decide +kernel)
                  have gg : (x.tmps.getD 81 undef) = .bool true := hG.claims 1 _ rfl (by decide +kernel) (by decide +kernel)
                  replace gg := Cl.opt (hG.size.trans (show _ = 150 from rfl)) (by decide) gg
                  have hg := hG.good
                  clear hG
                  go_wp2
                  exact ⟨_, rfl, rfl, hg, Below.refl _ _⟩
                · intro x wx hG
                  have g3 : (x.tmps.getD 83 undef) = .pointer (some ⟨w2.heap.size, q, none⟩) := hG.claims 3 _ rfl (by decide +kernel) (by decide +kernel)
                  have gg : (x.tmps.getD 81 undef) = .bool true := hG.claims 1 _ rfl (by decide +kernel) (by decide +kernel)
                  replace gg := Cl.opt (hG.size.trans (show _ = 150 from rfl)) (by decide) gg
                  have hg := hG.good
                  clear hG
                  have cX := cell_of_block (j := q) (below_keep hg M.out.x) (upC_get f (q + 1) q hlt (Nat.lt_succ_self q))
                  go_wp2
                  exact ⟨_, rfl, rfl, hg, Below.refl _ _⟩
                · intro x wx hG
                  have f12 := hG.old 12 (by decide +kernel)
                  have gg : (x.tmps.getD 81 undef) = .bool true := hG.claims 1 _ rfl (by decide +kernel) (by decide +kernel)
                  replace gg := Cl.opt (hG.size.trans (show _ = 150 from rfl)) (by decide) gg
                  have hg := hG.good
                  clear hG
                  go_wp2
                  exact ⟨_, rfl, rfl, hg, Below.refl _ _⟩
                · intro x wx hG
                  have f8 := hG.old 8 (by decide +kernel)
                  have g5 : (x.tmps.getD 85 undef) = .int .i64 (q : Nat) := hG.claims 5 _ rfl (by decide +kernel) (by decide +kernel)
                  have gg : (x.tmps.getD 81 undef) = .bool true := hG.claims 1 _ rfl (by decide +kernel) (by decide +kernel)
                  replace gg := Cl.opt (hG.size.trans (show _ = 150 from rfl)) (by decide) gg
                  have hg := hG.good
                  clear hG
                  go_wp2
                  exact ⟨_, rfl, rfl, hg, Below.refl _ _⟩
                · intro x wx hG
                  have g6 : (x.tmps.getD 86 undef) = .pointer (some ⟨w2.heap.size + 1, q, none⟩) := hG.claims 6 _ rfl (by decide +kernel) (by decide +kernel)
                  have gg : (x.tmps.getD 81 undef) = .bool true := hG.claims 1 _ rfl (by decide +kernel) (by decide +kernel)
                  replace gg := Cl.opt (hG.size.trans (show _ = 150 from rfl)) (by decide) gg
                  have hg := hG.good
                  clear hG
                  have cY := cell_of_block (j := q) (below_keep hg M.out.y) (upC_get g (q + 1) q hlt (Nat.lt_succ_self q))
                  go_wp2
                  exact ⟨_, rfl, rfl, hg, Below.refl _ _⟩
                · intro x wx hG
                  have g4 : (x.tmps.getD 84 undef) = .int .i64 (f q) := hG.claims 4 _ rfl (by decide +kernel) (by decide +kernel)
                  have g7 : (x.tmps.getD 87 undef) = .int .i64 (g q) := hG.claims 7 _ rfl (by decide +kernel) (by decide +kernel)
                  have gg : (x.tmps.getD 81 undef) = .bool true := hG.claims 1 _ rfl (by decide +kernel) (by decide +kernel)
                  replace gg := Cl.opt (hG.size.trans (show _ = 150 from rfl)) (by decide) gg
                  have hg := hG.good
                  clear hG
                  go_wp2
                  exact ⟨_, rfl, rfl, hg, Below.refl _ _⟩
                · intro x wx hG
                  have g1 : (x.tmps.getD 81 undef) = .bool true := hG.claims 1 _ rfl (by decide +kernel) (by decide +kernel)
                  have g8 : (x.tmps.getD 88 undef) = .bool (decide (f q ≤ g q)) := hG.claims 8 _ rfl (by decide +kernel) (by decide +kernel)
                  have hg := hG.good
                  clear hG
                  go_wp2
                  exact ⟨_, rfl, rfl, hg, Below.refl _ _⟩
                · intro x wx hG
                  have g9 : (x.tmps.getD 89 undef) = .bool (decide (f q ≤ g q)) := hG.claims 9 _ rfl (by decide +kernel) (by decide +kernel)
                  have hg := hG.good
                  clear hG
                  go_wp2
                  exact ⟨_, rfl, rfl, hg, Below.refl _ _⟩
              · intro vals wt hg hF
                obtain ⟨g0, g1, g2, g3, g4, g5, g6, g7, g8, g9, g10, -⟩ := hF
                have e0 : vals 0 = .bool true := g0 rfl
                have e1 : vals 1 = .bool true := g1 rfl
                have e2 : vals 2 = .int .i64 (q : Nat) := g2 rfl
                have e3 : vals 3 = .pointer (some ⟨w2.heap.size, q, none⟩) := g3 rfl
                have e4 : vals 4 = .int .i64 (f q) := g4 rfl
                have e5 : vals 5 = .int .i64 (q : Nat) := g5 rfl
                have e6 : vals 6 = .pointer (some ⟨w2.heap.size + 1, q, none⟩) := g6 rfl
                have e7 : vals 7 = .int .i64 (g q) := g7 rfl
                have e8 : vals 8 = .bool (decide (f q ≤ g q)) := g8 rfl
                have e9 : vals 9 = .bool (decide (f q ≤ g q)) := g9 rfl
                have e10 : vals 10 = .bool (decide (f q ≤ g q)) := g10 rfl
                simp only [Cl.puts, e0, e1, e2, e3, e4, e5, e6, e7, e8, e9, e10]
                clear e0 e1 e2 e3 e4 e5 e6 e7 e8 e9 e10 g0 g1 g2 g3 g4 g5 g6 g7 g8 g9 g10
                go_simp
                have M2 := Lib.hid (M.out.below hg)
                clear M hg
                go_wp2
                go_roundw
                case rel => exact ⟨q + 1, by omega, by go_num, by rw [HWS.out]; rfl, M2.out⟩
                case measure => simp [intOf] <;> omega
    · obtain rfl : q = 5 := by omega
      have HI := Lib.hid (fun (h : Nat → Int) => (show (Try.prog.info? 83).map (·.size) = some (intsC (upV h 5)).toArray.size by rw [intsC_size5]; kernel_rfl))
      have HMF := Lib.hid (fun (h : Nat → Int) w2 => vmade_c (upV h 5) w2 (upV_len h 5))
      clear HF HG HAL HBL hlt
      generalize hwb : withinN f g 5 = wb at *
      have HWB := Lib.hid hwb
      clear hwb
      go_wp2
      refine Cl2.region0 150 rfl [] (fun _ => True) (fun jq => match jq with | 2 => [11] | 5 => [11] | 10 => [11] | _ => []) (fun jq v ww => match jq with | 0 => v = .func (.func 55) #[] #[] | 1 => v = .agg (intsC (upV f 5)).toArray | 2 => VKv ww v (upV f 5) | 3 => v = .func (.func 55) #[] #[] | 4 => v = .agg (intsC (upV g 5)).toArray | 5 => VKv ww v (upV g 5) | 6 => TupK ww v (vecK (upV (fun s => max (f s) (g s)) 5)) | 7 => TupK ww v (vecK (upV (fun s => max (f s) (g s)) 5)) | 8 => AggK ww v (vecK (upV (fun s => max (f s) (g s)) 5)) | 9 => v = .int .i64 0 | 10 => NewB ww wr.heap.size v | 11 => FullB ww wr.heap.size v (vecK (upV (fun s => max (f s) (g s)) 5)) | 12 => v = .int .i64 0 | _ => True) (fun ww => Below wr.heap.size wr ww) (fun jq ww ww' => (jq ≠ 11 → Below ww.heap.size ww ww') ∧ (jq = 11 → Sets ww ww')) Try.mixed (by decide +kernel) (Below.refl _ _).drew trivial ?_ (fun _ _ _ _ _ _ => trivial) ?_ ?_
      · intro qq r v w w' hne hk hlt h hR
        match r, hk, hlt, h, hne with
        | 0, _, _, h, _ => exact h
        | 1, _, _, h, _ => exact h
        | 2, hk, _, h, _ => exact VKv.below h (hR.1 (by simpa using hk))
        | 3, _, _, h, _ => exact h
        | 4, _, _, h, _ => exact h
        | 5, hk, _, h, _ => exact VKv.below h (hR.1 (by simpa using hk))
        | 6, _, _, h, _ =>
          by_cases hqq : qq = 11
          · exact TupK.sets h (hR.2 hqq)
          · exact TupK.below h (hR.1 hqq)
        | 7, _, _, h, _ =>
          by_cases hqq : qq = 11
          · exact TupK.sets h (hR.2 hqq)
          · exact TupK.below h (hR.1 hqq)
        | 8, _, _, h, _ =>
          by_cases hqq : qq = 11
          · exact AggK.sets h (hR.2 hqq)
          · exact AggK.below h (hR.1 hqq)
        | 9, _, _, h, _ => exact h
        | 10, hk, _, h, _ => exact NewB.below h (hR.1 (by simpa using hk))
        | 11, _, _, h, hne => exact FullB.below h (hR.1 (by exact hne))
        | 12, _, _, h, _ => exact h
        | _ + 13, _, _, _, _ => trivial
      · refine ⟨?_, ?_, ?_, ?_, ?_, ?_, ?_, ?_, ?_, ?_, ?_, ?_, ?_, trivial⟩
        · intro x wx hG
          have f13 := hG.old 13 (by decide +kernel)
          have hg := hG.good
          clear hG
          go_wp2
          exact ⟨_, rfl, rfl, hg, ⟨fun _ => Below.refl _ _, fun h => absurd h (by decide)⟩⟩
        · intro x wx hG
          have f7 := hG.old 7 (by decide +kernel)
          have hg := hG.good
          clear hG
          have hd := below_keep hg (M.out.x)
          have HDX := Lib.hid hd
          clear hd
          refine wpList_load_row rfl 83 (.tmp 7) rfl (w2.heap.size) f7 83 (intsC (upV f 5)).toArray (0, 0) _ HDX.out Try.underlying83 rfl (HI.out _) ?_
          go_wp2
          exact ⟨_, rfl, rfl, hg, ⟨fun _ => Below.refl _ _, fun h => absurd h (by decide)⟩⟩
        · intro x wx hG
          have g0 : (x.tmps.getD 92 undef) = .func (.func 55) #[] #[] := hG.claims 0 _ rfl (by decide +kernel) (by decide +kernel)
          have g0b := g0
          rw [Array.getD_eq_getD_getElem?] at g0b
          have g1 : (x.tmps.getD 93 undef) = .agg (intsC (upV f 5)).toArray := hG.claims 1 _ rfl (by decide +kernel) (by decide +kernel)
          have g1b := g1
          rw [Array.getD_eq_getD_getElem?] at g1b
          have hg := hG.good
          clear hG
          go_wp2_with fail
          (with_reducible refine (HMF.out _ _).mono ?_)
          rintro e wq ⟨za, zc, rfl, h9, hb⟩
          have H9 := Lib.hid h9
          clear h9
          go_wp2
          exact ⟨_, rfl, ⟨_, _, rfl, H9.out⟩, bstep hg hb, ⟨fun _ => hb, fun h => absurd h (by decide)⟩⟩
        · intro x wx hG
          have f13 := hG.old 13 (by decide +kernel)
          have hg := hG.good
          clear hG
          go_wp2
          exact ⟨_, rfl, rfl, hg, ⟨fun _ => Below.refl _ _, fun h => absurd h (by decide)⟩⟩
        · intro x wx hG
          have f8 := hG.old 8 (by decide +kernel)
          have hg := hG.good
          clear hG
          have hd := below_keep hg (M.out.y)
          have HDX := Lib.hid hd
          clear hd
          refine wpList_load_row rfl 83 (.tmp 8) rfl (w2.heap.size + 1) f8 83 (intsC (upV g 5)).toArray (0, 0) _ HDX.out Try.underlying83 rfl (HI.out _) ?_
          go_wp2
          exact ⟨_, rfl, rfl, hg, ⟨fun _ => Below.refl _ _, fun h => absurd h (by decide)⟩⟩
        · intro x wx hG
          have g3 : (x.tmps.getD 95 undef) = .func (.func 55) #[] #[] := hG.claims 3 _ rfl (by decide +kernel) (by decide +kernel)
          have g3b := g3
          rw [Array.getD_eq_getD_getElem?] at g3b
          have g4 : (x.tmps.getD 96 undef) = .agg (intsC (upV g 5)).toArray := hG.claims 4 _ rfl (by decide +kernel) (by decide +kernel)
          have g4b := g4
          rw [Array.getD_eq_getD_getElem?] at g4b
          have hg := hG.good
          clear hG
          go_wp2_with fail
          (with_reducible refine (HMF.out _ _).mono ?_)
          rintro e wq ⟨za, zc, rfl, h9, hb⟩
          have H9 := Lib.hid h9
          clear h9
          go_wp2
          exact ⟨_, rfl, ⟨_, _, rfl, H9.out⟩, bstep hg hb, ⟨fun _ => hb, fun h => absurd h (by decide)⟩⟩
        · intro x wx hG
          have g2 : VKv wx (x.tmps.getD 94 undef) (upV f 5) := hG.claims 2 _ rfl (by decide +kernel) (by decide +kernel)
          have g5 : VKv wx (x.tmps.getD 97 undef) (upV g 5) := hG.claims 5 _ rfl (by decide +kernel) (by decide +kernel)
          have hg := hG.good
          clear hG
          obtain ⟨za, zc, hz1, hz2⟩ := g2
          obtain ⟨ya, yc, hy1, hy2⟩ := g5
          have HZ := Lib.hid hz2
          have HY := Lib.hid hy2
          clear hz2 hy2
          go_wp2_with fail
          (with_reducible refine (vjoin_c _ _ _ _ f g _ FF.out FG.out HZ.out HY.out).mono ?_)
          rintro e wq ⟨v9, rfl, h9, hb⟩
          obtain ⟨qa, qn, qc, qb, qm, qd, hv9, h8⟩ := h9
          subst hv9
          have H8 := Lib.hid h8
          clear h8
          go_wp2
          exact ⟨_, rfl, ⟨_, _, _, _, _, _, rfl, H8.out⟩, bstep hg hb, ⟨fun _ => hb, fun h => absurd h (by decide)⟩⟩
        · intro x wx hG
          have g6 : TupK wx (x.tmps.getD 98 undef) (vecK (upV (fun s => max (f s) (g s)) 5)) := hG.claims 6 _ rfl (by decide +kernel) (by decide +kernel)
          have hg := hG.good
          clear hG
          obtain ⟨qa, qn, qc, qb, qm, qd, hx9, h9⟩ := g6
          have H9 := Lib.hid h9
          clear h9
          go_wp2
          exact ⟨_, rfl, ⟨_, _, _, _, _, _, rfl, H9.out⟩, hg, ⟨fun _ => Below.refl _ _, fun h => absurd h (by decide)⟩⟩
        · intro x wx hG
          have g7 : TupK wx (x.tmps.getD 91 undef) (vecK (upV (fun s => max (f s) (g s)) 5)) := hG.claims 7 _ rfl (by decide +kernel) (by decide +kernel)
          have hg := hG.good
          clear hG
          obtain ⟨qa, qn, qc, qb, qm, qd, hx9, h9⟩ := g7
          have H9 := Lib.hid h9
          clear h9
          go_wp2
          exact ⟨_, rfl, ⟨_, _, _, _, _, _, rfl, H9.out⟩, hg, ⟨fun _ => Below.refl _ _, fun h => absurd h (by decide)⟩⟩
        · intro x wx hG
          have g7 : TupK wx (x.tmps.getD 91 undef) (vecK (upV (fun s => max (f s) (g s)) 5)) := hG.claims 7 _ rfl (by decide +kernel) (by decide +kernel)
          have hg := hG.good
          clear hG
          obtain ⟨qa, qn, qc, qb, qm, qd, hx9, h9⟩ := g7
          clear h9
          go_wp2
          exact ⟨_, rfl, rfl, hg, ⟨fun _ => Below.refl _ _, fun h => absurd h (by decide)⟩⟩
        · intro x wx hG
          have hg := hG.good
          clear hG
          go_wp2
          exact ⟨_, rfl, ⟨_, rfl, alloc_new _ _ _ _ rfl, hg.size⟩, hg.alloc hg.size _, ⟨fun _ => bal _, fun h => absurd h (by decide)⟩⟩
        · intro x wx hG
          have g10 : NewB wx wr.heap.size (x.tmps.getD 14 undef) := hG.claims 10 _ rfl (by decide +kernel) (by decide +kernel)
          have g8 : AggK wx (x.tmps.getD 99 undef) (vecK (upV (fun s => max (f s) (g s)) 5)) := hG.claims 8 _ rfl (by decide +kernel) (by decide +kernel)
          have hg := hG.good
          clear hG
          obtain ⟨gb, hgb, hnil, hgs⟩ := g10
          obtain ⟨qa, qn, qc, qb, qm, qd, hx9, h9⟩ := g8
          have HGB := Lib.hid hgb
          have r0 := cell_of_block (j := 0) hnil rfl
          have r1 := cell_of_block (j := 1) hnil rfl
          have f0 := free_of_block (j := 0) hnil
          have f1 := free_of_block (j := 1) hnil
          have hRl := hlt_of hnil
          have HN := Lib.hid hnil
          have H9 := Lib.hid h9
          have HGS := Lib.hid hgs
          clear hnil h9 hgs
          go_wp2
          exact ⟨undef, rfl, ⟨_, _, _, _, _, _, _, Eq.trans (by kernel_rfl) HGB.out, set2_same HN.out, H9.out.set2 HN.out, HGS.out⟩, (hg.setCell HGS.out _).setCell HGS.out _, ⟨fun h => absurd rfl h, fun _ => ⟨_, _, _, _, HN.out, rfl⟩⟩⟩
        · intro x wx hG
          have g9 : (x.tmps.getD 100 undef) = .int .i64 0 := hG.claims 9 _ rfl (by decide +kernel) (by decide +kernel)
          have hg := hG.good
          clear hG
          go_wp2
          exact ⟨_, rfl, rfl, hg, ⟨fun _ => Below.refl _ _, fun h => absurd h (by decide)⟩⟩
      · intro vals wj hg hF
        obtain ⟨g0, g1, g2, g3, g4, g5, g6, g7, g8, g9, g10, g11, g12, -⟩ := hF
        have e0 : vals 0 = .func (.func 55) #[] #[] := g0 rfl
        have e1 : vals 1 = .agg (intsC (upV f 5)).toArray := g1 rfl
        have e3 : vals 3 = .func (.func 55) #[] #[] := g3 rfl
        have e4 : vals 4 = .agg (intsC (upV g 5)).toArray := g4 rfl
        have e9 : vals 9 = .int .i64 0 := g9 rfl
        have g11 := g11 rfl
        have e12 : vals 12 = .int .i64 0 := g12 rfl
        simp only [Cl2.puts, e0, e1, e3, e4, e9, e12]
        clear e0 e1 e3 e4 e9 e12 g0 g1 g2 g3 g4 g5 g6 g7 g8 g9 g10 g12
        go_simp
        obtain ⟨gbj, ja, jn, jc, jb, jm, jd, h1, h2, h3, -⟩ := g11
        have hpt : vals 10 = .pointer (some ⟨gbj, 0, none⟩) := Eq.trans (by kernel_rfl) h1
        rw [hpt]
        have Bj := Lib.hid h2
        have Oj := Lib.hid h3
        have M2 := Lib.hid (M.out.below hg)
        clear h1 h2 h3 hpt M
        have M := M2
        clear M2
        clear hg
        go_wp2
        refine Cl2.region0 150 rfl [] (fun _ => True) (fun jq => match jq with | 2 => [11] | 5 => [11] | 10 => [11] | _ => []) (fun jq v ww => match jq with | 0 => v = .func (.func 55) #[] #[] | 1 => v = .agg (intsC (upV f 5)).toArray | 2 => VKv ww v (upV f 5) | 3 => v = .func (.func 55) #[] #[] | 4 => v = .agg (intsC (upV g 5)).toArray | 5 => VKv ww v (upV g 5) | 6 => TupK ww v (vecK (upV (fun s => min (f s) (g s)) 5)) | 7 => TupK ww v (vecK (upV (fun s => min (f s) (g s)) 5)) | 8 => AggK ww v (vecK (upV (fun s => min (f s) (g s)) 5)) | 9 => v = .int .i64 0 | 10 => NewB ww wj.heap.size v | 11 => FullB ww wj.heap.size v (vecK (upV (fun s => min (f s) (g s)) 5)) | 12 => v = .int .i64 0 | _ => True) (fun ww => Below wj.heap.size wj ww) (fun jq ww ww' => (jq ≠ 11 → Below ww.heap.size ww ww') ∧ (jq = 11 → Sets ww ww')) Try.mixed (by decide +kernel) (Below.refl _ _).drew trivial ?_ (fun _ _ _ _ _ _ => trivial) ?_ ?_
        · intro qq r v w w' hne hk hlt h hR
          match r, hk, hlt, h, hne with
          | 0, _, _, h, _ => exact h
          | 1, _, _, h, _ => exact h
          | 2, hk, _, h, _ => exact VKv.below h (hR.1 (by simpa using hk))
          | 3, _, _, h, _ => exact h
          | 4, _, _, h, _ => exact h
          | 5, hk, _, h, _ => exact VKv.below h (hR.1 (by simpa using hk))
          | 6, _, _, h, _ =>
            by_cases hqq : qq = 11
            · exact TupK.sets h (hR.2 hqq)
            · exact TupK.below h (hR.1 hqq)
          | 7, _, _, h, _ =>
            by_cases hqq : qq = 11
            · exact TupK.sets h (hR.2 hqq)
            · exact TupK.below h (hR.1 hqq)
          | 8, _, _, h, _ =>
            by_cases hqq : qq = 11
            · exact AggK.sets h (hR.2 hqq)
            · exact AggK.below h (hR.1 hqq)
          | 9, _, _, h, _ => exact h
          | 10, hk, _, h, _ => exact NewB.below h (hR.1 (by simpa using hk))
          | 11, _, _, h, hne => exact FullB.below h (hR.1 (by exact hne))
          | 12, _, _, h, _ => exact h
          | _ + 13, _, _, _, _ => trivial
        · refine ⟨?_, ?_, ?_, ?_, ?_, ?_, ?_, ?_, ?_, ?_, ?_, ?_, ?_, trivial⟩
          · intro x wx hG
            have f13 := hG.old 13 (by decide +kernel)
            have hg := hG.good
            clear hG
            go_wp2
            exact ⟨_, rfl, rfl, hg, ⟨fun _ => Below.refl _ _, fun h => absurd h (by decide)⟩⟩
          · intro x wx hG
            have f7 := hG.old 7 (by decide +kernel)
            have hg := hG.good
            clear hG
            have hd := below_keep hg (M.out.x)
            have HDX := Lib.hid hd
            clear hd
            refine wpList_load_row rfl 83 (.tmp 7) rfl (w2.heap.size) f7 83 (intsC (upV f 5)).toArray (0, 0) _ HDX.out Try.underlying83 rfl (HI.out _) ?_
            go_wp2
            exact ⟨_, rfl, rfl, hg, ⟨fun _ => Below.refl _ _, fun h => absurd h (by decide)⟩⟩
          · intro x wx hG
            have g0 : (x.tmps.getD 102 undef) = .func (.func 55) #[] #[] := hG.claims 0 _ rfl (by decide +kernel) (by decide +kernel)
            have g0b := g0
            rw [Array.getD_eq_getD_getElem?] at g0b
            have g1 : (x.tmps.getD 103 undef) = .agg (intsC (upV f 5)).toArray := hG.claims 1 _ rfl (by decide +kernel) (by decide +kernel)
            have g1b := g1
            rw [Array.getD_eq_getD_getElem?] at g1b
            have hg := hG.good
            clear hG
            go_wp2_with fail
            (with_reducible refine (HMF.out _ _).mono ?_)
            rintro e wq ⟨za, zc, rfl, h9, hb⟩
            have H9 := Lib.hid h9
            clear h9
            go_wp2
            exact ⟨_, rfl, ⟨_, _, rfl, H9.out⟩, bstep hg hb, ⟨fun _ => hb, fun h => absurd h (by decide)⟩⟩
          · intro x wx hG
            have f13 := hG.old 13 (by decide +kernel)
            have hg := hG.good
            clear hG
            go_wp2
            exact ⟨_, rfl, rfl, hg, ⟨fun _ => Below.refl _ _, fun h => absurd h (by decide)⟩⟩
          · intro x wx hG
            have f8 := hG.old 8 (by decide +kernel)
            have hg := hG.good
            clear hG
            have hd := below_keep hg (M.out.y)
            have HDX := Lib.hid hd
            clear hd
            refine wpList_load_row rfl 83 (.tmp 8) rfl (w2.heap.size + 1) f8 83 (intsC (upV g 5)).toArray (0, 0) _ HDX.out Try.underlying83 rfl (HI.out _) ?_
            go_wp2
            exact ⟨_, rfl, rfl, hg, ⟨fun _ => Below.refl _ _, fun h => absurd h (by decide)⟩⟩
          · intro x wx hG
            have g3 : (x.tmps.getD 105 undef) = .func (.func 55) #[] #[] := hG.claims 3 _ rfl (by decide +kernel) (by decide +kernel)
            have g3b := g3
            rw [Array.getD_eq_getD_getElem?] at g3b
            have g4 : (x.tmps.getD 106 undef) = .agg (intsC (upV g 5)).toArray := hG.claims 4 _ rfl (by decide +kernel) (by decide +kernel)
            have g4b := g4
            rw [Array.getD_eq_getD_getElem?] at g4b
            have hg := hG.good
            clear hG
            go_wp2_with fail
            (with_reducible refine (HMF.out _ _).mono ?_)
            rintro e wq ⟨za, zc, rfl, h9, hb⟩
            have H9 := Lib.hid h9
            clear h9
            go_wp2
            exact ⟨_, rfl, ⟨_, _, rfl, H9.out⟩, bstep hg hb, ⟨fun _ => hb, fun h => absurd h (by decide)⟩⟩
          · intro x wx hG
            have g2 : VKv wx (x.tmps.getD 104 undef) (upV f 5) := hG.claims 2 _ rfl (by decide +kernel) (by decide +kernel)
            have g5 : VKv wx (x.tmps.getD 107 undef) (upV g 5) := hG.claims 5 _ rfl (by decide +kernel) (by decide +kernel)
            have hg := hG.good
            clear hG
            obtain ⟨za, zc, hz1, hz2⟩ := g2
            obtain ⟨ya, yc, hy1, hy2⟩ := g5
            have HZ := Lib.hid hz2
            have HY := Lib.hid hy2
            clear hz2 hy2
            go_wp2_with fail
            (with_reducible refine (vmeet_c _ _ _ _ f g _ FF.out FG.out HZ.out HY.out).mono ?_)
            rintro e wq ⟨v9, rfl, h9, hb⟩
            obtain ⟨qa, qn, qc, qb, qm, qd, hv9, h8⟩ := h9
            subst hv9
            have H8 := Lib.hid h8
            clear h8
            go_wp2
            exact ⟨_, rfl, ⟨_, _, _, _, _, _, rfl, H8.out⟩, bstep hg hb, ⟨fun _ => hb, fun h => absurd h (by decide)⟩⟩
          · intro x wx hG
            have g6 : TupK wx (x.tmps.getD 108 undef) (vecK (upV (fun s => min (f s) (g s)) 5)) := hG.claims 6 _ rfl (by decide +kernel) (by decide +kernel)
            have hg := hG.good
            clear hG
            obtain ⟨qa, qn, qc, qb, qm, qd, hx9, h9⟩ := g6
            have H9 := Lib.hid h9
            clear h9
            go_wp2
            exact ⟨_, rfl, ⟨_, _, _, _, _, _, rfl, H9.out⟩, hg, ⟨fun _ => Below.refl _ _, fun h => absurd h (by decide)⟩⟩
          · intro x wx hG
            have g7 : TupK wx (x.tmps.getD 101 undef) (vecK (upV (fun s => min (f s) (g s)) 5)) := hG.claims 7 _ rfl (by decide +kernel) (by decide +kernel)
            have hg := hG.good
            clear hG
            obtain ⟨qa, qn, qc, qb, qm, qd, hx9, h9⟩ := g7
            have H9 := Lib.hid h9
            clear h9
            go_wp2
            exact ⟨_, rfl, ⟨_, _, _, _, _, _, rfl, H9.out⟩, hg, ⟨fun _ => Below.refl _ _, fun h => absurd h (by decide)⟩⟩
          · intro x wx hG
            have g7 : TupK wx (x.tmps.getD 101 undef) (vecK (upV (fun s => min (f s) (g s)) 5)) := hG.claims 7 _ rfl (by decide +kernel) (by decide +kernel)
            have hg := hG.good
            clear hG
            obtain ⟨qa, qn, qc, qb, qm, qd, hx9, h9⟩ := g7
            clear h9
            go_wp2
            exact ⟨_, rfl, rfl, hg, ⟨fun _ => Below.refl _ _, fun h => absurd h (by decide)⟩⟩
          · intro x wx hG
            have hg := hG.good
            clear hG
            go_wp2
            exact ⟨_, rfl, ⟨_, rfl, alloc_new _ _ _ _ rfl, hg.size⟩, hg.alloc hg.size _, ⟨fun _ => bal _, fun h => absurd h (by decide)⟩⟩
          · intro x wx hG
            have g10 : NewB wx wj.heap.size (x.tmps.getD 16 undef) := hG.claims 10 _ rfl (by decide +kernel) (by decide +kernel)
            have g8 : AggK wx (x.tmps.getD 109 undef) (vecK (upV (fun s => min (f s) (g s)) 5)) := hG.claims 8 _ rfl (by decide +kernel) (by decide +kernel)
            have hg := hG.good
            clear hG
            obtain ⟨gb, hgb, hnil, hgs⟩ := g10
            obtain ⟨qa, qn, qc, qb, qm, qd, hx9, h9⟩ := g8
            have HGB := Lib.hid hgb
            have r0 := cell_of_block (j := 0) hnil rfl
            have r1 := cell_of_block (j := 1) hnil rfl
            have f0 := free_of_block (j := 0) hnil
            have f1 := free_of_block (j := 1) hnil
            have hRl := hlt_of hnil
            have HN := Lib.hid hnil
            have H9 := Lib.hid h9
            have HGS := Lib.hid hgs
            clear hnil h9 hgs
            go_wp2
            exact ⟨undef, rfl, ⟨_, _, _, _, _, _, _, Eq.trans (by kernel_rfl) HGB.out, set2_same HN.out, H9.out.set2 HN.out, HGS.out⟩, (hg.setCell HGS.out _).setCell HGS.out _, ⟨fun h => absurd rfl h, fun _ => ⟨_, _, _, _, HN.out, rfl⟩⟩⟩
          · intro x wx hG
            have g9 : (x.tmps.getD 110 undef) = .int .i64 0 := hG.claims 9 _ rfl (by decide +kernel) (by decide +kernel)
            have hg := hG.good
            clear hG
            go_wp2
            exact ⟨_, rfl, rfl, hg, ⟨fun _ => Below.refl _ _, fun h => absurd h (by decide)⟩⟩
        · intro vals wm hg hF
          obtain ⟨g0, g1, g2, g3, g4, g5, g6, g7, g8, g9, g10, g11, g12, -⟩ := hF
          have e0 : vals 0 = .func (.func 55) #[] #[] := g0 rfl
          have e1 : vals 1 = .agg (intsC (upV f 5)).toArray := g1 rfl
          have e3 : vals 3 = .func (.func 55) #[] #[] := g3 rfl
          have e4 : vals 4 = .agg (intsC (upV g 5)).toArray := g4 rfl
          have e9 : vals 9 = .int .i64 0 := g9 rfl
          have g11 := g11 rfl
          have e12 : vals 12 = .int .i64 0 := g12 rfl
          simp only [Cl2.puts, e0, e1, e3, e4, e9, e12]
          clear e0 e1 e3 e4 e9 e12 g0 g1 g2 g3 g4 g5 g6 g7 g8 g9 g10 g12
          go_simp
          obtain ⟨gbm, ma, mn, mc, mb, mm, md, h1, h2, h3, -⟩ := g11
          have hpt : vals 10 = .pointer (some ⟨gbm, 0, none⟩) := Eq.trans (by kernel_rfl) h1
          rw [hpt]
          have Bm := Lib.hid h2
          have Om := Lib.hid h3
          have M2 := Lib.hid (M.out.below hg)
          clear h1 h2 h3 hpt M
          have M := M2
          clear M2
          replace Bj := Lib.hid (below_keep hg Bj.out)
          replace Oj := Lib.hid (Oj.out.below hg)
          clear hg
          go_wp2
          refine Cl.region0 150 rfl [] (fun _ => True) (fun _ => []) (fun jq v ww => match jq with | 0 => v = .func (.func 55) #[] #[] | 1 => v = .agg (intsC (upV f 5)).toArray | 2 => VKv ww v (upV f 5) | 3 => v = .func (.func 55) #[] #[] | 4 => v = .agg (intsC (upV g 5)).toArray | 5 => VKv ww v (upV g 5) | 6 => v = .tuple #[.bool wb, .int .i64 0] | 7 => v = .tuple #[.bool wb, .int .i64 0] | 8 => v = .bool wb | 9 => v = .int .i64 0 | 10 => v = .bool wb | 11 => v = .int .i64 0 | _ => True) (fun ww => Below wm.heap.size wm ww) (fun jq ww ww' => Below ww.heap.size ww ww') Try.mixed (by decide +kernel) (Below.refl _ _).drew trivial ?_ (fun _ _ _ _ _ _ => trivial) ?_ ?_
          · intro q r v w w' hne hk hlt h hR
            match r, hk, hlt, h, hne with
            | 0, _, _, h, _ => exact h
            | 1, _, _, h, _ => exact h
            | 2, _, _, h, _ => exact VKv.below h hR
            | 3, _, _, h, _ => exact h
            | 4, _, _, h, _ => exact h
            | 5, _, _, h, _ => exact VKv.below h hR
            | 6, _, _, h, _ => exact h
            | 7, _, _, h, _ => exact h
            | 8, _, _, h, _ => exact h
            | 9, _, _, h, _ => exact h
            | 10, _, _, h, _ => exact h
            | 11, _, _, h, _ => exact h
            | _ + 12, _, _, _, _ => trivial
          · refine ⟨?_, ?_, ?_, ?_, ?_, ?_, ?_, ?_, ?_, ?_, ?_, ?_, trivial⟩
            · intro x wx hG
              have f13 := hG.old 13 (by decide +kernel)
              have hg := hG.good
              clear hG
              go_wp2
              exact ⟨_, rfl, rfl, hg, Below.refl _ _⟩
            · intro x wx hG
              have f7 := hG.old 7 (by decide +kernel)
              have hg := hG.good
              clear hG
              have hd := below_keep hg (M.out.x)
              have HDX := Lib.hid hd
              clear hd
              refine wpList_load_row rfl 83 (.tmp 7) rfl (w2.heap.size) f7 83 (intsC (upV f 5)).toArray (0, 0) _ HDX.out Try.underlying83 rfl (HI.out _) ?_
              go_wp2
              exact ⟨_, rfl, rfl, hg, Below.refl _ _⟩
            · intro x wx hG
              have g0 : (x.tmps.getD 112 undef) = .func (.func 55) #[] #[] := hG.claims 0 _ rfl (by decide +kernel) (by decide +kernel)
              have g0b := g0
              rw [Array.getD_eq_getD_getElem?] at g0b
              have g1 : (x.tmps.getD 113 undef) = .agg (intsC (upV f 5)).toArray := hG.claims 1 _ rfl (by decide +kernel) (by decide +kernel)
              have g1b := g1
              rw [Array.getD_eq_getD_getElem?] at g1b
              have hg := hG.good
              clear hG
              go_wp2_with fail
              (with_reducible refine (HMF.out _ _).mono ?_)
              rintro e wq ⟨za, zc, rfl, h9, hb⟩
              have H9 := Lib.hid h9
              clear h9
              go_wp2
              exact ⟨_, rfl, ⟨_, _, rfl, H9.out⟩, bstep hg hb, hb⟩
            · intro x wx hG
              have f13 := hG.old 13 (by decide +kernel)
              have hg := hG.good
              clear hG
              go_wp2
              exact ⟨_, rfl, rfl, hg, Below.refl _ _⟩
            · intro x wx hG
              have f8 := hG.old 8 (by decide +kernel)
              have hg := hG.good
              clear hG
              have hd := below_keep hg (M.out.y)
              have HDX := Lib.hid hd
              clear hd
              refine wpList_load_row rfl 83 (.tmp 8) rfl (w2.heap.size + 1) f8 83 (intsC (upV g 5)).toArray (0, 0) _ HDX.out Try.underlying83 rfl (HI.out _) ?_
              go_wp2
              exact ⟨_, rfl, rfl, hg, Below.refl _ _⟩
            · intro x wx hG
              have g3 : (x.tmps.getD 115 undef) = .func (.func 55) #[] #[] := hG.claims 3 _ rfl (by decide +kernel) (by decide +kernel)
              have g3b := g3
              rw [Array.getD_eq_getD_getElem?] at g3b
              have g4 : (x.tmps.getD 116 undef) = .agg (intsC (upV g 5)).toArray := hG.claims 4 _ rfl (by decide +kernel) (by decide +kernel)
              have g4b := g4
              rw [Array.getD_eq_getD_getElem?] at g4b
              have hg := hG.good
              clear hG
              go_wp2_with fail
              (with_reducible refine (HMF.out _ _).mono ?_)
              rintro e wq ⟨za, zc, rfl, h9, hb⟩
              have H9 := Lib.hid h9
              clear h9
              go_wp2
              exact ⟨_, rfl, ⟨_, _, rfl, H9.out⟩, bstep hg hb, hb⟩
            · intro x wx hG
              have g2 : VKv wx (x.tmps.getD 114 undef) (upV f 5) := hG.claims 2 _ rfl (by decide +kernel) (by decide +kernel)
              have g5 : VKv wx (x.tmps.getD 117 undef) (upV g 5) := hG.claims 5 _ rfl (by decide +kernel) (by decide +kernel)
              have hg := hG.good
              clear hG
              obtain ⟨za, zc, hz1, hz2⟩ := g2
              obtain ⟨ya, yc, hy1, hy2⟩ := g5
              have HZ := Lib.hid hz2
              have HY := Lib.hid hy2
              clear hz2 hy2
              go_wp2_with fail
              (with_reducible refine (vwithin_c _ _ _ _ f g _ FF.out FG.out HZ.out HY.out).mono ?_)
              rintro e wq ⟨rfl, hb⟩
              rw [HWB.out]
              go_wp2
              exact ⟨_, rfl, rfl, bstep hg hb, hb⟩
            · intro x wx hG
              have g6 : (x.tmps.getD 118 undef) = .tuple #[.bool wb, .int .i64 0] := hG.claims 6 _ rfl (by decide +kernel) (by decide +kernel)
              have hg := hG.good
              clear hG
              go_wp2
              exact ⟨_, rfl, rfl, hg, Below.refl _ _⟩
            · intro x wx hG
              have g7 : (x.tmps.getD 111 undef) = .tuple #[.bool wb, .int .i64 0] := hG.claims 7 _ rfl (by decide +kernel) (by decide +kernel)
              have hg := hG.good
              clear hG
              go_wp2
              exact ⟨_, rfl, rfl, hg, Below.refl _ _⟩
            · intro x wx hG
              have g7 : (x.tmps.getD 111 undef) = .tuple #[.bool wb, .int .i64 0] := hG.claims 7 _ rfl (by decide +kernel) (by decide +kernel)
              have hg := hG.good
              clear hG
              go_wp2
              exact ⟨_, rfl, rfl, hg, Below.refl _ _⟩
            · intro x wx hG
              have g8 : (x.tmps.getD 119 undef) = .bool wb := hG.claims 8 _ rfl (by decide +kernel) (by decide +kernel)
              have hg := hG.good
              clear hG
              go_wp2
              exact ⟨_, rfl, rfl, hg, Below.refl _ _⟩
            · intro x wx hG
              have g9 : (x.tmps.getD 120 undef) = .int .i64 0 := hG.claims 9 _ rfl (by decide +kernel) (by decide +kernel)
              have hg := hG.good
              clear hG
              go_wp2
              exact ⟨_, rfl, rfl, hg, Below.refl _ _⟩
          · intro vals wi hg hF
            obtain ⟨g0, g1, g2, g3, g4, g5, g6, g7, g8, g9, g10, g11, -⟩ := hF
            have e0 : vals 0 = .func (.func 55) #[] #[] := g0 rfl
            have e1 : vals 1 = .agg (intsC (upV f 5)).toArray := g1 rfl
            have e3 : vals 3 = .func (.func 55) #[] #[] := g3 rfl
            have e4 : vals 4 = .agg (intsC (upV g 5)).toArray := g4 rfl
            have e6 : vals 6 = .tuple #[.bool wb, .int .i64 0] := g6 rfl
            have e7 : vals 7 = .tuple #[.bool wb, .int .i64 0] := g7 rfl
            have e8 : vals 8 = .bool wb := g8 rfl
            have e9 : vals 9 = .int .i64 0 := g9 rfl
            have e10 : vals 10 = .bool wb := g10 rfl
            have e11 : vals 11 = .int .i64 0 := g11 rfl
            simp only [Cl.puts, e0, e1, e3, e4, e6, e7, e8, e9, e10, e11]
            clear e0 e1 e3 e4 e6 e7 e8 e9 e10 e11 g0 g1 g2 g3 g4 g5 g6 g7 g8 g9 g10 g11
            go_simp
            replace Bj := Lib.hid (below_keep hg Bj.out)
            replace Oj := Lib.hid (Oj.out.below hg)
            replace Bm := Lib.hid (below_keep hg Bm.out)
            replace Om := Lib.hid (Om.out.below hg)
            replace M := Lib.hid (M.out.below hg)
            clear hg
            go_wp2
            have CJ0 := Lib.hid (cell_of_block (j := 0) Bj.out rfl)
            have CJ1 := Lib.hid (cell_of_block (j := 1) Bj.out rfl)
            have CM0 := Lib.hid (cell_of_block (j := 0) Bm.out rfl)
            have CM1 := Lib.hid (cell_of_block (j := 1) Bm.out rfl)
            have HJ := Lib.hid (Oj.out.at_ (by have := (vecK_up (f := fun s => max (f s) (g s)) (fun s => by have := FF.out s; have := FG.out s; (try simp only); omega)).len; exact this) (by show 0 ≤ 1000000; decide))
            have HMM := Lib.hid (Om.out.at_ (by have := (vecK_up (f := fun s => min (f s) (g s)) (fun s => by have := FF.out s; have := FG.out s; (try simp only); omega)).len; exact this) (by show 0 ≤ 1000000; decide))
            refine Cl.region0 150 rfl [] (fun _ => True) (fun _ => []) (fun jq v ww => match jq with | 0 => v = .int .i64 0 | 1 => v = .bool true | 2 => v = .bool true | 3 => v = .int .i64 0 | 4 => v = .bool true | 5 => v = .bool true | 6 => v = .bool true | 7 => v = .int .i64 0 | 8 => v = .bool true | 9 => v = .bool true | 10 => v = .bool true | 11 => v = .agg #[.slice ja jn jc, .slice jb jm jd] | 12 => v = .func (.func 55) #[] #[] | 13 => v = .agg (intsC (upV (fun s => max (f s) (g s)) 5)).toArray | 14 => VKv ww v (upV (fun s => max (f s) (g s)) 5) | 15 => v = .bool true | 16 => v = .bool true | 17 => v = .bool true | 18 => v = .agg #[.slice ma mn mc, .slice mb mm md] | 19 => v = .func (.func 55) #[] #[] | 20 => v = .agg (intsC (upV (fun s => min (f s) (g s)) 5)).toArray | 21 => VKv ww v (upV (fun s => min (f s) (g s)) 5) | 22 => v = .bool true | 23 => v = .bool true | 24 => v = .bool true | 25 => v = .bool wb | 26 => v = .bool wb | 27 => v = .bool true | 28 => v = .bool true | 29 => v = .bool true | _ => True) (fun ww => Below wi.heap.size wi ww) (fun jq ww ww' => Below ww.heap.size ww ww') Try.mixed (by decide +kernel) (Below.refl _ _).drew trivial ?_ (fun _ _ _ _ _ _ => trivial) ?_ ?_
            · intro q r v w w' hne hk hlt h hR
              match r, hk, hlt, h, hne with
              | 0, _, _, h, _ => exact h
              | 1, _, _, h, _ => exact h
              | 2, _, _, h, _ => exact h
              | 3, _, _, h, _ => exact h
              | 4, _, _, h, _ => exact h
              | 5, _, _, h, _ => exact h
              | 6, _, _, h, _ => exact h
              | 7, _, _, h, _ => exact h
              | 8, _, _, h, _ => exact h
              | 9, _, _, h, _ => exact h
              | 10, _, _, h, _ => exact h
              | 11, _, _, h, _ => exact h
              | 12, _, _, h, _ => exact h
              | 13, _, _, h, _ => exact h
              | 14, _, _, h, _ => exact VKv.below h hR
              | 15, _, _, h, _ => exact h
              | 16, _, _, h, _ => exact h
              | 17, _, _, h, _ => exact h
              | 18, _, _, h, _ => exact h
              | 19, _, _, h, _ => exact h
              | 20, _, _, h, _ => exact h
              | 21, _, _, h, _ => exact VKv.below h hR
              | 22, _, _, h, _ => exact h
              | 23, _, _, h, _ => exact h
              | 24, _, _, h, _ => exact h
              | 25, _, _, h, _ => exact h
              | 26, _, _, h, _ => exact h
              | 27, _, _, h, _ => exact h
              | 28, _, _, h, _ => exact h
              | 29, _, _, h, _ => exact h
              | _ + 30, _, _, _, _ => trivial
            · refine ⟨?_, ?_, ?_, ?_, ?_, ?_, ?_, ?_, ?_, ?_, ?_, ?_, ?_, ?_, ?_, ?_, ?_, ?_, ?_, ?_, ?_, ?_, ?_, ?_, ?_, ?_, ?_, ?_, ?_, ?_, trivial⟩
              · intro x wx hG
                have f15 := hG.old 15 (by decide +kernel)
                have hg := hG.good
                clear hG
                go_wp2
                exact ⟨_, rfl, rfl, hg, Below.refl _ _⟩
              · intro x wx hG
                have g0 : (x.tmps.getD 121 undef) = .int .i64 0 := hG.claims 0 _ rfl (by decide +kernel) (by decide +kernel)
                have hg := hG.good
                clear hG
                go_wp2
                exact ⟨_, rfl, rfl, hg, Below.refl _ _⟩
              · intro x wx hG
                have g1 : (x.tmps.getD 122 undef) = .bool true := hG.claims 1 _ rfl (by decide +kernel) (by decide +kernel)
                have hg := hG.good
                clear hG
                go_wp2
                exact ⟨_, rfl, rfl, hg, Below.refl _ _⟩
              · intro x wx hG
                have f17 := hG.old 17 (by decide +kernel)
                have gg : (x.tmps.getD 123 undef) = .bool true := hG.claims 2 _ rfl (by decide +kernel) (by decide +kernel)
                replace gg := Cl.opt (hG.size.trans (show _ = 150 from rfl)) (by decide) gg
                have hg := hG.good
                clear hG
                go_wp2
                exact ⟨_, rfl, rfl, hg, Below.refl _ _⟩
              · intro x wx hG
                have g3 : (x.tmps.getD 124 undef) = .int .i64 0 := hG.claims 3 _ rfl (by decide +kernel) (by decide +kernel)
                have gg : (x.tmps.getD 123 undef) = .bool true := hG.claims 2 _ rfl (by decide +kernel) (by decide +kernel)
                replace gg := Cl.opt (hG.size.trans (show _ = 150 from rfl)) (by decide) gg
                have hg := hG.good
                clear hG
                go_wp2
                exact ⟨_, rfl, rfl, hg, Below.refl _ _⟩
              · intro x wx hG
                have g2 : (x.tmps.getD 123 undef) = .bool true := hG.claims 2 _ rfl (by decide +kernel) (by decide +kernel)
                have g4 : (x.tmps.getD 125 undef) = .bool true := hG.claims 4 _ rfl (by decide +kernel) (by decide +kernel)
                have hg := hG.good
                clear hG
                go_wp2
                exact ⟨_, rfl, rfl, hg, Below.refl _ _⟩
              · intro x wx hG
                have g5 : (x.tmps.getD 126 undef) = .bool true := hG.claims 5 _ rfl (by decide +kernel) (by decide +kernel)
                have hg := hG.good
                clear hG
                go_wp2
                exact ⟨_, rfl, rfl, hg, Below.refl _ _⟩
              · intro x wx hG
                have f19 := hG.old 19 (by decide +kernel)
                have gg : (x.tmps.getD 127 undef) = .bool true := hG.claims 6 _ rfl (by decide +kernel) (by decide +kernel)
                replace gg := Cl.opt (hG.size.trans (show _ = 150 from rfl)) (by decide) gg
                have hg := hG.good
                clear hG
                go_wp2
                exact ⟨_, rfl, rfl, hg, Below.refl _ _⟩
              · intro x wx hG
                have g7 : (x.tmps.getD 128 undef) = .int .i64 0 := hG.claims 7 _ rfl (by decide +kernel) (by decide +kernel)
                have gg : (x.tmps.getD 127 undef) = .bool true := hG.claims 6 _ rfl (by decide +kernel) (by decide +kernel)
                replace gg := Cl.opt (hG.size.trans (show _ = 150 from rfl)) (by decide) gg
                have hg := hG.good
                clear hG
                go_wp2
                exact ⟨_, rfl, rfl, hg, Below.refl _ _⟩
              · intro x wx hG
                have g6 : (x.tmps.getD 127 undef) = .bool true := hG.claims 6 _ rfl (by decide +kernel) (by decide +kernel)
                have g8 : (x.tmps.getD 129 undef) = .bool true := hG.claims 8 _ rfl (by decide +kernel) (by decide +kernel)
                have hg := hG.good
                clear hG
                go_wp2
                exact ⟨_, rfl, rfl, hg, Below.refl _ _⟩
              · intro x wx hG
                have g9 : (x.tmps.getD 130 undef) = .bool true := hG.claims 9 _ rfl (by decide +kernel) (by decide +kernel)
                have hg := hG.good
                clear hG
                go_wp2
                exact ⟨_, rfl, rfl, hg, Below.refl _ _⟩
              · intro x wx hG
                have f14 := hG.old 14 (by decide +kernel)
                have gg : (x.tmps.getD 131 undef) = .bool true := hG.claims 10 _ rfl (by decide +kernel) (by decide +kernel)
                replace gg := Cl.opt (hG.size.trans (show _ = 150 from rfl)) (by decide) gg
                have hg := hG.good
                clear hG
                have c_CJ0 := ckeep hg CJ0.out
                have c_CJ1 := ckeep hg CJ1.out
                go_wp2
                exact ⟨_, rfl, rfl, hg, Below.refl _ _⟩
              · intro x wx hG
                have f13 := hG.old 13 (by decide +kernel)
                have gg : (x.tmps.getD 131 undef) = .bool true := hG.claims 10 _ rfl (by decide +kernel) (by decide +kernel)
                replace gg := Cl.opt (hG.size.trans (show _ = 150 from rfl)) (by decide) gg
                have hg := hG.good
                clear hG
                go_wp2
                exact ⟨_, rfl, rfl, hg, Below.refl _ _⟩
              · intro x wx hG
                have f9 := hG.old 9 (by decide +kernel)
                have gg : (x.tmps.getD 131 undef) = .bool true := hG.claims 10 _ rfl (by decide +kernel) (by decide +kernel)
                replace gg := Cl.opt (hG.size.trans (show _ = 150 from rfl)) (by decide) gg
                have hg := hG.good
                clear hG
                have hd := below_keep hg (M.out.o)
                have HDX := Lib.hid hd
                clear hd
                refine wpList_load_row_g ?hw 83 (.tmp 9) rfl (w2.heap.size + 2) f9 83 (intsC (upV (fun s => max (f s) (g s)) 5)).toArray (0, 0) _ HDX.out Try.underlying83 rfl (HI.out _) ?_
                case hw => simp [Region.wanted, yielded, gg]
                go_wp2
                exact ⟨_, rfl, rfl, hg, Below.refl _ _⟩
              · intro x wx hG
                have g12 : (x.tmps.getD 133 undef) = .func (.func 55) #[] #[] := hG.claims 12 _ rfl (by decide +kernel) (by decide +kernel)
                have g12b := g12
                rw [Array.getD_eq_getD_getElem?] at g12b
                have g13 : (x.tmps.getD 134 undef) = .agg (intsC (upV (fun s => max (f s) (g s)) 5)).toArray := hG.claims 13 _ rfl (by decide +kernel) (by decide +kernel)
                have g13b := g13
                rw [Array.getD_eq_getD_getElem?] at g13b
                have gg : (x.tmps.getD 131 undef) = .bool true := hG.claims 10 _ rfl (by decide +kernel) (by decide +kernel)
                replace gg := Cl.opt (hG.size.trans (show _ = 150 from rfl)) (by decide) gg
                have hg := hG.good
                clear hG
                go_wp2_with fail
                (with_reducible refine (HMF.out _ _).mono ?_)
                rintro e wq ⟨za, zc, rfl, h9, hb⟩
                have H9 := Lib.hid h9
                clear h9
                go_wp2
                exact ⟨_, rfl, ⟨_, _, rfl, H9.out⟩, bstep hg hb, hb⟩
              · intro x wx hG
                have g11 : (x.tmps.getD 132 undef) = .agg #[.slice ja jn jc, .slice jb jm jd] := hG.claims 11 _ rfl (by decide +kernel) (by decide +kernel)
                have g11b := g11
                rw [Array.getD_eq_getD_getElem?] at g11b
                have g14 : VKv wx (x.tmps.getD 135 undef) (upV (fun s => max (f s) (g s)) 5) := hG.claims 14 _ rfl (by decide +kernel) (by decide +kernel)
                have gg : (x.tmps.getD 131 undef) = .bool true := hG.claims 10 _ rfl (by decide +kernel) (by decide +kernel)
                replace gg := Cl.opt (hG.size.trans (show _ = 150 from rfl)) (by decide) gg
                have hg := hG.good
                clear hG
                obtain ⟨za, zc, hz1, hz2⟩ := g14
                have HZ := Lib.hid hz2
                clear hz2
                have HJX := Lib.hid (HJ.out.below hg)
                go_wp2_with fail
                (with_reducible refine (vsame_c _ _ _ _ _ _ HJX.out HZ.out).mono ?_)
                rintro e wq ⟨rfl, hb⟩
                go_wp2
                exact ⟨_, rfl, rfl, bstep hg hb, hb⟩
              · intro x wx hG
                have g10 : (x.tmps.getD 131 undef) = .bool true := hG.claims 10 _ rfl (by decide +kernel) (by decide +kernel)
                have g15 : (x.tmps.getD 136 undef) = .bool true := hG.claims 15 _ rfl (by decide +kernel) (by decide +kernel)
                have hg := hG.good
                clear hG
                go_wp2
                exact ⟨_, rfl, rfl, hg, Below.refl _ _⟩
              · intro x wx hG
                have g16 : (x.tmps.getD 137 undef) = .bool true := hG.claims 16 _ rfl (by decide +kernel) (by decide +kernel)
                have hg := hG.good
                clear hG
                go_wp2
                exact ⟨_, rfl, rfl, hg, Below.refl _ _⟩
              · intro x wx hG
                have f16 := hG.old 16 (by decide +kernel)
                have gg : (x.tmps.getD 138 undef) = .bool true := hG.claims 17 _ rfl (by decide +kernel) (by decide +kernel)
                replace gg := Cl.opt (hG.size.trans (show _ = 150 from rfl)) (by decide) gg
                have hg := hG.good
                clear hG
                have c_CM0 := ckeep hg CM0.out
                have c_CM1 := ckeep hg CM1.out
                go_wp2
                exact ⟨_, rfl, rfl, hg, Below.refl _ _⟩
              · intro x wx hG
                have f13 := hG.old 13 (by decide +kernel)
                have gg : (x.tmps.getD 138 undef) = .bool true := hG.claims 17 _ rfl (by decide +kernel) (by decide +kernel)
                replace gg := Cl.opt (hG.size.trans (show _ = 150 from rfl)) (by decide) gg
                have hg := hG.good
                clear hG
                go_wp2
                exact ⟨_, rfl, rfl, hg, Below.refl _ _⟩
              · intro x wx hG
                have f10 := hG.old 10 (by decide +kernel)
                have gg : (x.tmps.getD 138 undef) = .bool true := hG.claims 17 _ rfl (by decide +kernel) (by decide +kernel)
                replace gg := Cl.opt (hG.size.trans (show _ = 150 from rfl)) (by decide) gg
                have hg := hG.good
                clear hG
                have hd := below_keep hg (M.out.a)
                have HDX := Lib.hid hd
                clear hd
                refine wpList_load_row_g ?hw 83 (.tmp 10) rfl (w2.heap.size + 3) f10 83 (intsC (upV (fun s => min (f s) (g s)) 5)).toArray (0, 0) _ HDX.out Try.underlying83 rfl (HI.out _) ?_
                case hw => simp [Region.wanted, yielded, gg]
                go_wp2
                exact ⟨_, rfl, rfl, hg, Below.refl _ _⟩
              · intro x wx hG
                have g19 : (x.tmps.getD 140 undef) = .func (.func 55) #[] #[] := hG.claims 19 _ rfl (by decide +kernel) (by decide +kernel)
                have g19b := g19
                rw [Array.getD_eq_getD_getElem?] at g19b
                have g20 : (x.tmps.getD 141 undef) = .agg (intsC (upV (fun s => min (f s) (g s)) 5)).toArray := hG.claims 20 _ rfl (by decide +kernel) (by decide +kernel)
                have g20b := g20
                rw [Array.getD_eq_getD_getElem?] at g20b
                have gg : (x.tmps.getD 138 undef) = .bool true := hG.claims 17 _ rfl (by decide +kernel) (by decide +kernel)
                replace gg := Cl.opt (hG.size.trans (show _ = 150 from rfl)) (by decide) gg
                have hg := hG.good
                clear hG
                go_wp2_with fail
                (with_reducible refine (HMF.out _ _).mono ?_)
                rintro e wq ⟨za, zc, rfl, h9, hb⟩
                have H9 := Lib.hid h9
                clear h9
                go_wp2
                exact ⟨_, rfl, ⟨_, _, rfl, H9.out⟩, bstep hg hb, hb⟩
              · intro x wx hG
                have g18 : (x.tmps.getD 139 undef) = .agg #[.slice ma mn mc, .slice mb mm md] := hG.claims 18 _ rfl (by decide +kernel) (by decide +kernel)
                have g18b := g18
                rw [Array.getD_eq_getD_getElem?] at g18b
                have g21 : VKv wx (x.tmps.getD 142 undef) (upV (fun s => min (f s) (g s)) 5) := hG.claims 21 _ rfl (by decide +kernel) (by decide +kernel)
                have gg : (x.tmps.getD 138 undef) = .bool true := hG.claims 17 _ rfl (by decide +kernel) (by decide +kernel)
                replace gg := Cl.opt (hG.size.trans (show _ = 150 from rfl)) (by decide) gg
                have hg := hG.good
                clear hG
                obtain ⟨za, zc, hz1, hz2⟩ := g21
                have HZ := Lib.hid hz2
                clear hz2
                have HJX := Lib.hid (HMM.out.below hg)
                go_wp2_with fail
                (with_reducible refine (vsame_c _ _ _ _ _ _ HJX.out HZ.out).mono ?_)
                rintro e wq ⟨rfl, hb⟩
                go_wp2
                exact ⟨_, rfl, rfl, bstep hg hb, hb⟩
              · intro x wx hG
                have g17 : (x.tmps.getD 138 undef) = .bool true := hG.claims 17 _ rfl (by decide +kernel) (by decide +kernel)
                have g22 : (x.tmps.getD 143 undef) = .bool true := hG.claims 22 _ rfl (by decide +kernel) (by decide +kernel)
                have hg := hG.good
                clear hG
                go_wp2
                exact ⟨_, rfl, rfl, hg, Below.refl _ _⟩
              · intro x wx hG
                have g23 : (x.tmps.getD 144 undef) = .bool true := hG.claims 23 _ rfl (by decide +kernel) (by decide +kernel)
                have hg := hG.good
                clear hG
                go_wp2
                exact ⟨_, rfl, rfl, hg, Below.refl _ _⟩
              · intro x wx hG
                have f18 := hG.old 18 (by decide +kernel)
                have gg : (x.tmps.getD 145 undef) = .bool true := hG.claims 24 _ rfl (by decide +kernel) (by decide +kernel)
                replace gg := Cl.opt (hG.size.trans (show _ = 150 from rfl)) (by decide) gg
                have hg := hG.good
                clear hG
                go_wp2
                exact ⟨_, rfl, rfl, hg, Below.refl _ _⟩
              · intro x wx hG
                have f11 := hG.old 11 (by decide +kernel)
                have gg : (x.tmps.getD 145 undef) = .bool true := hG.claims 24 _ rfl (by decide +kernel) (by decide +kernel)
                replace gg := Cl.opt (hG.size.trans (show _ = 150 from rfl)) (by decide) gg
                have hg := hG.good
                clear hG
                go_wp2
                exact ⟨_, rfl, rfl, hg, Below.refl _ _⟩
              · intro x wx hG
                have g25 : (x.tmps.getD 146 undef) = .bool wb := hG.claims 25 _ rfl (by decide +kernel) (by decide +kernel)
                have g26 : (x.tmps.getD 147 undef) = .bool wb := hG.claims 26 _ rfl (by decide +kernel) (by decide +kernel)
                have gg : (x.tmps.getD 145 undef) = .bool true := hG.claims 24 _ rfl (by decide +kernel) (by decide +kernel)
                replace gg := Cl.opt (hG.size.trans (show _ = 150 from rfl)) (by decide) gg
                have hg := hG.good
                clear hG
                go_wp2
                exact ⟨_, rfl, rfl, hg, Below.refl _ _⟩
              · intro x wx hG
                have g24 : (x.tmps.getD 145 undef) = .bool true := hG.claims 24 _ rfl (by decide +kernel) (by decide +kernel)
                have g27 : (x.tmps.getD 148 undef) = .bool true := hG.claims 27 _ rfl (by decide +kernel) (by decide +kernel)
                have hg := hG.good
                clear hG
                go_wp2
                exact ⟨_, rfl, rfl, hg, Below.refl _ _⟩
              · intro x wx hG
                have g28 : (x.tmps.getD 149 undef) = .bool true := hG.claims 28 _ rfl (by decide +kernel) (by decide +kernel)
                have hg := hG.good
                clear hG
                go_wp2
                exact ⟨_, rfl, rfl, hg, Below.refl _ _⟩
            · intro vals wz hg hF
              obtain ⟨g0, g1, g2, g3, g4, g5, g6, g7, g8, g9, g10, g11, g12, g13, g14, g15, g16, g17, g18, g19, g20, g21, g22, g23, g24, g25, g26, g27, g28, g29, -⟩ := hF
              have e0 : vals 0 = .int .i64 0 := g0 rfl
              have e1 : vals 1 = .bool true := g1 rfl
              have e2 : vals 2 = .bool true := g2 rfl
              have e3 : vals 3 = .int .i64 0 := g3 rfl
              have e4 : vals 4 = .bool true := g4 rfl
              have e5 : vals 5 = .bool true := g5 rfl
              have e6 : vals 6 = .bool true := g6 rfl
              have e7 : vals 7 = .int .i64 0 := g7 rfl
              have e8 : vals 8 = .bool true := g8 rfl
              have e9 : vals 9 = .bool true := g9 rfl
              have e10 : vals 10 = .bool true := g10 rfl
              have e11 : vals 11 = .agg #[.slice ja jn jc, .slice jb jm jd] := g11 rfl
              have e12 : vals 12 = .func (.func 55) #[] #[] := g12 rfl
              have e13 : vals 13 = .agg (intsC (upV (fun s => max (f s) (g s)) 5)).toArray := g13 rfl
              have e15 : vals 15 = .bool true := g15 rfl
              have e16 : vals 16 = .bool true := g16 rfl
              have e17 : vals 17 = .bool true := g17 rfl
              have e18 : vals 18 = .agg #[.slice ma mn mc, .slice mb mm md] := g18 rfl
              have e19 : vals 19 = .func (.func 55) #[] #[] := g19 rfl
              have e20 : vals 20 = .agg (intsC (upV (fun s => min (f s) (g s)) 5)).toArray := g20 rfl
              have e22 : vals 22 = .bool true := g22 rfl
              have e23 : vals 23 = .bool true := g23 rfl
              have e24 : vals 24 = .bool true := g24 rfl
              have e25 : vals 25 = .bool wb := g25 rfl
              have e26 : vals 26 = .bool wb := g26 rfl
              have e27 : vals 27 = .bool true := g27 rfl
              have e28 : vals 28 = .bool true := g28 rfl
              have e29 : vals 29 = .bool true := g29 rfl
              simp only [Cl.puts, e0, e1, e2, e3, e4, e5, e6, e7, e8, e9, e10, e11, e12, e13, e15, e16, e17, e18, e19, e20, e22, e23, e24, e25, e26, e27, e28, e29]
              clear e0 e1 e2 e3 e4 e5 e6 e7 e8 e9 e10 e11 e12 e13 e15 e16 e17 e18 e19 e20 e22 e23 e24 e25 e26 e27 e28 e29 g0 g1 g2 g3 g4 g5 g6 g7 g8 g9 g10 g11 g12 g13 g14 g15 g16 g17 g18 g19 g20 g21 g22 g23 g24 g25 g26 g27 g28 g29
              go_simp
              have hbz := M.out.bel.trans (hg.mono M.out.bel.size)
              clear hg
              go_wp2
              go_ret
              exact ⟨rfl, hbz⟩
end Go.Proofs.Ytippljiicnpieaa
