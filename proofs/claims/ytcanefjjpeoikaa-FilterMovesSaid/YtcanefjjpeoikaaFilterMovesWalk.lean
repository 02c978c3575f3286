/- The walk of FilterMoves: it returns true, whatever the arguments are. Written by a small program (gen/moves.py). -/
import Derived.Test.YtcanefjjpeoikaaFilterMoves0
import Derived.Test.YtcanefjjpeoikaaCube2
import Derived.Test.YtcanefjjpeoikaaClaims
namespace Go.Proofs.Ytcanefjjpeoikaa
open Go.RowKit
set_option maxRecDepth 100000 in
set_option maxHeartbeats 4000000 in
theorem FilterMoves_walk (vf : Value) (f : Bxs) (a c : Int) (w : World) (hf : BxsAt w vf f) :
    Calls Try.prog 8 #[vf, .int .i64 a, .int .i64 c] w fun e w' => e = .returned (.bool true) ∧ Below w.heap.size w w' := by
  have hbel := Below.refl w.heap.size w
  go_enter Try.func8, Try.ntmps8
  go_wp2_with fail
  (with_reducible refine (filterBegun_c _).mono ?_)
  rintro e w1 ⟨rfl, hb⟩
  replace hf := hf.below hb
  replace hbel := bstep hbel hb
  clear hb
  go_wp2_with fail
  (with_reducible refine (fChk_c _ f _ hf).mono ?_)
  rintro e w2 ⟨rfl, hb⟩
  replace hf := hf.below hb
  replace hbel := bstep hbel hb
  clear hb
  cases hx : (fChk f == 0)
  · have h' : (fChk f != 0) = true := by simp [bne, hx]
    clear hx hf
    go_wp2
    go_ret
    exact ⟨rfl, hbel⟩
  have h0 : fChk f = 0 := by simpa using hx
  have H0 := Lib.hid h0
  rw [h0]
  clear h0 hx
  obtain ⟨xa, xc, hv, hcap, hm, hnone, hl⟩ := hf.open_
  subst hv
  rcases hl with hnil | ⟨b, off, rfl, hblt, -⟩
  · have hz : f.length = 0 := by rw [hnil]; rfl
    rw [hz] at *
    clear hf hnil hcap hm
    go_wp2
    go_ret
    exact ⟨rfl, hbel⟩
  by_cases hz : f.length = 0
  · rw [hz]
    clear hf
    go_wp2
    go_ret
    exact ⟨rfl, hbel⟩
  have hpos : 0 < f.length := by omega
  have hzz : ((f.length : Int) == 0) = false := by rw [beq_eq_false_iff_ne]; omega
  by_cases h20 : 20 < f.length
  · clear hf hz
    go_wp2
    go_ret
    exact ⟨rfl, hbel⟩
  have h20b : decide (20 < f.length) = false := by simpa using h20
  clear hz hnone
  go_wp2_with fail
  (with_reducible refine (withinInt_c _ _ (by omega) (by omega) _).mono ?_)
  rintro e w3 ⟨rfl, rfl⟩
  go_wp2_with fail
  (with_reducible refine (withinInt_c _ _ (by omega) (by omega) _).mono ?_)
  rintro e w3 ⟨rfl, rfl⟩
  have hA0 := Int.emod_nonneg (a % 18446744073709551616) (show (f.length : Int) ≠ 0 by omega)
  have hA1 := Int.emod_lt_of_pos (a % 18446744073709551616) (show 0 < (f.length : Int) by omega)
  have hB0 := Int.emod_nonneg (c % 18446744073709551616) (show (f.length : Int) ≠ 0 by omega)
  have hB1 := Int.emod_lt_of_pos (c % 18446744073709551616) (show 0 < (f.length : Int) by omega)
  generalize a % 18446744073709551616 % (f.length : Int) = A at *
  generalize c % 18446744073709551616 % (f.length : Int) = B at *
  obtain ⟨i, rfl⟩ := Int.eq_ofNat_of_zero_le hA0
  obtain ⟨j, rfl⟩ := Int.eq_ofNat_of_zero_le hB0
  replace hA1 : i < f.length := by omega
  replace hB1 : j < f.length := by omega
  have hci : ¬ xc = i := by omega
  clear hA0 hB0 h20b hzz
  obtain ⟨w4, hw4⟩ : ∃ w4, w4 = w3 := ⟨_, rfl⟩
  subst hw4

  go_wp2_with fail
  refine Cl.region0 68 rfl [] (fun _ => True) (fun _ => []) (fun jq v ww => match jq with | 0 => v = .slice (some ⟨b, off, none⟩) f.length xc | 1 => v = .int .i64 i | 2 => v = .slice (some ⟨b, off + i * 3, none⟩) (f.length - i) (xc - i) | 3 => v = .slice (some ⟨b, off, none⟩) f.length xc | 4 => v = .int .i64 i | 5 => v = .slice (some ⟨b, off, none⟩) i xc | 6 => v = .slice (some ⟨b, off, none⟩) f.length xc | 7 => v = .int .i64 j | 8 => v = .slice (some ⟨b, off, none⟩) j xc | 9 => CellsAt ww v 3 [.slice (some ⟨b, off + i * 3, none⟩) (f.length - i) (xc - i), .slice (some ⟨b, off, none⟩) i xc, .slice (some ⟨b, off, none⟩) j xc] | 10 => BxsAt ww v ([f.drop i, f.take i, f.take j].flatten) | 11 => BxsAt ww v ([f.drop i, f.take i, f.take j].flatten) | _ => True) (fun ww => Below w4.heap.size w4 ww) (fun jq ww ww' => Below ww.heap.size ww ww') Try.mixed (by decide +kernel) (Below.refl _ _).drew trivial ?_ (fun _ _ _ _ _ _ => trivial) ?_ ?_
  · intro q r v w w' hne hk hlt h hR
    match r, hk, hlt, h, hne with
    | 0, _, _, h, _ => exact h
    | 1, _, _, h, _ => exact h
    | 2, _, _, h, _ => exact h
    | 3, _, _, h, _ => exact h
    | 4, _, _, h, _ => exact h
    | 5, _, _, h, _ => exact h
    | 6, _, _, h, _ => exact h
    | 7, _, _, h, _ => exact h
    | 8, _, _, h, _ => exact h
    | 9, _, _, h, _ => exact h.below hR
    | 10, _, _, h, _ => exact h.below hR
    | 11, _, _, h, _ => exact h.below hR
    | _ + 12, _, _, _, _ => trivial
  · refine ⟨?_, ?_, ?_, ?_, ?_, ?_, ?_, ?_, ?_, ?_, ?_, ?_, trivial⟩
    · intro x wx hG
      have f0 := hG.old 0 (by decide +kernel)
      have hg := hG.good
      clear hG
      go_wp2
      exact ⟨_, rfl, rfl, hg, Below.refl _ _⟩
    · intro x wx hG
      have f1 := hG.old 1 (by decide +kernel)
      have hg := hG.good
      clear hG
      go_wp2
      exact ⟨_, rfl, rfl, hg, Below.refl _ _⟩
    · intro x wx hG
      have g0 : (x.tmps.getD 33 undef) = .slice (some ⟨b, off, none⟩) f.length xc := hG.claims 0 _ rfl (by decide +kernel) (by decide +kernel)
      have g1 : (x.tmps.getD 34 undef) = .int .i64 i := hG.claims 1 _ rfl (by decide +kernel) (by decide +kernel)
      have hg := hG.good
      clear hG
      go_wp2
      exact ⟨_, rfl, rfl, hg, Below.refl _ _⟩
    · intro x wx hG
      have f0 := hG.old 0 (by decide +kernel)
      have hg := hG.good
      clear hG
      go_wp2
      exact ⟨_, rfl, rfl, hg, Below.refl _ _⟩
    · intro x wx hG
      have f1 := hG.old 1 (by decide +kernel)
      have hg := hG.good
      clear hG
      go_wp2
      exact ⟨_, rfl, rfl, hg, Below.refl _ _⟩
    · intro x wx hG
      have g3 : (x.tmps.getD 36 undef) = .slice (some ⟨b, off, none⟩) f.length xc := hG.claims 3 _ rfl (by decide +kernel) (by decide +kernel)
      have g4 : (x.tmps.getD 37 undef) = .int .i64 i := hG.claims 4 _ rfl (by decide +kernel) (by decide +kernel)
      have hg := hG.good
      clear hG
      go_wp2
      exact ⟨_, rfl, rfl, hg, Below.refl _ _⟩
    · intro x wx hG
      have f0 := hG.old 0 (by decide +kernel)
      have hg := hG.good
      clear hG
      go_wp2
      exact ⟨_, rfl, rfl, hg, Below.refl _ _⟩
    · intro x wx hG
      have f2 := hG.old 2 (by decide +kernel)
      have hg := hG.good
      clear hG
      go_wp2
      exact ⟨_, rfl, rfl, hg, Below.refl _ _⟩
    · intro x wx hG
      have g6 : (x.tmps.getD 39 undef) = .slice (some ⟨b, off, none⟩) f.length xc := hG.claims 6 _ rfl (by decide +kernel) (by decide +kernel)
      have g7 : (x.tmps.getD 40 undef) = .int .i64 j := hG.claims 7 _ rfl (by decide +kernel) (by decide +kernel)
      have hg := hG.good
      clear hG
      go_wp2
      exact ⟨_, rfl, rfl, hg, Below.refl _ _⟩
    · intro x wx hG
      have g2 : (x.tmps.getD 35 undef) = .slice (some ⟨b, off + i * 3, none⟩) (f.length - i) (xc - i) := hG.claims 2 _ rfl (by decide +kernel) (by decide +kernel)
      have g2b := g2
      rw [Array.getD_eq_getD_getElem?] at g2b
      have g5 : (x.tmps.getD 38 undef) = .slice (some ⟨b, off, none⟩) i xc := hG.claims 5 _ rfl (by decide +kernel) (by decide +kernel)
      have g5b := g5
      rw [Array.getD_eq_getD_getElem?] at g5b
      have g8 : (x.tmps.getD 41 undef) = .slice (some ⟨b, off, none⟩) j xc := hG.claims 8 _ rfl (by decide +kernel) (by decide +kernel)
      have g8b := g8
      rw [Array.getD_eq_getD_getElem?] at g8b
      have hg := hG.good
      clear hG
      go_wp2
      exact ⟨_, rfl, CellsAt.mk (Nat.le_refl _) (by decide) (by simp) (fun j z hj => by rw [Nat.zero_add, World.cell?_alloc_at _ _ _ _ rfl]; simpa using hj), hg.alloc hg.size _, bal _⟩
    · intro x wx hG
      have g9 : CellsAt wx (x.tmps.getD 42 undef) 3 [.slice (some ⟨b, off + i * 3, none⟩) (f.length - i) (xc - i), .slice (some ⟨b, off, none⟩) i xc, .slice (some ⟨b, off, none⟩) j xc] := hG.claims 9 _ rfl (by decide +kernel) (by decide +kernel)
      have hg := hG.good
      clear hG
      have hf2 := hf.below hg
      have hr := rows3 g9 (hf2.drop i (by omega) (by omega)) (hf2.take i (by omega)) (hf2.take j (by omega))
      clear g9 hf2
      generalize hx : x.tmps.getD 42 undef = x42 at *
      have HR := Lib.hid hr
      clear hr
      go_wp2_with fail
      (with_reducible refine (concatBx_c _ _ _ HR.out (by simp; omega)).mono ?_)
      rintro e w9 ⟨v9, rfl, ho, hb⟩
      have HO := Lib.hid ho
      clear ho hx HR
      go_wp2
      exact ⟨_, rfl, HO.out, bstep hg hb, hb⟩
    · intro x wx hG
      have g10 : BxsAt wx (x.tmps.getD 43 undef) ([f.drop i, f.take i, f.take j].flatten) := hG.claims 10 _ rfl (by decide +kernel) (by decide +kernel)
      have hg := hG.good
      clear hG
      generalize hx : x.tmps.getD 43 undef = x43 at *
      have hxb := hx
      rw [Array.getD_eq_getD_getElem?] at hxb
      have G10 := Lib.hid g10
      clear g10
      go_wp2
      exact ⟨_, rfl, G10.out, hg, Below.refl _ _⟩
  · intro vals w5 hg hF
    obtain ⟨g0, g1, g2, g3, g4, g5, g6, g7, g8, g9, g10, g11, -⟩ := hF
    have e0 : vals 0 = .slice (some ⟨b, off, none⟩) f.length xc := g0 rfl
    have e1 : vals 1 = .int .i64 i := g1 rfl
    have e2 : vals 2 = .slice (some ⟨b, off + i * 3, none⟩) (f.length - i) (xc - i) := g2 rfl
    have e3 : vals 3 = .slice (some ⟨b, off, none⟩) f.length xc := g3 rfl
    have e4 : vals 4 = .int .i64 i := g4 rfl
    have e5 : vals 5 = .slice (some ⟨b, off, none⟩) i xc := g5 rfl
    have e6 : vals 6 = .slice (some ⟨b, off, none⟩) f.length xc := g6 rfl
    have e7 : vals 7 = .int .i64 j := g7 rfl
    have e8 : vals 8 = .slice (some ⟨b, off, none⟩) j xc := g8 rfl
    replace g11 : BxsAt w5 (vals 11) ([f.drop i, f.take i, f.take j].flatten) := g11 rfl
    simp only [Cl.puts, e0, e1, e2, e3, e4, e5, e6, e7, e8]
    clear e0 e1 e2 e3 e4 e5 e6 e7 e8 g0 g1 g2 g3 g4 g5 g6 g7 g8 g9 g10
    go_simp
    generalize vals 11 = vo at *
    have ho := g11
    clear g11
    obtain ⟨oa, oc, hv⟩ := ho.shape
    generalize hlen : [f.drop i, f.take i, f.take j].flatten.length = on at hv
    clear hlen
    subst hv
    replace hf := hf.below hg
    replace hbel := bstep hbel hg
    clear hg
    have hsubO : FV w5 _ (fun k n => inF ([f.drop i, f.take i, f.take j].flatten) k n) := FV.part ho H0.out (by intro x hx; simp at hx; rcases hx with h | h | h; exact List.mem_of_mem_drop h; exact List.mem_of_mem_take h; exact List.mem_of_mem_take h) (by simp; omega)
    clear ho
    go_wp2_with fail
    refine Cl.region0 68 rfl [] (fun _ => True) (fun _ => []) (fun jq v ww => match jq with | 0 => v = .slice (some ⟨b, off, none⟩) f.length xc | 1 => v = .int .i64 j | 2 => v = .slice (some ⟨b, off, none⟩) j xc | 3 => v = .slice (some ⟨b, off, none⟩) f.length xc | 4 => v = .int .i64 j | 5 => v = .int .i64 ((j : Int) + 1) | 6 => BxsAt ww v (f.drop (j + 1)) | 7 => ∃ u, CellsAt ww v 2 [.slice (some ⟨b, off, none⟩) j xc, u] ∧ BxsAt ww u (f.drop (j + 1)) | 8 => BxsAt ww v ([f.take j, f.drop (j + 1)].flatten) | 9 => v = .slice (some ⟨b, off, none⟩) f.length xc | 10 => v = .tuple #[.bool true, .int .i64 0] | 11 => v = .tuple #[.bool true, .int .i64 0] | 12 => v = .bool true | 13 => v = .int .i64 0 | 14 => v = .bool true | 15 => v = .int .i64 0 | _ => True) (fun ww => Below w5.heap.size w5 ww) (fun jq ww ww' => Below ww.heap.size ww ww') Try.mixed (by decide +kernel) (Below.refl _ _).drew trivial ?_ (fun _ _ _ _ _ _ => trivial) ?_ ?_
    · intro q r v w w' hne hk hlt h hR
      match r, hk, hlt, h, hne with
      | 0, _, _, h, _ => exact h
      | 1, _, _, h, _ => exact h
      | 2, _, _, h, _ => exact h
      | 3, _, _, h, _ => exact h
      | 4, _, _, h, _ => exact h
      | 5, _, _, h, _ => exact h
      | 6, _, _, h, _ => exact h.below hR
      | 7, _, _, h, _ => exact (fun hb => let ⟨u, h1, h2⟩ := h; ⟨u, h1.below hb, h2.below hb⟩) hR
      | 8, _, _, h, _ => exact h.below hR
      | 9, _, _, h, _ => exact h
      | 10, _, _, h, _ => exact h
      | 11, _, _, h, _ => exact h
      | 12, _, _, h, _ => exact h
      | 13, _, _, h, _ => exact h
      | 14, _, _, h, _ => exact h
      | 15, _, _, h, _ => exact h
      | _ + 16, _, _, _, _ => trivial
    · refine ⟨?_, ?_, ?_, ?_, ?_, ?_, ?_, ?_, ?_, ?_, ?_, ?_, ?_, ?_, ?_, ?_, trivial⟩
      · intro x wx hG
        have f0 := hG.old 0 (by decide +kernel)
        have hg := hG.good
        clear hG
        go_wp2
        exact ⟨_, rfl, rfl, hg, Below.refl _ _⟩
      · intro x wx hG
        have f2 := hG.old 2 (by decide +kernel)
        have hg := hG.good
        clear hG
        go_wp2
        exact ⟨_, rfl, rfl, hg, Below.refl _ _⟩
      · intro x wx hG
        have g0 : (x.tmps.getD 45 undef) = .slice (some ⟨b, off, none⟩) f.length xc := hG.claims 0 _ rfl (by decide +kernel) (by decide +kernel)
        have g1 : (x.tmps.getD 46 undef) = .int .i64 j := hG.claims 1 _ rfl (by decide +kernel) (by decide +kernel)
        have hg := hG.good
        clear hG
        go_wp2
        exact ⟨_, rfl, rfl, hg, Below.refl _ _⟩
      · intro x wx hG
        have f0 := hG.old 0 (by decide +kernel)
        have hg := hG.good
        clear hG
        go_wp2
        exact ⟨_, rfl, rfl, hg, Below.refl _ _⟩
      · intro x wx hG
        have f2 := hG.old 2 (by decide +kernel)
        have hg := hG.good
        clear hG
        go_wp2
        exact ⟨_, rfl, rfl, hg, Below.refl _ _⟩
      · intro x wx hG
        have g4 : (x.tmps.getD 49 undef) = .int .i64 j := hG.claims 4 _ rfl (by decide +kernel) (by decide +kernel)
        have hg := hG.good
        clear hG
        go_wp2
        exact ⟨_, rfl, rfl, hg, Below.refl _ _⟩
      · intro x wx hG
        have g3 : (x.tmps.getD 48 undef) = .slice (some ⟨b, off, none⟩) f.length xc := hG.claims 3 _ rfl (by decide +kernel) (by decide +kernel)
        have g5 : (x.tmps.getD 50 undef) = .int .i64 ((j : Int) + 1) := hG.claims 5 _ rfl (by decide +kernel) (by decide +kernel)
        have hg := hG.good
        clear hG
        have hw1 : IntKind.i64.wrap ((j : Int) + 1) = (j : Int) + 1 := IntWalk.i64_in _ (by omega)
        have hf2 := hf.below hg
        have HF2 := Lib.hid hf2
        clear hf2
        have hj0 : 0 ≤ (j : Int) + 1 := by omega
        have hjt : ((j : Int) + 1).toNat = j + 1 := by omega
        by_cases hcj : xc = j + 1
        · have hlj : f.length = j + 1 := by omega
          have HD := Lib.hid (show f.drop (j + 1) = [] from List.drop_eq_nil_of_le (by omega))
          have HLJ := Lib.hid hlj
          rw [hlj, hcj] at g3
          clear hlj hcj
          go_wp2
          refine ⟨_, rfl, ?_, hg, Below.refl _ _⟩
          show BxsAt _ _ _
          rw [HD.out]
          exact ⟨[], rfl, ⟨_, _, rfl, by simp, by simp, fun e => by simp at e, .inl rfl⟩, fun q h => by simp at h⟩
        · go_wp2
          exact ⟨_, rfl, HF2.out.drop (j + 1) (by omega) (by omega), hg, Below.refl _ _⟩
      · intro x wx hG
        have g2 : (x.tmps.getD 47 undef) = .slice (some ⟨b, off, none⟩) j xc := hG.claims 2 _ rfl (by decide +kernel) (by decide +kernel)
        have g2b := g2
        rw [Array.getD_eq_getD_getElem?] at g2b
        have g6 : BxsAt wx (x.tmps.getD 51 undef) (f.drop (j + 1)) := hG.claims 6 _ rfl (by decide +kernel) (by decide +kernel)
        have hg := hG.good
        clear hG
        generalize hx : x.tmps.getD 51 undef = x51 at *
        have hxb := hx
        rw [Array.getD_eq_getD_getElem?] at hxb
        obtain ⟨sa, sc, hs⟩ := g6.shape
        subst hs
        have G6 := Lib.hid g6
        clear g6
        go_wp2
        exact ⟨_, rfl, ⟨_, CellsAt.mk (Nat.le_refl _) (by decide) (by simp) (fun j z hj => by rw [Nat.zero_add, World.cell?_alloc_at _ _ _ _ rfl]; simpa using hj), G6.out.below (bal _)⟩, hg.alloc hg.size _, bal _⟩
      · intro x wx hG
        have g7 : ∃ u, CellsAt wx (x.tmps.getD 52 undef) 2 [.slice (some ⟨b, off, none⟩) j xc, u] ∧ BxsAt wx u (f.drop (j + 1)) := hG.claims 7 _ rfl (by decide +kernel) (by decide +kernel)
        have hg := hG.good
        clear hG
        obtain ⟨u, g7, hu⟩ := g7
        have hf2 := hf.below hg
        have hr := rows2 g7 (hf2.take j (by omega)) hu
        clear g7 hf2 hu
        generalize hx : x.tmps.getD 52 undef = x52 at *
        have HR := Lib.hid hr
        clear hr
        go_wp2_with fail
        (with_reducible refine (concatBx_c _ _ _ HR.out (by simp; omega)).mono ?_)
        rintro e w9 ⟨v9, rfl, ho, hb⟩
        have HO := Lib.hid ho
        clear ho hx HR
        go_wp2
        exact ⟨_, rfl, HO.out, bstep hg hb, hb⟩
      · intro x wx hG
        have f0 := hG.old 0 (by decide +kernel)
        have hg := hG.good
        clear hG
        go_wp2
        exact ⟨_, rfl, rfl, hg, Below.refl _ _⟩
      · intro x wx hG
        have g8 : BxsAt wx (x.tmps.getD 53 undef) ([f.take j, f.drop (j + 1)].flatten) := hG.claims 8 _ rfl (by decide +kernel) (by decide +kernel)
        have g9 : (x.tmps.getD 54 undef) = .slice (some ⟨b, off, none⟩) f.length xc := hG.claims 9 _ rfl (by decide +kernel) (by decide +kernel)
        have hg := hG.good
        clear hG
        have x1 := FV.part g8 H0.out (by intro x hx; simp at hx; rcases hx with h | h; exact List.mem_of_mem_take h; exact List.mem_of_mem_drop h) (by simp; omega)
        have x2 := FV.mk (hf.below hg) H0.out
        generalize hx : x.tmps.getD 53 undef = x53 at *
        have X1 := Lib.hid x1
        have X2 := Lib.hid x2
        clear x1 x2 g8
        go_wp2_with fail
        (with_reducible refine (withinF _ _ _ _ _ X1.out X2.out).mono ?_)
        rintro e w9 ⟨rfl, hb⟩
        clear hx X1 X2
        rw [show (allF fun k n => !inF [f.take j, f.drop (j + 1)].flatten k n || inF f k n) = true from (allF_iff _).2 fun k n _ _ => part_in f j k n]
        go_wp2
        exact ⟨_, rfl, rfl, bstep hg hb, hb⟩
      · intro x wx hG
        have g10 : (x.tmps.getD 55 undef) = .tuple #[.bool true, .int .i64 0] := hG.claims 10 _ rfl (by decide +kernel) (by decide +kernel)
        have hg := hG.good
        clear hG
        go_wp2
        exact ⟨_, rfl, rfl, hg, Below.refl _ _⟩
      · intro x wx hG
        have g11 : (x.tmps.getD 44 undef) = .tuple #[.bool true, .int .i64 0] := hG.claims 11 _ rfl (by decide +kernel) (by decide +kernel)
        have hg := hG.good
        clear hG
        go_wp2
        exact ⟨_, rfl, rfl, hg, Below.refl _ _⟩
      · intro x wx hG
        have g11 : (x.tmps.getD 44 undef) = .tuple #[.bool true, .int .i64 0] := hG.claims 11 _ rfl (by decide +kernel) (by decide +kernel)
        have hg := hG.good
        clear hG
        go_wp2
        exact ⟨_, rfl, rfl, hg, Below.refl _ _⟩
      · intro x wx hG
        have g12 : (x.tmps.getD 56 undef) = .bool true := hG.claims 12 _ rfl (by decide +kernel) (by decide +kernel)
        have hg := hG.good
        clear hG
        go_wp2
        exact ⟨_, rfl, rfl, hg, Below.refl _ _⟩
      · intro x wx hG
        have g13 : (x.tmps.getD 57 undef) = .int .i64 0 := hG.claims 13 _ rfl (by decide +kernel) (by decide +kernel)
        have hg := hG.good
        clear hG
        go_wp2
        exact ⟨_, rfl, rfl, hg, Below.refl _ _⟩
    · intro vals w6 hg hF
      obtain ⟨g0, g1, g2, g3, g4, g5, g6, g7, g8, g9, g10, g11, g12, g13, g14, g15, -⟩ := hF
      have e0 : vals 0 = .slice (some ⟨b, off, none⟩) f.length xc := g0 rfl
      have e1 : vals 1 = .int .i64 j := g1 rfl
      have e2 : vals 2 = .slice (some ⟨b, off, none⟩) j xc := g2 rfl
      have e3 : vals 3 = .slice (some ⟨b, off, none⟩) f.length xc := g3 rfl
      have e4 : vals 4 = .int .i64 j := g4 rfl
      have e5 : vals 5 = .int .i64 ((j : Int) + 1) := g5 rfl
      have e9 : vals 9 = .slice (some ⟨b, off, none⟩) f.length xc := g9 rfl
      have e10 : vals 10 = .tuple #[.bool true, .int .i64 0] := g10 rfl
      have e11 : vals 11 = .tuple #[.bool true, .int .i64 0] := g11 rfl
      have e12 : vals 12 = .bool true := g12 rfl
      have e13 : vals 13 = .int .i64 0 := g13 rfl
      have e14 : vals 14 = .bool true := g14 rfl
      have e15 : vals 15 = .int .i64 0 := g15 rfl
      simp only [Cl.puts, e0, e1, e2, e3, e4, e5, e9, e10, e11, e12, e13, e14, e15]
      clear e0 e1 e2 e3 e4 e5 e9 e10 e11 e12 e13 e14 e15 g0 g1 g2 g3 g4 g5 g6 g7 g8 g9 g10 g11 g12 g13 g14 g15
      go_simp
      have xf := FV.mk (hf.below hg) H0.out
      have xo := hsubO.below hg
      replace hbel := bstep hbel hg
      clear hg hf hsubO
      go_wp2_with fail
      (with_reducible refine (sameT _ _ _ _ _ xf xo (fun k n => same_parts f i j k n)).mono ?_)
      rintro e w7 ⟨rfl, hb⟩
      replace hbel := bstep hbel hb
      clear hb xf xo
      go_wp2
      go_ret
      exact ⟨rfl, hbel⟩
      
end Go.Proofs.Ytcanefjjpeoikaa
