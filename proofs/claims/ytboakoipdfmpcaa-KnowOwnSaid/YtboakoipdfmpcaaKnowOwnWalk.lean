/- What KnowOwn does: it returns true. Written by a small program (gen/kown.py). -/
import Derived.Test.YtboakoipdfmpcaaKnowOwn2
import Derived.Test.YtboakoipdfmpcaaMPart5
import Derived.Test.YtboakoipdfmpcaaMCl3
import Derived.Test.YtboakoipdfmpcaaKnowBegun
import Derived.Test.YtboakoipdfmpcaaMixed
import Derived.Test.YtboakoipdfmpcaaMKnow7
import Derived.Deep.AppendLies
namespace Go.Proofs.Ytboakoipdfmpcaa
open Go.RowKit
set_option maxRecDepth 100000 in
theorem KlTy.info : (Try.prog.info? 25).map (fun i => (i.zero, i.size, i.bytes)) = some (some (.agg #[.slice none 0 0, .slice none 0 0]), 2, 48) := by kernel_rfl
set_option maxRecDepth 100000 in
theorem KxsTy.info : (Try.prog.info? 28).map (fun i => (i.zero, i.size, i.bytes)) = some (some (.slice none 0 0), 1, 24) := by kernel_rfl
set_option maxRecDepth 100000 in
set_option maxHeartbeats 16000000 in
theorem KnowOwn_walk (u x y z fv : Value) (a b : Kn) (ds dc : Int) (f : Bxs) (w : World) (ha : KnAt w u x a) (hb : KnAt w y z b) (hf : BxsAt w fv f) (sza : SzK a) (szb : SzK b) (szf : SzF f) :
    Calls Try.prog 3 #[.agg #[u, x], .agg #[y, z], .agg #[.int .i64 ds, .int .i64 dc], fv] w fun e w' => e = .returned (.bool true) ∧ Below w.heap.size w w' := by
  obtain ⟨ua, uc, rfl⟩ := ha.vec.shape
  obtain ⟨xa, xc, rfl⟩ := ha.more.shape
  obtain ⟨ya, yc, rfl⟩ := hb.vec.shape
  obtain ⟨za, zc, rfl⟩ := hb.more.shape
  obtain ⟨fa, fc, rfl⟩ := hf.shape
  obtain ⟨W0, hW0⟩ : ∃ W0, W0 = ((w.alloc (.cells (#[.slice ua a.vec.length uc, .slice xa a.more.length xc]) 25)).alloc (.cells #[.slice ya b.vec.length yc, .slice za b.more.length zc] 25)).alloc (.cells #[.int .i64 ds, .int .i64 dc] 27) := ⟨_, rfl⟩
  have hb0 : Below w.heap.size w W0 := by rw [hW0]; exact ((bal _).alloc (by simp) _).alloc (by simp; omega) _
  have K4 := Lib.hid (show W0.heap[w.heap.size]? = some (Obj.cells (#[.slice ua a.vec.length uc, .slice xa a.more.length xc]) 25 (0, 0)) by rw [hW0]; exact alloc_keep _ (alloc_keep _ (alloc_new _ _ _ _ rfl)))
  have K5 := Lib.hid (show W0.heap[w.heap.size + 1]? = some (Obj.cells #[.slice ya b.vec.length yc, .slice za b.more.length zc] 25 (0, 0)) by rw [hW0]; exact alloc_keep _ (alloc_new _ _ _ _ (by simp)))
  have K6 := Lib.hid (show W0.heap[w.heap.size + 2]? = some (Obj.cells #[.int .i64 ds, .int .i64 dc] 27 (0, 0)) by rw [hW0]; exact alloc_new _ _ _ _ (by simp))
  have HA := Lib.hid (ha.below hb0)
  have HBb := Lib.hid (hb.below hb0)
  have HF := Lib.hid (hf.below hb0)
  have ZA := Lib.hid sza
  have ZB := Lib.hid szb
  have ZF := Lib.hid szf
  have HB := Lib.hid hb0
  have T0 := Lib.hid hb0.size
  clear ha hb hf sza szb szf hb0
  go_enter Try.func3, Try.ntmps3
  have HC := Lib.hid (knowBegun_c W0)
  go_wp2_with fail
  rw [← hW0]
  clear hW0
  (with_reducible refine (HC.out).mono ?_)
  rintro e w1 ⟨rfl, hbq⟩
  clear HC 
  replace HA := Lib.hid (HA.out.below hbq)
  replace HBb := Lib.hid (HBb.out.below hbq)
  replace HF := Lib.hid (HF.out.below hbq)
  replace K4 := Lib.hid (below_keep hbq K4.out)
  replace K5 := Lib.hid (below_keep hbq K5.out)
  replace K6 := Lib.hid (below_keep hbq K6.out)
  replace HB := Lib.hid (bstep HB.out hbq)
  have T1 := Lib.hid hbq.size
  clear hbq
  have HRA := Lib.hid (fun wx (h : Below w1.heap.size w1 wx) => roomyKnow_c _ _ a wx (HA.out.below h) ZA.out)
  have HRB := Lib.hid (fun wx (h : Below w1.heap.size w1 wx) => roomyKnow_c _ _ b wx (HBb.out.below h) ZB.out)
  go_wp2
  refine Cl5.region0 210 rfl [] (fun _ => True) (fun jq => match jq with | 4 => [6] | 5 => [7] | _ => []) (fun jq v ww => match jq with | 0 => v = .agg #[.slice ua a.vec.length uc, .slice xa a.more.length xc] | 1 => RoomKv ww w1.heap.size v a | 2 => v = .agg #[.slice ya b.vec.length yc, .slice za b.more.length zc] | 3 => RoomKv ww w1.heap.size v b | 4 => Ko.At #[.slice none 0 0, .slice none 0 0] ww w1.heap.size v | 5 => Ko.At #[.slice none 0 0, .slice none 0 0] ww w1.heap.size v | 6 => Ko.Full ww w1.heap.size v a | 7 => Ko.Full ww w1.heap.size v b | _ => True) (fun tt ww => Ko.G3 w1 tt ww) (fun jq tt ww ww' => (jq ≠ 6 → jq ≠ 7 → Below ww.heap.size ww ww') ∧ (jq = 6 → Ko.Wr (tt.getD 9 undef) ww ww') ∧ (jq = 7 → Ko.Wr (tt.getD 10 undef) ww ww')) Try.mixed (by decide +kernel) (Ko.G3.mk (Below.refl _ _).drew (fun g h => by cases h) (fun g h => by cases h) (fun g h => by cases h)) trivial ?_ (fun _ _ _ _ _ _ _ => trivial) ?_ ?_
  · intro qq r v a oj w w' hne hk hlt hoj hv hG h hR
    match r, hoj, hk, hlt, h, hne with
    | 0, _, _, _, h, _ => exact h
    | 1, hoj, hk, hlt, h, hne =>
      by_cases q1 : qq = 6
      · exact Ko.RoomKv_wr h (hR.2.1 q1)
      by_cases q2 : qq = 7
      · exact Ko.RoomKv_wr h (hR.2.2 q2)
      exact RoomKv.below h (hR.1 q1 q2)
    | 2, _, _, _, h, _ => exact h
    | 3, hoj, hk, hlt, h, hne =>
      by_cases q1 : qq = 6
      · exact Ko.RoomKv_wr h (hR.2.1 q1)
      by_cases q2 : qq = 7
      · exact Ko.RoomKv_wr h (hR.2.2 q2)
      exact RoomKv.below h (hR.1 q1 q2)
    | 4, hoj, hk, hlt, h, hne =>
      by_cases q1 : qq = 6
      · subst q1; exact absurd hk (by decide)
      by_cases q2 : qq = 7
      · exact Ko.At.wr h (hR.2.2 q2) (fun g e1 e2 => hG.ne g (Eq.trans (Eq.symm (hv.trans (by cases hoj; kernel_rfl))) e1) e2)
      exact Ko.At.below h (hR.1 q1 q2)
    | 5, hoj, hk, hlt, h, hne =>
      by_cases q1 : qq = 6
      · exact Ko.At.wr h (hR.2.1 q1) (fun g e1 e2 => hG.ne g e2 (Eq.trans (Eq.symm (hv.trans (by cases hoj; kernel_rfl))) e1))
      by_cases q2 : qq = 7
      · subst q2; exact absurd hk (by decide)
      exact Ko.At.below h (hR.1 q1 q2)
    | 6, hoj, hk, hlt, h, hne =>
      by_cases q1 : qq = 6
      · exact absurd q1 hne
      by_cases q2 : qq = 7
      · exact Ko.Full.wr h (hR.2.2 q2) (fun g e1 e2 => hG.ne g (Eq.trans (Eq.symm (hv.trans (by cases hoj; kernel_rfl))) e1) e2)
      exact Ko.Full.below h (hR.1 q1 q2)
    | 7, hoj, hk, hlt, h, hne =>
      by_cases q1 : qq = 6
      · exact Ko.Full.wr h (hR.2.1 q1) (fun g e1 e2 => hG.ne g e2 (Eq.trans (Eq.symm (hv.trans (by cases hoj; kernel_rfl))) e1))
      by_cases q2 : qq = 7
      · exact absurd q2 hne
      exact Ko.Full.below h (hR.1 q1 q2)
    | _ + 8, _, _, _, _, _ => trivial
  · refine ⟨?_, ?_, ?_, ?_, ?_, ?_, ?_, ?_, trivial⟩
    · intro x wx hG
      have f4 := hG.old 4 (by decide +kernel)
      have hg := hG.good
      clear hG
      have kb := below_keep hg.bel K4.out
      have k0 := cell_of_block (j := 0) kb rfl
      have k1 := cell_of_block (j := 1) kb rfl
      have kl := hlt_of kb
      clear kb
      go_wp2
      exact ⟨_, rfl, rfl, Ko.G3.put hg (by decide) (by decide) (hg.bel) (Nat.le_refl _), ⟨fun _ _ => Below.refl _ _, fun h => absurd h (by decide), fun h => absurd h (by decide)⟩⟩
    · intro x wx hG
      have g0 : (x.tmps.getD 39 undef) = .agg #[.slice ua a.vec.length uc, .slice xa a.more.length xc] := hG.claims 0 _ rfl (by decide +kernel) (by decide +kernel)
      have hg := hG.good
      clear hG
      go_wp2_with fail
      (with_reducible refine (HRA.out _ hg.bel).mono ?_)
      rintro e wq ⟨u9, x9, rfl, hr9, hb9⟩
      have HR9 := Lib.hid (show RoomKv wq w1.heap.size (.agg #[u9, x9]) a from ⟨_, _, rfl, hr9.mono hg.bel.size⟩)
      have HB9 := Lib.hid hb9
      have HG9 := Lib.hid hg
      clear hr9 hb9 hg
      go_wp2
      exact ⟨_, rfl, HR9.out, Ko.G3.put HG9.out (by decide) (by decide) (bstep HG9.out.bel HB9.out) HB9.out.size, ⟨fun _ _ => HB9.out, fun h => absurd h (by decide), fun h => absurd h (by decide)⟩⟩
    · intro x wx hG
      have f5 := hG.old 5 (by decide +kernel)
      have hg := hG.good
      clear hG
      have kb := below_keep hg.bel K5.out
      have k0 := cell_of_block (j := 0) kb rfl
      have k1 := cell_of_block (j := 1) kb rfl
      have kl := hlt_of kb
      clear kb
      go_wp2
      exact ⟨_, rfl, rfl, Ko.G3.put hg (by decide) (by decide) (hg.bel) (Nat.le_refl _), ⟨fun _ _ => Below.refl _ _, fun h => absurd h (by decide), fun h => absurd h (by decide)⟩⟩
    · intro x wx hG
      have g2 : (x.tmps.getD 41 undef) = .agg #[.slice ya b.vec.length yc, .slice za b.more.length zc] := hG.claims 2 _ rfl (by decide +kernel) (by decide +kernel)
      have hg := hG.good
      clear hG
      go_wp2_with fail
      (with_reducible refine (HRB.out _ hg.bel).mono ?_)
      rintro e wq ⟨u9, x9, rfl, hr9, hb9⟩
      have HR9 := Lib.hid (show RoomKv wq w1.heap.size (.agg #[u9, x9]) b from ⟨_, _, rfl, hr9.mono hg.bel.size⟩)
      have HB9 := Lib.hid hb9
      have HG9 := Lib.hid hg
      clear hr9 hb9 hg
      go_wp2
      exact ⟨_, rfl, HR9.out, Ko.G3.put HG9.out (by decide) (by decide) (bstep HG9.out.bel HB9.out) HB9.out.size, ⟨fun _ _ => HB9.out, fun h => absurd h (by decide), fun h => absurd h (by decide)⟩⟩
    · intro x wx hG
      have hg := hG.good
      clear hG
      go_wp2
      exact ⟨_, rfl, ⟨_, rfl, alloc_new _ _ _ _ rfl, hg.bel.size⟩, Ko.G3.new9 hg _, ⟨fun _ _ => bal _, fun h => absurd h (by decide), fun h => absurd h (by decide)⟩⟩
    · intro x wx hG
      have hg := hG.good
      clear hG
      go_wp2
      exact ⟨_, rfl, ⟨_, rfl, alloc_new _ _ _ _ rfl, hg.bel.size⟩, Ko.G3.new10 hg _, ⟨fun _ _ => bal _, fun h => absurd h (by decide), fun h => absurd h (by decide)⟩⟩
    · intro x wx hG
      have g4 : Ko.At #[.slice none 0 0, .slice none 0 0] wx w1.heap.size (x.tmps.getD 9 undef) := hG.claims 4 _ rfl (by decide +kernel) (by decide +kernel)
      have g1 : RoomKv wx w1.heap.size (x.tmps.getD 40 undef) a := hG.claims 1 _ rfl (by decide +kernel) (by decide +kernel)
      have hg := hG.good
      clear hG
      obtain ⟨u9, x9, hv9, hr9⟩ := g1
      have hv9b := hv9
      rw [Array.getD_eq_getD_getElem?] at hv9b
      obtain ⟨gu, rfl, -, -⟩ := hr9.vec.shape
      obtain ⟨gx, rfl, -, -⟩ := hr9.more.shape
      obtain ⟨gb, hgb, hnil, hgs⟩ := g4
      have hgbb := hgb
      rw [Array.getD_eq_getD_getElem?] at hgbb
      have HGB := Lib.hid hgb
      have r0 := cell_of_block (j := 0) hnil rfl
      have r1 := cell_of_block (j := 1) hnil rfl
      have f0 := free_of_block (j := 0) hnil
      have f1 := free_of_block (j := 1) hnil
      have hRl := hlt_of hnil
      have HN := Lib.hid (Ko.sow_blk (l := [.slice (some ⟨gu, 0, none⟩) a.vec.length (a.vec.length + 3), .slice (some ⟨gx, 0, none⟩) a.more.length (a.more.length + 3)]) hnil rfl)
      have HWR := Lib.hid (show Ko.Wr _ wx _ from ⟨gb, _, HGB.out, hnil, HN.out.2⟩)
      have HR9 := Lib.hid (Ko.RoomK_wr hr9 HWR.out)
      have HGS := Lib.hid hgs
      have HBW := Lib.hid (sowRow_below HGS.out [.slice (some ⟨gu, 0, none⟩) a.vec.length (a.vec.length + 3), .slice (some ⟨gx, 0, none⟩) a.more.length (a.more.length + 3)] _ _ 0 hg.bel)
      have HG9 := Lib.hid hg
      clear hnil hgs hgb hr9 hg
      go_wp2
      exact ⟨undef, rfl, ⟨_, _, _, Eq.trans (by kernel_rfl) HGB.out, HN.out.1, HR9.out, HGS.out⟩, Ko.G3.put HG9.out (by decide) (by decide) HBW.out HN.out.2.size, ⟨fun h _ => absurd rfl h, fun _ => HWR.out, fun h => absurd h (by decide)⟩⟩
    · intro x wx hG
      have g5 : Ko.At #[.slice none 0 0, .slice none 0 0] wx w1.heap.size (x.tmps.getD 10 undef) := hG.claims 5 _ rfl (by decide +kernel) (by decide +kernel)
      have g3 : RoomKv wx w1.heap.size (x.tmps.getD 42 undef) b := hG.claims 3 _ rfl (by decide +kernel) (by decide +kernel)
      have hg := hG.good
      clear hG
      obtain ⟨u9, x9, hv9, hr9⟩ := g3
      have hv9b := hv9
      rw [Array.getD_eq_getD_getElem?] at hv9b
      obtain ⟨gu, rfl, -, -⟩ := hr9.vec.shape
      obtain ⟨gx, rfl, -, -⟩ := hr9.more.shape
      obtain ⟨gb, hgb, hnil, hgs⟩ := g5
      have hgbb := hgb
      rw [Array.getD_eq_getD_getElem?] at hgbb
      have HGB := Lib.hid hgb
      have r0 := cell_of_block (j := 0) hnil rfl
      have r1 := cell_of_block (j := 1) hnil rfl
      have f0 := free_of_block (j := 0) hnil
      have f1 := free_of_block (j := 1) hnil
      have hRl := hlt_of hnil
      have HN := Lib.hid (Ko.sow_blk (l := [.slice (some ⟨gu, 0, none⟩) b.vec.length (b.vec.length + 3), .slice (some ⟨gx, 0, none⟩) b.more.length (b.more.length + 3)]) hnil rfl)
      have HWR := Lib.hid (show Ko.Wr _ wx _ from ⟨gb, _, HGB.out, hnil, HN.out.2⟩)
      have HR9 := Lib.hid (Ko.RoomK_wr hr9 HWR.out)
      have HGS := Lib.hid hgs
      have HBW := Lib.hid (sowRow_below HGS.out [.slice (some ⟨gu, 0, none⟩) b.vec.length (b.vec.length + 3), .slice (some ⟨gx, 0, none⟩) b.more.length (b.more.length + 3)] _ _ 0 hg.bel)
      have HG9 := Lib.hid hg
      clear hnil hgs hgb hr9 hg
      go_wp2
      exact ⟨undef, rfl, ⟨_, _, _, Eq.trans (by kernel_rfl) HGB.out, HN.out.1, HR9.out, HGS.out⟩, Ko.G3.put HG9.out (by decide) (by decide) HBW.out HN.out.2.size, ⟨fun h h2 => absurd rfl h2, fun h => absurd h (by decide), fun _ => HWR.out⟩⟩
  · intro vals w3 tt htt hg hF
    obtain ⟨g0, g1, g2, g3, g4, g5, g6, g7, -⟩ := hF
    have e0 : vals 0 = .agg #[.slice ua a.vec.length uc, .slice xa a.more.length xc] := g0 rfl
    have e2 : vals 2 = .agg #[.slice ya b.vec.length yc, .slice za b.more.length zc] := g2 rfl
    have g6 := g6 rfl
    have g7 := g7 rfl
    simp only [Cl5.puts, e0, e2]
    clear e0 e2 g0 g1 g2 g3 g4 g5
    go_simp
    obtain ⟨bx9, gu1, gx1, h9, k9, r9, -⟩ := g6
    obtain ⟨bx10, gu2, gx2, h10, k10, r10, -⟩ := g7
    have hv9 : vals 4 = .pointer (some ⟨bx9, 0, none⟩) := Eq.trans (by kernel_rfl) h9
    have hv10 : vals 5 = .pointer (some ⟨bx10, 0, none⟩) := Eq.trans (by kernel_rfl) h10
    rw [hv9, hv10]
    obtain ⟨xu, rfl, -, -⟩ := r9.vec.shape
    obtain ⟨xx, rfl, -, -⟩ := r9.more.shape
    obtain ⟨yu, rfl, -, -⟩ := r10.vec.shape
    obtain ⟨yx, rfl, -, -⟩ := r10.more.shape
    have K9 := Lib.hid k9
    have K10 := Lib.hid k10
    have RX := Lib.hid r9
    have RY := Lib.hid r10
    have HRXY := Lib.hid (show (∀ q, kzS ⟨.slice (some ⟨xu, 0, none⟩) a.vec.length (a.vec.length + 3), .slice (some ⟨xx, 0, none⟩) a.more.length (a.more.length + 3), a⟩ q → w1.heap.size ≤ q ∧ q < w3.heap.size) ∧ (∀ q, kzS ⟨.slice (some ⟨yu, 0, none⟩) b.vec.length (b.vec.length + 3), .slice (some ⟨yx, 0, none⟩) b.more.length (b.more.length + 3), b⟩ q → w1.heap.size ≤ q ∧ q < w3.heap.size) from ⟨fun q hq => Ko.kz_rng r9.own hq, fun q hq => Ko.kz_rng r10.own hq⟩)
    have hbq := hg.bel
    clear h9 h10 hv9 hv10 k9 k10 r9 r10 hg htt HRA HRB
    replace HA := Lib.hid (HA.out.below hbq)
    replace HBb := Lib.hid (HBb.out.below hbq)
    replace HF := Lib.hid (HF.out.below hbq)
    replace K4 := Lib.hid (below_keep hbq K4.out)
    replace K5 := Lib.hid (below_keep hbq K5.out)
    replace K6 := Lib.hid (below_keep hbq K6.out)
    replace HB := Lib.hid (bstep HB.out hbq)
    have T3 := Lib.hid hbq.size
    clear hbq
    have HRM := Lib.hid (fun wx (h : Below w3.heap.size w3 wx) => room_c _ f wx (HF.out.below h) ZF.out)
    go_wp2
    refine Cl5.region0 210 rfl [] (fun _ => True) (fun _ => []) (fun jq v ww => match jq with | 0 => v = .slice fa f.length fc | 1 => ∃ g, v = .slice (some ⟨g, 0, none⟩) f.length (f.length + 3) | 2 => v = .agg #[.slice (some ⟨xu, 0, none⟩) a.vec.length (a.vec.length + 3), .slice (some ⟨xx, 0, none⟩) a.more.length (a.more.length + 3)] | 3 => ∃ g, v = .agg #[.slice (some ⟨g, 0, none⟩) f.length (f.length + 3), .slice (some ⟨xu, 0, none⟩) a.vec.length (a.vec.length + 3), .slice (some ⟨xx, 0, none⟩) a.more.length (a.more.length + 3)] | 4 => ∃ g, v = .slice (some ⟨g, 0, none⟩) 1 1 | 5 => v = .slice fa f.length fc | 6 => ∃ g, v = .slice (some ⟨g, 0, none⟩) f.length (f.length + 3) | 7 => v = .agg #[.slice (some ⟨yu, 0, none⟩) b.vec.length (b.vec.length + 3), .slice (some ⟨yx, 0, none⟩) b.more.length (b.more.length + 3)] | 8 => ∃ g, v = .agg #[.slice (some ⟨g, 0, none⟩) f.length (f.length + 3), .slice (some ⟨yu, 0, none⟩) b.vec.length (b.vec.length + 3), .slice (some ⟨yx, 0, none⟩) b.more.length (b.more.length + 3)] | 9 => ∃ g, v = .slice (some ⟨g, 0, none⟩) 1 1 | 10 => ∃ g, v = .slice (some ⟨g, 0, none⟩) 1 1 | 11 => ∃ g, v = .slice (some ⟨g, 0, none⟩) 1 1 | _ => True) (fun tt ww => Ko.G4 w3 f (.slice (some ⟨xu, 0, none⟩) a.vec.length (a.vec.length + 3)) (.slice (some ⟨xx, 0, none⟩) a.more.length (a.more.length + 3)) (.slice (some ⟨yu, 0, none⟩) b.vec.length (b.vec.length + 3)) (.slice (some ⟨yx, 0, none⟩) b.more.length (b.more.length + 3)) tt ww) (fun jq tt ww ww' => Below ww.heap.size ww ww') Try.mixed (by decide +kernel) (Ko.G4.start (Below.refl _ _).drew (by intro p hp; simp only [Ko.l1, Ko.l2, List.cons_append, List.nil_append, List.mem_cons, List.not_mem_nil, or_false] at hp; rcases hp with rfl | rfl | rfl | rfl | rfl | rfl | rfl | rfl <;> rfl)) trivial (fun q r v a oj w w' _ _ _ _ _ _ h _ => h) (fun _ _ _ _ _ _ _ => trivial) ?_ ?_
    · refine ⟨?_, ?_, ?_, ?_, ?_, ?_, ?_, ?_, ?_, ?_, ?_, ?_, trivial⟩
      · intro x wx hG
        have f3 := hG.old 3 (by decide +kernel)
        have hg := hG.good
        clear hG
        go_wp2
        exact ⟨_, rfl, rfl, Ko.G4.put hg (by decide), Below.refl _ _⟩
      · intro x wx hG
        have f49 := hG.old 49 (by decide +kernel)
        have f51 := hG.old 51 (by decide +kernel)
        have f52 := hG.old 52 (by decide +kernel)
        have f12 := hG.old 12 (by decide +kernel)
        have g0 : (x.tmps.getD 43 undef) = .slice fa f.length fc := hG.claims 0 _ rfl (by decide +kernel) (by decide +kernel)
        have hg := hG.good
        clear hG
        go_wp2_with fail
        (with_reducible refine (HRM.out _ hg.bel).mono ?_)
        rintro e wq ⟨v9, rfl, hr9, hb9⟩
        obtain ⟨us9, hu9, hrow9, hs9⟩ := hr9
        obtain ⟨g9q, rfl, hw9, hx9⟩ := hrow9.row
        have HR9 := Lib.hid (show RoomF wq wx.heap.size (.slice (some ⟨g9q, 0, none⟩) f.length (f.length + 3)) f from ⟨us9, hu9, hrow9, hs9⟩)
        have HB9 := Lib.hid hb9
        have HG9 := Lib.hid hg
        clear hrow9 hs9 hw9 hx9 hb9 hg
        go_wp2
        exact ⟨_, rfl, ⟨_, rfl⟩, Ko.G4.call1 HG9.out HR9.out HB9.out (by intro p hp; simp only [Ko.l2, List.mem_cons, List.not_mem_nil, or_false] at hp; rcases hp with rfl | rfl | rfl | rfl; exact f49.trans rfl; exact f51.trans rfl; exact f52.trans rfl; exact f12.trans rfl), HB9.out⟩
      · intro x wx hG
        have f9 := hG.old 9 (by decide +kernel)
        have hg := hG.good
        clear hG
        have kb := below_keep hg.bel K9.out
        have k0 := cell_of_block (j := 0) kb rfl
        have k1 := cell_of_block (j := 1) kb rfl
        have kl := hlt_of kb
        clear kb
        go_wp2
        exact ⟨_, rfl, rfl, Ko.G4.put hg (by decide), Below.refl _ _⟩
      · intro x wx hG
        have g1 : ∃ g, (x.tmps.getD 44 undef) = .slice (some ⟨g, 0, none⟩) f.length (f.length + 3) := hG.claims 1 _ rfl (by decide +kernel) (by decide +kernel)
        have g2 : (x.tmps.getD 45 undef) = .agg #[.slice (some ⟨xu, 0, none⟩) a.vec.length (a.vec.length + 3), .slice (some ⟨xx, 0, none⟩) a.more.length (a.more.length + 3)] := hG.claims 2 _ rfl (by decide +kernel) (by decide +kernel)
        have g2b := g2
        rw [Array.getD_eq_getD_getElem?] at g2b
        have hg := hG.good
        clear hG
        obtain ⟨gf, hgf⟩ := g1
        have hgb := hgf
        rw [Array.getD_eq_getD_getElem?] at hgb
        have HGF := Lib.hid hgf
        clear hgf
        go_wp2
        exact ⟨_, rfl, ⟨_, rfl⟩, Ko.G4.build1 hg HGF.out (by simp [undef]), Below.refl _ _⟩
      · intro x wx hG
        have g3 : ∃ g, (x.tmps.getD 46 undef) = .agg #[.slice (some ⟨g, 0, none⟩) f.length (f.length + 3), .slice (some ⟨xu, 0, none⟩) a.vec.length (a.vec.length + 3), .slice (some ⟨xx, 0, none⟩) a.more.length (a.more.length + 3)] := hG.claims 3 _ rfl (by decide +kernel) (by decide +kernel)
        have hg := hG.good
        clear hG
        obtain ⟨gf, hgf⟩ := g3
        have hgb := hgf
        rw [Array.getD_eq_getD_getElem?] at hgb
        have HGF := Lib.hid hgf
        clear hgf
        go_wp2
        exact ⟨_, rfl, ⟨_, rfl⟩, Ko.G4.slice1 hg HGF.out, bal _⟩
      · intro x wx hG
        have f3 := hG.old 3 (by decide +kernel)
        have hg := hG.good
        clear hG
        go_wp2
        exact ⟨_, rfl, rfl, Ko.G4.put hg (by decide), Below.refl _ _⟩
      · intro x wx hG
        have g5 : (x.tmps.getD 48 undef) = .slice fa f.length fc := hG.claims 5 _ rfl (by decide +kernel) (by decide +kernel)
        have hg := hG.good
        clear hG
        go_wp2_with fail
        (with_reducible refine (HRM.out _ hg.bel).mono ?_)
        rintro e wq ⟨v9, rfl, hr9, hb9⟩
        obtain ⟨us9, hu9, hrow9, hs9⟩ := hr9
        obtain ⟨g9q, rfl, hw9, hx9⟩ := hrow9.row
        have HR9 := Lib.hid (show RoomF wq wx.heap.size (.slice (some ⟨g9q, 0, none⟩) f.length (f.length + 3)) f from ⟨us9, hu9, hrow9, hs9⟩)
        have HB9 := Lib.hid hb9
        have HG9 := Lib.hid hg
        clear hrow9 hs9 hw9 hx9 hb9 hg
        go_wp2
        exact ⟨_, rfl, ⟨_, rfl⟩, Ko.G4.call2 HG9.out HR9.out HB9.out, HB9.out⟩
      · intro x wx hG
        have f10 := hG.old 10 (by decide +kernel)
        have hg := hG.good
        clear hG
        have kb := below_keep hg.bel K10.out
        have k0 := cell_of_block (j := 0) kb rfl
        have k1 := cell_of_block (j := 1) kb rfl
        have kl := hlt_of kb
        clear kb
        go_wp2
        exact ⟨_, rfl, rfl, Ko.G4.put hg (by decide), Below.refl _ _⟩
      · intro x wx hG
        have g6 : ∃ g, (x.tmps.getD 49 undef) = .slice (some ⟨g, 0, none⟩) f.length (f.length + 3) := hG.claims 6 _ rfl (by decide +kernel) (by decide +kernel)
        have g7 : (x.tmps.getD 50 undef) = .agg #[.slice (some ⟨yu, 0, none⟩) b.vec.length (b.vec.length + 3), .slice (some ⟨yx, 0, none⟩) b.more.length (b.more.length + 3)] := hG.claims 7 _ rfl (by decide +kernel) (by decide +kernel)
        have g7b := g7
        rw [Array.getD_eq_getD_getElem?] at g7b
        have hg := hG.good
        clear hG
        obtain ⟨gf, hgf⟩ := g6
        have hgb := hgf
        rw [Array.getD_eq_getD_getElem?] at hgb
        have HGF := Lib.hid hgf
        clear hgf
        go_wp2
        exact ⟨_, rfl, ⟨_, rfl⟩, Ko.G4.build2 hg HGF.out (by simp [undef]), Below.refl _ _⟩
      · intro x wx hG
        have g8 : ∃ g, (x.tmps.getD 51 undef) = .agg #[.slice (some ⟨g, 0, none⟩) f.length (f.length + 3), .slice (some ⟨yu, 0, none⟩) b.vec.length (b.vec.length + 3), .slice (some ⟨yx, 0, none⟩) b.more.length (b.more.length + 3)] := hG.claims 8 _ rfl (by decide +kernel) (by decide +kernel)
        have hg := hG.good
        clear hG
        obtain ⟨gf, hgf⟩ := g8
        have hgb := hgf
        rw [Array.getD_eq_getD_getElem?] at hgb
        have HGF := Lib.hid hgf
        clear hgf
        go_wp2
        exact ⟨_, rfl, ⟨_, rfl⟩, Ko.G4.slice2 hg HGF.out, bal _⟩
      · intro x wx hG
        have g4 : ∃ g, (x.tmps.getD 47 undef) = .slice (some ⟨g, 0, none⟩) 1 1 := hG.claims 4 _ rfl (by decide +kernel) (by decide +kernel)
        have hg := hG.good
        clear hG
        obtain ⟨gf, hgf⟩ := g4
        have hgb := hgf
        rw [Array.getD_eq_getD_getElem?] at hgb
        have HGF := Lib.hid hgf
        clear hgf
        go_wp2
        exact ⟨_, rfl, ⟨_, rfl⟩, Ko.G4.copy1 hg HGF.out (by simp [undef]), Below.refl _ _⟩
      · intro x wx hG
        have g9 : ∃ g, (x.tmps.getD 52 undef) = .slice (some ⟨g, 0, none⟩) 1 1 := hG.claims 9 _ rfl (by decide +kernel) (by decide +kernel)
        have hg := hG.good
        clear hG
        obtain ⟨gf, hgf⟩ := g9
        have hgb := hgf
        rw [Array.getD_eq_getD_getElem?] at hgb
        have HGF := Lib.hid hgf
        clear hgf
        go_wp2
        exact ⟨_, rfl, ⟨_, rfl⟩, Ko.G4.copy2 hg HGF.out (by simp [undef]), Below.refl _ _⟩
    · intro vals w4 tt htt hg hF
      obtain ⟨g0, g1, g2, g3, g4, g5, g6, g7, g8, g9, g10, g11, -⟩ := hF
      have e0 : vals 0 = .slice fa f.length fc := g0 rfl
      have e2 : vals 2 = .agg #[.slice (some ⟨xu, 0, none⟩) a.vec.length (a.vec.length + 3), .slice (some ⟨xx, 0, none⟩) a.more.length (a.more.length + 3)] := g2 rfl
      have e5 : vals 5 = .slice fa f.length fc := g5 rfl
      have e7 : vals 7 = .agg #[.slice (some ⟨yu, 0, none⟩) b.vec.length (b.vec.length + 3), .slice (some ⟨yx, 0, none⟩) b.more.length (b.more.length + 3)] := g7 rfl
      have g10 := g10 rfl
      have g11 := g11 rfl
      simp only [Cl5.puts, e0, e2, e5, e7]
      clear e0 e2 e5 e7 g0 g1 g2 g3 g4 g5 g6 g7 g8 g9
      go_simp
      obtain ⟨gp, hpv⟩ := g10
      obtain ⟨gq, hqv⟩ := g11
      obtain ⟨m, fp, fq, hm1, hm2, kp, kq, hp1, hq1, hfp, hfq⟩ := Ko.G4.done hg ((htt 11 10 (by decide) (by decide +kernel)).trans hpv) ((htt 12 11 (by decide) (by decide +kernel)).trans hqv)
      have hpv2 : vals 10 = .slice (some ⟨gp, 0, none⟩) 1 1 := hpv
      have hqv2 : vals 11 = .slice (some ⟨gq, 0, none⟩) 1 1 := hqv
      rw [hpv2, hqv2]
      clear hpv hqv hpv2 hqv2
      obtain ⟨gfp, rfl⟩ := hfp.shape
      obtain ⟨gfq, rfl⟩ := hfq.shape
      have KP := Lib.hid kp
      have KQ := Lib.hid kq
      have FP := Lib.hid hfp
      have FQ := Lib.hid hfq
      have HM := Lib.hid (And.intro hm1 hm2)
      have hbq := hg.bel
      clear hm1 hm2 kp kq hp1 hq1 hfp hfq hg htt HRM
      replace HA := Lib.hid (HA.out.below hbq)
      replace HBb := Lib.hid (HBb.out.below hbq)
      replace HF := Lib.hid (HF.out.below hbq)
      replace K4 := Lib.hid (below_keep hbq K4.out)
      replace K5 := Lib.hid (below_keep hbq K5.out)
      replace K6 := Lib.hid (below_keep hbq K6.out)
      replace HB := Lib.hid (bstep HB.out hbq)
      replace K9 := Lib.hid (below_keep hbq K9.out)
      replace K10 := Lib.hid (below_keep hbq K10.out)
      replace RX := Lib.hid (RX.out.below hbq)
      replace RY := Lib.hid (RY.out.below hbq)
      have T4 := Lib.hid hbq.size
      clear hbq
      have HC := Lib.hid (kadd_c _ _ a ds dc w4 (RX.out.own.atZ ZA.out))
      have x0 := cell_of_block (j := 0) K9.out rfl
      have x1 := cell_of_block (j := 1) K9.out rfl
      have xl := hlt_of K9.out
      have y0 := cell_of_block (j := 0) K6.out rfl
      have y1 := cell_of_block (j := 1) K6.out rfl
      have yl := hlt_of K6.out
      go_wp2_with fail
      (with_reducible refine (HC.out).mono ?_)
      rintro e w5 ⟨k1u, k1x, rfl, hx, hbq⟩
      clear HC x0 x1 xl y0 y1 yl
      replace HA := Lib.hid (HA.out.below hbq)
      replace HBb := Lib.hid (HBb.out.below hbq)
      replace HF := Lib.hid (HF.out.below hbq)
      replace K4 := Lib.hid (below_keep hbq K4.out)
      replace K5 := Lib.hid (below_keep hbq K5.out)
      replace K6 := Lib.hid (below_keep hbq K6.out)
      replace HB := Lib.hid (bstep HB.out hbq)
      replace K9 := Lib.hid (below_keep hbq K9.out)
      replace K10 := Lib.hid (below_keep hbq K10.out)
      replace RX := Lib.hid (RX.out.below hbq)
      replace RY := Lib.hid (RY.out.below hbq)
      replace KP := Lib.hid (below_keep hbq KP.out)
      replace KQ := Lib.hid (below_keep hbq KQ.out)
      replace FP := Lib.hid (FP.out.below hbq)
      replace FQ := Lib.hid (FQ.out.below hbq)
      have T5 := Lib.hid hbq.size
      obtain ⟨c1, q1, q2⟩ := hx.whole (fun h => addE_more h)
      have H1 := Lib.hid q1
      have SZ1 := Lib.hid q2
      clear q1 q2 hx
      obtain ⟨a1, b1, e1, d1, rfl, rfl⟩ := H1.out.shape
      clear hbq
      obtain ⟨Wa, hWa⟩ : ∃ Wa, Wa = w5.alloc (.cells #[.slice a1 c1.vec.length b1, .slice e1 c1.more.length d1] 25) := ⟨_, rfl⟩
      have hbq : Below w5.heap.size w5 Wa := by rw [hWa]; exact bal _
      have KV1 := Lib.hid (show Wa.heap[w5.heap.size]? = some (.cells #[.slice a1 c1.vec.length b1, .slice e1 c1.more.length d1] 25 (0, 0)) by rw [hWa]; exact alloc_new _ _ _ _ rfl)
      replace HA := Lib.hid (HA.out.below hbq)
      replace HBb := Lib.hid (HBb.out.below hbq)
      replace HF := Lib.hid (HF.out.below hbq)
      replace K4 := Lib.hid (below_keep hbq K4.out)
      replace K5 := Lib.hid (below_keep hbq K5.out)
      replace K6 := Lib.hid (below_keep hbq K6.out)
      replace HB := Lib.hid (bstep HB.out hbq)
      replace K9 := Lib.hid (below_keep hbq K9.out)
      replace K10 := Lib.hid (below_keep hbq K10.out)
      replace RX := Lib.hid (RX.out.below hbq)
      replace RY := Lib.hid (RY.out.below hbq)
      replace KP := Lib.hid (below_keep hbq KP.out)
      replace KQ := Lib.hid (below_keep hbq KQ.out)
      replace FP := Lib.hid (FP.out.below hbq)
      replace FQ := Lib.hid (FQ.out.below hbq)
      replace H1 := Lib.hid (H1.out.below hbq)
      have TWa := Lib.hid hbq.size
      have LWa := Lib.hid (hlt_of KV1.out)
      clear hbq
      have HC := Lib.hid (kjoin_c _ _ _ _ a b Wa (RX.out.own.atZ ZA.out) (RY.out.own.atZ ZB.out))
      have x0 := cell_of_block (j := 0) K9.out rfl
      have x1 := cell_of_block (j := 1) K9.out rfl
      have xl := hlt_of K9.out
      rw [hWa] at x0 x1 xl
      have y0 := cell_of_block (j := 0) K10.out rfl
      have y1 := cell_of_block (j := 1) K10.out rfl
      have yl := hlt_of K10.out
      rw [hWa] at y0 y1 yl
      go_wp2_with fail
      rw [← hWa]
      clear hWa
      (with_reducible refine (HC.out).mono ?_)
      rintro e w6 ⟨k2u, k2x, rfl, hx, hbq⟩
      clear HC x0 x1 xl y0 y1 yl
      replace HA := Lib.hid (HA.out.below hbq)
      replace HBb := Lib.hid (HBb.out.below hbq)
      replace HF := Lib.hid (HF.out.below hbq)
      replace K4 := Lib.hid (below_keep hbq K4.out)
      replace K5 := Lib.hid (below_keep hbq K5.out)
      replace K6 := Lib.hid (below_keep hbq K6.out)
      replace HB := Lib.hid (bstep HB.out hbq)
      replace K9 := Lib.hid (below_keep hbq K9.out)
      replace K10 := Lib.hid (below_keep hbq K10.out)
      replace RX := Lib.hid (RX.out.below hbq)
      replace RY := Lib.hid (RY.out.below hbq)
      replace KP := Lib.hid (below_keep hbq KP.out)
      replace KQ := Lib.hid (below_keep hbq KQ.out)
      replace FP := Lib.hid (FP.out.below hbq)
      replace FQ := Lib.hid (FQ.out.below hbq)
      replace H1 := Lib.hid (H1.out.below hbq)
      replace KV1 := Lib.hid (below_keep hbq KV1.out)
      have T6 := Lib.hid hbq.size
      obtain ⟨c2, q1, q2⟩ := hx.whole (fun h => resE_more h)
      have H2 := Lib.hid q1
      have SZ2 := Lib.hid q2
      clear q1 q2 hx
      obtain ⟨a2, b2, e2, d2, rfl, rfl⟩ := H2.out.shape
      clear hbq
      obtain ⟨Wb, hWb⟩ : ∃ Wb, Wb = w6.alloc (.cells #[.slice a2 c2.vec.length b2, .slice e2 c2.more.length d2] 25) := ⟨_, rfl⟩
      have hbq : Below w6.heap.size w6 Wb := by rw [hWb]; exact bal _
      have KV2 := Lib.hid (show Wb.heap[w6.heap.size]? = some (.cells #[.slice a2 c2.vec.length b2, .slice e2 c2.more.length d2] 25 (0, 0)) by rw [hWb]; exact alloc_new _ _ _ _ rfl)
      replace HA := Lib.hid (HA.out.below hbq)
      replace HBb := Lib.hid (HBb.out.below hbq)
      replace HF := Lib.hid (HF.out.below hbq)
      replace K4 := Lib.hid (below_keep hbq K4.out)
      replace K5 := Lib.hid (below_keep hbq K5.out)
      replace K6 := Lib.hid (below_keep hbq K6.out)
      replace HB := Lib.hid (bstep HB.out hbq)
      replace K9 := Lib.hid (below_keep hbq K9.out)
      replace K10 := Lib.hid (below_keep hbq K10.out)
      replace RX := Lib.hid (RX.out.below hbq)
      replace RY := Lib.hid (RY.out.below hbq)
      replace KP := Lib.hid (below_keep hbq KP.out)
      replace KQ := Lib.hid (below_keep hbq KQ.out)
      replace FP := Lib.hid (FP.out.below hbq)
      replace FQ := Lib.hid (FQ.out.below hbq)
      replace H1 := Lib.hid (H1.out.below hbq)
      replace KV1 := Lib.hid (below_keep hbq KV1.out)
      replace H2 := Lib.hid (H2.out.below hbq)
      have TWb := Lib.hid hbq.size
      have LWb := Lib.hid (hlt_of KV2.out)
      clear hbq
      have HC := Lib.hid (kmeet_c _ _ _ _ a b Wb (RX.out.own.atZ ZA.out) (RY.out.own.atZ ZB.out))
      have x0 := cell_of_block (j := 0) K9.out rfl
      have x1 := cell_of_block (j := 1) K9.out rfl
      have xl := hlt_of K9.out
      rw [hWb] at x0 x1 xl
      have y0 := cell_of_block (j := 0) K10.out rfl
      have y1 := cell_of_block (j := 1) K10.out rfl
      have yl := hlt_of K10.out
      rw [hWb] at y0 y1 yl
      go_wp2_with fail
      rw [← hWb]
      clear hWb
      (with_reducible refine (HC.out).mono ?_)
      rintro e w7 ⟨k3u, k3x, rfl, hx, hbq⟩
      clear HC x0 x1 xl y0 y1 yl
      replace HA := Lib.hid (HA.out.below hbq)
      replace HBb := Lib.hid (HBb.out.below hbq)
      replace HF := Lib.hid (HF.out.below hbq)
      replace K4 := Lib.hid (below_keep hbq K4.out)
      replace K5 := Lib.hid (below_keep hbq K5.out)
      replace K6 := Lib.hid (below_keep hbq K6.out)
      replace HB := Lib.hid (bstep HB.out hbq)
      replace K9 := Lib.hid (below_keep hbq K9.out)
      replace K10 := Lib.hid (below_keep hbq K10.out)
      replace RX := Lib.hid (RX.out.below hbq)
      replace RY := Lib.hid (RY.out.below hbq)
      replace KP := Lib.hid (below_keep hbq KP.out)
      replace KQ := Lib.hid (below_keep hbq KQ.out)
      replace FP := Lib.hid (FP.out.below hbq)
      replace FQ := Lib.hid (FQ.out.below hbq)
      replace H1 := Lib.hid (H1.out.below hbq)
      replace KV1 := Lib.hid (below_keep hbq KV1.out)
      replace H2 := Lib.hid (H2.out.below hbq)
      replace KV2 := Lib.hid (below_keep hbq KV2.out)
      have T7 := Lib.hid hbq.size
      obtain ⟨c3, q1, q2⟩ := hx.whole (fun h => resE_more h)
      have H3 := Lib.hid q1
      have SZ3 := Lib.hid q2
      clear q1 q2 hx
      obtain ⟨a3, b3, e3, d3, rfl, rfl⟩ := H3.out.shape
      clear hbq
      obtain ⟨Wc, hWc⟩ : ∃ Wc, Wc = w7.alloc (.cells #[.slice a3 c3.vec.length b3, .slice e3 c3.more.length d3] 25) := ⟨_, rfl⟩
      have hbq : Below w7.heap.size w7 Wc := by rw [hWc]; exact bal _
      have KV3 := Lib.hid (show Wc.heap[w7.heap.size]? = some (.cells #[.slice a3 c3.vec.length b3, .slice e3 c3.more.length d3] 25 (0, 0)) by rw [hWc]; exact alloc_new _ _ _ _ rfl)
      replace HA := Lib.hid (HA.out.below hbq)
      replace HBb := Lib.hid (HBb.out.below hbq)
      replace HF := Lib.hid (HF.out.below hbq)
      replace K4 := Lib.hid (below_keep hbq K4.out)
      replace K5 := Lib.hid (below_keep hbq K5.out)
      replace K6 := Lib.hid (below_keep hbq K6.out)
      replace HB := Lib.hid (bstep HB.out hbq)
      replace K9 := Lib.hid (below_keep hbq K9.out)
      replace K10 := Lib.hid (below_keep hbq K10.out)
      replace RX := Lib.hid (RX.out.below hbq)
      replace RY := Lib.hid (RY.out.below hbq)
      replace KP := Lib.hid (below_keep hbq KP.out)
      replace KQ := Lib.hid (below_keep hbq KQ.out)
      replace FP := Lib.hid (FP.out.below hbq)
      replace FQ := Lib.hid (FQ.out.below hbq)
      replace H1 := Lib.hid (H1.out.below hbq)
      replace KV1 := Lib.hid (below_keep hbq KV1.out)
      replace H2 := Lib.hid (H2.out.below hbq)
      replace KV2 := Lib.hid (below_keep hbq KV2.out)
      replace H3 := Lib.hid (H3.out.below hbq)
      have TWc := Lib.hid hbq.size
      have LWc := Lib.hid (hlt_of KV3.out)
      clear hbq
      have HC := Lib.hid (pjoin_a _ _ [⟨f, a⟩] [⟨f, b⟩] Wc (part1_at KP.out (FP.out.1.at_ ZF.out.l ZF.out.s) (RX.out.own.atZ ZA.out)) (part1_at KQ.out (FQ.out.1.at_ ZF.out.l ZF.out.s) (RY.out.own.atZ ZB.out)))
      go_wp2_with fail
      rw [← hWc]
      clear hWc
      (with_reducible refine (HC.out).mono ?_)
      rintro e w8 ⟨jv, rfl, hx, hbq⟩
      clear HC 
      replace HA := Lib.hid (HA.out.below hbq)
      replace HBb := Lib.hid (HBb.out.below hbq)
      replace HF := Lib.hid (HF.out.below hbq)
      replace K4 := Lib.hid (below_keep hbq K4.out)
      replace K5 := Lib.hid (below_keep hbq K5.out)
      replace K6 := Lib.hid (below_keep hbq K6.out)
      replace HB := Lib.hid (bstep HB.out hbq)
      replace K9 := Lib.hid (below_keep hbq K9.out)
      replace K10 := Lib.hid (below_keep hbq K10.out)
      replace RX := Lib.hid (RX.out.below hbq)
      replace RY := Lib.hid (RY.out.below hbq)
      replace KP := Lib.hid (below_keep hbq KP.out)
      replace KQ := Lib.hid (below_keep hbq KQ.out)
      replace FP := Lib.hid (FP.out.below hbq)
      replace FQ := Lib.hid (FQ.out.below hbq)
      replace H1 := Lib.hid (H1.out.below hbq)
      replace KV1 := Lib.hid (below_keep hbq KV1.out)
      replace H2 := Lib.hid (H2.out.below hbq)
      replace KV2 := Lib.hid (below_keep hbq KV2.out)
      replace H3 := Lib.hid (H3.out.below hbq)
      replace KV3 := Lib.hid (below_keep hbq KV3.out)
      have T8 := Lib.hid hbq.size
      obtain ⟨Z1, q1⟩ := hx.whole (fun h => pjE_len h)
      have HJ := Lib.hid q1
      clear q1 hx
      obtain ⟨ja, jc, rfl⟩ := owns_slice HJ.out.row
      clear hbq
      have HC := Lib.hid (pnarrow_a _ _ [⟨f, a⟩] f w8 (part1_at KP.out (FP.out.1.at_ ZF.out.l ZF.out.s) (RX.out.own.atZ ZA.out)) (FP.out.1.at_ ZF.out.l ZF.out.s))
      have x0 := cell_of_block (j := 0) KP.out rfl
      have xl := hlt_of KP.out
      go_wp2_with fail
      (with_reducible refine (HC.out).mono ?_)
      rintro e w9 ⟨nv, rfl, hx, hbq⟩
      clear HC x0 xl
      replace HA := Lib.hid (HA.out.below hbq)
      replace HBb := Lib.hid (HBb.out.below hbq)
      replace HF := Lib.hid (HF.out.below hbq)
      replace K4 := Lib.hid (below_keep hbq K4.out)
      replace K5 := Lib.hid (below_keep hbq K5.out)
      replace K6 := Lib.hid (below_keep hbq K6.out)
      replace HB := Lib.hid (bstep HB.out hbq)
      replace K9 := Lib.hid (below_keep hbq K9.out)
      replace K10 := Lib.hid (below_keep hbq K10.out)
      replace RX := Lib.hid (RX.out.below hbq)
      replace RY := Lib.hid (RY.out.below hbq)
      replace KP := Lib.hid (below_keep hbq KP.out)
      replace KQ := Lib.hid (below_keep hbq KQ.out)
      replace FP := Lib.hid (FP.out.below hbq)
      replace FQ := Lib.hid (FQ.out.below hbq)
      replace H1 := Lib.hid (H1.out.below hbq)
      replace KV1 := Lib.hid (below_keep hbq KV1.out)
      replace H2 := Lib.hid (H2.out.below hbq)
      replace KV2 := Lib.hid (below_keep hbq KV2.out)
      replace H3 := Lib.hid (H3.out.below hbq)
      replace KV3 := Lib.hid (below_keep hbq KV3.out)
      replace HJ := Lib.hid (HJ.out.below hbq)
      have T9 := Lib.hid hbq.size
      obtain ⟨Z2, q1⟩ := hx.whole (fun h => pnE_len h)
      have HN2 := Lib.hid q1
      clear q1 hx
      obtain ⟨na, nc, rfl⟩ := owns_slice HN2.out.row
      clear hbq
      have HC := Lib.hid (keptKnow_c _ _ _ _ _ a w9 RX.out HA.out ZA.out)
      have x0 := cell_of_block (j := 0) K9.out rfl
      have x1 := cell_of_block (j := 1) K9.out rfl
      have xl := hlt_of K9.out
      have y0 := cell_of_block (j := 0) K4.out rfl
      have y1 := cell_of_block (j := 1) K4.out rfl
      have yl := hlt_of K4.out
      go_wp2_with fail
      (with_reducible refine (HC.out).mono ?_)
      rintro e w10 ⟨rfl, hbq⟩
      clear HC x0 x1 xl y0 y1 yl
      replace HA := Lib.hid (HA.out.below hbq)
      replace HBb := Lib.hid (HBb.out.below hbq)
      replace HF := Lib.hid (HF.out.below hbq)
      replace K4 := Lib.hid (below_keep hbq K4.out)
      replace K5 := Lib.hid (below_keep hbq K5.out)
      replace K6 := Lib.hid (below_keep hbq K6.out)
      replace HB := Lib.hid (bstep HB.out hbq)
      replace K9 := Lib.hid (below_keep hbq K9.out)
      replace K10 := Lib.hid (below_keep hbq K10.out)
      replace RX := Lib.hid (RX.out.below hbq)
      replace RY := Lib.hid (RY.out.below hbq)
      replace KP := Lib.hid (below_keep hbq KP.out)
      replace KQ := Lib.hid (below_keep hbq KQ.out)
      replace FP := Lib.hid (FP.out.below hbq)
      replace FQ := Lib.hid (FQ.out.below hbq)
      replace H1 := Lib.hid (H1.out.below hbq)
      replace KV1 := Lib.hid (below_keep hbq KV1.out)
      replace H2 := Lib.hid (H2.out.below hbq)
      replace KV2 := Lib.hid (below_keep hbq KV2.out)
      replace H3 := Lib.hid (H3.out.below hbq)
      replace KV3 := Lib.hid (below_keep hbq KV3.out)
      replace HJ := Lib.hid (HJ.out.below hbq)
      replace HN2 := Lib.hid (HN2.out.below hbq)
      have T10 := Lib.hid hbq.size
      clear hbq
      have HC := Lib.hid (keptKnow_c _ _ _ _ _ b w10 RY.out HBb.out ZB.out)
      have x0 := cell_of_block (j := 0) K10.out rfl
      have x1 := cell_of_block (j := 1) K10.out rfl
      have xl := hlt_of K10.out
      have y0 := cell_of_block (j := 0) K5.out rfl
      have y1 := cell_of_block (j := 1) K5.out rfl
      have yl := hlt_of K5.out
      go_wp2_with fail
      (with_reducible refine (HC.out).mono ?_)
      rintro e w11 ⟨rfl, hbq⟩
      clear HC x0 x1 xl y0 y1 yl
      replace HA := Lib.hid (HA.out.below hbq)
      replace HBb := Lib.hid (HBb.out.below hbq)
      replace HF := Lib.hid (HF.out.below hbq)
      replace K4 := Lib.hid (below_keep hbq K4.out)
      replace K5 := Lib.hid (below_keep hbq K5.out)
      replace K6 := Lib.hid (below_keep hbq K6.out)
      replace HB := Lib.hid (bstep HB.out hbq)
      replace K9 := Lib.hid (below_keep hbq K9.out)
      replace K10 := Lib.hid (below_keep hbq K10.out)
      replace RX := Lib.hid (RX.out.below hbq)
      replace RY := Lib.hid (RY.out.below hbq)
      replace KP := Lib.hid (below_keep hbq KP.out)
      replace KQ := Lib.hid (below_keep hbq KQ.out)
      replace FP := Lib.hid (FP.out.below hbq)
      replace FQ := Lib.hid (FQ.out.below hbq)
      replace H1 := Lib.hid (H1.out.below hbq)
      replace KV1 := Lib.hid (below_keep hbq KV1.out)
      replace H2 := Lib.hid (H2.out.below hbq)
      replace KV2 := Lib.hid (below_keep hbq KV2.out)
      replace H3 := Lib.hid (H3.out.below hbq)
      replace KV3 := Lib.hid (below_keep hbq KV3.out)
      replace HJ := Lib.hid (HJ.out.below hbq)
      replace HN2 := Lib.hid (HN2.out.below hbq)
      have T11 := Lib.hid hbq.size
      clear hbq
      have HC := Lib.hid (kept_c _ _ _ f w11 FP.out.1 HF.out ZF.out)
      have x0 := cell_of_block (j := 0) KP.out rfl
      have xl := hlt_of KP.out
      go_wp2_with fail
      (with_reducible refine (HC.out).mono ?_)
      rintro e w12 ⟨rfl, hbq⟩
      clear HC x0 xl
      replace HA := Lib.hid (HA.out.below hbq)
      replace HBb := Lib.hid (HBb.out.below hbq)
      replace HF := Lib.hid (HF.out.below hbq)
      replace K4 := Lib.hid (below_keep hbq K4.out)
      replace K5 := Lib.hid (below_keep hbq K5.out)
      replace K6 := Lib.hid (below_keep hbq K6.out)
      replace HB := Lib.hid (bstep HB.out hbq)
      replace K9 := Lib.hid (below_keep hbq K9.out)
      replace K10 := Lib.hid (below_keep hbq K10.out)
      replace RX := Lib.hid (RX.out.below hbq)
      replace RY := Lib.hid (RY.out.below hbq)
      replace KP := Lib.hid (below_keep hbq KP.out)
      replace KQ := Lib.hid (below_keep hbq KQ.out)
      replace FP := Lib.hid (FP.out.below hbq)
      replace FQ := Lib.hid (FQ.out.below hbq)
      replace H1 := Lib.hid (H1.out.below hbq)
      replace KV1 := Lib.hid (below_keep hbq KV1.out)
      replace H2 := Lib.hid (H2.out.below hbq)
      replace KV2 := Lib.hid (below_keep hbq KV2.out)
      replace H3 := Lib.hid (H3.out.below hbq)
      replace KV3 := Lib.hid (below_keep hbq KV3.out)
      replace HJ := Lib.hid (HJ.out.below hbq)
      replace HN2 := Lib.hid (HN2.out.below hbq)
      have T12 := Lib.hid hbq.size
      clear hbq
      have HC := Lib.hid (kept_c _ _ _ f w12 FQ.out.1 HF.out ZF.out)
      have x0 := cell_of_block (j := 0) KQ.out rfl
      have xl := hlt_of KQ.out
      go_wp2_with fail
      (with_reducible refine (HC.out).mono ?_)
      rintro e w13 ⟨rfl, hbq⟩
      clear HC x0 xl
      replace HA := Lib.hid (HA.out.below hbq)
      replace HBb := Lib.hid (HBb.out.below hbq)
      replace HF := Lib.hid (HF.out.below hbq)
      replace K4 := Lib.hid (below_keep hbq K4.out)
      replace K5 := Lib.hid (below_keep hbq K5.out)
      replace K6 := Lib.hid (below_keep hbq K6.out)
      replace HB := Lib.hid (bstep HB.out hbq)
      replace K9 := Lib.hid (below_keep hbq K9.out)
      replace K10 := Lib.hid (below_keep hbq K10.out)
      replace RX := Lib.hid (RX.out.below hbq)
      replace RY := Lib.hid (RY.out.below hbq)
      replace KP := Lib.hid (below_keep hbq KP.out)
      replace KQ := Lib.hid (below_keep hbq KQ.out)
      replace FP := Lib.hid (FP.out.below hbq)
      replace FQ := Lib.hid (FQ.out.below hbq)
      replace H1 := Lib.hid (H1.out.below hbq)
      replace KV1 := Lib.hid (below_keep hbq KV1.out)
      replace H2 := Lib.hid (H2.out.below hbq)
      replace KV2 := Lib.hid (below_keep hbq KV2.out)
      replace H3 := Lib.hid (H3.out.below hbq)
      replace KV3 := Lib.hid (below_keep hbq KV3.out)
      replace HJ := Lib.hid (HJ.out.below hbq)
      replace HN2 := Lib.hid (HN2.out.below hbq)
      have T13 := Lib.hid hbq.size
      clear hbq
      clear HA HBb HF K4 K5 K6
      obtain ⟨K0, hK0⟩ : ∃ K0 : List Kz, K0 = [⟨.slice a1 c1.vec.length b1, .slice e1 c1.more.length d1, c1⟩, ⟨.slice a2 c2.vec.length b2, .slice e2 c2.more.length d2, c2⟩, ⟨.slice a3 c3.vec.length b3, .slice e3 c3.more.length d3, c3⟩] := ⟨_, rfl⟩
      have LK0 := Lib.hid (show K0.length = 3 by rw [hK0]; rfl)
      
      have HTT := Lib.hid (show w.heap.size ≤ w1.heap.size ∧ w1.heap.size ≤ w3.heap.size ∧ w3.heap.size ≤ w4.heap.size ∧ w4.heap.size ≤ w9.heap.size ∧ w9.heap.size ≤ w13.heap.size by
        have T4 := T4.out; have T5 := T5.out; have T6 := T6.out; have T7 := T7.out; have T8 := T8.out; have T9 := T9.out; have T10 := T10.out; have T11 := T11.out; have T12 := T12.out; have T13 := T13.out; have TWa := TWa.out; have LWa := LWa.out; have TWb := TWb.out; have LWb := LWb.out; have TWc := TWc.out; have LWc := LWc.out; have T0 := T0.out; have T1 := T1.out; have T3 := T3.out; have HM := HM.out;
        omega)
      have HKS := Lib.hid (show KsOk w13 w4.heap.size w9.heap.size (Ko.kall K0 (Z1 ++ Z2)) by
        have T4 := T4.out; have T5 := T5.out; have T6 := T6.out; have T7 := T7.out; have T8 := T8.out; have T9 := T9.out; have T10 := T10.out; have T11 := T11.out; have T12 := T12.out; have T13 := T13.out; have TWa := TWa.out; have LWa := LWa.out; have TWb := TWb.out; have LWb := LWb.out; have TWc := TWc.out; have LWc := LWc.out; have T0 := T0.out; have T1 := T1.out; have T3 := T3.out; have HM := HM.out;
        have s1 := ((KsOk.one H1.out SZ1.out).up (show w5.heap.size ≤ Wa.heap.size by omega)).append ((KsOk.one H2.out SZ2.out).up (show w6.heap.size ≤ Wb.heap.size by omega)) (by omega) (by omega)
        have s2 := s1.append ((KsOk.one H3.out SZ3.out).up (show w7.heap.size ≤ Wc.heap.size by omega)) (by omega) (by omega)
        have s3 := s2.append ((HJ.out.ks).append HN2.out.ks (by omega) (by omega)) (by omega) (by omega)
        rw [hK0]
        unfold Ko.kall
        rw [List.map_append]
        exact s3)
      have HFS := Lib.hid (show FsOk w13 w4.heap.size w9.heap.size (Ko.fall (Z1 ++ Z2)) by
        have T4 := T4.out; have T5 := T5.out; have T6 := T6.out; have T7 := T7.out; have T8 := T8.out; have T9 := T9.out; have T10 := T10.out; have T11 := T11.out; have T12 := T12.out; have T13 := T13.out; have TWa := TWa.out; have LWa := LWa.out; have TWb := TWb.out; have LWb := LWb.out; have TWc := TWc.out; have LWc := LWc.out; have T0 := T0.out; have T1 := T1.out; have T3 := T3.out; have HM := HM.out;
        unfold Ko.fall
        rw [List.map_append]
        exact ((FsOk.nil w13 w4.heap.size Wc.heap.size).append ((HJ.out.fs).append HN2.out.fs (by omega) (by omega)) (by omega) (by omega)))
      have HLZ := Lib.hid (show (Z1 ++ Z2).length ≤ 200 by rw [List.length_append]; have := HJ.out.len; have := HN2.out.len; omega)
      have HBG := Lib.hid (Below.refl w13.heap.size w13)
      have x0 := cell_of_block (j := 0) KV1.out rfl
      have x1 := cell_of_block (j := 1) KV1.out rfl
      have xl := hlt_of KV1.out
      have y0 := cell_of_block (j := 0) KV2.out rfl
      have y1 := cell_of_block (j := 1) KV2.out rfl
      have yl := hlt_of KV2.out
      have z0 := cell_of_block (j := 0) KV3.out rfl
      have z1 := cell_of_block (j := 1) KV3.out rfl
      have zl := hlt_of KV3.out
      obtain ⟨WD, hWD⟩ : ∃ WD, WD = w13.alloc (.cells #[.slice a1 c1.vec.length b1, .slice e1 c1.more.length d1, .slice a2 c2.vec.length b2, .slice e2 c2.more.length d2, .slice a3 c3.vec.length b3, .slice e3 c3.more.length d3] 25) := ⟨_, rfl⟩
      have hbq : Below w13.heap.size w13 WD := by rw [hWD]; exact bal _
      have HKR := Lib.hid (show WD.ownsRow w13.heap.size 25 2 (.slice (some ⟨w13.heap.size, 0, none⟩) 3 3) 3 (K0.map Kz.cells).flatten from ⟨by rw [hK0]; rfl, .inr ⟨_, 3, #[.slice a1 c1.vec.length b1, .slice e1 c1.more.length d1, .slice a2 c2.vec.length b2, .slice e2 c2.more.length d2, .slice a3 c3.vec.length b3, .slice e3 c3.more.length d3], rfl, Nat.le_refl _, by rw [hWD]; exact alloc_new _ _ _ _ rfl, Nat.le_refl _, by decide, rfl, by rw [hK0]; rfl⟩⟩)
      replace HJ := Lib.hid (HJ.out.below hbq)
      replace HN2 := Lib.hid (HN2.out.below hbq)
      replace HBG := Lib.hid (bstep HBG.out hbq)
      have TD := Lib.hid hbq.size
      clear hbq KV1 KV2 KV3 H1 H2 H3 SZ1 SZ2 SZ3 hK0
      obtain ⟨rs, hrs1, hrs2, hrs3, hrs4, hrs5⟩ := Ko.cat2 (t := 34) HJ.out HN2.out
      have HRS := Lib.hid hrs1
      have HR2 := Lib.hid hrs2
      have HR3 := Lib.hid hrs3
      have HR4 := Lib.hid hrs4
      have HR5 := Lib.hid hrs5
      clear hrs1 hrs2 hrs3 hrs4 hrs5
      generalize hZZ : Z1 ++ Z2 = ZZ at *
      have hsD : WD.heap.size = w13.heap.size + 1 := by rw [hWD]; simp only [World.size_alloc]
      rw [hsD] at HRS
      obtain ⟨WE, hWE⟩ : ∃ WE, WE = WD.alloc (.cells #[.slice ja Z1.length jc, .slice na Z2.length nc] 34) := ⟨_, rfl⟩
      rw [← hWE] at HRS
      have hbq : Below WD.heap.size WD WE := by rw [hWE]; exact bal _
      replace HJ := Lib.hid (HJ.out.below hbq)
      replace HN2 := Lib.hid (HN2.out.below hbq)
      replace HBG := Lib.hid (bstep HBG.out hbq)
      replace HKR := Lib.hid (owns_below HKR.out hbq)
      have TE := Lib.hid hbq.size
      clear hbq
      have HC := Lib.hid (PlConcat_c _ rs WE HRS.out HR2.out HR3.out (by rw [HR4.out]; have := HLZ.out; omega))
      go_wp2_with fail
      rw [← hWD, ← hWE]
      clear hWD hWE x0 x1 xl y0 y1 yl z0 z1 zl
      (with_reducible refine (HC.out).mono ?_)
      rintro e WF ⟨cv, rfl, hx, hbq⟩
      clear HC HJ HN2 HRS HR2 HR3
      replace HBG := Lib.hid (bstep HBG.out hbq)
      replace HKR := Lib.hid (owns_below HKR.out hbq)
      have TF := Lib.hid hbq.size
      have hx2 : WF.ownsRow w13.heap.size 33 3 cv ZZ.length (ZZ.map Pz.cells).flatten := owns_mono (HR4.out ▸ HR5.out ▸ hx) (Nat.le_trans TD.out TE.out)
      obtain ⟨ca, cc, rfl⟩ := owns_slice hx2
      have HCR := Lib.hid hx2
      clear hx hx2 hbq HR4 HR5 hsD
      go_wp2
      go_loopw [23, 24, 123] (fun kv fv i wr => ∃ k : Nat, k ≤ ZZ.length ∧ i = .int .i64 k ∧ Ko.Ga w13 wr K0 ZZ k (.slice ca ZZ.length cc) kv fv) (fun _ _ i _ => ZZ.length - (intOf i).toNat)
      case atStart => exact ⟨0, Nat.zero_le _, rfl, HBG.out, HCR.out, by rw [LK0.out]; simpa using HKR.out, World.ownsRow_nil _ _ _ _⟩
      case round =>
        obtain ⟨k, hk, rfl, hM⟩ := hrel
        have M := Lib.hid hM
        obtain ⟨ka, kc, hkv⟩ := owns_slice hM.krow
        obtain ⟨fva, fvc, hfv⟩ := owns_slice hM.frow
        subst hkv hfv
        clear hM
        by_cases hlt : k < ZZ.length
        · have hltb : decide ((k : Int) < (ZZ.length : Int)) = true := by simp; omega
          obtain ⟨gc, cw, hwv, -, -⟩ := World.ownsRow.form M.out.crow (by omega)
          simp only [Value.slice.injEq, true_and] at hwv
          obtain ⟨rfl, rfl⟩ := hwv
          obtain ⟨d0, d1, d2⟩ := Ko.pz_get hlt
          obtain ⟨f9, fc9, e0⟩ := (HFS.out.own _ (List.mem_map_of_mem (List.getElem_mem hlt))).shape
          have e0 : ZZ[k].f = .slice f9 ZZ[k].p.f.length fc9 := e0
          obtain ⟨u9a, u9c, e1⟩ := owns_slice (Ko.KsOk.part HKS.out _ (List.getElem_mem hlt)).vec
          have e1 : ZZ[k].u = .slice u9a ZZ[k].p.k.vec.length u9c := e1
          obtain ⟨x9a, x9c, e2⟩ := owns_slice (Ko.KsOk.part HKS.out _ (List.getElem_mem hlt)).more
          have e2 : ZZ[k].x = .slice x9a ZZ[k].p.k.more.length x9c := e2
          have HST := Lib.hid (fun w2 kv fv h1 h2 h3 h4 => Ko.Ga.step (W := w13) (w := w2) (K0 := K0) (cv := .slice (some ⟨gc, 0, none⟩) ZZ.length cc) (kv := kv) (fv := fv) hlt h1 h2 h3 h4)
          rw [e0] at d0
          rw [e1] at d1
          rw [e2] at d2
          rw [e0, e1, e2] at HST
          have c0 := M.out.crow.cells rfl _ _ d0
          have c1 := M.out.crow.cells rfl _ _ d1
          have c2 := M.out.crow.cells rfl _ _ d2
          rw [Addr.add_lit, Nat.zero_add] at c0 c1 c2
          have hgl := (M.out.crow.lt gc rfl).2
          generalize ZZ[k].p.f.length = lf at *
          generalize ZZ[k].p.k.vec.length = lu at *
          generalize ZZ[k].p.k.more.length = lx at *
          obtain ⟨xk, hxk⟩ : ∃ xk, xk = ((K0 ++ (ZZ.take k).map Pz.kz).map Kz.cells).flatten := ⟨_, rfl⟩
          obtain ⟨xf, hxf⟩ : ∃ xf, xf = (ZZ.take k).map Pz.f := ⟨_, rfl⟩
          obtain ⟨xcc, hxc⟩ : ∃ xcc, xcc = (ZZ.map Pz.cells).flatten := ⟨_, rfl⟩
          rw [← hxk, ← hxf, ← hxc] at HST
          obtain ⟨wq, hwq⟩ : ∃ wq, wq = wr.alloc (.cells #[.slice f9 lf fc9, .slice u9a lu u9c, .slice x9a lx x9c] 33) := ⟨_, rfl⟩
          have hbw : Below wr.heap.size wr wq := by rw [hwq]; exact bal _
          have HG17 := Lib.hid (show Ko.G17 w13 wr.heap.size #[.slice f9 lf fc9, .slice u9a lu u9c, .slice x9a lx x9c] (.slice (some ⟨gc, 0, none⟩) ZZ.length cc) ZZ.length xcc wq from ⟨bstep M.out.bel hbw, by rw [hwq]; exact alloc_new _ _ _ _ rfl, by rw [hxc]; exact owns_below M.out.crow hbw⟩)
          have HKW := Lib.hid (show wq.ownsRow w13.heap.size 25 2 (.slice ka (K0.length + k) kc) (K0.length + k) xk by rw [hxk]; exact owns_below M.out.krow hbw)
          have HFW := Lib.hid (show wq.ownsRow w13.heap.size 28 1 (.slice fva k fvc) k xf by rw [hxf]; exact owns_below M.out.frow hbw)
          clear d0 d1 d2 e0 e1 e2 M hxk hxf hxc hbw
          go_wp2_with fail
          rw [← hwq]
          clear hwq c0 c1 c2 hgl
          refine Cl3.region0 210 rfl (fun u => match u with | 0 => [4] | _ => [9]) (fun u ww => match u with | 0 => ww.ownsRow w13.heap.size 25 2 (.slice ka (K0.length + k) kc) (K0.length + k) xk | _ => ww.ownsRow w13.heap.size 28 1 (.slice fva k fvc) k xf) (fun jq => match jq with | 3 => [4] | 8 => [9] | _ => []) (fun jq v ww => match jq with | 0 => v = .slice ka (K0.length + k) kc | 1 => v = .pointer (some ⟨wr.heap.size, 1, none⟩) | 2 => v = .agg #[.slice u9a lu u9c, .slice x9a lx x9c] | 3 => ∃ g, v = .slice (some ⟨g, 0, none⟩) 1 1 ∧ ww.heap[g]? = some (Obj.cells #[.slice u9a lu u9c, .slice x9a lx x9c] 25 (0, 0)) | 4 => ∃ a9 c9, v = .slice a9 (K0.length + k + 1) c9 ∧ ww.ownsRow w13.heap.size 25 2 (.slice a9 (K0.length + k + 1) c9) (K0.length + k + 1) (xk ++ [.slice u9a lu u9c, .slice x9a lx x9c]) | 5 => v = .slice fva k fvc | 6 => v = .pointer (some ⟨wr.heap.size, 0, none⟩) | 7 => v = .slice f9 lf fc9 | 8 => ∃ g, v = .slice (some ⟨g, 0, none⟩) 1 1 ∧ ww.heap[g]? = some (Obj.cells #[.slice f9 lf fc9] 28 (0, 0)) | 9 => ∃ a9 c9, v = .slice a9 (k + 1) c9 ∧ ww.ownsRow w13.heap.size 28 1 (.slice a9 (k + 1) c9) (k + 1) (xf ++ [.slice f9 lf fc9]) | 10 => ∃ a9 c9, v = .slice a9 (K0.length + k + 1) c9 ∧ ww.ownsRow w13.heap.size 25 2 (.slice a9 (K0.length + k + 1) c9) (K0.length + k + 1) (xk ++ [.slice u9a lu u9c, .slice x9a lx x9c]) | 11 => ∃ a9 c9, v = .slice a9 (k + 1) c9 ∧ ww.ownsRow w13.heap.size 28 1 (.slice a9 (k + 1) c9) (k + 1) (xf ++ [.slice f9 lf fc9]) | _ => True) (fun ww => Ko.G17 w13 wr.heap.size #[.slice f9 lf fc9, .slice u9a lu u9c, .slice x9a lx x9c] (.slice (some ⟨gc, 0, none⟩) ZZ.length cc) ZZ.length xcc ww) (fun jq ww ww' => (jq ≠ 4 → jq ≠ 9 → Below ww.heap.size ww ww') ∧ (jq = 4 → AppV w13.heap.size 25 2 (.slice ka (K0.length + k) kc) ww ww') ∧ (jq = 9 → AppV w13.heap.size 28 1 (.slice fva k fvc) ww ww')) Try.mixed (by decide +kernel) HG17.out.drew (fun u => match u with | 0 => HKW.out | _ + 1 => HFW.out) ?_ (fun jq ww ww' u hk h hR => match u, hk, h with | 0, hk, h => (by by_cases e : jq = 9; exact (hR.2.2 e).other h (by decide); exact owns_below h (hR.1 (by simpa using hk) e)) | _ + 1, hk, h => (by by_cases e : jq = 4; exact (hR.2.1 e).other h (by decide); exact owns_below h (hR.1 e (by simpa using hk)))) ?_ ?_
          · intro qq r v w w' hne hk hlt h hR
            match r, hk, hlt, h, hne with
            | 0, _, _, h, _ => exact h
            | 1, _, _, h, _ => exact h
            | 2, _, _, h, _ => exact h
            | 3, hk, hlt, h, hne =>
              by_cases q4 : qq = 4
              · exact absurd q4 (by intro e; subst e; first | exact absurd hlt (by decide +kernel) | exact absurd rfl hne | simp at hk)
              by_cases q9 : qq = 9
              · exact (let ⟨g, h1, h2⟩ := h; ⟨g, h1, ((hR.2.2 q9).keep h2 (by decide))⟩)
              exact (let ⟨g, h1, h2⟩ := h; ⟨g, h1, below_keep (hR.1 q4 q9) h2⟩)
            | 4, hk, hlt, h, hne =>
              by_cases q4 : qq = 4
              · exact absurd q4 (by intro e; subst e; first | exact absurd hlt (by decide +kernel) | exact absurd rfl hne | simp at hk)
              by_cases q9 : qq = 9
              · exact (let ⟨a9, c9, h1, h2⟩ := h; ⟨a9, c9, h1, ((hR.2.2 q9).other h2 (by decide))⟩)
              exact (let ⟨a9, c9, h1, h2⟩ := h; ⟨a9, c9, h1, owns_below h2 (hR.1 q4 q9)⟩)
            | 5, _, _, h, _ => exact h
            | 6, _, _, h, _ => exact h
            | 7, _, _, h, _ => exact h
            | 8, hk, hlt, h, hne =>
              by_cases q4 : qq = 4
              · exact (let ⟨g, h1, h2⟩ := h; ⟨g, h1, ((hR.2.1 q4).keep h2 (by decide))⟩)
              by_cases q9 : qq = 9
              · exact absurd q9 (by intro e; subst e; first | exact absurd hlt (by decide +kernel) | exact absurd rfl hne | simp at hk)
              exact (let ⟨g, h1, h2⟩ := h; ⟨g, h1, below_keep (hR.1 q4 q9) h2⟩)
            | 9, hk, hlt, h, hne =>
              by_cases q4 : qq = 4
              · exact absurd q4 (by intro e; subst e; first | exact absurd hlt (by decide +kernel) | exact absurd rfl hne | simp at hk)
              by_cases q9 : qq = 9
              · exact absurd q9 (by intro e; subst e; first | exact absurd hlt (by decide +kernel) | exact absurd rfl hne | simp at hk)
              exact (let ⟨a9, c9, h1, h2⟩ := h; ⟨a9, c9, h1, owns_below h2 (hR.1 q4 q9)⟩)
            | 10, hk, hlt, h, hne =>
              by_cases q4 : qq = 4
              · exact absurd q4 (by intro e; subst e; first | exact absurd hlt (by decide +kernel) | exact absurd rfl hne | simp at hk)
              by_cases q9 : qq = 9
              · exact absurd q9 (by intro e; subst e; first | exact absurd hlt (by decide +kernel) | exact absurd rfl hne | simp at hk)
              exact (let ⟨a9, c9, h1, h2⟩ := h; ⟨a9, c9, h1, owns_below h2 (hR.1 q4 q9)⟩)
            | 11, hk, hlt, h, hne =>
              by_cases q4 : qq = 4
              · exact absurd q4 (by intro e; subst e; first | exact absurd hlt (by decide +kernel) | exact absurd rfl hne | simp at hk)
              by_cases q9 : qq = 9
              · exact absurd q9 (by intro e; subst e; first | exact absurd hlt (by decide +kernel) | exact absurd rfl hne | simp at hk)
              exact (let ⟨a9, c9, h1, h2⟩ := h; ⟨a9, c9, h1, owns_below h2 (hR.1 q4 q9)⟩)
            | _ + 12, _, _, _, _ => trivial
          · refine ⟨?_, ?_, ?_, ?_, ?_, ?_, ?_, ?_, ?_, ?_, ?_, ?_, trivial⟩
            · intro x wx hG
              have f23 := hG.old 23 (by decide +kernel)
              have hg := hG.good
              clear hG
              go_wp2
              exact ⟨_, rfl, rfl, hg, ⟨fun _ _ => Below.refl _ _, fun h => absurd h (by decide), fun h => absurd h (by decide)⟩⟩
            · intro x wx hG
              have f26 := hG.old 26 (by decide +kernel)
              have hg := hG.good
              clear hG
              go_wp2
              exact ⟨_, rfl, rfl, hg, ⟨fun _ _ => Below.refl _ _, fun h => absurd h (by decide), fun h => absurd h (by decide)⟩⟩
            · intro x wx hG
              have g1 : (x.tmps.getD 128 undef) = .pointer (some ⟨wr.heap.size, 1, none⟩) := hG.claims 1 _ rfl (by decide +kernel) (by decide +kernel)
              have hg := hG.good
              clear hG
              have kb := hg.blk
              have k1 := cell_of_block (j := 1) kb rfl
              have k2 := cell_of_block (j := 2) kb rfl
              have kl := hlt_of kb
              clear kb
              go_wp2
              exact ⟨_, rfl, rfl, hg, ⟨fun _ _ => Below.refl _ _, fun h => absurd h (by decide), fun h => absurd h (by decide)⟩⟩
            · intro x wx hG
              have g2 : (x.tmps.getD 129 undef) = .agg #[.slice u9a lu u9c, .slice x9a lx x9c] := hG.claims 2 _ rfl (by decide +kernel) (by decide +kernel)
              have g2b := g2
              rw [Array.getD_eq_getD_getElem?] at g2b
              have hg := hG.good
              clear hG
              go_wp2
              exact ⟨_, rfl, ⟨_, rfl, alloc_new _ _ _ _ rfl⟩, hg.alloc _, ⟨fun _ _ => bal _, fun h => absurd h (by decide), fun h => absurd h (by decide)⟩⟩
            · intro x wx hG
              have g0 : (x.tmps.getD 127 undef) = .slice ka (K0.length + k) kc := hG.claims 0 _ rfl (by decide +kernel) (by decide +kernel)
              have g3 : ∃ g, (x.tmps.getD 130 undef) = .slice (some ⟨g, 0, none⟩) 1 1 ∧ wx.heap[g]? = some (Obj.cells #[.slice u9a lu u9c, .slice x9a lx x9c] 25 (0, 0)) := hG.claims 3 _ rfl (by decide +kernel) (by decide +kernel)
              have hp0 := hG.pre 0 (by decide +kernel)
              have hg := hG.good
              clear hG
              obtain ⟨g9, hg1, hg2⟩ := g3
              have hz := g0
              have hzb := hz
              rw [Array.getD_eq_getD_getElem?] at hzb
              have hg1b := hg1
              rw [Array.getD_eq_getD_getElem?] at hg1b
              have H9 := Lib.hid (show wx.ownsRow w13.heap.size 25 2 (.slice ka (K0.length + k) kc) (K0.length + k) xk from hp0)
              have HC := Lib.hid (show CellsAt wx (.slice (some ⟨g9, 0, none⟩) 1 1) 1 [.slice u9a lu u9c, .slice x9a lx x9c] from CellsAt.mk (Nat.le_refl _) (by decide) (hlt_of hg2) (fun j z hj => by rw [Nat.zero_add]; exact cell_of_block hg2 (by simpa using hj)))
              have HG := Lib.hid hg
              have hbs := hg.bel.size
              clear hp0 hg2
              go_wp2_with (at_builtin; refine wpList_append_cells2 rfl (.tmp 127) (.tmp 130) 44 rfl w13.heap.size 25 _ 2 48 Try.underlying44 KlTy.info rfl (by decide) (.slice ka (K0.length + k) kc) (K0.length + k) _ hz H9.out (.slice (some ⟨g9, 0, none⟩) 1 1) 1 _ hg1 HC.out rfl (by intro u hu; simp only [List.mem_cons, List.not_mem_nil, or_false] at hu; rcases hu with rfl | rfl <;> rfl) hbs (by unfold maxLen; have h1 := HLZ.out; have h2 := LK0.out; omega) (by have h1 := HLZ.out; have h2 := LK0.out; omega) ?_)
              intro v' wq2 ho hgr
              obtain ⟨qa, qc, hq⟩ := owns_slice ho
              subst hq
              have HO := Lib.hid ho
              have HGR := Lib.hid hgr
              have HA := Lib.hid (show AppV w13.heap.size 25 2 (.slice ka (K0.length + k) kc) wx wq2 from ⟨_, _, H9.out, hgr⟩)
              clear ho hgr
              go_wp2
              exact ⟨_, rfl, ⟨_, _, rfl, HO.out⟩, HG.out.app (by decide) H9.out HGR.out, ⟨fun h _ => absurd rfl h, fun _ => HA.out, fun h => absurd h (by decide)⟩⟩
            · intro x wx hG
              have f24 := hG.old 24 (by decide +kernel)
              have hg := hG.good
              clear hG
              go_wp2
              exact ⟨_, rfl, rfl, hg, ⟨fun _ _ => Below.refl _ _, fun h => absurd h (by decide), fun h => absurd h (by decide)⟩⟩
            · intro x wx hG
              have f26 := hG.old 26 (by decide +kernel)
              have hg := hG.good
              clear hG
              go_wp2
              exact ⟨_, rfl, rfl, hg, ⟨fun _ _ => Below.refl _ _, fun h => absurd h (by decide), fun h => absurd h (by decide)⟩⟩
            · intro x wx hG
              have g6 : (x.tmps.getD 133 undef) = .pointer (some ⟨wr.heap.size, 0, none⟩) := hG.claims 6 _ rfl (by decide +kernel) (by decide +kernel)
              have hg := hG.good
              clear hG
              have kb := hg.blk
              have k0 := cell_of_block (j := 0) kb rfl
              have kl := hlt_of kb
              clear kb
              go_wp2
              exact ⟨_, rfl, rfl, hg, ⟨fun _ _ => Below.refl _ _, fun h => absurd h (by decide), fun h => absurd h (by decide)⟩⟩
            · intro x wx hG
              have g7 : (x.tmps.getD 134 undef) = .slice f9 lf fc9 := hG.claims 7 _ rfl (by decide +kernel) (by decide +kernel)
              have g7b := g7
              rw [Array.getD_eq_getD_getElem?] at g7b
              have hg := hG.good
              clear hG
              go_wp2
              exact ⟨_, rfl, ⟨_, rfl, alloc_new _ _ _ _ rfl⟩, hg.alloc _, ⟨fun _ _ => bal _, fun h => absurd h (by decide), fun h => absurd h (by decide)⟩⟩
            · intro x wx hG
              have g5 : (x.tmps.getD 132 undef) = .slice fva k fvc := hG.claims 5 _ rfl (by decide +kernel) (by decide +kernel)
              have g8 : ∃ g, (x.tmps.getD 135 undef) = .slice (some ⟨g, 0, none⟩) 1 1 ∧ wx.heap[g]? = some (Obj.cells #[.slice f9 lf fc9] 28 (0, 0)) := hG.claims 8 _ rfl (by decide +kernel) (by decide +kernel)
              have hp1 := hG.pre 1 (by decide +kernel)
              have hg := hG.good
              clear hG
              obtain ⟨g9, hg1, hg2⟩ := g8
              have hz := g5
              have hzb := hz
              rw [Array.getD_eq_getD_getElem?] at hzb
              have hg1b := hg1
              rw [Array.getD_eq_getD_getElem?] at hg1b
              have H9 := Lib.hid (show wx.ownsRow w13.heap.size 28 1 (.slice fva k fvc) (k) xf from hp1)
              have HC := Lib.hid (show CellsAt wx (.slice (some ⟨g9, 0, none⟩) 1 1) 1 [.slice f9 lf fc9] from CellsAt.mk (Nat.le_refl _) (by decide) (hlt_of hg2) (fun j z hj => by rw [Nat.zero_add]; exact cell_of_block hg2 (by simpa using hj)))
              have HG := Lib.hid hg
              have hbs := hg.bel.size
              clear hp1 hg2
              go_wp2_with (at_builtin; refine wpList_append_cells2 rfl (.tmp 132) (.tmp 135) 45 rfl w13.heap.size 28 _ 1 24 Try.underlying45 KxsTy.info rfl (by decide) (.slice fva k fvc) (k) _ hz H9.out (.slice (some ⟨g9, 0, none⟩) 1 1) 1 _ hg1 HC.out rfl (by intro u hu; simp only [List.mem_singleton] at hu; subst hu; rfl) hbs (by unfold maxLen; have h1 := HLZ.out; have h2 := LK0.out; omega) (by have h1 := HLZ.out; have h2 := LK0.out; omega) ?_)
              intro v' wq2 ho hgr
              obtain ⟨qa, qc, hq⟩ := owns_slice ho
              subst hq
              have HO := Lib.hid ho
              have HGR := Lib.hid hgr
              have HA := Lib.hid (show AppV w13.heap.size 28 1 (.slice fva k fvc) wx wq2 from ⟨_, _, H9.out, hgr⟩)
              clear ho hgr
              go_wp2
              exact ⟨_, rfl, ⟨_, _, rfl, HO.out⟩, HG.out.app (by decide) H9.out HGR.out, ⟨fun _ h => absurd rfl h, fun h => absurd h (by decide), fun _ => HA.out⟩⟩
            · intro x wx hG
              have g4 : ∃ a9 c9, (x.tmps.getD 131 undef) = .slice a9 (K0.length + k + 1) c9 ∧ wx.ownsRow w13.heap.size 25 2 (.slice a9 (K0.length + k + 1) c9) (K0.length + k + 1) (xk ++ [.slice u9a lu u9c, .slice x9a lx x9c]) := hG.claims 4 _ rfl (by decide +kernel) (by decide +kernel)
              have hg := hG.good
              clear hG
              obtain ⟨za, zc, hz, h9⟩ := g4
              have H9 := Lib.hid h9
              clear h9
              go_wp2
              exact ⟨_, rfl, ⟨_, _, rfl, H9.out⟩, hg, ⟨fun _ _ => Below.refl _ _, fun h => absurd h (by decide), fun h => absurd h (by decide)⟩⟩
            · intro x wx hG
              have g9 : ∃ a9 c9, (x.tmps.getD 136 undef) = .slice a9 (k + 1) c9 ∧ wx.ownsRow w13.heap.size 28 1 (.slice a9 (k + 1) c9) (k + 1) (xf ++ [.slice f9 lf fc9]) := hG.claims 9 _ rfl (by decide +kernel) (by decide +kernel)
              have hg := hG.good
              clear hG
              obtain ⟨za, zc, hz, h9⟩ := g9
              have H9 := Lib.hid h9
              clear h9
              go_wp2
              exact ⟨_, rfl, ⟨_, _, rfl, H9.out⟩, hg, ⟨fun _ _ => Below.refl _ _, fun h => absurd h (by decide), fun h => absurd h (by decide)⟩⟩
          · intro vals wz hg hF
            obtain ⟨g0, g1, g2, g3, g4, g5, g6, g7, g8, g9, g10, g11, -⟩ := hF
            have e0 : vals 0 = .slice ka (K0.length + k) kc := g0 rfl
            have e1 : vals 1 = .pointer (some ⟨wr.heap.size, 1, none⟩) := g1 rfl
            have e2 : vals 2 = .agg #[.slice u9a lu u9c, .slice x9a lx x9c] := g2 rfl
            have e5 : vals 5 = .slice fva k fvc := g5 rfl
            have e6 : vals 6 = .pointer (some ⟨wr.heap.size, 0, none⟩) := g6 rfl
            have e7 : vals 7 = .slice f9 lf fc9 := g7 rfl
            replace g10 : ∃ a9 c9, (vals 10) = .slice a9 (K0.length + k + 1) c9 ∧ wz.ownsRow w13.heap.size 25 2 (.slice a9 (K0.length + k + 1) c9) (K0.length + k + 1) (xk ++ [.slice u9a lu u9c, .slice x9a lx x9c]) := g10 rfl
            replace g11 : ∃ a9 c9, (vals 11) = .slice a9 (k + 1) c9 ∧ wz.ownsRow w13.heap.size 28 1 (.slice a9 (k + 1) c9) (k + 1) (xf ++ [.slice f9 lf fc9]) := g11 rfl
            simp only [Cl3.puts, e0, e1, e2, e5, e6, e7]
            clear e0 e1 e2 e5 e6 e7 g0 g1 g2 g3 g4 g5 g6 g7 g8 g9
            go_simp
            generalize vals 10 = kv2 at *
            generalize vals 11 = fv2 at *
            obtain ⟨k2a, k2c, rfl, ho1⟩ := g10
            obtain ⟨f2a, f2c, rfl, ho2⟩ := g11
            have HN := Lib.hid (HST.out _ _ _ hg.bel hg.crow ho1 ho2)
            clear ho1 ho2 hg HST HG17 HKW HFW
            have hzl := HLZ.out
            go_wp2
            go_roundw
            case rel => exact ⟨k + 1, by omega, by go_num, HN.out⟩
            case measure => simp [intOf] <;> omega
        · obtain rfl : k = ZZ.length := by omega
          obtain ⟨WG, hWG⟩ : ∃ WG, WG = wr := ⟨_, rfl⟩
          rw [← hWG] at M ⊢
          clear hWG hlt hk
          have hbq := M.out.bel
          have hsm := M.out.bel.size
          replace HB := Lib.hid (bstep HB.out hbq)
          replace K9 := Lib.hid (below_keep hbq K9.out)
          replace K10 := Lib.hid (below_keep hbq K10.out)
          replace RX := Lib.hid (RX.out.below hbq)
          replace RY := Lib.hid (RY.out.below hbq)
          replace KP := Lib.hid (below_keep hbq KP.out)
          replace KQ := Lib.hid (below_keep hbq KQ.out)
          replace FP := Lib.hid (FP.out.below hbq)
          replace FQ := Lib.hid (FQ.out.below hbq)
          replace HKS := Lib.hid (HKS.out.below hbq)
          replace HFS := Lib.hid (HFS.out.below hbq)
          obtain ⟨KA, hKA⟩ : ∃ KA, KA = Ko.kall K0 ZZ := ⟨_, rfl⟩
          obtain ⟨FA, hFA⟩ : ∃ FA, FA = Ko.fall ZZ := ⟨_, rfl⟩
          have hnk : K0.length + ZZ.length = KA.length := by rw [hKA]; simp [Ko.kall]
          have hnf : ZZ.length = FA.length := by rw [hFA]; simp [Ko.fall]
          obtain ⟨hkr, hfr⟩ := Ko.Ga.done M.out
          rw [← hKA, hnk] at hkr
          rw [← hKA] at HKS
          rw [← hFA, hnf] at hfr
          rw [← hFA] at HFS
          have HLA := Lib.hid (show KA.length ≤ 300 by rw [← hnk]; have := HLZ.out; have := LK0.out; omega)
          have HLF := Lib.hid (show FA.length ≤ 300 by rw [← hnf]; have := HLZ.out; omega)
          have HKR2 := Lib.hid hkr
          have HFR2 := Lib.hid hfr
          have TG := Lib.hid hsm
          clear hkr hfr hsm M HBG HKR HCR hKA hFA
          rw [hnk]
          rw [show (.slice fva ZZ.length fvc : Value) = .slice fva FA.length fvc by rw [hnf]]
          clear hbq hnk hnf HLZ
          go_wp2
          go_loopw [27, 140] (fun ov i wr => ∃ (k : Nat) (ws : List (Value × Value)), k ≤ KA.length ∧ i = .int .i64 k ∧ WanK WG wr WG.heap.size KA k ov ws) (fun _ i _ => KA.length - (intOf i).toNat)
          case atStart => exact ⟨0, [], Nat.zero_le _, rfl, WanK.nil⟩
          case round =>
            obtain ⟨k, ws, hk, rfl, hM⟩ := hrel
            have M := Lib.hid hM
            obtain ⟨wka, wkc, hov⟩ := owns_slice hM.row
            subst hov
            clear hM
            have hzl := HLA.out
            by_cases hlt : k < KA.length
            · have hltb : decide ((k : Int) < (KA.length : Int)) = true := by simp; omega
              obtain ⟨gk, ck, hwv, -, -⟩ := World.ownsRow.form HKR2.out (by omega)
              simp only [Value.slice.injEq, true_and] at hwv
              obtain ⟨rfl, rfl⟩ := hwv
              obtain ⟨d0, d1⟩ := Ko.kz_get hlt
              have hkz := HKS.out.own _ (List.getElem_mem hlt)
              obtain ⟨u9a, u9c, e1⟩ := owns_slice hkz.vec
              obtain ⟨x9a, x9c, e2⟩ := owns_slice hkz.more
              have hsz := HKS.out.sz _ (List.getElem_mem hlt)
              have hkz2 := KnOwn.below hkz M.out.bel
              have hbw : Below wr.heap.size wr (wr.alloc (.cells #[KA[k].u, KA[k].x] 25)) := bal _
              have HRM := Lib.hid (roomyKnow_c _ _ KA[k].k _ ((KnOwn.below hkz2 hbw).atZ hsz) hsz)
              have HST := Lib.hid (fun w2 w3 u x wv' hb hr hw hg => M.out.step (w2 := w2) (w3 := w3) (u := u) (x := x) (wv' := wv') hlt M.out.bel.size (Nat.le_refl _) hb hr hw hg)
              rw [e1] at d0
              rw [e2] at d1
              rw [e1, e2] at HRM hbw
              have hrw := owns_below HKR2.out M.out.bel
              have c0 := hrw.cells rfl _ _ d0
              have c1 := hrw.cells rfl _ _ d1
              rw [Addr.add_lit, Nat.zero_add] at c0 c1
              have hgl := (hrw.lt gk rfl).2
              have HBW := Lib.hid hbw
              have HRW := Lib.hid M.out.row
              have HBR := Lib.hid M.out.bel
              generalize KA[k].k = kk at *
              clear d0 d1 e1 e2 hkz hsz hkz2 hbw hrw M
              go_wp2_with fail
              (with_reducible refine (HRM.out).mono ?_)
              rintro e w2 ⟨u', x', rfl, hr, hb⟩
              have hrow := hr
              obtain ⟨gu, hgu, -, -⟩ := hr.vec.shape
              obtain ⟨gx, hgx, -, -⟩ := hr.more.shape
              subst hgu hgx
              have HBL := Lib.hid (bstep (bstep2 HBW.out hb) (bal (.cells #[.slice (some ⟨gu, 0, none⟩) kk.vec.length (kk.vec.length + 3), .slice (some ⟨gx, 0, none⟩) kk.more.length (kk.more.length + 3)] 25)))
              have HRR := Lib.hid ((hr.mono HBW.out.size).below (bal (.cells #[.slice (some ⟨gu, 0, none⟩) kk.vec.length (kk.vec.length + 3), .slice (some ⟨gx, 0, none⟩) kk.more.length (kk.more.length + 3)] 25)))
              have HCC := Lib.hid (show CellsAt (w2.alloc (.cells #[.slice (some ⟨gu, 0, none⟩) kk.vec.length (kk.vec.length + 3), .slice (some ⟨gx, 0, none⟩) kk.more.length (kk.more.length + 3)] 25)) (.slice (some ⟨w2.heap.size, 0, none⟩) 1 1) 1 [.slice (some ⟨gu, 0, none⟩) kk.vec.length (kk.vec.length + 3), .slice (some ⟨gx, 0, none⟩) kk.more.length (kk.more.length + 3)] from CellsAt.mk (Nat.le_refl _) (by decide) (hlt_of (alloc_new w2 #[.slice (some ⟨gu, 0, none⟩) kk.vec.length (kk.vec.length + 3), .slice (some ⟨gx, 0, none⟩) kk.more.length (kk.more.length + 3)] 25 _ rfl)) (fun j z hj => by rw [Nat.zero_add]; exact cell_of_block (alloc_new w2 #[.slice (some ⟨gu, 0, none⟩) kk.vec.length (kk.vec.length + 3), .slice (some ⟨gx, 0, none⟩) kk.more.length (kk.more.length + 3)] 25 _ rfl) (by simpa using hj)))
              have HOW := Lib.hid (owns_below HRW.out HBL.out)
              have hsz9 := Nat.le_trans HBR.out.size HBL.out.size
              clear hr hrow hb HRM c0 c1 hgl
              go_wp2_with (at_builtin; refine wpList_append_cells2 rfl (.tmp 144) (.tmp 147) 44 rfl WG.heap.size 25 (.agg #[.slice none 0 0, .slice none 0 0]) 2 48 Try.underlying44 KlTy.info rfl (by decide) _ k (ws.map two2).flatten (by rfl) HOW.out (.slice (some ⟨w2.heap.size, 0, none⟩) 1 1) 1 [.slice (some ⟨gu, 0, none⟩) kk.vec.length (kk.vec.length + 3), .slice (some ⟨gx, 0, none⟩) kk.more.length (kk.more.length + 3)] (by rfl) HCC.out rfl (by intro u hu; simp only [List.mem_cons, List.not_mem_nil, or_false] at hu; rcases hu with rfl | rfl <;> rfl) hsz9 (by unfold maxLen; omega) (by omega) ?_)
              rintro wv' w3 hown3 hgr3
              have HN := Lib.hid (HST.out _ _ _ _ _ HBL.out HRR.out hown3 hgr3)
              obtain ⟨wa', wc', hwv'⟩ := owns_slice hown3
              subst hwv'
              clear hown3 hgr3 HBL HRR HCC HOW hsz9 HST HRW HBR HBW
              go_wp2
              go_roundw
              case rel => exact ⟨k + 1, _, by omega, by go_num, HN.out⟩
              case measure => simp [intOf] <;> omega
            · obtain rfl : k = KA.length := by omega
              obtain ⟨WH, hWH⟩ : ∃ WH, WH = wr := ⟨_, rfl⟩
              rw [← hWH] at M ⊢
              clear hWH hlt hk
              have hbq := M.out.bel
              replace HB := Lib.hid (bstep HB.out hbq)
              replace K9 := Lib.hid (below_keep hbq K9.out)
              replace K10 := Lib.hid (below_keep hbq K10.out)
              replace RX := Lib.hid (RX.out.below hbq)
              replace RY := Lib.hid (RY.out.below hbq)
              replace KP := Lib.hid (below_keep hbq KP.out)
              replace KQ := Lib.hid (below_keep hbq KQ.out)
              replace FP := Lib.hid (FP.out.below hbq)
              replace FQ := Lib.hid (FQ.out.below hbq)
              replace HKS := Lib.hid (HKS.out.below hbq)
              replace HFS := Lib.hid (HFS.out.below hbq)
              replace HKR2 := Lib.hid (owns_below HKR2.out hbq)
              replace HFR2 := Lib.hid (owns_below HFR2.out hbq)
              have TH := Lib.hid hbq.size
              have HKE := Lib.hid M.out.each
              have HKW := Lib.hid M.out.row
              have HKL := Lib.hid M.out.len
              clear hbq M
              go_wp2
              go_loopw [28, 152] (fun ov i wr => ∃ (k : Nat) (ws : List Value), k ≤ FA.length ∧ i = .int .i64 k ∧ WanF WH wr WH.heap.size FA k ov ws) (fun _ i _ => FA.length - (intOf i).toNat)
              case atStart => exact ⟨0, [], Nat.zero_le _, rfl, WanF.nil⟩
              case round =>
                obtain ⟨k, wsf, hk, rfl, hM⟩ := hrel
                have M := Lib.hid hM
                obtain ⟨wfa, wfc, hov⟩ := owns_slice hM.row
                subst hov
                clear hM
                have hzl := HLF.out
                by_cases hlt : k < FA.length
                · have hltb : decide ((k : Int) < (FA.length : Int)) = true := by simp; omega
                  obtain ⟨gk, ck, hwv, -, -⟩ := World.ownsRow.form HFR2.out (by omega)
                  simp only [Value.slice.injEq, true_and] at hwv
                  obtain ⟨rfl, rfl⟩ := hwv
                  have d0 := Ko.fz_get hlt
                  have hkz := HFS.out.own _ (List.getElem_mem hlt)
                  obtain ⟨u9a, u9c, e1⟩ := hkz.shape
                  have hsz := HFS.out.sz _ (List.getElem_mem hlt)
                  have hkz2 := hkz.below M.out.bel
                  have HRM := Lib.hid (room_c _ FA[k].l wr (hkz2.at_ hsz) hsz)
                  have HST := Lib.hid (fun w2 w3 v' wv' hb hr hw hg => M.out.step (w2 := w2) (w3 := w3) (v' := v') (wv' := wv') hlt M.out.bel.size (Nat.le_refl _) hb hr hw hg)
                  rw [e1] at d0 HRM
                  have hrw := owns_below HFR2.out M.out.bel
                  have c0 := hrw.cells rfl _ _ d0
                  rw [Addr.add_lit, Nat.zero_add] at c0
                  have hgl := (hrw.lt gk rfl).2
                  have HRW := Lib.hid M.out.row
                  have HBR := Lib.hid M.out.bel
                  generalize FA[k].l = zl at *
                  clear d0 e1 hkz hsz hkz2 hrw M
                  go_wp2_with fail
                  (with_reducible refine (HRM.out).mono ?_)
                  rintro e w2 ⟨v', rfl, hr, hb⟩
                  have HBL := Lib.hid (bstep hb (bal (.cells #[v'] 28)))
                  have HRR := Lib.hid (hr.below (bal (.cells #[v'] 28)))
                  have HCC := Lib.hid (show CellsAt (w2.alloc (.cells #[v'] 28)) (.slice (some ⟨w2.heap.size, 0, none⟩) 1 1) 1 [v'] from CellsAt.mk (Nat.le_refl _) (by decide) (hlt_of (alloc_new w2 #[v'] 28 _ rfl)) (fun j z hj => by rw [Nat.zero_add]; exact cell_of_block (alloc_new w2 #[v'] 28 _ rfl) (by simpa using hj)))
                  have HOW := Lib.hid (owns_below HRW.out HBL.out)
                  obtain ⟨us9, -, hr9, -⟩ := hr
                  obtain ⟨gv9, hv9, -, -⟩ := hr9.shape
                  have hsz9 := Nat.le_trans HBR.out.size HBL.out.size
                  clear hr9 hb HRM c0 hgl
                  subst hv9
                  go_wp2_with (at_builtin; refine wpList_append_cells2 rfl (.tmp 156) (.tmp 159) 45 rfl WH.heap.size 28 (.slice none 0 0) 1 24 Try.underlying45 KxsTy.info rfl (by decide) _ k wsf rfl HOW.out (.slice (some ⟨w2.heap.size, 0, none⟩) 1 1) 1 [.slice (some ⟨gv9, 0, none⟩) zl.length (zl.length + 3)] rfl HCC.out rfl (by intro u hu; simp only [List.mem_singleton] at hu; subst hu; rfl) hsz9 (by unfold maxLen; omega) (by omega) ?_)
                  rintro wv' w3 hown3 hgr3
                  have HN := Lib.hid (HST.out _ _ _ _ HBL.out HRR.out hown3 hgr3)
                  obtain ⟨wa', wc', hwv'⟩ := owns_slice hown3
                  subst hwv'
                  clear hown3 hgr3 HBL HRR HCC HOW hsz9 HST HRW HBR
                  go_wp2
                  go_roundw
                  case rel => exact ⟨k + 1, _, by omega, by go_num, HN.out⟩
                  case measure => simp [intOf] <;> omega
                · obtain rfl : k = FA.length := by omega
                  obtain ⟨WI, hWI⟩ : ∃ WI, WI = wr := ⟨_, rfl⟩
                  rw [← hWI] at M ⊢
                  clear hWI hlt hk
                  have hbq := M.out.bel
                  replace HB := Lib.hid (bstep HB.out hbq)
                  replace K9 := Lib.hid (below_keep hbq K9.out)
                  replace K10 := Lib.hid (below_keep hbq K10.out)
                  replace RX := Lib.hid (RX.out.below hbq)
                  replace RY := Lib.hid (RY.out.below hbq)
                  replace KP := Lib.hid (below_keep hbq KP.out)
                  replace KQ := Lib.hid (below_keep hbq KQ.out)
                  replace FP := Lib.hid (FP.out.below hbq)
                  replace FQ := Lib.hid (FQ.out.below hbq)
                  replace HKS := Lib.hid (HKS.out.below hbq)
                  replace HFS := Lib.hid (HFS.out.below hbq)
                  replace HKR2 := Lib.hid (owns_below HKR2.out hbq)
                  replace HFR2 := Lib.hid (owns_below HFR2.out hbq)
                  replace HKE := Lib.hid (fun i h h' => (HKE.out i h h').below hbq)
                  replace HKW := Lib.hid (owns_below HKW.out hbq)
                  have TI := Lib.hid hbq.size
                  have HFE := Lib.hid M.out.each
                  have HFW := Lib.hid M.out.row
                  have HFL := Lib.hid M.out.len
                  clear hbq M
                  obtain ⟨-, usp, hfzp, hlp⟩ := FP.out
                  obtain ⟨-, usq, hfzq, hlq⟩ := FQ.out
                  have FZP := Lib.hid hfzp
                  have FZQ := Lib.hid hfzq
                  have HLP := Lib.hid hlp
                  have HLQ := Lib.hid hlq
                  have HGP := Lib.hid (fun q (h : fzS _ q) => (hfzp.rng h).1)
                  have HGQ := Lib.hid (fun q (h : fzS _ q) => (hfzq.rng h).1)
                  have KZX := Lib.hid (show KzOwn WI w1.heap.size ⟨.slice (some ⟨xu, 0, none⟩) a.vec.length (a.vec.length + 3), .slice (some ⟨xx, 0, none⟩) a.more.length (a.more.length + 3), a⟩ from RX.out.own)
                  have KZY := Lib.hid (show KzOwn WI w1.heap.size ⟨.slice (some ⟨yu, 0, none⟩) b.vec.length (b.vec.length + 3), .slice (some ⟨yx, 0, none⟩) b.more.length (b.more.length + 3), b⟩ from RY.out.own)
                  have SHY := Lib.hid (show ShRow WI 3 1 (.slice (some ⟨yu, 0, none⟩) b.vec.length (b.vec.length + 3)) ∧ ShRow WI 27 2 (.slice (some ⟨yx, 0, none⟩) b.more.length (b.more.length + 3)) from ⟨ShRow.of_owns KZY.out.vec, ShRow.of_owns KZY.out.more⟩)
                  clear hfzp hfzq hlp hlq RX RY FP FQ
                  have HSP := Lib.hid (Sp.refl (fun q => w1.heap.size ≤ q ∧ q < w4.heap.size) WI)
                  have HC := Lib.hid (wasteKnow_s _ _ WI (ShRow.of_owns KZX.out.vec) (ShRow.of_owns KZX.out.more))
                  have x0 := cell_of_block (j := 0) K9.out rfl
                  have x1 := cell_of_block (j := 1) K9.out rfl
                  have xl := hlt_of K9.out
                  go_wp2_with fail
                  (with_reducible refine (HC.out).mono ?_)
                  rintro e v1q ⟨rfl, hsq⟩
                  clear HC x0 x1 xl K9
                  have hsq : Sp (kzS ⟨.slice (some ⟨xu, 0, none⟩) a.vec.length (a.vec.length + 3), .slice (some ⟨xx, 0, none⟩) a.more.length (a.more.length + 3), a⟩) WI v1q := hsq
                  have hs0 : Sp (fun q => w1.heap.size ≤ q ∧ q < w4.heap.size) WI v1q := hsq.mono fun q hq => by have h1 := HRXY.out.1 q hq; have ht := HTT.out; omega
                  replace HSP := Lib.hid (HSP.out.trans hs0)
                  replace K10 := Lib.hid (hsq.block K10.out (Ko.blk_kz KZX.out K10.out (by decide) (by decide)))
                  replace KP := Lib.hid (hsq.block KP.out (Ko.blk_kz KZX.out KP.out (by decide) (by decide)))
                  replace KQ := Lib.hid (hsq.block KQ.out (Ko.blk_kz KZX.out KQ.out (by decide) (by decide)))
                  replace FZP := Lib.hid (FZP.out.sp hsq fun q hq hS => kz_fz KZX.out FZP.out hS hq)
                  replace FZQ := Lib.hid (FZQ.out.sp hsq fun q hq hS => kz_fz KZX.out FZQ.out hS hq)
                  replace SHY := Lib.hid (And.intro (SHY.out.1.sp hsq) (SHY.out.2.sp hsq))
                  clear hsq hs0
                  have HTY := Lib.hid (Ko.sh_type (k := b) SHY.out.1 SHY.out.2)
                  have HC := Lib.hid (wasteKnow_s _ _ v1q SHY.out.1 SHY.out.2)
                  have x0 := cell_of_block (j := 0) K10.out rfl
                  have x1 := cell_of_block (j := 1) K10.out rfl
                  have xl := hlt_of K10.out
                  go_wp2_with fail
                  (with_reducible refine (HC.out).mono ?_)
                  rintro e v2q ⟨rfl, hsq⟩
                  clear HC x0 x1 xl K10 SHY
                  have hsq : Sp (kzS ⟨.slice (some ⟨yu, 0, none⟩) b.vec.length (b.vec.length + 3), .slice (some ⟨yx, 0, none⟩) b.more.length (b.more.length + 3), b⟩) v1q v2q := hsq
                  have hs0 : Sp (fun q => w1.heap.size ≤ q ∧ q < w4.heap.size) v1q v2q := hsq.mono fun q hq => by have h1 := HRXY.out.2 q hq; have ht := HTT.out; omega
                  replace HSP := Lib.hid (HSP.out.trans hs0)
                  replace KP := Lib.hid (hsq.block KP.out (fun hq => (HTY.out _ hq).elim fun cs h1 => Ko.blk_type KP.out (by decide) (by decide) h1))
                  replace KQ := Lib.hid (hsq.block KQ.out (fun hq => (HTY.out _ hq).elim fun cs h1 => Ko.blk_type KQ.out (by decide) (by decide) h1))
                  replace FZP := Lib.hid (FZP.out.sp hsq fun q hq hS => (HTY.out q hS).elim fun cs h1 => Ko.fz_type FZP.out hq h1)
                  replace FZQ := Lib.hid (FZQ.out.sp hsq fun q hq hS => (HTY.out q hS).elim fun cs h1 => Ko.fz_type FZQ.out hq h1)
                  clear hsq hs0
                  clear HTY KZX KZY HRXY
                  have HC := Lib.hid (waste_s _ _ usp f v2q FZP.out ZF.out)
                  have x0 := cell_of_block (j := 0) KP.out rfl
                  have xl := hlt_of KP.out
                  go_wp2_with fail
                  (with_reducible refine (HC.out).mono ?_)
                  rintro e v3q ⟨rfl, hsq⟩
                  clear HC x0 xl KP
                  have hsq : Sp (fzS ⟨.slice (some ⟨gfp, 0, none⟩) f.length (f.length + 3), usp, f⟩) v2q v3q := hsq
                  have hs0 : Sp (fun q => w1.heap.size ≤ q ∧ q < w4.heap.size) v2q v3q := hsq.mono fun q hq => by have h1 := HLP.out q hq; have h2 := HGP.out q hq; have ht := HTT.out; have hm := HM.out; omega
                  replace HSP := Lib.hid (HSP.out.trans hs0)
                  replace KQ := Lib.hid (hsq.block KQ.out (Ko.blk_fz FZP.out KQ.out (by decide) (by decide)))
                  replace FZQ := Lib.hid (FZQ.out.sp hsq fun q hq hS => by have h1 := HLP.out q hS; have h2 := HGQ.out q hq; omega)
                  clear hsq hs0
                  have HC := Lib.hid (waste_s _ _ usq f v3q FZQ.out ZF.out)
                  have x0 := cell_of_block (j := 0) KQ.out rfl
                  have xl := hlt_of KQ.out
                  go_wp2_with fail
                  (with_reducible refine (HC.out).mono ?_)
                  rintro e v4q ⟨rfl, hsq⟩
                  clear HC x0 xl KQ
                  have hsq : Sp (fzS ⟨.slice (some ⟨gfq, 0, none⟩) f.length (f.length + 3), usq, f⟩) v3q v4q := hsq
                  have hs0 : Sp (fun q => w1.heap.size ≤ q ∧ q < w4.heap.size) v3q v4q := hsq.mono fun q hq => by have h1 := HLQ.out q hq; have h2 := HGQ.out q hq; have ht := HTT.out; have hm := HM.out; omega
                  replace HSP := Lib.hid (HSP.out.trans hs0)
                  clear hsq hs0
                  clear FZP FZQ HLP HLQ HGP HGQ
                  have HTZ := Lib.hid (show w.heap.size ≤ w1.heap.size ∧ w1.heap.size ≤ w4.heap.size ∧ w4.heap.size ≤ w9.heap.size ∧ w9.heap.size ≤ w13.heap.size ∧ w13.heap.size ≤ WG.heap.size ∧ WG.heap.size ≤ WH.heap.size by have ht := HTT.out; have hg := TG.out; have hh := TH.out; have hi := TI.out; exact ⟨by omega, by omega, by omega, by omega, by omega, by omega⟩)
                  have HKS2 := Lib.hid (HKS.out.sp HSP.out fun q h1 _ h3 => by have h4 := h3.2; omega)
                  have HFS2 := Lib.hid (HFS.out.sp HSP.out fun q h1 _ h3 => by have h4 := h3.2; omega)
                  have HKR3 := Lib.hid (owns_sp HKR2.out HSP.out fun q hq h3 => by have h4 := h3.2; have hz := HTZ.out; have := (HKR2.out.lt q hq).1; omega)
                  have HFR3 := Lib.hid (owns_sp HFR2.out HSP.out fun q hq h3 => by have h4 := h3.2; have hz := HTZ.out; have := (HFR2.out.lt q hq).1; omega)
                  have HKE2 := Lib.hid (fun i h h' => (HKE.out i h h').sp HSP.out fun q h1 h3 => by have h4 := h3.2; have hz := HTZ.out; omega)
                  have HFE2 := Lib.hid (fun i h h' => (HFE.out i h h').spr HSP.out fun q h1 h3 => by have h4 := h3.2; have hz := HTZ.out; omega)
                  have HKW2 := Lib.hid (owns_sp HKW.out HSP.out fun q hq h3 => by have h4 := h3.2; have hz := HTZ.out; have := (HKW.out.lt q hq).1; omega)
                  have HFW2 := Lib.hid (owns_sp HFW.out HSP.out fun q hq h3 => by have h4 := h3.2; have hz := HTZ.out; have := (HFW.out.lt q hq).1; omega)
                  have HB2 := Lib.hid (HB.out.trans (HSP.out.toBelow (base := w.heap.size) (fun q h => by have h4 := h.1; have hz := HTZ.out; omega) HB.out.size))
                  clear HKS HFS HKR2 HFR2 HKE HFE HKW HFW HB HSP TG TH TI HM HTT
                  go_wp2
                  go_loopw [178] (fun i wr => ∃ k : Nat, k ≤ KA.length ∧ i = .int .i64 k ∧ Sp (KS KA k) v4q wr) (fun i _ => KA.length - (intOf i).toNat)
                  case atStart => exact ⟨0, Nat.zero_le _, rfl, Sp.refl _ _⟩
                  case round =>
                    obtain ⟨k, hk, rfl, hb⟩ := hrel
                    have HS := Lib.hid hb
                    clear hb
                    have hzl := HLA.out
                    have HRNG := Lib.hid (fun q (h : KS KA k q) => KS.rng HKS2.out h)
                    by_cases hlt : k < KA.length
                    · have hltb : decide ((k : Int) < (KA.length : Int)) = true := by simp; omega
                      have hkw : k < ws.length := by rw [HKL.out]; exact hlt
                      have hltw : decide ((k : Int) < ((KA.length : Nat) : Int)) = true := hltb
                      obtain ⟨gk, ck, hwv, hgk1, hgk2⟩ := World.ownsRow.form HKR3.out (by omega)
                      simp only [Value.slice.injEq, true_and] at hwv
                      obtain ⟨rfl, rfl⟩ := hwv
                      obtain ⟨gw, cw, hwv, hgw1, hgw2⟩ := World.ownsRow.form HKW2.out (by omega)
                      simp only [Value.slice.injEq, true_and] at hwv
                      obtain ⟨rfl, rfl⟩ := hwv
                      obtain ⟨d0, d1⟩ := Ko.kz_get hlt
                      obtain ⟨y0, y1⟩ := two2_get hkw
                      have hkz := HKS2.out.still hlt HS.out
                      have hsz := HKS2.out.sz _ (List.getElem_mem hlt)
                      have hwk := (HKE2.out k hlt hkw).sp HS.out (fun q h1 h2 => by have := HRNG.out _ h2; have hz := HTZ.out; omega)
                      obtain ⟨u9a, u9c, e1⟩ := owns_slice hkz.vec
                      obtain ⟨x9a, x9c, e2⟩ := owns_slice hkz.more
                      obtain ⟨gu, f1, -, -⟩ := hwk.vec.shape
                      obtain ⟨gx, f2, -, -⟩ := hwk.more.shape
                      have c0 := HKR3.out.cells rfl _ _ d0
                      have c1 := HKR3.out.cells rfl _ _ d1
                      have c2 := HKW2.out.cells rfl _ _ y0
                      have c3 := HKW2.out.cells rfl _ _ y1
                      rw [Addr.add_lit, Nat.zero_add] at c0 c1 c2 c3
                      replace c0 := (HS.out.cell (p := ⟨gk, k * 2, none⟩) hgk2 (fun h => by have h1 := (HRNG.out gk h).2; have hz := HTZ.out; omega)).trans c0
                      replace c1 := (HS.out.cell (p := ⟨gk, k * 2 + 1, none⟩) hgk2 (fun h => by have h1 := (HRNG.out gk h).2; have hz := HTZ.out; omega)).trans c1
                      replace c2 := (HS.out.cell (p := ⟨gw, k * 2, none⟩) hgw2 (fun h => by have h1 := (HRNG.out gw h).2; have hz := HTZ.out; omega)).trans c2
                      replace c3 := (HS.out.cell (p := ⟨gw, k * 2 + 1, none⟩) hgw2 (fun h => by have h1 := (HRNG.out gw h).2; have hz := HTZ.out; omega)).trans c3
                      have hgl : gk < wr.heap.size := Nat.lt_of_lt_of_le hgk2 HS.out.size
                      have hgl2 : gw < wr.heap.size := Nat.lt_of_lt_of_le hgw2 HS.out.size
                      have HST := Lib.hid (fun w2 (h : Sp (kzS KA[k]) wr w2) => KS.step hlt HS.out h)
                      have HSH := Lib.hid (show ShRow wr 3 1 KA[k].u ∧ ShRow wr 27 2 KA[k].x from ⟨ShRow.of_owns hkz.vec, ShRow.of_owns hkz.more⟩)
                      have HSM := Lib.hid (fun wx (h : Below wr.heap.size wr wx) => sameK_c _ _ _ _ KA[k].k KA[k].k wx ((KnOwn.below hkz h).atZ hsz) ((hwk.below h).own.atZ hsz))
                      have HSS := Lib.hid (fun wx (h : Below wr.heap.size wr wx) => wasteKnow_s KA[k].u KA[k].x wx (HSH.out.1.sp (S := fun _ => False) (Sp.of_below h)) (HSH.out.2.sp (S := fun _ => False) (Sp.of_below h)))
                      have HSE := Lib.hid (fun w1 w2 (h1 : Below wr.heap.size wr w1) (h2 : Sp (fun q => KA[k].u.ownBlock = some q ∨ KA[k].x.ownBlock = some q) w1 w2) => HST.out w2 ((Sp.of_below h1).trans h2))
                      rw [e1] at c0 HSM HSS HSE
                      rw [e2] at c1 HSM HSS HSE
                      rw [f1] at c2 HSM
                      rw [f2] at c3 HSM
                      clear HST HSH hkz hsz hwk e1 e2 f1 f2 d0 d1 y0 y1
                      generalize KA[k].k = kk at *
                      obtain ⟨wq, hwq⟩ : ∃ wq, wq = wr.alloc (.cells #[.slice u9a kk.vec.length u9c, .slice x9a kk.more.length x9c] 25) := ⟨_, rfl⟩
                      have hbw : Below wr.heap.size wr wq := by rw [hwq]; exact bal _
                      have HKQ := Lib.hid (show wq.heap[wr.heap.size]? = some (.cells #[.slice u9a kk.vec.length u9c, .slice x9a kk.more.length x9c] 25 (0, 0)) by rw [hwq]; exact alloc_new _ _ _ _ rfl)
                      have D0 := Lib.hid (ckeep hbw c2)
                      have D1 := Lib.hid (ckeep hbw c3)
                      have R0 := Lib.hid (cell_of_block (j := 0) HKQ.out rfl)
                      have R1 := Lib.hid (cell_of_block (j := 1) HKQ.out rfl)
                      have HBW := Lib.hid hbw
                      clear hbw c2 c3
                      go_wp2_with fail
                      rw [← hwq]
                      clear hwq c0 c1
                      refine Cl.region0 210 rfl [] (fun _ => True) (fun _ => []) (fun jq v ww => match jq with | 0 => v = .agg #[.slice u9a kk.vec.length u9c, .slice x9a kk.more.length x9c] | 1 => v = .slice (some ⟨gw, 0, none⟩) KA.length wkc | 2 => v = .int .i64 k | 3 => v = .pointer (some ⟨gw, k * 2, none⟩) | 4 => v = .agg #[.slice (some ⟨gu, 0, none⟩) kk.vec.length (kk.vec.length + 3), .slice (some ⟨gx, 0, none⟩) kk.more.length (kk.more.length + 3)] | 5 => v = .bool true | 6 => v = .bool false | _ => True) (fun ww => Below wq.heap.size wq ww) (fun jq ww ww' => Below ww.heap.size ww ww') Try.mixed (by decide +kernel) (Below.refl _ _).drew trivial (fun q r v w w' _ _ _ h _ => h) (fun _ _ _ _ _ _ => trivial) ?_ ?_
                      · refine ⟨?_, ?_, ?_, ?_, ?_, ?_, ?_, trivial⟩
                        · intro x wx hG
                          have f34 := hG.old 34 (by decide +kernel)
                          have hg := hG.good
                          clear hG
                          have c_R0 := ckeep hg R0.out
                          have c_R1 := ckeep hg R1.out
                          go_wp2
                          exact ⟨_, rfl, rfl, hg, Below.refl _ _⟩
                        · intro x wx hG
                          have f27 := hG.old 27 (by decide +kernel)
                          have hg := hG.good
                          clear hG
                          go_wp2
                          exact ⟨_, rfl, rfl, hg, Below.refl _ _⟩
                        · intro x wx hG
                          have f33 := hG.old 33 (by decide +kernel)
                          have hg := hG.good
                          clear hG
                          go_wp2
                          exact ⟨_, rfl, rfl, hg, Below.refl _ _⟩
                        · intro x wx hG
                          have g1 : (x.tmps.getD 184 undef) = .slice (some ⟨gw, 0, none⟩) KA.length wkc := hG.claims 1 _ rfl (by decide +kernel) (by decide +kernel)
                          have g2 : (x.tmps.getD 185 undef) = .int .i64 k := hG.claims 2 _ rfl (by decide +kernel) (by decide +kernel)
                          have hg := hG.good
                          clear hG
                          go_wp2
                          exact ⟨_, rfl, rfl, hg, Below.refl _ _⟩
                        · intro x wx hG
                          have g3 : (x.tmps.getD 186 undef) = .pointer (some ⟨gw, k * 2, none⟩) := hG.claims 3 _ rfl (by decide +kernel) (by decide +kernel)
                          have hg := hG.good
                          clear hG
                          have c_D0 := ckeep hg D0.out
                          have c_D1 := ckeep hg D1.out
                          go_wp2
                          exact ⟨_, rfl, rfl, hg, Below.refl _ _⟩
                        · intro x wx hG
                          have g0 : (x.tmps.getD 183 undef) = .agg #[.slice u9a kk.vec.length u9c, .slice x9a kk.more.length x9c] := hG.claims 0 _ rfl (by decide +kernel) (by decide +kernel)
                          have g4 : (x.tmps.getD 187 undef) = .agg #[.slice (some ⟨gu, 0, none⟩) kk.vec.length (kk.vec.length + 3), .slice (some ⟨gx, 0, none⟩) kk.more.length (kk.more.length + 3)] := hG.claims 4 _ rfl (by decide +kernel) (by decide +kernel)
                          have hg := hG.good
                          clear hG
                          have HSQ := Lib.hid (HSM.out _ (bstep HBW.out hg))
                          go_wp2_with fail
                          (with_reducible refine (HSQ.out).mono ?_)
                          rintro e w9 ⟨rfl, hb⟩
                          simp only [decide_true]
                          have HB9 := Lib.hid hb
                          have HG9 := Lib.hid hg
                          clear hb hg HSQ
                          go_wp2
                          exact ⟨_, rfl, rfl, bstep HG9.out HB9.out, HB9.out⟩
                        · intro x wx hG
                          have g5 : (x.tmps.getD 188 undef) = .bool true := hG.claims 5 _ rfl (by decide +kernel) (by decide +kernel)
                          have hg := hG.good
                          clear hG
                          go_wp2
                          exact ⟨_, rfl, rfl, hg, Below.refl _ _⟩
                      · intro vals w5x hg hF
                        obtain ⟨g0, g1, g2, g3, g4, g5, g6, -⟩ := hF
                        have e0 : vals 0 = .agg #[.slice u9a kk.vec.length u9c, .slice x9a kk.more.length x9c] := g0 rfl
                        have e1 : vals 1 = .slice (some ⟨gw, 0, none⟩) KA.length wkc := g1 rfl
                        have e2 : vals 2 = .int .i64 k := g2 rfl
                        have e3 : vals 3 = .pointer (some ⟨gw, k * 2, none⟩) := g3 rfl
                        have e4 : vals 4 = .agg #[.slice (some ⟨gu, 0, none⟩) kk.vec.length (kk.vec.length + 3), .slice (some ⟨gx, 0, none⟩) kk.more.length (kk.more.length + 3)] := g4 rfl
                        have e5 : vals 5 = .bool true := g5 rfl
                        have e6 : vals 6 = .bool false := g6 rfl
                        simp only [Cl.puts, e0, e1, e2, e3, e4, e5, e6]
                        clear e0 e1 e2 e3 e4 e5 e6 g0 g1 g2 g3 g4 g5 g6
                        go_simp
                        have HRR := Lib.hid (cell_of_block (j := 0) (below_keep hg HKQ.out) rfl)
                        have hk0 := cell_of_block (j := 0) (below_keep hg HKQ.out) rfl
                        have hk1 := cell_of_block (j := 1) (below_keep hg HKQ.out) rfl
                        have HWC := Lib.hid (HSS.out _ (bstep2 HBW.out hg))
                        have HB3 := Lib.hid (bstep2 HBW.out hg)
                        clear hg HSM HSS HRR R0 R1 D0 D1
                        go_wp2_with fail
                        (with_reducible refine (HWC.out).mono ?_)
                        rintro e w3x ⟨rfl, hs3⟩
                        have HN := Lib.hid (HSE.out _ w3x HB3.out hs3)
                        clear hs3 HWC HSE HB3 hk0 hk1 HKQ HBW hgl hgl2
                        go_wp2
                        go_roundw
                        case rel => exact ⟨k + 1, by omega, by go_num, HN.out⟩
                        case measure => simp [intOf] <;> omega
                    · obtain rfl : k = KA.length := by omega
                      obtain ⟨WJ, hWJ⟩ : ∃ WJ, WJ = wr := ⟨_, rfl⟩
                      rw [← hWJ] at HS ⊢
                      clear hWJ hlt hk
                      have HFS3 := Lib.hid (HFS2.out.past HKS2.out HS.out)
                      have HFR4 := Lib.hid (owns_sp HFR3.out HS.out fun q hq h => by have := HRNG.out _ h; have hz := HTZ.out; have := (HFR3.out.lt q hq).1; omega)
                      have HFE3 := Lib.hid (fun i h h' => (HFE2.out i h h').spr HS.out fun q h1 h2 => by have := HRNG.out _ h2; have hz := HTZ.out; omega)
                      have HFW3 := Lib.hid (owns_sp HFW2.out HS.out fun q hq h => by have := HRNG.out _ h; have hz := HTZ.out; have := (HFW2.out.lt q hq).1; omega)
                      have HB3 := Lib.hid (HB2.out.trans (HS.out.toBelow (base := w.heap.size) (fun q h => by have := HRNG.out _ h; have hz := HTZ.out; omega) HB2.out.size))
                      clear HFS2 HFR3 HFE2 HFW2 HB2 HS HRNG HKS2 HKR3 HKE2 HKW2
                      go_wp2
                      go_loopw [195] (fun i wr => ∃ k : Nat, k ≤ FA.length ∧ i = .int .i64 k ∧ Sp (FS FA k) WJ wr) (fun i _ => FA.length - (intOf i).toNat)
                      case atStart => exact ⟨0, Nat.zero_le _, rfl, Sp.refl _ _⟩
                      case round =>
                        obtain ⟨k, hk, rfl, hb⟩ := hrel
                        have HS := Lib.hid hb
                        clear hb
                        have hzl2 := HLF.out
                        have HRNG := Lib.hid (fun q (h : FS FA k q) => FS.rng HFS3.out h)
                        by_cases hlt : k < FA.length
                        · have hltb : decide ((k : Int) < (FA.length : Int)) = true := by simp; omega
                          have hkw : k < wsf.length := by rw [HFL.out]; exact hlt
                          obtain ⟨gk, ck, hwv, hgk1, hgk2⟩ := World.ownsRow.form HFR4.out (by omega)
                          simp only [Value.slice.injEq, true_and] at hwv
                          obtain ⟨rfl, rfl⟩ := hwv
                          obtain ⟨gw, cw, hwv, hgw1, hgw2⟩ := World.ownsRow.form HFW3.out (by omega)
                          simp only [Value.slice.injEq, true_and] at hwv
                          obtain ⟨rfl, rfl⟩ := hwv
                          have hkz := HFS3.out.still hlt HS.out
                          have hsz := HFS3.out.sz _ (List.getElem_mem hlt)
                          have hwk := ((HFE3.out k hlt hkw).spr HS.out (fun q h1 h2 => by have := HRNG.out _ h2; have hz := HTZ.out; omega)).at_ hsz.l hsz.s
                          obtain ⟨u9a, u9c, e1⟩ := hkz.shape
                          obtain ⟨gu, gc9, f1⟩ := hwk.shape
                          have c0 := HFR4.out.cells rfl _ _ (Ko.fz_get hlt)
                          have c2 := HFW3.out.cells rfl _ _ (List.getElem?_eq_getElem hkw)
                          rw [Addr.add_lit, Nat.zero_add] at c0 c2
                          replace c0 := (HS.out.cell (p := ⟨gk, k, none⟩) hgk2 (fun h => by have h1 := (HRNG.out gk h).2; have hz := HTZ.out; omega)).trans c0
                          replace c2 := (HS.out.cell (p := ⟨gw, k, none⟩) hgw2 (fun h => by have h1 := (HRNG.out gw h).2; have hz := HTZ.out; omega)).trans c2
                          have hgl : gk < wr.heap.size := Nat.lt_of_lt_of_le hgk2 HS.out.size
                          have hgl2 : gw < wr.heap.size := Nat.lt_of_lt_of_le hgw2 HS.out.size
                          have HSM := Lib.hid (sameFil_c _ _ FA[k].l FA[k].l wr (hkz.at_ hsz) hwk)
                          have HSS := Lib.hid (fun w2 (hb : Below wr.heap.size wr w2) => waste_s FA[k].v _ FA[k].us FA[k].l w2 (hkz.below hb) hsz)
                          have HST := Lib.hid (fun w1 w2 (hb : Below wr.heap.size wr w1) (h : Sp (fzS ⟨FA[k].v, FA[k].us, FA[k].l⟩) w1 w2) => FS.step hlt HS.out ((Sp.of_below hb).trans h))
                          rw [e1] at c0 HSM HSS HST
                          rw [f1] at c2 HSM
                          clear hkz hsz hwk e1 f1
                          generalize FA[k].l = zl at *
                          go_wp2_with fail
                          (with_reducible refine (HSM.out).mono ?_)
                          rintro e w2 ⟨q, rfl, hq, hb2⟩
                          obtain rfl : q = true := by simpa using hq
                          have HWC := Lib.hid (HSS.out w2 hb2)
                          have HB4 := Lib.hid hb2
                          clear hq hb2 HSM HSS c0 c2 hgl hgl2
                          go_wp2_with fail
                          (with_reducible refine (HWC.out).mono ?_)
                          rintro e w3x ⟨rfl, hs3⟩
                          have HN := Lib.hid (HST.out _ w3x HB4.out hs3)
                          clear hs3 HWC HST HB4
                          go_wp2
                          go_roundw
                          case rel => exact ⟨k + 1, by omega, by go_num, HN.out⟩
                          case measure => simp [intOf] <;> omega
                        · obtain rfl : k = FA.length := by omega
                          have HBF := Lib.hid (HB3.out.trans (HS.out.toBelow (base := w.heap.size) (fun q h => by have := HRNG.out _ h; have hz := HTZ.out; omega) HB3.out.size))
                          clear HS HRNG
                          go_wp2
                          go_ret
                          exact ⟨rfl, HBF.out⟩
end Go.Proofs.Ytboakoipdfmpcaa
