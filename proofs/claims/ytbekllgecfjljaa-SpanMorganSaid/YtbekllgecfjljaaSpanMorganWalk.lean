/- The walk of SpanMorgan: it returns true, whatever the words are. Written by a small program (gen/span.py). -/
import Derived.Test.YtbekllgecfjljaaSpanLaw0
namespace Go.Proofs.Ytbekllgecfjljaa
open Go.RowKit
set_option maxRecDepth 100000 in
set_option maxHeartbeats 2000000 in
theorem SpanMorgan_walk (a b : Int) (ha : 0 ≤ a ∧ a < 4294967296) (hb : 0 ≤ b ∧ b < 4294967296) (w : World) :
    Calls Try.prog 10 #[.int .u32 a, .int .u32 b] w fun e w' => e = .returned (.bool true) ∧ Below w.heap.size w w' := by
  have hbel := Below.refl w.heap.size w
  go_enter Try.func10, Try.ntmps10
  go_wp2_with fail
  (with_reducible refine (everyM _).mono ?_)
  rintro e w1 ⟨v1, rfl, se, hb⟩
  replace hbel := bstep hbel hb
  clear hb
  go_wp2_with fail
  (with_reducible refine (less_c _ _ (make fun _ => true) [(1, 31)] _ (se.below (bal _)) (lit0 _ _ _ _ _ rfl)).mono ?_)
  rintro e w2 ⟨v2, rfl, ho, hb⟩
  replace hb := ba1 hb
  replace se := se.below hb
  replace hbel := bstep hbel hb
  clear hb
  have s0 : SpansAt _ _ (spanLess (make fun _ => true) [(1, 31)]) := CellsAt.of_owns ho (by decide)
  rw [show two (make fun _ => true) [(1, 31)] = 0 from by decide]
  clear ho
  go_wp2_with fail
  (with_reducible refine (eqSpans_c _ _ (spanLess (make fun _ => true) [(1, 31)]) [(0, 1), (31, 32)] _ (SpansAt.below s0 (bal _)) (lit2 _ _ _ _ _ _ _ rfl)).mono ?_)
  rintro e w3 ⟨rfl, hb⟩
  replace hb := ba1 hb
  replace se := se.below hb
  replace hbel := bstep hbel hb
  clear hb
  clear s0
  rw [show (spanLess (make fun _ => true) [(1, 31)] == [(0, 1), (31, 32)]) = true from by decide]
  clear se
  go_wp2_with fail
  (with_reducible refine (spansM a ha _).mono ?_)
  rintro e w4 ⟨x, rfl, sx, hb⟩
  replace hbel := bstep hbel hb
  clear hb
  go_wp2_with fail
  (with_reducible refine (spansM b hb _).mono ?_)
  rintro e w5 ⟨y, rfl, sy, hb⟩
  replace sx := sx.below hb
  replace hbel := bstep hbel hb
  clear hb
  go_wp2_with fail
  (with_reducible refine (meetM _ _ _ _ _ sx sy).mono ?_)
  rintro e w6 ⟨v6, rfl, xm, hb⟩
  replace sx := sx.below hb
  replace sy := sy.below hb
  replace hbel := bstep hbel hb
  clear hb
  go_wp2_with fail
  (with_reducible refine (everyM _).mono ?_)
  rintro e w7 ⟨v7, rfl, se, hb⟩
  replace sx := sx.below hb
  replace sy := sy.below hb
  replace xm := xm.below hb
  replace hbel := bstep hbel hb
  clear hb
  go_wp2_with fail
  (with_reducible refine (lessM _ _ _ _ _ se xm).mono ?_)
  rintro e w8 ⟨v8, rfl, nm, hb⟩
  replace sx := sx.below hb
  replace sy := sy.below hb
  replace xm := xm.below hb
  replace se := se.below hb
  replace hbel := bstep hbel hb
  clear hb
  clear se
  go_wp2_with fail
  (with_reducible refine (everyM _).mono ?_)
  rintro e w9 ⟨v9, rfl, se, hb⟩
  replace sx := sx.below hb
  replace sy := sy.below hb
  replace xm := xm.below hb
  replace nm := nm.below hb
  replace hbel := bstep hbel hb
  clear hb
  go_wp2_with fail
  (with_reducible refine (lessM _ _ _ _ _ se sx).mono ?_)
  rintro e w10 ⟨v10, rfl, nx, hb⟩
  replace sx := sx.below hb
  replace sy := sy.below hb
  replace xm := xm.below hb
  replace nm := nm.below hb
  replace se := se.below hb
  replace hbel := bstep hbel hb
  clear hb
  clear se
  go_wp2_with fail
  (with_reducible refine (everyM _).mono ?_)
  rintro e w11 ⟨v11, rfl, se, hb⟩
  replace sx := sx.below hb
  replace sy := sy.below hb
  replace xm := xm.below hb
  replace nm := nm.below hb
  replace nx := nx.below hb
  replace hbel := bstep hbel hb
  clear hb
  go_wp2_with fail
  (with_reducible refine (lessM _ _ _ _ _ se sy).mono ?_)
  rintro e w12 ⟨v12, rfl, ny, hb⟩
  replace sx := sx.below hb
  replace sy := sy.below hb
  replace xm := xm.below hb
  replace nm := nm.below hb
  replace nx := nx.below hb
  replace se := se.below hb
  replace hbel := bstep hbel hb
  clear hb
  clear se
  go_wp2_with fail
  (with_reducible refine (joinM _ _ _ _ _ nx ny).mono ?_)
  rintro e w13 ⟨v13, rfl, xj, hb⟩
  replace sx := sx.below hb
  replace sy := sy.below hb
  replace xm := xm.below hb
  replace nm := nm.below hb
  replace nx := nx.below hb
  replace ny := ny.below hb
  replace hbel := bstep hbel hb
  clear hb
  go_wp2_with fail
  (with_reducible refine (everyM _).mono ?_)
  rintro e w14 ⟨v14, rfl, se, hb⟩
  replace sx := sx.below hb
  replace sy := sy.below hb
  replace xm := xm.below hb
  replace nm := nm.below hb
  replace nx := nx.below hb
  replace ny := ny.below hb
  replace xj := xj.below hb
  replace hbel := bstep hbel hb
  clear hb
  go_wp2_with fail
  (with_reducible refine (lessM _ _ _ _ _ se nx).mono ?_)
  rintro e w15 ⟨v15, rfl, back, hb⟩
  replace sx := sx.below hb
  replace sy := sy.below hb
  replace xm := xm.below hb
  replace nm := nm.below hb
  replace nx := nx.below hb
  replace ny := ny.below hb
  replace xj := xj.below hb
  replace se := se.below hb
  replace hbel := bstep hbel hb
  clear hb
  clear se
  go_wp2_with fail
  (with_reducible refine (lessM _ _ _ _ _ sx sy).mono ?_)
  rintro e w16 ⟨v16, rfl, xd, hb⟩
  replace sx := sx.below hb
  replace sy := sy.below hb
  replace xm := xm.below hb
  replace nm := nm.below hb
  replace nx := nx.below hb
  replace ny := ny.below hb
  replace xj := xj.below hb
  replace back := back.below hb
  replace hbel := bstep hbel hb
  clear hb
  go_wp2_with fail
  (with_reducible refine (meetM _ _ _ _ _ sx ny).mono ?_)
  rintro e w17 ⟨v17, rfl, dm, hb⟩
  replace sx := sx.below hb
  replace sy := sy.below hb
  replace xm := xm.below hb
  replace nm := nm.below hb
  replace nx := nx.below hb
  replace ny := ny.below hb
  replace xj := xj.below hb
  replace back := back.below hb
  replace xd := xd.below hb
  replace hbel := bstep hbel hb
  clear hb
  go_wp2_with fail
  (with_reducible refine (joinM _ _ _ _ _ sx sy).mono ?_)
  rintro e w18 ⟨v18, rfl, xo, hb⟩
  replace sx := sx.below hb
  replace sy := sy.below hb
  replace xm := xm.below hb
  replace nm := nm.below hb
  replace nx := nx.below hb
  replace ny := ny.below hb
  replace xj := xj.below hb
  replace back := back.below hb
  replace xd := xd.below hb
  replace dm := dm.below hb
  replace hbel := bstep hbel hb
  clear hb
  go_wp2_with fail
  refine wp_loop_rounds 10 ?_
  iterate 9 (rw [rounds_succ]; go_wp2_with fail)
  rw [rounds_succ]
  go_wp2_with fail
  (with_reducible refine (countM _ _ _ (sx.below (bal _))).mono ?_)
  rintro e w19 ⟨rfl, hb⟩
  replace hb := ba1 hb
  replace sx := sx.below hb
  replace sy := sy.below hb
  replace xm := xm.below hb
  replace nm := nm.below hb
  replace nx := nx.below hb
  replace ny := ny.below hb
  replace xj := xj.below hb
  replace back := back.below hb
  replace xd := xd.below hb
  replace dm := dm.below hb
  replace xo := xo.below hb
  replace hbel := bstep hbel hb
  clear hb
  go_wp2_with fail
  (with_reducible refine (countM _ _ _ sy).mono ?_)
  rintro e w20 ⟨rfl, hb⟩
  replace sx := sx.below hb
  replace sy := sy.below hb
  replace xm := xm.below hb
  replace nm := nm.below hb
  replace nx := nx.below hb
  replace ny := ny.below hb
  replace xj := xj.below hb
  replace back := back.below hb
  replace xd := xd.below hb
  replace dm := dm.below hb
  replace xo := xo.below hb
  replace hbel := bstep hbel hb
  clear hb
  go_wp2_with fail
  (with_reducible refine (countM _ _ _ xo).mono ?_)
  rintro e w21 ⟨rfl, hb⟩
  replace sx := sx.below hb
  replace sy := sy.below hb
  replace xm := xm.below hb
  replace nm := nm.below hb
  replace nx := nx.below hb
  replace ny := ny.below hb
  replace xj := xj.below hb
  replace back := back.below hb
  replace xd := xd.below hb
  replace dm := dm.below hb
  replace xo := xo.below hb
  replace hbel := bstep hbel hb
  clear hb
  go_wp2_with fail
  (with_reducible refine (countM _ _ _ xm).mono ?_)
  rintro e w22 ⟨rfl, hb⟩
  replace sx := sx.below hb
  replace sy := sy.below hb
  replace xm := xm.below hb
  replace nm := nm.below hb
  replace nx := nx.below hb
  replace ny := ny.below hb
  replace xj := xj.below hb
  replace back := back.below hb
  replace xd := xd.below hb
  replace dm := dm.below hb
  replace xo := xo.below hb
  replace hbel := bstep hbel hb
  clear hb
  have hs := cnt_both (bitOf a) (bitOf b) 32
  have h1 := cnt_bd (bitOf a) 32
  have h2 := cnt_bd (bitOf b) 32
  have h3 := cnt_bd (fun n => bitOf a n || bitOf b n) 32
  have h4 := cnt_bd (fun n => bitOf a n && bitOf b n) 32
  obtain ⟨h1, h1u⟩ := h1
  obtain ⟨h2, h2u⟩ := h2
  obtain ⟨h3, h3u⟩ := h3
  obtain ⟨h4, h4u⟩ := h4
  generalize cnt (bitOf a) 32 = c1 at *
  generalize cnt (bitOf b) 32 = c2 at *
  generalize cnt (fun n => bitOf a n || bitOf b n) 32 = c3 at *
  generalize cnt (fun n => bitOf a n && bitOf b n) 32 = c4 at *
  obtain rfl : c1 = c3 + c4 - c2 := by omega
  clear hs
  go_wp2_with fail
  (with_reducible refine (eqM _ _ _ _ _ nm xj (fun n _ => by cases bitOf a n <;> cases bitOf b n <;> simp)).mono ?_)
  rintro e w23 ⟨rfl, hb⟩
  replace sx := sx.below hb
  replace sy := sy.below hb
  replace xm := xm.below hb
  replace nm := nm.below hb
  replace nx := nx.below hb
  replace ny := ny.below hb
  replace xj := xj.below hb
  replace back := back.below hb
  replace xd := xd.below hb
  replace dm := dm.below hb
  replace xo := xo.below hb
  replace hbel := bstep hbel hb
  clear hb
  go_wp2_with fail
  (with_reducible refine (eqM _ _ _ _ _ back sx (fun n _ => by cases bitOf a n <;> cases bitOf b n <;> simp)).mono ?_)
  rintro e w24 ⟨rfl, hb⟩
  replace sx := sx.below hb
  replace sy := sy.below hb
  replace xm := xm.below hb
  replace nm := nm.below hb
  replace nx := nx.below hb
  replace ny := ny.below hb
  replace xj := xj.below hb
  replace back := back.below hb
  replace xd := xd.below hb
  replace dm := dm.below hb
  replace xo := xo.below hb
  replace hbel := bstep hbel hb
  clear hb
  go_wp2_with fail
  (with_reducible refine (eqM _ _ _ _ _ xd dm (fun n _ => by cases bitOf a n <;> cases bitOf b n <;> simp)).mono ?_)
  rintro e w25 ⟨rfl, hb⟩
  replace sx := sx.below hb
  replace sy := sy.below hb
  replace xm := xm.below hb
  replace nm := nm.below hb
  replace nx := nx.below hb
  replace ny := ny.below hb
  replace xj := xj.below hb
  replace back := back.below hb
  replace xd := xd.below hb
  replace dm := dm.below hb
  replace xo := xo.below hb
  replace hbel := bstep hbel hb
  clear hb
  clear sx sy xm nm nx ny xj back xd dm xo
  go_wp2
  go_ret
  exact ⟨rfl, hbel⟩
end Go.Proofs.Ytbekllgecfjljaa
