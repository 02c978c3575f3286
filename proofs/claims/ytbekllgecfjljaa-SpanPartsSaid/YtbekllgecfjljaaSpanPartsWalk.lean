/- The walk of SpanParts: it returns true, whatever the words are. Written by a small program (gen/span.py). -/
import Derived.Test.YtbekllgecfjljaaSpanLaw0
namespace Go.Proofs.Ytbekllgecfjljaa
open Go.RowKit
set_option maxRecDepth 100000 in
set_option maxHeartbeats 2000000 in
theorem SpanParts_walk (a b : Int) (ha : 0 ≤ a ∧ a < 4294967296) (hb : 0 ≤ b ∧ b < 4294967296) (w : World) :
    Calls Try.prog 11 #[.int .u32 a, .int .u32 b] w fun e w' => e = .returned (.bool true) ∧ Below w.heap.size w w' := by
  have hbel := Below.refl w.heap.size w
  go_enter Try.func11, Try.ntmps11
  go_wp2_with fail
  (with_reducible refine (spanCount_c _ [(1, 3), (9, 10)] _ (lit2 _ _ _ _ _ _ _ rfl)).mono ?_)
  rintro e w1 ⟨rfl, hb⟩
  replace hb := ba1 hb
  replace hbel := bstep hbel hb
  clear hb
  rw [show spanCount [(1, 3), (9, 10)] = 3 from by decide, show spansChk [(1, 3), (9, 10)] = 0 from by decide]
  go_wp2_with fail
  (with_reducible refine (spansM a ha _).mono ?_)
  rintro e w2 ⟨x, rfl, sx, hb⟩
  replace hbel := bstep hbel hb
  clear hb
  go_wp2_with fail
  (with_reducible refine (spansM b hb _).mono ?_)
  rintro e w3 ⟨y, rfl, sy, hb⟩
  replace sx := sx.below hb
  replace hbel := bstep hbel hb
  clear hb
  go_wp2_with fail
  (with_reducible refine (meetM _ _ _ _ _ sx sy).mono ?_)
  rintro e w4 ⟨v4, rfl, xm, hb⟩
  replace sx := sx.below hb
  replace sy := sy.below hb
  replace hbel := bstep hbel hb
  clear hb
  go_wp2_with fail
  (with_reducible refine (lessM _ _ _ _ _ sx sy).mono ?_)
  rintro e w5 ⟨v5, rfl, xl, hb⟩
  replace sx := sx.below hb
  replace sy := sy.below hb
  replace xm := xm.below hb
  replace hbel := bstep hbel hb
  clear hb
  go_wp2_with fail
  (with_reducible refine (joinM _ _ _ _ _ xm xl).mono ?_)
  rintro e w6 ⟨v6, rfl, xj, hb⟩
  replace sx := sx.below hb
  replace sy := sy.below hb
  replace xm := xm.below hb
  replace xl := xl.below hb
  replace hbel := bstep hbel hb
  clear hb
  go_wp2_with fail
  (with_reducible refine (meetM _ _ _ _ _ xm xl).mono ?_)
  rintro e w7 ⟨v7, rfl, xn, hb⟩
  replace sx := sx.below hb
  replace sy := sy.below hb
  replace xm := xm.below hb
  replace xl := xl.below hb
  replace xj := xj.below hb
  replace hbel := bstep hbel hb
  clear hb
  go_wp2_with fail
  (with_reducible refine (countM _ _ _ xm).mono ?_)
  rintro e w8 ⟨rfl, hb⟩
  replace sx := sx.below hb
  replace sy := sy.below hb
  replace xm := xm.below hb
  replace xl := xl.below hb
  replace xj := xj.below hb
  replace xn := xn.below hb
  replace hbel := bstep hbel hb
  clear hb
  go_wp2_with fail
  (with_reducible refine (countM _ _ _ xl).mono ?_)
  rintro e w9 ⟨rfl, hb⟩
  replace sx := sx.below hb
  replace sy := sy.below hb
  replace xm := xm.below hb
  replace xl := xl.below hb
  replace xj := xj.below hb
  replace xn := xn.below hb
  replace hbel := bstep hbel hb
  clear hb
  go_wp2_with fail
  (with_reducible refine (countM _ _ _ sx).mono ?_)
  rintro e w10 ⟨rfl, hb⟩
  replace sx := sx.below hb
  replace sy := sy.below hb
  replace xm := xm.below hb
  replace xl := xl.below hb
  replace xj := xj.below hb
  replace xn := xn.below hb
  replace hbel := bstep hbel hb
  clear hb
  go_wp2_with fail
  refine wp_loop_rounds 8 ?_
  iterate 7 (rw [rounds_succ]; go_wp2_with fail)
  rw [rounds_succ]
  go_wp2_with fail
  (with_reducible refine (eqM _ _ _ _ _ (xj.below (bal _)) (sx.below (bal _)) (fun n _ => by cases bitOf a n <;> cases bitOf b n <;> simp)).mono ?_)
  rintro e w11 ⟨rfl, hb⟩
  replace hb := ba1 hb
  replace sx := sx.below hb
  replace sy := sy.below hb
  replace xm := xm.below hb
  replace xl := xl.below hb
  replace xj := xj.below hb
  replace xn := xn.below hb
  replace hbel := bstep hbel hb
  clear hb
  have he : make (fun n => (bitOf a n && bitOf b n) && (bitOf a n && !bitOf b n)) = [] := (make_ext fun n _ => by cases bitOf a n <;> cases bitOf b n <;> simp).trans (show make (fun _ => false) = [] by decide)
  obtain ⟨xa, xc, rfl⟩ := xn.shape
  have hl := Lib.hid (show ((make (fun n => (bitOf a n && bitOf b n) && (bitOf a n && !bitOf b n))).length = 0) by rw [he]; rfl)
  rw [hl.out]
  have hs := cnt_parts (bitOf a) (bitOf b) 32
  have h1 := cnt_bd (fun n => bitOf a n && bitOf b n) 32
  have h2 := cnt_bd (fun n => bitOf a n && !bitOf b n) 32
  obtain ⟨h1, h1u⟩ := h1
  obtain ⟨h2, h2u⟩ := h2
  generalize cnt (fun n => bitOf a n && bitOf b n) 32 = c1 at *
  generalize cnt (fun n => bitOf a n && !bitOf b n) 32 = c2 at *
  rw [← hs]
  clear hs
  clear he xj xm xl xn sx sy
  go_wp2
  go_ret
  exact ⟨rfl, hbel⟩
end Go.Proofs.Ytbekllgecfjljaa
