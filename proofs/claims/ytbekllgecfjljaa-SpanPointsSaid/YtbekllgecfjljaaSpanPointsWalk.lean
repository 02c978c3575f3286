/- The walk of SpanPoints: it returns true, whatever the words are. Written by a small program (gen/span.py). -/
import Derived.Test.YtbekllgecfjljaaSpanLaw0
namespace Go.Proofs.Ytbekllgecfjljaa
open Go.RowKit
set_option maxRecDepth 100000 in
set_option maxHeartbeats 2000000 in
theorem SpanPoints_walk (a b n : Int) (ha : 0 ≤ a ∧ a < 4294967296) (hb : 0 ≤ b ∧ b < 4294967296) (w : World) :
    Calls Try.prog 7 #[.int .u32 a, .int .u32 b, .int .i64 n] w fun e w' => e = .returned (.bool true) ∧ Below w.heap.size w w' := by
  have hbel := Below.refl w.heap.size w
  go_enter Try.func7, Try.ntmps7
  have hn := Lib.hid (range_cases n)
  go_wp2_with fail
  (with_reducible refine (spanHas_c _ [(1, 3)] _ _ (lit0 _ _ _ _ _ rfl)).mono ?_)
  rintro e w1 ⟨rfl, hb⟩
  replace hb := ba1 hb
  replace hbel := bstep hbel hb
  clear hb
  rw [show spanHas [(1, 3)] 2 = true from by decide, show spansChk [(1, 3)] = 0 from by decide]
  go_wp2_with fail
  (with_reducible refine (spansM a ha _).mono ?_)
  rintro e w2 ⟨x, rfl, sx, hb⟩
  replace hbel := bstep hbel hb
  clear hb
  go_wp2_with fail
  (with_reducible refine (spansM b hb _).mono ?_)
  rintro e w3 ⟨y, rfl, sy, hb⟩
  replace sx := sx.below hb
  replace hbel := bstep hbel hb
  clear hb
  go_wp2_with fail
  (with_reducible refine (joinM _ _ _ _ _ sx sy).mono ?_)
  rintro e w4 ⟨v4, rfl, xj, hb⟩
  replace sx := sx.below hb
  replace sy := sy.below hb
  replace hbel := bstep hbel hb
  clear hb
  go_wp2_with fail
  (with_reducible refine (meetM _ _ _ _ _ sx sy).mono ?_)
  rintro e w5 ⟨v5, rfl, xm, hb⟩
  replace sx := sx.below hb
  replace sy := sy.below hb
  replace xj := xj.below hb
  replace hbel := bstep hbel hb
  clear hb
  go_wp2_with fail
  (with_reducible refine (lessM _ _ _ _ _ sx sy).mono ?_)
  rintro e w6 ⟨v6, rfl, xl, hb⟩
  replace sx := sx.below hb
  replace sy := sy.below hb
  replace xj := xj.below hb
  replace xm := xm.below hb
  replace hbel := bstep hbel hb
  clear hb
  go_wp2_with fail
  (with_reducible refine (hasM _ _ _ _ sx).mono ?_)
  rintro e w7 ⟨rfl, hb⟩
  replace sx := sx.below hb
  replace sy := sy.below hb
  replace xj := xj.below hb
  replace xm := xm.below hb
  replace xl := xl.below hb
  replace hbel := bstep hbel hb
  clear hb
  go_wp2_with fail
  (with_reducible refine (hasM _ _ _ _ sy).mono ?_)
  rintro e w8 ⟨rfl, hb⟩
  replace sx := sx.below hb
  replace sy := sy.below hb
  replace xj := xj.below hb
  replace xm := xm.below hb
  replace xl := xl.below hb
  replace hbel := bstep hbel hb
  clear hb
  go_wp2_with fail
  (with_reducible refine (hasM _ _ _ _ xj).mono ?_)
  rintro e w9 ⟨rfl, hb⟩
  replace sx := sx.below hb
  replace sy := sy.below hb
  replace xj := xj.below hb
  replace xm := xm.below hb
  replace xl := xl.below hb
  replace hbel := bstep hbel hb
  clear hb
  go_wp2_with fail
  (with_reducible refine (hasM _ _ _ _ xm).mono ?_)
  rintro e w10 ⟨rfl, hb⟩
  replace sx := sx.below hb
  replace sy := sy.below hb
  replace xj := xj.below hb
  replace xm := xm.below hb
  replace xl := xl.below hb
  replace hbel := bstep hbel hb
  clear hb
  go_wp2_with fail
  (with_reducible refine (hasM _ _ _ _ xl).mono ?_)
  rintro e w11 ⟨rfl, hb⟩
  replace sx := sx.below hb
  replace sy := sy.below hb
  replace xj := xj.below hb
  replace xm := xm.below hb
  replace xl := xl.below hb
  replace hbel := bstep hbel hb
  clear hb
  go_wp2_with fail
  refine wp_loop_rounds 9 ?_
  iterate 8 (rw [rounds_succ]; go_wp2_with fail)
  simp only [atI]
  generalize bitOf a n.toNat = P
  generalize bitOf b n.toNat = Q
  rcases hn.out with ⟨hr, h0, h1⟩ | hr
  all_goals rw [hr]
  all_goals clear hr hn
  all_goals cases P
  all_goals cases Q
  all_goals rw [rounds_succ]
  all_goals go_wp2
  all_goals go_ret
  all_goals exact ⟨rfl, hbel.alloc hbel.size _⟩
end Go.Proofs.Ytbekllgecfjljaa
