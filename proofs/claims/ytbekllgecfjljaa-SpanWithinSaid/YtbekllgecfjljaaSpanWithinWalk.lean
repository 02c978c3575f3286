/- The walk of SpanWithin: it returns true, whatever the words are. Written by a small program (gen/span.py). -/
import Derived.Test.YtbekllgecfjljaaSpanLaw0
namespace Go.Proofs.Ytbekllgecfjljaa
open Go.RowKit
set_option maxRecDepth 100000 in
set_option maxHeartbeats 2000000 in
theorem SpanWithin_walk (a b c : Int) (ha : 0 ≤ a ∧ a < 4294967296) (hb : 0 ≤ b ∧ b < 4294967296) (hc : 0 ≤ c ∧ c < 4294967296) (w : World) :
    Calls Try.prog 9 #[.int .u32 a, .int .u32 b, .int .u32 c] w fun e w' => e = .returned (.bool true) ∧ Below w.heap.size w w' := by
  have hbel := Below.refl w.heap.size w
  go_enter Try.func9, Try.ntmps9
  go_wp2_with fail
  (with_reducible refine (spanWithin_c _ _ [(2, 3)] [(1, 4)] _ (lit1 _ _ _ _ _ _ (by simp)) (lit0 _ _ _ _ _ (by simp))).mono ?_)
  rintro e w1 ⟨rfl, hb⟩
  replace hb := ba2 hb
  replace hbel := bstep hbel hb
  clear hb
  rw [show spanWithin [(2, 3)] [(1, 4)] = true from by decide, show two [(2, 3)] [(1, 4)] = 0 from by decide]
  go_wp2_with fail
  (with_reducible refine (spansM a ha _).mono ?_)
  rintro e w2 ⟨x, rfl, sx, hb⟩
  replace hbel := bstep hbel hb
  clear hb
  go_wp2_with fail
  (with_reducible refine (spansM b hb _).mono ?_)
  rintro e w3 ⟨y, rfl, sy, hb⟩
  replace sx := sx.below hb
  replace hbel := bstep hbel hb
  clear hb
  go_wp2_with fail
  (with_reducible refine (spansM c hc _).mono ?_)
  rintro e w4 ⟨z, rfl, sz, hb⟩
  replace sx := sx.below hb
  replace sy := sy.below hb
  replace hbel := bstep hbel hb
  clear hb
  go_wp2_with fail
  (with_reducible refine (withinM _ _ _ _ _ sx sy).mono ?_)
  rintro e w5 ⟨rfl, hb⟩
  replace sx := sx.below hb
  replace sy := sy.below hb
  replace sz := sz.below hb
  replace hbel := bstep hbel hb
  clear hb
  go_wp2_with fail
  (with_reducible refine (withinM _ _ _ _ _ sy sz).mono ?_)
  rintro e w6 ⟨rfl, hb⟩
  replace sx := sx.below hb
  replace sy := sy.below hb
  replace sz := sz.below hb
  replace hbel := bstep hbel hb
  clear hb
  go_wp2_with fail
  (with_reducible refine (withinM _ _ _ _ _ sx sz).mono ?_)
  rintro e w7 ⟨rfl, hb⟩
  replace sx := sx.below hb
  replace sy := sy.below hb
  replace sz := sz.below hb
  replace hbel := bstep hbel hb
  clear hb
  go_wp2_with fail
  (with_reducible refine (withinM _ _ _ _ _ sy sx).mono ?_)
  rintro e w8 ⟨rfl, hb⟩
  replace sx := sx.below hb
  replace sy := sy.below hb
  replace sz := sz.below hb
  replace hbel := bstep hbel hb
  clear hb
  go_wp2_with fail
  (with_reducible refine (joinM _ _ _ _ _ sx sy).mono ?_)
  rintro e w9 ⟨v9, rfl, xj, hb⟩
  replace sx := sx.below hb
  replace sy := sy.below hb
  replace sz := sz.below hb
  replace hbel := bstep hbel hb
  clear hb
  obtain ⟨k1, k2, k3⟩ := within_key (bitOf a) (bitOf b) (bitOf c)
  generalize (allB fun n => !bitOf a n || bitOf b n) = B1 at *
  generalize (allB fun n => !bitOf b n || bitOf c n) = B2 at *
  generalize (allB fun n => !bitOf a n || bitOf c n) = B3 at *
  generalize (allB fun n => !bitOf b n || bitOf a n) = B4 at *
  have K2 := Lib.hid k2
  have K3 := Lib.hid k3
  clear k2 k3
  cases B1 <;> cases B2 <;> cases B3 <;> first | (exfalso; simp at k1; done) | skip
  all_goals clear k1
  all_goals cases B4
  all_goals go_wp2_with fail
  all_goals refine (eqB _ _ _ _ _ sx sy).mono ?_
  all_goals rintro e w20 ⟨rfl, hb⟩
  all_goals rw [K2.out]
  all_goals replace sx := sx.below hb
  all_goals replace sy := sy.below hb
  all_goals replace xj := xj.below hb
  all_goals replace hbel := bstep hbel hb
  all_goals clear hb
  all_goals go_wp2_with fail
  all_goals refine (eqB _ _ _ _ _ xj sy).mono ?_
  all_goals rintro e w21 ⟨rfl, hb⟩
  all_goals rw [K3.out]
  all_goals replace hbel := bstep hbel hb
  all_goals clear hb sx sy xj
  all_goals go_wp2
  all_goals go_ret
  all_goals exact ⟨rfl, hbel⟩
end Go.Proofs.Ytbekllgecfjljaa
