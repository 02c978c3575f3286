import Derived.Test.YtbekllgecfjljaaSpanLaw0
namespace Go.Proofs.Ytbekllgecfjljaa
open Go.RowKit
theorem lit0 (w : World) (a b : Int) (t : TypeId) (n : Nat) (hn : n = w.heap.size) : SpansAt (w.alloc (.cells #[.int .i64 a, .int .i64 b] t)) (.slice (some ⟨n, 0, none⟩) 1 1) [(a, b)] := by
  subst hn; exact CellsAt.of_owns (World.ownsRow_lit (base := 0) (size := 2) w #[.int .i64 a, .int .i64 b] 1 (by omega) (by decide) rfl) (by simp)
theorem lit1 (w : World) (a b : Int) (t : TypeId) (o : Obj) (n : Nat) (hn : n = w.heap.size) : SpansAt ((w.alloc (.cells #[.int .i64 a, .int .i64 b] t)).alloc o) (.slice (some ⟨n, 0, none⟩) 1 1) [(a, b)] :=
  (lit0 w a b t n hn).below ((Below.refl _ _).alloc (Nat.le_refl _) _)

set_option maxRecDepth 100000 in
set_option maxHeartbeats 2000000 in
theorem SpanBoole_walk (a b c : Int) (ha : 0 ≤ a ∧ a < 4294967296) (hb : 0 ≤ b ∧ b < 4294967296) (hc : 0 ≤ c ∧ c < 4294967296) (w : World) :
    Calls Try.prog 6 #[.int .u32 a, .int .u32 b, .int .u32 c] w fun e w' => e = .returned (.bool true) ∧ Below w.heap.size w w' := by
  have hbel := Below.refl w.heap.size w
  go_enter Try.func6, Try.ntmps6
  go_wp2_with fail
  (with_reducible refine (meet_c _ _ [(1, 4)] [(2, 9)] _ (lit1 _ _ _ _ _ _ (by simp)) (lit0 _ _ _ _ _ (by simp))).mono ?_)
  rintro e w1 ⟨v1, rfl, ho, hb⟩
  replace hb := ba2 hb
  replace hbel := bstep hbel hb
  clear hb
  have s0 : SpansAt _ _ (spanMeet [(1, 4)] [(2, 9)]) := CellsAt.of_owns ho (by decide)
  rw [show two [(1, 4)] [(2, 9)] = 0 from by decide]
  clear ho
  go_wp2_with fail
  (with_reducible refine (eqSpans_c _ _ (spanMeet [(1, 4)] [(2, 9)]) [(2, 4)] _ (SpansAt.below s0 ((Below.refl _ _).alloc (Nat.le_refl _) _)) (lit0 _ _ _ _ _ (by simp))).mono ?_)
  rintro e w2 ⟨rfl, hb⟩
  replace hb := ba1 hb
  replace hbel := bstep hbel hb
  clear hb
  clear s0
  rw [show (spanMeet [(1, 4)] [(2, 9)] == [(2, 4)]) = true from by decide]
  go_wp2_with fail
  (with_reducible refine (spansM a ha _).mono ?_)
  rintro e w3 ⟨x, rfl, sx, hb⟩
  replace hbel := bstep hbel hb
  clear hb
  go_wp2_with fail
  (with_reducible refine (spansM b hb _).mono ?_)
  rintro e w4 ⟨y, rfl, sy, hb⟩
  replace sx := sx.below hb
  replace hbel := bstep hbel hb
  clear hb
  go_wp2_with fail
  (with_reducible refine (spansM c hc _).mono ?_)
  rintro e w5 ⟨z, rfl, sz, hb⟩
  replace sx := sx.below hb
  replace sy := sy.below hb
  replace hbel := bstep hbel hb
  clear hb
  go_wp2_with fail
  (with_reducible refine (joinM _ _ _ _ _ sx sy).mono ?_)
  rintro e w6 ⟨v6, rfl, xy, hb⟩
  replace sx := sx.below hb
  replace sy := sy.below hb
  replace sz := sz.below hb
  replace hbel := bstep hbel hb
  clear hb
  go_wp2_with fail
  (with_reducible refine (joinM _ _ _ _ _ sy sx).mono ?_)
  rintro e w7 ⟨v7, rfl, yx, hb⟩
  replace sx := sx.below hb
  replace sy := sy.below hb
  replace sz := sz.below hb
  replace xy := xy.below hb
  replace hbel := bstep hbel hb
  clear hb
  go_wp2_with fail
  (with_reducible refine (joinM _ _ _ _ _ xy sz).mono ?_)
  rintro e w8 ⟨v8, rfl, l, hb⟩
  replace sx := sx.below hb
  replace sy := sy.below hb
  replace sz := sz.below hb
  replace xy := xy.below hb
  replace yx := yx.below hb
  replace hbel := bstep hbel hb
  clear hb
  go_wp2_with fail
  (with_reducible refine (joinM _ _ _ _ _ sy sz).mono ?_)
  rintro e w9 ⟨v9, rfl, yz, hb⟩
  replace sx := sx.below hb
  replace sy := sy.below hb
  replace sz := sz.below hb
  replace xy := xy.below hb
  replace yx := yx.below hb
  replace l := l.below hb
  replace hbel := bstep hbel hb
  clear hb
  go_wp2_with fail
  (with_reducible refine (joinM _ _ _ _ _ sx yz).mono ?_)
  rintro e w10 ⟨v10, rfl, r, hb⟩
  replace sx := sx.below hb
  replace sy := sy.below hb
  replace sz := sz.below hb
  replace xy := xy.below hb
  replace yx := yx.below hb
  replace l := l.below hb
  replace yz := yz.below hb
  replace hbel := bstep hbel hb
  clear hb
  go_wp2_with fail
  (with_reducible refine (meetM _ _ _ _ _ sx yz).mono ?_)
  rintro e w11 ⟨v11, rfl, p, hb⟩
  replace sx := sx.below hb
  replace sy := sy.below hb
  replace sz := sz.below hb
  replace xy := xy.below hb
  replace yx := yx.below hb
  replace l := l.below hb
  replace yz := yz.below hb
  replace r := r.below hb
  replace hbel := bstep hbel hb
  clear hb
  go_wp2_with fail
  (with_reducible refine (meetM _ _ _ _ _ sx sy).mono ?_)
  rintro e w12 ⟨v12, rfl, q1, hb⟩
  replace sx := sx.below hb
  replace sy := sy.below hb
  replace sz := sz.below hb
  replace xy := xy.below hb
  replace yx := yx.below hb
  replace l := l.below hb
  replace yz := yz.below hb
  replace r := r.below hb
  replace p := p.below hb
  replace hbel := bstep hbel hb
  clear hb
  go_wp2_with fail
  (with_reducible refine (meetM _ _ _ _ _ sx sz).mono ?_)
  rintro e w13 ⟨v13, rfl, q2, hb⟩
  replace sx := sx.below hb
  replace sy := sy.below hb
  replace sz := sz.below hb
  replace xy := xy.below hb
  replace yx := yx.below hb
  replace l := l.below hb
  replace yz := yz.below hb
  replace r := r.below hb
  replace p := p.below hb
  replace q1 := q1.below hb
  replace hbel := bstep hbel hb
  clear hb
  go_wp2_with fail
  (with_reducible refine (joinM _ _ _ _ _ q1 q2).mono ?_)
  rintro e w14 ⟨v14, rfl, q, hb⟩
  replace sx := sx.below hb
  replace sy := sy.below hb
  replace sz := sz.below hb
  replace xy := xy.below hb
  replace yx := yx.below hb
  replace l := l.below hb
  replace yz := yz.below hb
  replace r := r.below hb
  replace p := p.below hb
  replace q1 := q1.below hb
  replace q2 := q2.below hb
  replace hbel := bstep hbel hb
  clear hb
  go_wp2_with fail
  (with_reducible refine (joinM _ _ _ _ _ sx q1).mono ?_)
  rintro e w15 ⟨v15, rfl, u, hb⟩
  replace sx := sx.below hb
  replace sy := sy.below hb
  replace sz := sz.below hb
  replace xy := xy.below hb
  replace yx := yx.below hb
  replace l := l.below hb
  replace yz := yz.below hb
  replace r := r.below hb
  replace p := p.below hb
  replace q1 := q1.below hb
  replace q2 := q2.below hb
  replace q := q.below hb
  replace hbel := bstep hbel hb
  clear hb
  go_wp2_with fail
  (with_reducible refine (meetM _ _ _ _ _ sx xy).mono ?_)
  rintro e w16 ⟨v16, rfl, v, hb⟩
  replace sx := sx.below hb
  replace sy := sy.below hb
  replace sz := sz.below hb
  replace xy := xy.below hb
  replace yx := yx.below hb
  replace l := l.below hb
  replace yz := yz.below hb
  replace r := r.below hb
  replace p := p.below hb
  replace q1 := q1.below hb
  replace q2 := q2.below hb
  replace q := q.below hb
  replace u := u.below hb
  replace hbel := bstep hbel hb
  clear hb
  go_wp2_with fail
  (with_reducible refine (joinM _ _ _ _ _ sx sx).mono ?_)
  rintro e w17 ⟨v17, rfl, ww, hb⟩
  replace sx := sx.below hb
  replace sy := sy.below hb
  replace sz := sz.below hb
  replace xy := xy.below hb
  replace yx := yx.below hb
  replace l := l.below hb
  replace yz := yz.below hb
  replace r := r.below hb
  replace p := p.below hb
  replace q1 := q1.below hb
  replace q2 := q2.below hb
  replace q := q.below hb
  replace u := u.below hb
  replace v := v.below hb
  replace hbel := bstep hbel hb
  clear hb
  go_wp2_with fail
  refine wp_loop_rounds 13 ?_
  repeat any_goals (rw [rounds_succ]; go_wp2_with fail)
  (with_reducible refine (eqM _ _ _ _ _ (xy.below (bal _)) (yx.below (bal _)) (fun n _ => Bool.or_comm _ _)).mono ?_)
  rintro e w18 ⟨rfl, hb⟩
  replace hb := ba1 hb
  replace sx := sx.below hb
  replace sy := sy.below hb
  replace sz := sz.below hb
  replace xy := xy.below hb
  replace yx := yx.below hb
  replace l := l.below hb
  replace yz := yz.below hb
  replace r := r.below hb
  replace p := p.below hb
  replace q1 := q1.below hb
  replace q2 := q2.below hb
  replace q := q.below hb
  replace u := u.below hb
  replace v := v.below hb
  replace ww := ww.below hb
  replace hbel := bstep hbel hb
  clear hb
  go_wp2_with fail
  (with_reducible refine (eqM _ _ _ _ _ l r (fun n _ => Bool.or_assoc _ _ _)).mono ?_)
  rintro e w19 ⟨rfl, hb⟩
  replace sx := sx.below hb
  replace sy := sy.below hb
  replace sz := sz.below hb
  replace xy := xy.below hb
  replace yx := yx.below hb
  replace l := l.below hb
  replace yz := yz.below hb
  replace r := r.below hb
  replace p := p.below hb
  replace q1 := q1.below hb
  replace q2 := q2.below hb
  replace q := q.below hb
  replace u := u.below hb
  replace v := v.below hb
  replace ww := ww.below hb
  replace hbel := bstep hbel hb
  clear hb
  go_wp2_with fail
  (with_reducible refine (eqM _ _ _ _ _ p q (fun n _ => Bool.and_or_distrib_left _ _ _)).mono ?_)
  rintro e w20 ⟨rfl, hb⟩
  replace sx := sx.below hb
  replace sy := sy.below hb
  replace sz := sz.below hb
  replace xy := xy.below hb
  replace yx := yx.below hb
  replace l := l.below hb
  replace yz := yz.below hb
  replace r := r.below hb
  replace p := p.below hb
  replace q1 := q1.below hb
  replace q2 := q2.below hb
  replace q := q.below hb
  replace u := u.below hb
  replace v := v.below hb
  replace ww := ww.below hb
  replace hbel := bstep hbel hb
  clear hb
  go_wp2_with fail
  (with_reducible refine (eqM _ _ _ _ _ u sx (fun n _ => by cases bitOf a n <;> simp)).mono ?_)
  rintro e w21 ⟨rfl, hb⟩
  replace sx := sx.below hb
  replace sy := sy.below hb
  replace sz := sz.below hb
  replace xy := xy.below hb
  replace yx := yx.below hb
  replace l := l.below hb
  replace yz := yz.below hb
  replace r := r.below hb
  replace p := p.below hb
  replace q1 := q1.below hb
  replace q2 := q2.below hb
  replace q := q.below hb
  replace u := u.below hb
  replace v := v.below hb
  replace ww := ww.below hb
  replace hbel := bstep hbel hb
  clear hb
  go_wp2_with fail
  (with_reducible refine (eqM _ _ _ _ _ v sx (fun n _ => by cases bitOf a n <;> simp)).mono ?_)
  rintro e w22 ⟨rfl, hb⟩
  replace sx := sx.below hb
  replace sy := sy.below hb
  replace sz := sz.below hb
  replace xy := xy.below hb
  replace yx := yx.below hb
  replace l := l.below hb
  replace yz := yz.below hb
  replace r := r.below hb
  replace p := p.below hb
  replace q1 := q1.below hb
  replace q2 := q2.below hb
  replace q := q.below hb
  replace u := u.below hb
  replace v := v.below hb
  replace ww := ww.below hb
  replace hbel := bstep hbel hb
  clear hb
  go_wp2_with fail
  (with_reducible refine (eqM _ _ _ _ _ ww sx (fun n _ => Bool.or_self _)).mono ?_)
  rintro e w23 ⟨rfl, hb⟩
  replace sx := sx.below hb
  replace sy := sy.below hb
  replace sz := sz.below hb
  replace xy := xy.below hb
  replace yx := yx.below hb
  replace l := l.below hb
  replace yz := yz.below hb
  replace r := r.below hb
  replace p := p.below hb
  replace q1 := q1.below hb
  replace q2 := q2.below hb
  replace q := q.below hb
  replace u := u.below hb
  replace v := v.below hb
  replace ww := ww.below hb
  replace hbel := bstep hbel hb
  clear hb
  go_wp2
  go_ret
  exact ⟨rfl, hbel⟩
end Go.Proofs.Ytbekllgecfjljaa
