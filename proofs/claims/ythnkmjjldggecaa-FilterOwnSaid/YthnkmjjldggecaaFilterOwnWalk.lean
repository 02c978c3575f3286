/- What FilterOwn does: it returns true. Written by a small program (gen/fown.py). -/
import Derived.Test.YthnkmjjldggecaaFilterOwn0
import Derived.Test.YthnkmjjldggecaaNodeEq
import Derived.Test.YthnkmjjldggecaaNodeClone
import Derived.Test.YthnkmjjldggecaaMFilter4
import Derived.Test.YthnkmjjldggecaaFormOf
import Derived.Test.YthnkmjjldggecaaSpanOfC
import Derived.Test.YthnkmjjldggecaaKnow7
import Derived.Deep.AppendLies
namespace Go.Proofs.Ythnkmjjldggecaa
open Go.RowKit
theorem ofL_len (f : Bxs) : (ofL f).length ≤ 30 := by
  unfold ofL
  split
  · rename_i h
    unfold ofE at h
    split at h
    · split at h
      · exact absurd h (by decide)
      · omega
    · rename_i h1; exact absurd h h1
  · simp
theorem ofSL_len (l : List Int) : (ofSL l).length ≤ 16 := by
  unfold ofSL
  split
  · exact (spansChk_bounds (make_chk _)).1
  · simp
set_option maxRecDepth 100000 in
set_option maxHeartbeats 16000000 in
theorem FilterOwn_walk (fv gv nv mv : Value) (f g : Bxs) (nums : List Int) (l : Nds) (w : World) (hf : BxsAt w fv f) (hg : BxsAt w gv g) (hn : IsAt w nv nums) (hm : NdsAt w mv l) (zf : SzF f) (zg : SzF g) (sn : nums.length * 8 ≤ 140737488355328) (sm : l.length * 24 ≤ 140737488355328) :
    Calls Try.prog 3 #[fv, gv, nv, mv] w fun e w' => e = .returned (.bool true) ∧ Below w.heap.size w w' := by
  obtain ⟨fa, fc, rfl⟩ := hf.shape
  obtain ⟨ga, gc, rfl⟩ := hg.shape
  obtain ⟨na, nc, rfl⟩ := hn.shape
  obtain ⟨ma, mc, rfl⟩ := CellsAt.shape hm
  have HF := Lib.hid hf
  have HG := Lib.hid hg
  have HN0 := Lib.hid hn
  have HM0 := Lib.hid hm
  have ZF := Lib.hid zf
  have ZG := Lib.hid zg
  have SN := Lib.hid sn
  have SM := Lib.hid sm
  have HB := Lib.hid (Below.refl w.heap.size w)
  clear hf hg hn hm zf zg sn sm
  go_enter Try.func3, Try.ntmps3
  have HC := Lib.hid (filterBegun_c w)
  go_wp2_with fail
  (with_reducible refine (HC.out).mono ?_)
  rintro e w1 ⟨rfl, hbq⟩
  clear HC
  replace HF := Lib.hid (HF.out.below hbq)
  replace HG := Lib.hid (HG.out.below hbq)
  replace HN0 := Lib.hid (HN0.out.below hbq)
  replace HM0 := Lib.hid (HM0.out.below hbq)
  replace HB := Lib.hid (bstep HB.out hbq)
  have T1 := Lib.hid hbq.size
  clear hbq
  have HC := Lib.hid (room_c _ f w1 HF.out ZF.out)
  go_wp2_with fail
  (with_reducible refine (HC.out).mono ?_)
  rintro e w2 ⟨xv, rfl, hx, hbq⟩
  clear HC
  replace HF := Lib.hid (HF.out.below hbq)
  replace HG := Lib.hid (HG.out.below hbq)
  replace HN0 := Lib.hid (HN0.out.below hbq)
  replace HM0 := Lib.hid (HM0.out.below hbq)
  replace HB := Lib.hid (bstep HB.out hbq)
  have T2 := Lib.hid hbq.size
  have HX := Lib.hid hx
  have HXO := Lib.hid (OwnF.of_own hx.own)
  clear hx
  clear hbq
  have HC := Lib.hid (room_c _ g w2 HG.out ZG.out)
  go_wp2_with fail
  (with_reducible refine (HC.out).mono ?_)
  rintro e w3 ⟨yv, rfl, hx, hbq⟩
  clear HC
  replace HF := Lib.hid (HF.out.below hbq)
  replace HG := Lib.hid (HG.out.below hbq)
  replace HN0 := Lib.hid (HN0.out.below hbq)
  replace HM0 := Lib.hid (HM0.out.below hbq)
  replace HX := Lib.hid (HX.out.below hbq)
  replace HXO := Lib.hid (HXO.out.below hbq)
  replace HB := Lib.hid (bstep HB.out hbq)
  have T3 := Lib.hid hbq.size
  have HY := Lib.hid hx
  have HYO := Lib.hid (OwnF.of_own hx.own)
  clear hx
  clear hbq
  have HC := Lib.hid (roomy_int _ nums.length (intsC nums) (-7) w3 HN0.out (by rw [intsC_length, Nat.mul_one]) (intsC_one _) SN.out)
  go_wp2_with fail
  (with_reducible refine (HC.out).mono ?_)
  rintro e w4 ⟨n1, rfl, hx, hbq⟩
  clear HC
  replace HF := Lib.hid (HF.out.below hbq)
  replace HG := Lib.hid (HG.out.below hbq)
  replace HN0 := Lib.hid (HN0.out.below hbq)
  replace HM0 := Lib.hid (HM0.out.below hbq)
  replace HX := Lib.hid (HX.out.below hbq)
  replace HXO := Lib.hid (HXO.out.below hbq)
  replace HY := Lib.hid (HY.out.below hbq)
  replace HYO := Lib.hid (HYO.out.below hbq)
  replace HB := Lib.hid (bstep HB.out hbq)
  have T4 := Lib.hid hbq.size
  have HN := Lib.hid hx
  have HNO := Lib.hid (OwnR.of_own hx.owns)
  clear hx
  clear hbq
  have HC := Lib.hid (roomy_node _ l.length (ndCells l) (-7) 0 0 w4 HM0.out (ndCells_length _) (ndCells_one _) SM.out)
  go_wp2_with fail
  (with_reducible refine (HC.out).mono ?_)
  rintro e w5 ⟨m1, rfl, hx, hbq⟩
  clear HC
  replace HF := Lib.hid (HF.out.below hbq)
  replace HG := Lib.hid (HG.out.below hbq)
  replace HN0 := Lib.hid (HN0.out.below hbq)
  replace HM0 := Lib.hid (HM0.out.below hbq)
  replace HX := Lib.hid (HX.out.below hbq)
  replace HXO := Lib.hid (HXO.out.below hbq)
  replace HY := Lib.hid (HY.out.below hbq)
  replace HYO := Lib.hid (HYO.out.below hbq)
  replace HN := Lib.hid (HN.out.below hbq)
  replace HNO := Lib.hid (HNO.out.below hbq)
  replace HB := Lib.hid (bstep HB.out hbq)
  have T5 := Lib.hid hbq.size
  have HM := Lib.hid hx
  have HMO := Lib.hid (OwnR.of_own hx.owns)
  clear hx
  clear hbq
  have hzf := ZF.out.l
  have hzg := ZG.out.l
  obtain ⟨xa, xc, rfl⟩ := (HX.out.at_ ZF.out.l ZF.out.s).shape
  obtain ⟨ya, yc, rfl⟩ := (HY.out.at_ ZG.out.l ZG.out.s).shape
  obtain ⟨n2, n3, rfl⟩ := owns_slice HN.out.owns
  obtain ⟨m2, m3, rfl⟩ := owns_slice HM.out.owns
  have HC := Lib.hid (joinf_c _ _ f g w5 (HX.out.at_ ZF.out.l ZF.out.s) (HY.out.at_ ZG.out.l ZG.out.s))
  go_wp2_with fail
  (with_reducible refine (HC.out).mono ?_)
  rintro e w6 ⟨av, rfl, hx, hbq⟩
  clear HC
  replace HF := Lib.hid (HF.out.below hbq)
  replace HG := Lib.hid (HG.out.below hbq)
  replace HN0 := Lib.hid (HN0.out.below hbq)
  replace HM0 := Lib.hid (HM0.out.below hbq)
  replace HX := Lib.hid (HX.out.below hbq)
  replace HXO := Lib.hid (HXO.out.below hbq)
  replace HY := Lib.hid (HY.out.below hbq)
  replace HYO := Lib.hid (HYO.out.below hbq)
  replace HN := Lib.hid (HN.out.below hbq)
  replace HNO := Lib.hid (HNO.out.below hbq)
  replace HM := Lib.hid (HM.out.below hbq)
  replace HMO := Lib.hid (HMO.out.below hbq)
  replace HB := Lib.hid (bstep HB.out hbq)
  have T6 := Lib.hid hbq.size
  obtain ⟨la, q1, q2⟩ := hx.any
  have Ha := Lib.hid q1
  have Za := Lib.hid q2
  clear q1 q2 hx
  obtain ⟨sa, ta, rfl⟩ := Ha.out.shape
  clear hbq
  have HC := Lib.hid (meetf_c _ _ f g w6 (HX.out.at_ ZF.out.l ZF.out.s) (HY.out.at_ ZG.out.l ZG.out.s))
  go_wp2_with fail
  (with_reducible refine (HC.out).mono ?_)
  rintro e w7 ⟨bv, rfl, hx, hbq⟩
  clear HC
  replace HF := Lib.hid (HF.out.below hbq)
  replace HG := Lib.hid (HG.out.below hbq)
  replace HN0 := Lib.hid (HN0.out.below hbq)
  replace HM0 := Lib.hid (HM0.out.below hbq)
  replace HX := Lib.hid (HX.out.below hbq)
  replace HXO := Lib.hid (HXO.out.below hbq)
  replace HY := Lib.hid (HY.out.below hbq)
  replace HYO := Lib.hid (HYO.out.below hbq)
  replace HN := Lib.hid (HN.out.below hbq)
  replace HNO := Lib.hid (HNO.out.below hbq)
  replace HM := Lib.hid (HM.out.below hbq)
  replace HMO := Lib.hid (HMO.out.below hbq)
  replace Ha := Lib.hid (Ha.out.below hbq)
  replace HB := Lib.hid (bstep HB.out hbq)
  have T7 := Lib.hid hbq.size
  obtain ⟨lb, q1, q2⟩ := hx.any
  have Hb := Lib.hid q1
  have Zb := Lib.hid q2
  clear q1 q2 hx
  obtain ⟨sb, tb, rfl⟩ := Hb.out.shape
  clear hbq
  have HC := Lib.hid (lessf_c _ _ f g w7 (HX.out.at_ ZF.out.l ZF.out.s) (HY.out.at_ ZG.out.l ZG.out.s))
  go_wp2_with fail
  (with_reducible refine (HC.out).mono ?_)
  rintro e w8 ⟨cv, rfl, hx, hbq⟩
  clear HC
  replace HF := Lib.hid (HF.out.below hbq)
  replace HG := Lib.hid (HG.out.below hbq)
  replace HN0 := Lib.hid (HN0.out.below hbq)
  replace HM0 := Lib.hid (HM0.out.below hbq)
  replace HX := Lib.hid (HX.out.below hbq)
  replace HXO := Lib.hid (HXO.out.below hbq)
  replace HY := Lib.hid (HY.out.below hbq)
  replace HYO := Lib.hid (HYO.out.below hbq)
  replace HN := Lib.hid (HN.out.below hbq)
  replace HNO := Lib.hid (HNO.out.below hbq)
  replace HM := Lib.hid (HM.out.below hbq)
  replace HMO := Lib.hid (HMO.out.below hbq)
  replace Ha := Lib.hid (Ha.out.below hbq)
  replace Hb := Lib.hid (Hb.out.below hbq)
  replace HB := Lib.hid (bstep HB.out hbq)
  have T8 := Lib.hid hbq.size
  obtain ⟨lc, q1, q2⟩ := hx.any
  have Hc := Lib.hid q1
  have Zc := Lib.hid q2
  clear q1 q2 hx
  obtain ⟨sc, tc, rfl⟩ := Hc.out.shape
  clear hbq
  have HC := Lib.hid (formFilter_c _ l w8 (CellsAt.of_owns HM.out.owns (by have := SM.out; omega)))
  go_wp2_with fail
  (with_reducible refine (HC.out).mono ?_)
  rintro e w9 ⟨dv, rfl, hx, hy, hbq⟩
  clear HC
  replace HF := Lib.hid (HF.out.below hbq)
  replace HG := Lib.hid (HG.out.below hbq)
  replace HN0 := Lib.hid (HN0.out.below hbq)
  replace HM0 := Lib.hid (HM0.out.below hbq)
  replace HX := Lib.hid (HX.out.below hbq)
  replace HXO := Lib.hid (HXO.out.below hbq)
  replace HY := Lib.hid (HY.out.below hbq)
  replace HYO := Lib.hid (HYO.out.below hbq)
  replace HN := Lib.hid (HN.out.below hbq)
  replace HNO := Lib.hid (HNO.out.below hbq)
  replace HM := Lib.hid (HM.out.below hbq)
  replace HMO := Lib.hid (HMO.out.below hbq)
  replace Ha := Lib.hid (Ha.out.below hbq)
  replace Hb := Lib.hid (Hb.out.below hbq)
  replace Hc := Lib.hid (Hc.out.below hbq)
  replace HB := Lib.hid (bstep HB.out hbq)
  have T9 := Lib.hid hbq.size
  have hz : ∃ ld, OwnF w9 w8.heap.size w9.heap.size dv ld ∧ SzF ld := by
    by_cases hq : formChk l = 0
    · exact (hx hq).any
    · rw [hy hq]; exact ⟨[], OwnF.nil _ _ _, SzF.nil⟩
  obtain ⟨ld, q1, q2⟩ := hz
  have Hd := Lib.hid q1
  have Zd := Lib.hid q2
  clear q1 q2 hx hy
  obtain ⟨sd, td, rfl⟩ := Hd.out.shape
  clear hbq
  have HC := Lib.hid (formOf_c _ f w9 (HX.out.at_ ZF.out.l ZF.out.s))
  go_wp2_with fail
  (with_reducible refine (HC.out).mono ?_)
  rintro e w10 ⟨ov, rfl, hx, hy, hbq⟩
  clear HC
  replace HF := Lib.hid (HF.out.below hbq)
  replace HG := Lib.hid (HG.out.below hbq)
  replace HN0 := Lib.hid (HN0.out.below hbq)
  replace HM0 := Lib.hid (HM0.out.below hbq)
  replace HX := Lib.hid (HX.out.below hbq)
  replace HXO := Lib.hid (HXO.out.below hbq)
  replace HY := Lib.hid (HY.out.below hbq)
  replace HYO := Lib.hid (HYO.out.below hbq)
  replace HN := Lib.hid (HN.out.below hbq)
  replace HNO := Lib.hid (HNO.out.below hbq)
  replace HM := Lib.hid (HM.out.below hbq)
  replace HMO := Lib.hid (HMO.out.below hbq)
  replace Ha := Lib.hid (Ha.out.below hbq)
  replace Hb := Lib.hid (Hb.out.below hbq)
  replace Hc := Lib.hid (Hc.out.below hbq)
  replace Hd := Lib.hid (Hd.out.below hbq)
  replace HB := Lib.hid (bstep HB.out hbq)
  have T10 := Lib.hid hbq.size
  have hz : OwnR w10 w9.heap.size w10.heap.size 30 3 ov (ofL f).length (ndCells (ofL f)) := by
    by_cases hq : ofE f = 0
    · exact OwnR.of_own (hx hq)
    · rw [hy hq, show ofL f = [] by unfold ofL; rw [if_neg hq]]; exact OwnR.nil _ _ _ _ _
  have Ho := Lib.hid hz
  clear hz hx hy
  obtain ⟨so, to_, rfl⟩ := owns_slice Ho.out.own
  clear hbq
  have HC := Lib.hid (everyX w10)
  go_wp2_with fail
  (with_reducible refine (HC.out).mono ?_)
  rintro e w11 ⟨ge1, he1, rfl, b1, b2, -, b3, b4, hbq⟩
  clear HC
  replace HF := Lib.hid (HF.out.below hbq)
  replace HG := Lib.hid (HG.out.below hbq)
  replace HN0 := Lib.hid (HN0.out.below hbq)
  replace HM0 := Lib.hid (HM0.out.below hbq)
  replace HX := Lib.hid (HX.out.below hbq)
  replace HXO := Lib.hid (HXO.out.below hbq)
  replace HY := Lib.hid (HY.out.below hbq)
  replace HYO := Lib.hid (HYO.out.below hbq)
  replace HN := Lib.hid (HN.out.below hbq)
  replace HNO := Lib.hid (HNO.out.below hbq)
  replace HM := Lib.hid (HM.out.below hbq)
  replace HMO := Lib.hid (HMO.out.below hbq)
  replace Ha := Lib.hid (Ha.out.below hbq)
  replace Hb := Lib.hid (Hb.out.below hbq)
  replace Hc := Lib.hid (Hc.out.below hbq)
  replace Hd := Lib.hid (Hd.out.below hbq)
  replace Ho := Lib.hid (Ho.out.below hbq)
  replace HB := Lib.hid (bstep HB.out hbq)
  have T11 := Lib.hid hbq.size
  obtain ⟨le1, q1, q2⟩ := (every_fo b1 b2 b3 b4).any
  have He1 := Lib.hid q1
  have Ze1 := Lib.hid q2
  clear q1 q2 b1 b2 b3 b4
  clear hbq
  have HC := Lib.hid (everyX w11)
  go_wp2_with fail
  (with_reducible refine (HC.out).mono ?_)
  rintro e w12 ⟨ge2, he2, rfl, b1, b2, -, b3, b4, hbq⟩
  clear HC
  replace HF := Lib.hid (HF.out.below hbq)
  replace HG := Lib.hid (HG.out.below hbq)
  replace HN0 := Lib.hid (HN0.out.below hbq)
  replace HM0 := Lib.hid (HM0.out.below hbq)
  replace HX := Lib.hid (HX.out.below hbq)
  replace HXO := Lib.hid (HXO.out.below hbq)
  replace HY := Lib.hid (HY.out.below hbq)
  replace HYO := Lib.hid (HYO.out.below hbq)
  replace HN := Lib.hid (HN.out.below hbq)
  replace HNO := Lib.hid (HNO.out.below hbq)
  replace HM := Lib.hid (HM.out.below hbq)
  replace HMO := Lib.hid (HMO.out.below hbq)
  replace Ha := Lib.hid (Ha.out.below hbq)
  replace Hb := Lib.hid (Hb.out.below hbq)
  replace Hc := Lib.hid (Hc.out.below hbq)
  replace Hd := Lib.hid (Hd.out.below hbq)
  replace Ho := Lib.hid (Ho.out.below hbq)
  replace He1 := Lib.hid (He1.out.below hbq)
  replace HB := Lib.hid (bstep HB.out hbq)
  have T12 := Lib.hid hbq.size
  obtain ⟨le2, q1, q2⟩ := (every_fo b1 b2 b3 b4).any
  have He2 := Lib.hid q1
  have Ze2 := Lib.hid q2
  clear q1 q2 b1 b2 b3 b4
  clear hbq
  have HC := Lib.hid (of_c _ nums w12 (CellsAt.of_owns HN.out.owns (by have := SN.out; omega)))
  go_wp2_with fail
  (with_reducible refine (HC.out).mono ?_)
  rintro e w13 ⟨sv, rfl, hx, hbq⟩
  clear HC
  replace HF := Lib.hid (HF.out.below hbq)
  replace HG := Lib.hid (HG.out.below hbq)
  replace HN0 := Lib.hid (HN0.out.below hbq)
  replace HM0 := Lib.hid (HM0.out.below hbq)
  replace HX := Lib.hid (HX.out.below hbq)
  replace HXO := Lib.hid (HXO.out.below hbq)
  replace HY := Lib.hid (HY.out.below hbq)
  replace HYO := Lib.hid (HYO.out.below hbq)
  replace HN := Lib.hid (HN.out.below hbq)
  replace HNO := Lib.hid (HNO.out.below hbq)
  replace HM := Lib.hid (HM.out.below hbq)
  replace HMO := Lib.hid (HMO.out.below hbq)
  replace Ha := Lib.hid (Ha.out.below hbq)
  replace Hb := Lib.hid (Hb.out.below hbq)
  replace Hc := Lib.hid (Hc.out.below hbq)
  replace Hd := Lib.hid (Hd.out.below hbq)
  replace Ho := Lib.hid (Ho.out.below hbq)
  replace He1 := Lib.hid (He1.out.below hbq)
  replace He2 := Lib.hid (He2.out.below hbq)
  replace HB := Lib.hid (bstep HB.out hbq)
  have T13 := Lib.hid hbq.size
  have Hs := Lib.hid (OwnR.of_own hx)
  clear hx
  obtain ⟨ss, ts, rfl⟩ := owns_slice Hs.out.own
  clear hbq
  have HC := Lib.hid (kept_c _ _ _ f w13 HX.out HF.out ZF.out)
  go_wp2_with fail
  (with_reducible refine (HC.out).mono ?_)
  rintro e w14 ⟨rfl, hbq⟩
  clear HC
  replace HF := Lib.hid (HF.out.below hbq)
  replace HG := Lib.hid (HG.out.below hbq)
  replace HN0 := Lib.hid (HN0.out.below hbq)
  replace HM0 := Lib.hid (HM0.out.below hbq)
  replace HX := Lib.hid (HX.out.below hbq)
  replace HXO := Lib.hid (HXO.out.below hbq)
  replace HY := Lib.hid (HY.out.below hbq)
  replace HYO := Lib.hid (HYO.out.below hbq)
  replace HN := Lib.hid (HN.out.below hbq)
  replace HNO := Lib.hid (HNO.out.below hbq)
  replace HM := Lib.hid (HM.out.below hbq)
  replace HMO := Lib.hid (HMO.out.below hbq)
  replace Ha := Lib.hid (Ha.out.below hbq)
  replace Hb := Lib.hid (Hb.out.below hbq)
  replace Hc := Lib.hid (Hc.out.below hbq)
  replace Hd := Lib.hid (Hd.out.below hbq)
  replace Ho := Lib.hid (Ho.out.below hbq)
  replace He1 := Lib.hid (He1.out.below hbq)
  replace He2 := Lib.hid (He2.out.below hbq)
  replace Hs := Lib.hid (Hs.out.below hbq)
  replace HB := Lib.hid (bstep HB.out hbq)
  have T14 := Lib.hid hbq.size
  clear hbq
  have HC := Lib.hid (kept_c _ _ _ g w14 HY.out HG.out ZG.out)
  go_wp2_with fail
  (with_reducible refine (HC.out).mono ?_)
  rintro e w15 ⟨rfl, hbq⟩
  clear HC
  replace HF := Lib.hid (HF.out.below hbq)
  replace HG := Lib.hid (HG.out.below hbq)
  replace HN0 := Lib.hid (HN0.out.below hbq)
  replace HM0 := Lib.hid (HM0.out.below hbq)
  replace HX := Lib.hid (HX.out.below hbq)
  replace HXO := Lib.hid (HXO.out.below hbq)
  replace HY := Lib.hid (HY.out.below hbq)
  replace HYO := Lib.hid (HYO.out.below hbq)
  replace HN := Lib.hid (HN.out.below hbq)
  replace HNO := Lib.hid (HNO.out.below hbq)
  replace HM := Lib.hid (HM.out.below hbq)
  replace HMO := Lib.hid (HMO.out.below hbq)
  replace Ha := Lib.hid (Ha.out.below hbq)
  replace Hb := Lib.hid (Hb.out.below hbq)
  replace Hc := Lib.hid (Hc.out.below hbq)
  replace Hd := Lib.hid (Hd.out.below hbq)
  replace Ho := Lib.hid (Ho.out.below hbq)
  replace He1 := Lib.hid (He1.out.below hbq)
  replace He2 := Lib.hid (He2.out.below hbq)
  replace Hs := Lib.hid (Hs.out.below hbq)
  replace HB := Lib.hid (bstep HB.out hbq)
  have T15 := Lib.hid hbq.size
  clear hbq
  have HC := Lib.hid (eqInts_c _ _ nums nums w15 (CellsAt.of_owns HN.out.owns (by have := SN.out; omega)) HN0.out)
  go_wp2_with fail
  (with_reducible refine (HC.out).mono ?_)
  rintro e w16 ⟨rfl, hbq⟩
  clear HC
  replace HF := Lib.hid (HF.out.below hbq)
  replace HG := Lib.hid (HG.out.below hbq)
  replace HN0 := Lib.hid (HN0.out.below hbq)
  replace HM0 := Lib.hid (HM0.out.below hbq)
  replace HX := Lib.hid (HX.out.below hbq)
  replace HXO := Lib.hid (HXO.out.below hbq)
  replace HY := Lib.hid (HY.out.below hbq)
  replace HYO := Lib.hid (HYO.out.below hbq)
  replace HN := Lib.hid (HN.out.below hbq)
  replace HNO := Lib.hid (HNO.out.below hbq)
  replace HM := Lib.hid (HM.out.below hbq)
  replace HMO := Lib.hid (HMO.out.below hbq)
  replace Ha := Lib.hid (Ha.out.below hbq)
  replace Hb := Lib.hid (Hb.out.below hbq)
  replace Hc := Lib.hid (Hc.out.below hbq)
  replace Hd := Lib.hid (Hd.out.below hbq)
  replace Ho := Lib.hid (Ho.out.below hbq)
  replace He1 := Lib.hid (He1.out.below hbq)
  replace He2 := Lib.hid (He2.out.below hbq)
  replace Hs := Lib.hid (Hs.out.below hbq)
  replace HB := Lib.hid (bstep HB.out hbq)
  have T16 := Lib.hid hbq.size
  try rw [beq_self_eq_true]
  clear hbq
  have HC := Lib.hid (marked_int _ _ nums.length (intsC nums) (-7) w16 HN.out (by have := SN.out; omega))
  go_wp2_with fail
  (with_reducible refine (HC.out).mono ?_)
  rintro e w17 ⟨rfl, hbq⟩
  clear HC
  replace HF := Lib.hid (HF.out.below hbq)
  replace HG := Lib.hid (HG.out.below hbq)
  replace HN0 := Lib.hid (HN0.out.below hbq)
  replace HM0 := Lib.hid (HM0.out.below hbq)
  replace HX := Lib.hid (HX.out.below hbq)
  replace HXO := Lib.hid (HXO.out.below hbq)
  replace HY := Lib.hid (HY.out.below hbq)
  replace HYO := Lib.hid (HYO.out.below hbq)
  replace HN := Lib.hid (HN.out.below hbq)
  replace HNO := Lib.hid (HNO.out.below hbq)
  replace HM := Lib.hid (HM.out.below hbq)
  replace HMO := Lib.hid (HMO.out.below hbq)
  replace Ha := Lib.hid (Ha.out.below hbq)
  replace Hb := Lib.hid (Hb.out.below hbq)
  replace Hc := Lib.hid (Hc.out.below hbq)
  replace Hd := Lib.hid (Hd.out.below hbq)
  replace Ho := Lib.hid (Ho.out.below hbq)
  replace He1 := Lib.hid (He1.out.below hbq)
  replace He2 := Lib.hid (He2.out.below hbq)
  replace Hs := Lib.hid (Hs.out.below hbq)
  replace HB := Lib.hid (bstep HB.out hbq)
  have T17 := Lib.hid hbq.size
  clear hbq
  have HC := Lib.hid (eqNds_c _ _ l w17 (CellsAt.of_owns HM.out.owns (by have := SM.out; omega)) HM0.out)
  go_wp2_with fail
  (with_reducible refine (HC.out).mono ?_)
  rintro e w18 ⟨rfl, hbq⟩
  clear HC
  replace HF := Lib.hid (HF.out.below hbq)
  replace HG := Lib.hid (HG.out.below hbq)
  replace HN0 := Lib.hid (HN0.out.below hbq)
  replace HM0 := Lib.hid (HM0.out.below hbq)
  replace HX := Lib.hid (HX.out.below hbq)
  replace HXO := Lib.hid (HXO.out.below hbq)
  replace HY := Lib.hid (HY.out.below hbq)
  replace HYO := Lib.hid (HYO.out.below hbq)
  replace HN := Lib.hid (HN.out.below hbq)
  replace HNO := Lib.hid (HNO.out.below hbq)
  replace HM := Lib.hid (HM.out.below hbq)
  replace HMO := Lib.hid (HMO.out.below hbq)
  replace Ha := Lib.hid (Ha.out.below hbq)
  replace Hb := Lib.hid (Hb.out.below hbq)
  replace Hc := Lib.hid (Hc.out.below hbq)
  replace Hd := Lib.hid (Hd.out.below hbq)
  replace Ho := Lib.hid (Ho.out.below hbq)
  replace He1 := Lib.hid (He1.out.below hbq)
  replace He2 := Lib.hid (He2.out.below hbq)
  replace Hs := Lib.hid (Hs.out.below hbq)
  replace HB := Lib.hid (bstep HB.out hbq)
  have T18 := Lib.hid hbq.size
  clear hbq
  have HC := Lib.hid (marked_node _ _ l.length (ndCells l) (-7) 0 0 w18 HM.out (by have := SM.out; omega))
  go_wp2_with fail
  (with_reducible refine (HC.out).mono ?_)
  rintro e w19 ⟨rfl, hbq⟩
  clear HC
  replace HF := Lib.hid (HF.out.below hbq)
  replace HG := Lib.hid (HG.out.below hbq)
  replace HN0 := Lib.hid (HN0.out.below hbq)
  replace HM0 := Lib.hid (HM0.out.below hbq)
  replace HX := Lib.hid (HX.out.below hbq)
  replace HXO := Lib.hid (HXO.out.below hbq)
  replace HY := Lib.hid (HY.out.below hbq)
  replace HYO := Lib.hid (HYO.out.below hbq)
  replace HN := Lib.hid (HN.out.below hbq)
  replace HNO := Lib.hid (HNO.out.below hbq)
  replace HM := Lib.hid (HM.out.below hbq)
  replace HMO := Lib.hid (HMO.out.below hbq)
  replace Ha := Lib.hid (Ha.out.below hbq)
  replace Hb := Lib.hid (Hb.out.below hbq)
  replace Hc := Lib.hid (Hc.out.below hbq)
  replace Hd := Lib.hid (Hd.out.below hbq)
  replace Ho := Lib.hid (Ho.out.below hbq)
  replace He1 := Lib.hid (He1.out.below hbq)
  replace He2 := Lib.hid (He2.out.below hbq)
  replace Hs := Lib.hid (Hs.out.below hbq)
  replace HB := Lib.hid (bstep HB.out hbq)
  have T19 := Lib.hid hbq.size
  clear hbq
  obtain ⟨ZL, hZL⟩ : ∃ ZL : List Zr, ZL = [⟨.slice sa la.length ta, la, w5.heap.size, w6.heap.size⟩, ⟨.slice sb lb.length tb, lb, w6.heap.size, w7.heap.size⟩, ⟨.slice sc lc.length tc, lc, w7.heap.size, w8.heap.size⟩, ⟨.slice sd ld.length td, ld, w8.heap.size, w9.heap.size⟩, ⟨.slice (some ⟨he1, 0, none⟩) 1 1, le1, w10.heap.size, w11.heap.size⟩, ⟨.slice (some ⟨he2, 0, none⟩) 1 1, le2, w11.heap.size, w12.heap.size⟩] := ⟨_, rfl⟩
  have HZ := Lib.hid (show ZOk w19 w5.heap.size w13.heap.size ZL by
    have T1 := T1.out; have T2 := T2.out; have T3 := T3.out; have T4 := T4.out; have T5 := T5.out; have T6 := T6.out; have T7 := T7.out; have T8 := T8.out; have T9 := T9.out; have T10 := T10.out; have T11 := T11.out; have T12 := T12.out; have T13 := T13.out; have T14 := T14.out; have T15 := T15.out; have T16 := T16.out; have T17 := T17.out; have T18 := T18.out; have T19 := T19.out;
    rw [hZL]
    exact ⟨⟨Ha.out, Za.out⟩, by dsimp only; omega, by dsimp only; omega, ⟨Hb.out, Zb.out⟩, by dsimp only; omega, by dsimp only; omega, ⟨Hc.out, Zc.out⟩, by dsimp only; omega, by dsimp only; omega, ⟨Hd.out, Zd.out⟩, by dsimp only; omega, by dsimp only; omega, ⟨He1.out, Ze1.out⟩, by dsimp only; omega, by dsimp only; omega, ⟨He2.out, Ze2.out⟩, by dsimp only; omega, by dsimp only; omega, by show _ ≤ _; dsimp only; omega⟩)
  have HD := Lib.hid (show (∀ z ∈ ZL, z.hi ≤ w9.heap.size ∨ w10.heap.size ≤ z.lo) ∧ (∀ z ∈ ZL, z.hi ≤ w12.heap.size ∨ w13.heap.size ≤ z.lo) by
    have T1 := T1.out; have T2 := T2.out; have T3 := T3.out; have T4 := T4.out; have T5 := T5.out; have T6 := T6.out; have T7 := T7.out; have T8 := T8.out; have T9 := T9.out; have T10 := T10.out; have T11 := T11.out; have T12 := T12.out; have T13 := T13.out; have T14 := T14.out; have T15 := T15.out; have T16 := T16.out; have T17 := T17.out; have T18 := T18.out; have T19 := T19.out;
    rw [hZL]
    constructor <;> (intro z hz; simp only [List.mem_cons, List.not_mem_nil, or_false] at hz; rcases hz with rfl | rfl | rfl | rfl | rfl | rfl <;> dsimp only <;> omega))
  have HLEN := Lib.hid (show ZL.length = 6 by rw [hZL]; rfl)
  have HTT := Lib.hid (show w1.heap.size ≤ w2.heap.size ∧ w2.heap.size ≤ w3.heap.size ∧ w3.heap.size ≤ w4.heap.size ∧ w4.heap.size ≤ w5.heap.size ∧ w5.heap.size ≤ w9.heap.size ∧ w5.heap.size ≤ w12.heap.size ∧ w10.heap.size ≤ w13.heap.size ∧ w13.heap.size ≤ w13.heap.size ∧ w13.heap.size ≤ w19.heap.size ∧ w.heap.size ≤ w1.heap.size ∧ w5.heap.size ≤ w13.heap.size by
    have T1 := T1.out; have T2 := T2.out; have T3 := T3.out; have T4 := T4.out; have T5 := T5.out; have T6 := T6.out; have T7 := T7.out; have T8 := T8.out; have T9 := T9.out; have T10 := T10.out; have T11 := T11.out; have T12 := T12.out; have T13 := T13.out; have T14 := T14.out; have T15 := T15.out; have T16 := T16.out; have T17 := T17.out; have T18 := T18.out; have T19 := T19.out;
    omega)
  obtain ⟨WA, hWA⟩ : ∃ WA, WA = w19.alloc (.cells #[.slice sa la.length ta, .slice sb lb.length tb, .slice sc lc.length tc, .slice sd ld.length td, .slice (some ⟨he1, 0, none⟩) 1 1, .slice (some ⟨he2, 0, none⟩) 1 1] 22) := ⟨_, rfl⟩
  have hbA : Below w19.heap.size w19 WA := by rw [hWA]; exact bal _
  have HKA := Lib.hid (show WA.heap[w19.heap.size]? = some (.cells (ZL.map Zr.v).toArray 22 (0, 0)) by rw [hWA, hZL]; exact alloc_new _ _ _ _ rfl)
  replace HB := Lib.hid (bstep HB.out hbA)
  replace HZ := Lib.hid (HZ.out.below hbA)
  have HTA := Lib.hid hbA.size
  have HKW := Lib.hid (hlt_of HKA.out)
  replace HXO := Lib.hid (HXO.out.below hbA)
  replace HYO := Lib.hid (HYO.out.below hbA)
  replace HNO := Lib.hid (HNO.out.below hbA)
  replace HMO := Lib.hid (HMO.out.below hbA)
  replace Ho := Lib.hid (Ho.out.below hbA)
  replace Hs := Lib.hid (Hs.out.below hbA)
  clear hbA hZL HX HY HN HM HF HG HN0 HM0 Ha Za Hb Zb Hc Zc Hd Zd He1 Ze1 He2 Ze2 T1 T2 T3 T4 T5 T6 T7 T8 T9 T10 T11 T12 T13 T14 T15 T16 T17 T18 T19 hzf hzg
  go_wp2_with fail
  rw [← hWA]
  clear hWA
  go_wp2
  go_loopw [28, 123] (fun ov i wr => ∃ (k : Nat) (ws : List Value), k ≤ 6 ∧ i = .int .i64 k ∧ WantSt WA wr WA.heap.size ZL k ov ws) (fun _ i _ => 6 - (intOf i).toNat)
  case atStart => exact ⟨0, [], Nat.zero_le _, rfl, WantSt.nil⟩
  case round =>
    obtain ⟨k, ws, hk, rfl, hM⟩ := hrel
    have M := Lib.hid hM
    obtain ⟨wa, wc, hov⟩ := owns_slice hM.row
    subst hov
    clear hM
    by_cases hlt : k < 6
    · have hltb : decide ((k : Int) < 6) = true := by simp; omega
      have hkz : k < ZL.length := by rw [HLEN.out]; exact hlt
      have ka := below_keep M.out.bel HKA.out
      have c1 := cell_of_block (j := k) ka (by rw [List.getElem?_toArray, List.getElem?_map, List.getElem?_eq_getElem hkz]; rfl)
      have kl := hlt_of ka
      have hzk := (HZ.out.get _ (List.getElem_mem hkz)).1
      obtain ⟨za, zc, hzv⟩ := hzk.1.shape
      have HRM := Lib.hid (room_c _ ZL[k].l wr ((hzk.1.below M.out.bel).at_ hzk.2) hzk.2)
      have HST := Lib.hid (fun w2 w3 v' wv' hb hr hw hg => M.out.step (w2 := w2) (w3 := w3) (v' := v') (wv' := wv') hkz M.out.bel.size (Nat.le_refl _) hb hr hw hg)
      have HLN := Lib.hid M.out.len
      have HRW := Lib.hid M.out.row
      have HBR := Lib.hid M.out.bel
      rw [hzv] at c1 HRM
      generalize ZL[k].l = zl at *
      clear ka hzk hzv M
      clear hkz
      go_wp2_with fail
      (with_reducible refine (HRM.out).mono ?_)
      rintro e w2 ⟨v', rfl, hr, hb⟩
      have HBL := Lib.hid (bstep hb (bal (.cells #[v'] 22)))
      have HRR := Lib.hid (hr.below (bal (.cells #[v'] 22)))
      have HCC := Lib.hid (show CellsAt (w2.alloc (.cells #[v'] 22)) (.slice (some ⟨w2.heap.size, 0, none⟩) 1 1) 1 [v'] from CellsAt.mk (Nat.le_refl _) (by decide) (hlt_of (alloc_new w2 #[v'] 22 _ rfl)) (fun j z hj => by rw [Nat.zero_add]; exact cell_of_block (alloc_new w2 #[v'] 22 _ rfl) (by simpa using hj)))
      have HOW := Lib.hid (owns_below HRW.out HBL.out)
      obtain ⟨us9, -, hr9, -⟩ := hr
      obtain ⟨gv9, hv9, -, -⟩ := hr9.shape
      have hsz9 := Nat.le_trans HBR.out.size HBL.out.size
      clear hr9 hb HRM c1 kl
      subst hv9
      go_wp2_with (at_builtin; refine wpList_append_cells2 rfl (.tmp 127) (.tmp 130) 46 rfl WA.heap.size 22 (.slice none 0 0) 1 24 Try.underlying46 BxsTy.info rfl (by decide) _ k ws rfl HOW.out (.slice (some ⟨w2.heap.size, 0, none⟩) 1 1) 1 [.slice (some ⟨gv9, 0, none⟩) zl.length (zl.length + 3)] rfl HCC.out rfl (by intro u hu; simp only [List.mem_singleton] at hu; subst hu; rfl) hsz9 (by unfold maxLen; omega) (by omega) ?_)
      rintro wv' w3 hown3 hgr3
      have HN := Lib.hid (HST.out _ _ _ _ HBL.out HRR.out hown3 hgr3)
      obtain ⟨wa', wc', hwv'⟩ := owns_slice hown3
      subst hwv'
      clear hown3 hgr3 HBL HRR HCC HOW hsz9 HST HRW HBR
      go_wp2
      go_roundw
      case rel => exact ⟨k + 1, _, by omega, by go_num, HN.out⟩
      case measure => simp [intOf] <;> omega
    · obtain rfl : k = 6 := by omega
      obtain ⟨wz, hwz⟩ : ∃ wz, wz = wr := ⟨_, rfl⟩
      rw [← hwz] at M ⊢
      obtain ⟨gw, cw, hwv, -, -⟩ := World.ownsRow.form M.out.row (by decide)
      simp only [Value.slice.injEq, true_and] at hwv
      obtain ⟨rfl, rfl⟩ := hwv
      clear hwz hlt hk
      replace HXO := Lib.hid (HXO.out.below M.out.bel)
      replace HYO := Lib.hid (HYO.out.below M.out.bel)
      replace HNO := Lib.hid (HNO.out.below M.out.bel)
      replace HMO := Lib.hid (HMO.out.below M.out.bel)
      replace Ho := Lib.hid (Ho.out.below M.out.bel)
      replace Hs := Lib.hid (Hs.out.below M.out.bel)
      replace HZ := Lib.hid (HZ.out.below M.out.bel)
      replace HB := Lib.hid (bstep HB.out M.out.bel)
      replace HKA := Lib.hid (below_keep M.out.bel HKA.out)
      have HTM := Lib.hid M.out.bel.size
      have HEACH := Lib.hid M.out.each
      have HWR := Lib.hid M.out.row
      have HWL := Lib.hid M.out.len
      clear M
      have HC := Lib.hid (NodeClone_c _ (ofL f).length (ndCells (ofL f)) wz (CellsAt.of_owns Ho.out.own (by have := ofL_len f; omega)) (ndCells_length _) (ndCells_one _) (by have := ofL_len f; omega))
      go_wp2_with fail
      (with_reducible refine (HC.out).mono ?_)
      rintro e w20 ⟨nv2, rfl, hx, hbq⟩
      clear HC
      replace HXO := Lib.hid (HXO.out.below hbq)
      replace HYO := Lib.hid (HYO.out.below hbq)
      replace HNO := Lib.hid (HNO.out.below hbq)
      replace HMO := Lib.hid (HMO.out.below hbq)
      replace Ho := Lib.hid (Ho.out.below hbq)
      replace Hs := Lib.hid (Hs.out.below hbq)
      replace HZ := Lib.hid (HZ.out.below hbq)
      replace HB := Lib.hid (bstep HB.out hbq)
      have T20 := Lib.hid hbq.size
      have HNC := Lib.hid hx
      clear hx
      obtain ⟨nca, ncc, rfl⟩ := owns_slice HNC.out
      replace HKA := Lib.hid (below_keep hbq HKA.out)
      replace HEACH := Lib.hid (fun i h h' => (HEACH.out i h h').below hbq)
      replace HWR := Lib.hid (owns_below HWR.out hbq)
      clear hbq
      have TN := Lib.hid T20.out
      have HC := Lib.hid (SpanClone_c _ (ofSL nums).length (spansCells (ofSL nums)) w20 (CellsAt.of_owns Hs.out.own (by have := ofSL_len nums; omega)) (spansCells_length _) (spansCells_one _) (by have := ofSL_len nums; omega))
      go_wp2_with fail
      (with_reducible refine (HC.out).mono ?_)
      rintro e w21 ⟨sv2, rfl, hx, hbq⟩
      clear HC
      replace HXO := Lib.hid (HXO.out.below hbq)
      replace HYO := Lib.hid (HYO.out.below hbq)
      replace HNO := Lib.hid (HNO.out.below hbq)
      replace HMO := Lib.hid (HMO.out.below hbq)
      replace Ho := Lib.hid (Ho.out.below hbq)
      replace Hs := Lib.hid (Hs.out.below hbq)
      replace HZ := Lib.hid (HZ.out.below hbq)
      replace HB := Lib.hid (bstep HB.out hbq)
      have T21 := Lib.hid hbq.size
      have HSC := Lib.hid hx
      clear hx
      obtain ⟨sca, scc, rfl⟩ := owns_slice HSC.out
      replace HKA := Lib.hid (below_keep hbq HKA.out)
      replace HEACH := Lib.hid (fun i h h' => (HEACH.out i h h').below hbq)
      replace HWR := Lib.hid (owns_below HWR.out hbq)
      replace HNC := Lib.hid (owns_below HNC.out hbq)
      clear hbq
      have HTZ := Lib.hid (show WA.heap.size ≤ w21.heap.size ∧ WA.heap.size ≤ wz.heap.size ∧ wz.heap.size ≤ w20.heap.size ∧ w20.heap.size ≤ w21.heap.size ∧ w19.heap.size < WA.heap.size by have h1 := T20.out; have h2 := T21.out; have h3 := HTM.out; have h4 := HTA.out; have h5 := HKW.out; omega)
      have HSP := Lib.hid (Sp.refl (fun q => w1.heap.size ≤ q ∧ q < w5.heap.size) w21)
      have HC := Lib.hid (waste_c _ _ _ f w21 HXO.out ZF.out)
      go_wp2_with fail
      (with_reducible refine (HC.out).mono ?_)
      rintro e v22 ⟨rfl, hsq⟩
      clear HC
      have hs0 : Sp (fun q => w1.heap.size ≤ q ∧ q < w5.heap.size) w21 v22 := hsq.mono fun q hq => by have ht := HTT.out; omega
      replace HSP := Lib.hid (HSP.out.trans hs0)
      replace HYO := Lib.hid (HYO.out.sp hsq fun q h1 h2 h3 => by have ht := HTT.out; omega)
      clear hsq hs0
      have HC := Lib.hid (waste_c _ _ _ g v22 HYO.out ZG.out)
      go_wp2_with fail
      (with_reducible refine (HC.out).mono ?_)
      rintro e v23 ⟨rfl, hsq⟩
      clear HC
      have hs0 : Sp (fun q => w1.heap.size ≤ q ∧ q < w5.heap.size) v22 v23 := hsq.mono fun q hq => by have ht := HTT.out; omega
      replace HSP := Lib.hid (HSP.out.trans hs0)
      clear hsq hs0
      have HNS := Lib.hid ((ShRow.of_owns HNO.out.own).sp HSP.out)
      have HMS := Lib.hid ((ShRow.of_owns HMO.out.own).sp HSP.out)
      have HC := Lib.hid (spoil_int _ 3 v23 HNS.out)
      go_wp2_with fail
      (with_reducible refine (HC.out).mono ?_)
      rintro e v24 ⟨rfl, hsq⟩
      clear HC
      have hs0 : Sp (fun q => w1.heap.size ≤ q ∧ q < w5.heap.size) v23 v24 := hsq.mono fun q hq => by have ht := HTT.out; have := HNO.out.rng q hq; omega
      replace HSP := Lib.hid (HSP.out.trans hs0)
      clear hsq hs0
      replace HMS := Lib.hid ((ShRow.of_owns HMO.out.own).sp HSP.out)
      have HC := Lib.hid (spoil_node _ 0 0 0 v24 HMS.out)
      go_wp2_with fail
      (with_reducible refine (HC.out).mono ?_)
      rintro e v25 ⟨rfl, hsq⟩
      clear HC
      have hs0 : Sp (fun q => w1.heap.size ≤ q ∧ q < w5.heap.size) v24 v25 := hsq.mono fun q hq => by have ht := HTT.out; have := HMO.out.rng q hq; omega
      replace HSP := Lib.hid (HSP.out.trans hs0)
      clear hsq hs0
      have HZ2 := Lib.hid (HZ.out.sp HSP.out fun q h1 _ h3 => by have h4 := h3.1; have h5 := h3.2; have ht := HTT.out; omega)
      have HKA2 := Lib.hid (HSP.out.block HKA.out (fun h3 => by have h4 := h3.1; have h5 := h3.2; have ht := HTT.out; have hz := HTZ.out; omega))
      have HEA2 := Lib.hid (fun i h h' => (HEACH.out i h h').sp HSP.out fun q h1 h3 => by have h4 := h3.1; have h5 := h3.2; have ht := HTT.out; have hz := HTZ.out; omega)
      have HWR2 := Lib.hid (owns_sp HWR.out HSP.out fun q hq h3 => by have h4 := h3.1; have h5 := h3.2; have ht := HTT.out; have hz := HTZ.out; have := (HWR.out.lt q hq).1; omega)
      have Ho2 := Lib.hid (Ho.out.sp HSP.out fun q h1 _ h3 => by have h4 := h3.1; have h5 := h3.2; have ht := HTT.out; omega)
      have Hs2 := Lib.hid (Hs.out.sp HSP.out fun q h1 _ h3 => by have h4 := h3.1; have h5 := h3.2; have ht := HTT.out; omega)
      have HNC2 := Lib.hid (owns_sp HNC.out HSP.out fun q hq h3 => by have h4 := h3.1; have h5 := h3.2; have ht := HTT.out; have hz := HTZ.out; have := (HNC.out.lt q hq).1; omega)
      have HSC2 := Lib.hid (owns_sp HSC.out HSP.out fun q hq h3 => by have h4 := h3.1; have h5 := h3.2; have ht := HTT.out; have hz := HTZ.out; have := (HSC.out.lt q hq).1; omega)
      have HSP0 := HSP
      clear HZ HKA HEACH HWR Ho Hs HNC HSC HSP HXO HYO HNO HMO HNS HMS
      have HB2 := Lib.hid (HB.out.trans (HSP0.out.toBelow (base := w.heap.size) (fun q h => by have h4 := h.1; have ht := HTT.out; omega) HB.out.size))
      clear HB HSP0
      have HWL2 := HWL
      go_wp2
      go_loopw [148] (fun i wr => ∃ k : Nat, k ≤ 6 ∧ i = .int .i64 k ∧ Sp (ZS ZL k) v25 wr) (fun i _ => 6 - (intOf i).toNat)
      case atStart => exact ⟨0, Nat.zero_le _, rfl, Sp.refl _ _⟩
      case round =>
        obtain ⟨k, hk, rfl, hb⟩ := hrel
        have HS := Lib.hid hb
        clear hb
        have HRNG := Lib.hid (fun q (h : ZS ZL k q) => ZS.range HZ2.out h)
        by_cases hlt : k < 6
        · have hltb : decide ((k : Int) < 6) = true := by simp; omega
          have hkz : k < ZL.length := by rw [HLEN.out]; exact hlt
          have hkw : k < ws.length := by rw [HWL.out]; exact hlt
          have ka := HS.out.block HKA2.out (fun h => by have := HRNG.out _ h; have ht := HTT.out; have hz := HTZ.out; omega)
          have c1 := cell_of_block (j := k) ka (by rw [List.getElem?_toArray, List.getElem?_map, List.getElem?_eq_getElem hkz]; rfl)
          have kl := hlt_of ka
          have c2 := HWR2.out.cells (g := gw) rfl k ws[k] (List.getElem?_eq_getElem hkw)
          rw [Addr.add_lit, Nat.zero_add] at c2
          have hgw3 := (HWR2.out.lt gw rfl).2
          have c3 := (HS.out.cell (p := ⟨gw, k, none⟩) hgw3 (fun h => by have h8 : gw < w13.heap.size := (HRNG.out _ h).2; have ht := HTT.out; have hz := HTZ.out; have := (HWR2.out.lt gw rfl).1; omega)).trans c2
          have hgw4 : gw < wr.heap.size := Nat.lt_of_lt_of_le hgw3 HS.out.size
          have hz := HZ2.out.still hkz HS.out
          have hwk := (HEA2.out k hkz hkw).sp HS.out (fun q h1 h2 => by have := HRNG.out _ h2; have ht := HTT.out; have hz := HTZ.out; omega)
          have hwk2 := hwk.at_ hz.2.l hz.2.s
          obtain ⟨za, zc, hzv⟩ := hz.1.shape
          obtain ⟨wka, wkc, hwv⟩ := hwk2.shape
          rw [hzv] at hz
          have HSM := Lib.hid (sameFil_c _ _ ZL[k].l ZL[k].l wr (hz.1.at_ hz.2) hwk2)
          have HWS := Lib.hid (fun w2 (hb : Below wr.heap.size wr w2) => waste_c _ _ _ ZL[k].l w2 (hz.1.below hb) hz.2)
          have HST := Lib.hid (fun w2 (h : Sp (fun q => ZL[k].lo ≤ q ∧ q < ZL[k].hi) wr w2) => ZS.step hkz HS.out h)
          rw [hzv] at c1
          rw [hwv] at c3 HSM
          generalize ZL[k].l = zl at *
          clear ka c2 hgw3 hz hwk hwk2 hzv hwv
          go_wp2_with fail
          (with_reducible refine (HSM.out).mono ?_)
          rintro e w2 ⟨q, rfl, hq, hb2⟩
          obtain rfl : q = true := by simpa using hq
          have HWC := Lib.hid (HWS.out w2 hb2)
          have HB3 := Lib.hid hb2
          clear hq hb2 HSM HWS c1 c3 kl hgw4
          go_wp2_with fail
          (with_reducible refine (HWC.out).mono ?_)
          rintro e w3 ⟨rfl, hs3⟩
          have HN := Lib.hid (HST.out w3 ((Sp.of_below HB3.out).trans hs3))
          clear hs3 HWC HST HB3
          go_wp2
          go_roundw
          case rel => exact ⟨k + 1, by omega, by go_num, HN.out⟩
          case measure => simp [intOf] <;> omega
        · obtain rfl : k = 6 := by omega
          have ho := Ho2.out.sp HS.out (ZS.far HD.out.1)
          have hs := Hs2.out.sp HS.out (ZS.far HD.out.2)
          have hnc := owns_sp HNC2.out HS.out (fun q hq h => by have := HRNG.out _ h; have ht := HTT.out; have hz := HTZ.out; have := (HNC2.out.lt q hq).1; omega)
          have hsc := owns_sp HSC2.out HS.out (fun q hq h => by have := HRNG.out _ h; have ht := HTT.out; have hz := HTZ.out; have := (HSC2.out.lt q hq).1; omega)
          have HE1 := Lib.hid (eqNds_c _ _ (ofL f) wr (CellsAt.of_owns ho.own (by have := ofL_len f; omega)) (CellsAt.of_owns hnc (by have := ofL_len f; omega)))
          have HE2 := Lib.hid (fun w2 (hb : Below wr.heap.size wr w2) => eqSpans_c _ _ (ofSL nums) (ofSL nums) w2 (CellsAt.of_owns (owns_below hs.own hb) (by have := ofSL_len nums; omega)) (CellsAt.of_owns (owns_below hsc hb) (by have := ofSL_len nums; omega)))
          have HBF := Lib.hid (HB2.out.trans (HS.out.toBelow (base := w.heap.size) (fun q h => by have := HRNG.out _ h; have ht := HTT.out; omega) HB2.out.size))
          clear ho hs hnc hsc HS HRNG
          go_wp2_with fail
          (with_reducible refine (HE1.out).mono ?_)
          rintro e w2 ⟨rfl, hb2⟩
          have HE3 := Lib.hid (HE2.out w2 hb2)
          replace HBF := Lib.hid (bstep HBF.out hb2)
          clear hb2 HE1 HE2
          go_wp2_with fail
          (with_reducible refine (HE3.out).mono ?_)
          rintro e w3 ⟨rfl, hb3⟩
          have HBG := Lib.hid (bstep HBF.out hb3)
          rw [beq_self_eq_true]
          clear hb3 HE3 HBF
          go_wp2
          go_ret
          exact ⟨rfl, HBG.out⟩
end Go.Proofs.Ythnkmjjldggecaa
