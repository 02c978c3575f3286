/- What PartJoins does: it returns true. -/
import Derived.Test.YtliieljmfncmjaaMPartL
namespace Go.Proofs.Ytliieljmfncmjaa
open Go.RowKit
set_option maxRecDepth 100000 in
set_option maxHeartbeats 8000000 in
theorem PartJoins_walk (fv gv av bv : Value) (fs gs : List Bxs) (als bs : List (List (List Int))) (pt pn ds dc : Int) (w : World) (hf : RowAt bxsE w fv fs) (hg : RowAt bxsE w gv gs) (ha : RowAt vecsE w av als) (hb : RowAt vecsE w bv bs) :
    Calls Try.prog 15 #[fv, gv, av, bv, .agg #[.int .i64 pt, .int .i64 pn], .agg #[.int .i64 ds, .int .i64 dc]] w fun e w' => e = .returned (.bool true) ∧ Below w.heap.size w w' := by
  have HF := Lib.hid hf
  have HG := Lib.hid hg
  have HA := Lib.hid ha
  have HB := Lib.hid hb
  obtain ⟨sa0, sc0, rfl⟩ := hf.shape
  obtain ⟨sa1, sc1, rfl⟩ := hg.shape
  obtain ⟨sa2, sc2, rfl⟩ := ha.shape
  obtain ⟨sa3, sc3, rfl⟩ := hb.shape
  obtain ⟨W, hW⟩ : ∃ W, W = (w.alloc (.cells #[.int .i64 pt, .int .i64 pn] 51)).alloc (.cells #[.int .i64 ds, .int .i64 dc] 49) := ⟨_, rfl⟩
  have hbw : Below w.heap.size w W := by rw [hW]; exact (bal _).alloc (by simp) _
  have HBL := Lib.hid hbw
  have K_A := Lib.hid (show W.heap[w.heap.size]? = some (Obj.cells #[.int .i64 pt, .int .i64 pn] 51 (0, 0)) by rw [hW]; exact alloc_keep _ (alloc_new _ _ _ _ rfl))
  have K_B := Lib.hid (show W.heap[w.heap.size + 1]? = some (Obj.cells #[.int .i64 ds, .int .i64 dc] 49 (0, 0)) by rw [hW]; exact alloc_new _ _ _ _ (by simp))
  replace HF := Lib.hid (HF.out.below hbw)
  replace HG := Lib.hid (HG.out.below hbw)
  replace HA := Lib.hid (HA.out.below hbw)
  replace HB := Lib.hid (HB.out.below hbw)
  clear hbw
  clear hf hg ha hb
  go_enter Try.func15, Try.ntmps15
  go_wp2_with fail
  rw [← hW]
  clear hW
  have HC := Lib.hid (partBegun_c W)
  (with_reducible refine (HC.out).mono ?_)
  rintro e w1 ⟨rfl, hb⟩
  replace HF := Lib.hid (HF.out.below hb)
  replace HG := Lib.hid (HG.out.below hb)
  replace HA := Lib.hid (HA.out.below hb)
  replace HB := Lib.hid (HB.out.below hb)
  replace K_A := Lib.hid (below_keep hb K_A.out)
  replace K_B := Lib.hid (below_keep hb K_B.out)
  replace HBL := Lib.hid (bstep HBL.out hb)
  clear hb HC
  have HC := Lib.hid (parts_c _ _ fs als w1 HF.out HA.out)
  go_wp2_with fail
  (with_reducible refine (HC.out).mono ?_)
  rintro e w2 ⟨X, a2, c2, rfl, h1, h2, hb⟩
  replace HF := Lib.hid (HF.out.below hb)
  replace HG := Lib.hid (HG.out.below hb)
  replace HA := Lib.hid (HA.out.below hb)
  replace HB := Lib.hid (HB.out.below hb)
  replace K_A := Lib.hid (below_keep hb K_A.out)
  replace K_B := Lib.hid (below_keep hb K_B.out)
  replace HBL := Lib.hid (bstep HBL.out hb)
  have HX := Lib.hid (h1)
  clear hb HC h1
  have LX := Lib.hid h2
  clear h2
  have HC := Lib.hid (parts_c _ _ gs bs w2 HG.out HB.out)
  go_wp2_with fail
  (with_reducible refine (HC.out).mono ?_)
  rintro e w3 ⟨Y, a3, c3, rfl, h1, h2, hb⟩
  replace HF := Lib.hid (HF.out.below hb)
  replace HG := Lib.hid (HG.out.below hb)
  replace HA := Lib.hid (HA.out.below hb)
  replace HB := Lib.hid (HB.out.below hb)
  replace K_A := Lib.hid (below_keep hb K_A.out)
  replace K_B := Lib.hid (below_keep hb K_B.out)
  replace HX := Lib.hid (HX.out.below hb)
  replace HBL := Lib.hid (bstep HBL.out hb)
  have HY := Lib.hid (h1)
  clear hb HC h1
  have LY := Lib.hid h2
  clear h2
  clear HF HG HA HB
  have HXO := Lib.hid HX.out.ok
  have HYO := Lib.hid HY.out.ok
  have lx := LX.out
  have ly := LY.out
  have l1 := few_len (X ++ Y)
  have l2 := few_len (Y ++ X)
  have l3 := few_len (fewS (X ++ Y) ++ X)
  rw [List.length_append] at l1 l2 l3
  have HC1 := Lib.hid (join_comm HXO.out HYO.out)
  have HC2 := Lib.hid (join_self HXO.out HYO.out)
  have HC3 := Lib.hid (join_in HXO.out HYO.out)
  have HC4 := Lib.hid (has_join HXO.out HYO.out pt pn ds dc)
  have HC := Lib.hid (pjoin_s _ _ X Y w3 HX.out HY.out (by omega) (by omega) (by omega))
  go_wp2_with fail
  (with_reducible refine (HC.out).mono ?_)
  rintro e w4 ⟨a4, c4, rfl, h1, hb⟩
  replace K_A := Lib.hid (below_keep hb K_A.out)
  replace K_B := Lib.hid (below_keep hb K_B.out)
  replace HX := Lib.hid (HX.out.below hb)
  replace HY := Lib.hid (HY.out.below hb)
  replace HBL := Lib.hid (bstep HBL.out hb)
  have HJ1 := Lib.hid (h1.sem (by omega))
  clear hb HC h1
  have HC := Lib.hid (pjoin_s _ _ Y X w4 HY.out HX.out (by omega) (by omega) (by omega))
  go_wp2_with fail
  (with_reducible refine (HC.out).mono ?_)
  rintro e w5 ⟨a5, c5, rfl, h1, hb⟩
  replace K_A := Lib.hid (below_keep hb K_A.out)
  replace K_B := Lib.hid (below_keep hb K_B.out)
  replace HX := Lib.hid (HX.out.below hb)
  replace HY := Lib.hid (HY.out.below hb)
  replace HJ1 := Lib.hid (HJ1.out.below hb)
  replace HBL := Lib.hid (bstep HBL.out hb)
  have HJ2 := Lib.hid (h1.sem (by omega))
  clear hb HC h1
  generalize fewS (Y ++ X) = J2 at *
  generalize fewS (X ++ Y) = J1 at *
  have HC := Lib.hid (pjoin_s _ _ J1 X w5 HJ1.out HX.out (by omega) (by omega) (by omega))
  go_wp2_with fail
  (with_reducible refine (HC.out).mono ?_)
  rintro e w6 ⟨a6, c6, rfl, h1, hb⟩
  replace K_A := Lib.hid (below_keep hb K_A.out)
  replace K_B := Lib.hid (below_keep hb K_B.out)
  replace HX := Lib.hid (HX.out.below hb)
  replace HY := Lib.hid (HY.out.below hb)
  replace HJ1 := Lib.hid (HJ1.out.below hb)
  replace HJ2 := Lib.hid (HJ2.out.below hb)
  replace HBL := Lib.hid (bstep HBL.out hb)
  have HJ3 := Lib.hid (h1.sem (by omega))
  clear hb HC h1
  generalize fewS (J1 ++ X) = J3 at *
  have HC := Lib.hid (pboth_s _ _ J1 J2 w6 HJ1.out HJ2.out (by omega) (by omega))
  go_wp2_with fail
  (with_reducible refine (HC.out).mono ?_)
  rintro e w7 ⟨rfl, hb⟩
  rw [HC1.out]
  replace K_A := Lib.hid (below_keep hb K_A.out)
  replace K_B := Lib.hid (below_keep hb K_B.out)
  replace HX := Lib.hid (HX.out.below hb)
  replace HY := Lib.hid (HY.out.below hb)
  replace HJ1 := Lib.hid (HJ1.out.below hb)
  replace HJ2 := Lib.hid (HJ2.out.below hb)
  replace HJ3 := Lib.hid (HJ3.out.below hb)
  replace HBL := Lib.hid (bstep HBL.out hb)
  clear hb HC
  clear HJ2
  have HC := Lib.hid (pboth_s _ _ J3 J1 w7 HJ3.out HJ1.out (by omega) (by omega))
  go_wp2_with fail
  (with_reducible refine (HC.out).mono ?_)
  rintro e w8 ⟨rfl, hb⟩
  rw [HC2.out]
  replace K_A := Lib.hid (below_keep hb K_A.out)
  replace K_B := Lib.hid (below_keep hb K_B.out)
  replace HX := Lib.hid (HX.out.below hb)
  replace HY := Lib.hid (HY.out.below hb)
  replace HJ1 := Lib.hid (HJ1.out.below hb)
  replace HJ3 := Lib.hid (HJ3.out.below hb)
  replace HBL := Lib.hid (bstep HBL.out hb)
  clear hb HC
  clear HJ3
  clear HC1 HC2
  have p0 := cell_of_block (j := 0) K_A.out rfl
  have p1 := cell_of_block (j := 1) K_A.out rfl
  have q0 := cell_of_block (j := 0) K_B.out rfl
  have q1 := cell_of_block (j := 1) K_B.out rfl
  have hAl := hlt_of K_A.out
  have hBl := hlt_of K_B.out
  have HC := Lib.hid (phas_s _ X pt pn ds dc w8 HX.out (by omega))
  go_wp2_with fail
  (with_reducible refine (HC.out).mono ?_)
  rintro e w9 ⟨rfl, hb⟩
  replace K_A := Lib.hid (below_keep hb K_A.out)
  replace K_B := Lib.hid (below_keep hb K_B.out)
  replace HX := Lib.hid (HX.out.below hb)
  replace HY := Lib.hid (HY.out.below hb)
  replace HJ1 := Lib.hid (HJ1.out.below hb)
  replace HBL := Lib.hid (bstep HBL.out hb)
  clear hb HC
  clear p0 p1 q0 q1 hAl hBl
  have p0 := cell_of_block (j := 0) K_A.out rfl
  have p1 := cell_of_block (j := 1) K_A.out rfl
  have q0 := cell_of_block (j := 0) K_B.out rfl
  have q1 := cell_of_block (j := 1) K_B.out rfl
  have hAl := hlt_of K_A.out
  have hBl := hlt_of K_B.out
  have HC := Lib.hid (phas_s _ Y pt pn ds dc w9 HY.out (by omega))
  go_wp2_with fail
  (with_reducible refine (HC.out).mono ?_)
  rintro e w10 ⟨rfl, hb⟩
  replace K_A := Lib.hid (below_keep hb K_A.out)
  replace K_B := Lib.hid (below_keep hb K_B.out)
  replace HX := Lib.hid (HX.out.below hb)
  replace HY := Lib.hid (HY.out.below hb)
  replace HJ1 := Lib.hid (HJ1.out.below hb)
  replace HBL := Lib.hid (bstep HBL.out hb)
  clear hb HC
  clear p0 p1 q0 q1 hAl hBl
  have p0 := cell_of_block (j := 0) K_A.out rfl
  have p1 := cell_of_block (j := 1) K_A.out rfl
  have q0 := cell_of_block (j := 0) K_B.out rfl
  have q1 := cell_of_block (j := 1) K_B.out rfl
  have hAl := hlt_of K_A.out
  have hBl := hlt_of K_B.out
  have HC := Lib.hid (phas_s _ J1 pt pn ds dc w10 HJ1.out (by omega))
  go_wp2_with fail
  (with_reducible refine (HC.out).mono ?_)
  rintro e w11 ⟨rfl, hb⟩
  replace K_A := Lib.hid (below_keep hb K_A.out)
  replace K_B := Lib.hid (below_keep hb K_B.out)
  replace HX := Lib.hid (HX.out.below hb)
  replace HY := Lib.hid (HY.out.below hb)
  replace HJ1 := Lib.hid (HJ1.out.below hb)
  replace HBL := Lib.hid (bstep HBL.out hb)
  clear hb HC
  clear p0 p1 q0 q1 hAl hBl
  have HC := Lib.hid (pwithin_s _ _ X J1 w11 HX.out HJ1.out (by omega) (by omega))
  go_wp2_with fail
  (with_reducible refine (HC.out).mono ?_)
  rintro e w12 ⟨rfl, hb⟩
  rw [HC3.out]
  replace K_A := Lib.hid (below_keep hb K_A.out)
  replace K_B := Lib.hid (below_keep hb K_B.out)
  replace HX := Lib.hid (HX.out.below hb)
  replace HY := Lib.hid (HY.out.below hb)
  replace HJ1 := Lib.hid (HJ1.out.below hb)
  replace HBL := Lib.hid (bstep HBL.out hb)
  clear hb HC
  rw [HC4.out]
  have hbl := HBL.out
  generalize hasS X pt pn ds dc = p at *
  generalize hasS Y pt pn ds dc = q at *
  generalize hasSE pt pn ds dc = sc at *
  have hlen : decide ((J1.length : Int) ≤ (X.length : Int) + (Y.length : Int)) = true := by rw [decide_eq_true_eq]; omega
  clear HC3 HC4 HBL HX HY HJ1 K_A K_B HXO HYO
  cases p <;> cases q <;> (go_wp2; go_ret; exact ⟨rfl, hbl⟩)
end Go.Proofs.Ytliieljmfncmjaa
