/- What PartNarrows does: it returns true. -/
import Derived.Test.YtliieljmfncmjaaMPartL
namespace Go.Proofs.Ytliieljmfncmjaa
open Go.RowKit
set_option maxRecDepth 100000 in
set_option maxHeartbeats 8000000 in
theorem PartNarrows_walk (fv av xv yv : Value) (fs : List Bxs) (als : List (List (List Int))) (f g : Bxs) (pt pn ds dc : Int) (w : World) (hf : RowAt bxsE w fv fs) (ha : RowAt vecsE w av als) (hx : BxsAt w xv f) (hy : BxsAt w yv g) :
    Calls Try.prog 16 #[fv, av, xv, yv, .agg #[.int .i64 pt, .int .i64 pn], .agg #[.int .i64 ds, .int .i64 dc]] w fun e w' => e = .returned (.bool true) ∧ Below w.heap.size w w' := by
  have HFS := Lib.hid hf
  have HA := Lib.hid ha
  have HF := Lib.hid hx
  have HG := Lib.hid hy
  obtain ⟨sa0, sc0, rfl⟩ := hf.shape
  obtain ⟨sa1, sc1, rfl⟩ := ha.shape
  obtain ⟨sa2, sc2, rfl⟩ := hx.shape
  obtain ⟨sa3, sc3, rfl⟩ := hy.shape
  obtain ⟨W, hW⟩ : ∃ W, W = (w.alloc (.cells #[.int .i64 pt, .int .i64 pn] 51)).alloc (.cells #[.int .i64 ds, .int .i64 dc] 49) := ⟨_, rfl⟩
  have hbw : Below w.heap.size w W := by rw [hW]; exact (bal _).alloc (by simp) _
  have HBL := Lib.hid hbw
  have K_A := Lib.hid (show W.heap[w.heap.size]? = some (Obj.cells #[.int .i64 pt, .int .i64 pn] 51 (0, 0)) by rw [hW]; exact alloc_keep _ (alloc_new _ _ _ _ rfl))
  have K_B := Lib.hid (show W.heap[w.heap.size + 1]? = some (Obj.cells #[.int .i64 ds, .int .i64 dc] 49 (0, 0)) by rw [hW]; exact alloc_new _ _ _ _ (by simp))
  replace HFS := Lib.hid (HFS.out.below hbw)
  replace HA := Lib.hid (HA.out.below hbw)
  replace HF := Lib.hid (HF.out.below hbw)
  replace HG := Lib.hid (HG.out.below hbw)
  clear hbw
  clear hf ha hx hy
  go_enter Try.func16, Try.ntmps16
  go_wp2_with fail
  rw [← hW]
  clear hW
  have HC := Lib.hid (partBegun_c W)
  (with_reducible refine (HC.out).mono ?_)
  rintro e w1 ⟨rfl, hb⟩
  replace HFS := Lib.hid (HFS.out.below hb)
  replace HA := Lib.hid (HA.out.below hb)
  replace HF := Lib.hid (HF.out.below hb)
  replace HG := Lib.hid (HG.out.below hb)
  replace K_A := Lib.hid (below_keep hb K_A.out)
  replace K_B := Lib.hid (below_keep hb K_B.out)
  replace HBL := Lib.hid (bstep HBL.out hb)
  clear hb HC
  have HC := Lib.hid (parts_c _ _ fs als w1 HFS.out HA.out)
  go_wp2_with fail
  (with_reducible refine (HC.out).mono ?_)
  rintro e w2 ⟨X, a2, c2, rfl, h1, h2, hb⟩
  replace HFS := Lib.hid (HFS.out.below hb)
  replace HA := Lib.hid (HA.out.below hb)
  replace HF := Lib.hid (HF.out.below hb)
  replace HG := Lib.hid (HG.out.below hb)
  replace K_A := Lib.hid (below_keep hb K_A.out)
  replace K_B := Lib.hid (below_keep hb K_B.out)
  replace HBL := Lib.hid (bstep HBL.out hb)
  have HX := Lib.hid (h1)
  clear hb HC h1
  have LX := Lib.hid h2
  clear h2
  clear HFS HA
  have HXO := Lib.hid HX.out.ok
  have lx := LX.out
  have HC := Lib.hid (pnarrow_e _ _ X f w2 HX.out HF.out (by omega))
  go_wp2_with fail
  (with_reducible refine (HC.out).mono ?_)
  rintro e w3 ⟨na, nn, nc, rfl, hn1, hn2, hb⟩
  replace HF := Lib.hid (HF.out.below hb)
  replace HG := Lib.hid (HG.out.below hb)
  replace K_A := Lib.hid (below_keep hb K_A.out)
  replace K_B := Lib.hid (below_keep hb K_B.out)
  replace HX := Lib.hid (HX.out.below hb)
  replace HBL := Lib.hid (bstep HBL.out hb)
  clear hb HC
  by_cases h0 : fChk f = 0
  rotate_left
  · have hj := hn2 h0
    subst hj
    have hne : decide (fChk f = 0) = false := by simpa using h0
    have hnb : (fChk f != 0) = true := bne_iff_ne.2 h0
    have hbl := HBL.out
    generalize fChk f = sc at *
    clear h0 hn1 hn2 HX HF HG HBL HXO
    go_wp2
    go_ret
    exact ⟨rfl, hbl⟩
  have HF0 := Lib.hid h0
  have HN := Lib.hid (hn1 h0)
  rw [h0]
  have ln := narrow_len X fun t n => inF f t n
  obtain ⟨sh1, sh2, hsh⟩ := HN.out.shape
  simp only [Value.slice.injEq] at hsh
  obtain ⟨-, hnn, -⟩ := hsh
  subst hnn
  clear h0 hn1 hn2 sh1 sh2
  have HTW := Lib.hid (narrow_two HXO.out (fun t n => inF f t n) (fun t n => inF g t n))
  have HHN := Lib.hid (fun hp hd => has_narrow HXO.out (fun t n => inF f t n) (t := pt) (n := pn) (s := ds) (c := dc) hp hd)
  have HFV := Lib.hid (FV.mk HF.out HF0.out)
  have lN := ln
  generalize hN : narrowS X (fun t n => inF f t n) = N at *
  have HNE := Lib.hid hN
  clear hN
  have p0 := cell_of_block (j := 0) K_A.out rfl
  have p1 := cell_of_block (j := 1) K_A.out rfl
  have q0 := cell_of_block (j := 0) K_B.out rfl
  have q1 := cell_of_block (j := 1) K_B.out rfl
  have hAl := hlt_of K_A.out
  have hBl := hlt_of K_B.out
  have HC := Lib.hid (phas_s _ X pt pn ds dc w3 HX.out (by omega))
  go_wp2_with fail
  (with_reducible refine (HC.out).mono ?_)
  rintro e w4 ⟨rfl, hb⟩
  replace HF := Lib.hid (HF.out.below hb)
  replace HG := Lib.hid (HG.out.below hb)
  replace K_A := Lib.hid (below_keep hb K_A.out)
  replace K_B := Lib.hid (below_keep hb K_B.out)
  replace HX := Lib.hid (HX.out.below hb)
  replace HN := Lib.hid (HN.out.below hb)
  replace HFV := Lib.hid (HFV.out.below hb)
  replace HBL := Lib.hid (bstep HBL.out hb)
  clear hb HC
  clear p0 p1 q0 q1 hAl hBl
  have p0 := cell_of_block (j := 0) K_A.out rfl
  have p1 := cell_of_block (j := 1) K_A.out rfl
  have q0 := cell_of_block (j := 0) K_B.out rfl
  have q1 := cell_of_block (j := 1) K_B.out rfl
  have hAl := hlt_of K_A.out
  have hBl := hlt_of K_B.out
  have HC := Lib.hid (phas_s _ N pt pn ds dc w4 HN.out (by omega))
  go_wp2_with fail
  (with_reducible refine (HC.out).mono ?_)
  rintro e w5 ⟨rfl, hb⟩
  replace HF := Lib.hid (HF.out.below hb)
  replace HG := Lib.hid (HG.out.below hb)
  replace K_A := Lib.hid (below_keep hb K_A.out)
  replace K_B := Lib.hid (below_keep hb K_B.out)
  replace HX := Lib.hid (HX.out.below hb)
  replace HN := Lib.hid (HN.out.below hb)
  replace HFV := Lib.hid (HFV.out.below hb)
  replace HBL := Lib.hid (bstep HBL.out hb)
  clear hb HC
  clear p0 p1 q0 q1 hAl hBl
  have p0 := cell_of_block (j := 0) K_A.out rfl
  have p1 := cell_of_block (j := 1) K_A.out rfl
  have q0 := cell_of_block (j := 0) K_B.out rfl
  have q1 := cell_of_block (j := 1) K_B.out rfl
  have hAl := hlt_of K_A.out
  have hBl := hlt_of K_B.out
  have HC := Lib.hid (hasF _ (fun t n => inF f t n) pt pn w5 HFV.out)
  go_wp2_with fail
  (with_reducible refine (HC.out).mono ?_)
  rintro e w6 ⟨rfl, hb⟩
  generalize hpe : (if ptOk pt pn = true then (0 : Int) else 1) = pe at *
  have HPE := Lib.hid hpe
  clear hpe
  replace HF := Lib.hid (HF.out.below hb)
  replace HG := Lib.hid (HG.out.below hb)
  replace K_A := Lib.hid (below_keep hb K_A.out)
  replace K_B := Lib.hid (below_keep hb K_B.out)
  replace HX := Lib.hid (HX.out.below hb)
  replace HN := Lib.hid (HN.out.below hb)
  replace HFV := Lib.hid (HFV.out.below hb)
  replace HBL := Lib.hid (bstep HBL.out hb)
  clear hb HC
  clear p0 p1 q0 q1 hAl hBl
  have p0 := cell_of_block (j := 0) K_A.out rfl
  have p1 := cell_of_block (j := 1) K_A.out rfl
  have q0 := cell_of_block (j := 0) K_B.out rfl
  have q1 := cell_of_block (j := 1) K_B.out rfl
  have hAl := hlt_of K_A.out
  have hBl := hlt_of K_B.out
  have HC := Lib.hid (point_c pt pn w6)
  go_wp2_with fail
  (with_reducible refine (HC.out).mono ?_)
  rintro e w7 ⟨rfl, hb⟩
  replace HF := Lib.hid (HF.out.below hb)
  replace HG := Lib.hid (HG.out.below hb)
  replace K_A := Lib.hid (below_keep hb K_A.out)
  replace K_B := Lib.hid (below_keep hb K_B.out)
  replace HX := Lib.hid (HX.out.below hb)
  replace HN := Lib.hid (HN.out.below hb)
  replace HFV := Lib.hid (HFV.out.below hb)
  replace HBL := Lib.hid (bstep HBL.out hb)
  clear hb HC
  clear p0 p1 q0 q1 hAl hBl
  cases hp : ptOk pt pn
  · have hE : hasSE pt pn ds dc = 1 := by unfold hasSE; rw [hp]; rfl
    rw [hE]
    have hbl := HBL.out
    clear hE hp HX HF HG HBL HXO HN HFV K_A K_B HTW HHN
    generalize hasS X pt pn ds dc = p at *
    generalize hasS N pt pn ds dc = q at *
    generalize atP (fun t n => inF f t n) pt pn = r at *
    go_wp2
    go_ret
    exact ⟨rfl, hbl⟩
  have p0 := cell_of_block (j := 0) K_A.out rfl
  have p1 := cell_of_block (j := 1) K_A.out rfl
  have q0 := cell_of_block (j := 0) K_B.out rfl
  have q1 := cell_of_block (j := 1) K_B.out rfl
  have hAl := hlt_of K_A.out
  have hBl := hlt_of K_B.out
  have HC := Lib.hid (dot_c ds dc w7)
  go_wp2_with fail
  (with_reducible refine (HC.out).mono ?_)
  rintro e w8 ⟨rfl, hb⟩
  replace HF := Lib.hid (HF.out.below hb)
  replace HG := Lib.hid (HG.out.below hb)
  replace K_A := Lib.hid (below_keep hb K_A.out)
  replace K_B := Lib.hid (below_keep hb K_B.out)
  replace HX := Lib.hid (HX.out.below hb)
  replace HN := Lib.hid (HN.out.below hb)
  replace HFV := Lib.hid (HFV.out.below hb)
  replace HBL := Lib.hid (bstep HBL.out hb)
  clear hb HC
  clear p0 p1 q0 q1 hAl hBl
  cases hd : dotOk (ds, dc)
  · have hE : hasSE pt pn ds dc = 1 := by unfold hasSE; rw [hp, hd]; rfl
    rw [hE]
    have hbl := HBL.out
    clear hE hp hd HX HF HG HBL HXO HN HFV K_A K_B HTW HHN
    generalize hasS X pt pn ds dc = p at *
    generalize hasS N pt pn ds dc = q at *
    generalize atP (fun t n => inF f t n) pt pn = r at *
    go_wp2
    go_ret
    exact ⟨rfl, hbl⟩
  have hE : hasSE pt pn ds dc = 0 := by unfold hasSE; rw [hp, hd]; rfl
  have hq : hasS N pt pn ds dc = (hasS X pt pn ds dc && atP (fun t n => inF f t n) pt pn) := by
    rw [HHN.out hp hd]; unfold atP; rw [hp, Bool.true_and]
  have hpe0 : pe = 0 := by rw [← HPE.out, hp]; rfl
  subst hpe0
  clear HPE
  rw [hE, hq]
  generalize hasS X pt pn ds dc = p at *
  generalize atP (fun t n => inF f t n) pt pn = r at *
  clear hE hq hp hd HHN
  cases p <;> cases r
  all_goals
    have HC := Lib.hid (meetf_c _ _ f g _ HF.out HG.out)
    go_wp2_with fail
    (with_reducible refine (HC.out).mono ?_)
    rintro e w9 ⟨v9, rfl, ho, hb⟩
    replace HF := Lib.hid (HF.out.below hb)
    replace HG := Lib.hid (HG.out.below hb)
    replace K_A := Lib.hid (below_keep hb K_A.out)
    replace K_B := Lib.hid (below_keep hb K_B.out)
    replace HX := Lib.hid (HX.out.below hb)
    replace HN := Lib.hid (HN.out.below hb)
    replace HFV := Lib.hid (HFV.out.below hb)
    replace HBL := Lib.hid (bstep HBL.out hb)
    clear hb HC
    obtain ⟨ja, jn, jc, rfl⟩ := ho.nil_or
    by_cases h0 : fTwo f g = 0
    rotate_left
    · have hv := ho.2 h0
      have hj : jn = 0 := by simp only [Value.slice.injEq] at hv; exact hv.2.1
      subst hj
      have hne : decide (fTwo f g = 0) = false := by simpa using h0
      have hnb : (fTwo f g != 0) = true := bne_iff_ne.2 h0
      have hbl := HBL.out
      generalize fTwo f g = sc at *
      clear h0 ho hv HX HF HG HN HFV K_A K_B HBL HTW HXO
      go_wp2
      go_ret
      exact ⟨rfl, hbl⟩
    obtain ⟨hf0, hg0⟩ := fTwo_zero h0
    rw [h0] at ho ⊢
    have HJ := Lib.hid (FV.of_out (q := fun k n => inF f k n && inF g k n) ho fun _ _ _ _ => rfl)
    clear ho h0 hf0
    have HC := Lib.hid (pnarrow_s _ _ N _ w9 HN.out (FV.mk HG.out hg0) (by omega))
    go_wp2_with fail
    (with_reducible refine (HC.out).mono ?_)
    rintro e w10 ⟨a10, c10, rfl, h1, hb⟩
    replace HF := Lib.hid (HF.out.below hb)
    replace HG := Lib.hid (HG.out.below hb)
    replace K_A := Lib.hid (below_keep hb K_A.out)
    replace K_B := Lib.hid (below_keep hb K_B.out)
    replace HX := Lib.hid (HX.out.below hb)
    replace HN := Lib.hid (HN.out.below hb)
    replace HFV := Lib.hid (HFV.out.below hb)
    replace HJ := Lib.hid (HJ.out.below hb)
    replace HBL := Lib.hid (bstep HBL.out hb)
    have HY := Lib.hid (h1.sem (by have := narrow_len N fun t n => inF g t n; omega))
    clear hb HC h1
    have HC := Lib.hid (pnarrow_s _ _ X _ w10 HX.out HJ.out (by omega))
    go_wp2_with fail
    (with_reducible refine (HC.out).mono ?_)
    rintro e w11 ⟨a11, c11, rfl, h1, hb⟩
    replace HF := Lib.hid (HF.out.below hb)
    replace HG := Lib.hid (HG.out.below hb)
    replace K_A := Lib.hid (below_keep hb K_A.out)
    replace K_B := Lib.hid (below_keep hb K_B.out)
    replace HX := Lib.hid (HX.out.below hb)
    replace HN := Lib.hid (HN.out.below hb)
    replace HFV := Lib.hid (HFV.out.below hb)
    replace HJ := Lib.hid (HJ.out.below hb)
    replace HY := Lib.hid (HY.out.below hb)
    replace HBL := Lib.hid (bstep HBL.out hb)
    have HZ := Lib.hid (h1.sem (by have := narrow_len X fun k n => inF f k n && inF g k n; omega))
    clear hb HC h1
    have ly := narrow_len N fun t n => inF g t n
    have lz := narrow_len X fun k n => inF f k n && inF g k n
    generalize narrowS N (fun t n => inF g t n) = Y at *
    generalize narrowS X (fun k n => inF f k n && inF g k n) = Z at *
    have HC := Lib.hid (pboth_s _ _ Y Z w11 HY.out HZ.out (by omega) (by omega))
    go_wp2_with fail
    (with_reducible refine (HC.out).mono ?_)
    rintro e w12 ⟨rfl, hb⟩
    rw [HTW.out]
    replace HF := Lib.hid (HF.out.below hb)
    replace HG := Lib.hid (HG.out.below hb)
    replace K_A := Lib.hid (below_keep hb K_A.out)
    replace K_B := Lib.hid (below_keep hb K_B.out)
    replace HX := Lib.hid (HX.out.below hb)
    replace HN := Lib.hid (HN.out.below hb)
    replace HFV := Lib.hid (HFV.out.below hb)
    replace HJ := Lib.hid (HJ.out.below hb)
    replace HY := Lib.hid (HY.out.below hb)
    replace HZ := Lib.hid (HZ.out.below hb)
    replace HBL := Lib.hid (bstep HBL.out hb)
    clear hb HC
    have hbl := HBL.out
    clear HBL HX HY HZ HF HG HJ HN HFV K_A K_B HTW HXO
    go_wp2
    go_ret
    exact ⟨rfl, hbl⟩
end Go.Proofs.Ytliieljmfncmjaa
