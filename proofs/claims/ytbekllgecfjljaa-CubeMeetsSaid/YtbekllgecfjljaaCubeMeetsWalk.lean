/- The walk of CubeMeets: it returns true, whatever the integers are. Written by a small program (gen/cube.py). -/
import Derived.Test.YtbekllgecfjljaaCubeLaw0
namespace Go.Proofs.Ytbekllgecfjljaa
open Go.RowKit
set_option maxRecDepth 100000 in
set_option maxHeartbeats 4000000 in
theorem CubeMeets_walk (a b c tags : Int) (w : World) :
    Calls Try.prog 5 #[.int .i64 a, .int .i64 b, .int .i64 c, .int .i64 tags] w fun e w' => e = .returned (.bool true) ∧ Below w.heap.size w w' := by
  have hbel := Below.refl w.heap.size w
  go_enter Try.func5, Try.ntmps5
  have heqs := eqCube
  have heqg := eqGuardCube
  go_wp2_with fail
  (with_reducible refine (cubeMeet_c 1 0 0 2 _).mono ?_)
  rintro e w1 ⟨rfl, hb⟩
  replace hbel := bstep hbel hb
  clear hb
  rw [show cubeMeetY 1 0 0 2 = 1 from by decide +kernel, show cubeMeetN 1 0 0 2 = 2 from by decide +kernel, show cubeMeetE 1 0 0 2 = 0 from by decide +kernel]
  go_wp2_with fail
  (with_reducible refine (oneM a _).mono ?_)
  rintro e w2 ⟨rfl, hb⟩
  replace hb := ba1 hb
  replace hbel := bstep hbel hb
  clear hb
  have HEQ := Lib.hid heqs
  clear heqs
  go_wp2_with fail
  (with_reducible refine (oneM b _).mono ?_)
  rintro e w3 ⟨rfl, hb⟩
  replace hbel := bstep hbel hb
  clear hb
  go_wp2_with fail
  (with_reducible refine (oneM c _).mono ?_)
  rintro e w4 ⟨rfl, hb⟩
  replace hbel := bstep hbel hb
  clear hb
  go_wp2_with fail
  (with_reducible refine (withinInt_c tags 16 (by decide) (by decide) _).mono ?_)
  rintro e wt ⟨rfl, rfl⟩
  obtain ⟨T, hT⟩ : ∃ T, tags % 18446744073709551616 % 16 = encF T := ⟨tb (tags % 18446744073709551616 % 16), (enc_tb _ (by omega) (by omega)).symm⟩
  rw [hT]
  clear hT
  have key := meets_key (dY a) (dN a) (dY b) (dN b) (dY c) (dN c) T (d_apart c)
  cases hm : meets (dY a) (dN a) (dY b) (dN b)
  · have KEY := Lib.hid (key.2 (d_apart a) (d_apart b) hm)
    clear key
    have hm' := (meets_comm (dY a) (dN a) (dY b) (dN b)).symm.trans hm
    have HM := Lib.hid hm
    have HM' := Lib.hid hm'
    clear hm hm'
    go_wp2_with fail
    (with_reducible refine (meetN (d_apart a) (d_apart b) HM.out _).mono ?_)
    rintro e w5 ⟨rfl, hb⟩
    obtain ⟨c_x0, c_x1, c_y0, c_y1, c_z0, c_z1, -, -, -, hb⟩ := boxes3 hb
    replace hbel := bstep hbel hb
    clear hb
    have lx := World.block_lt_of_cell? _ _ c_x0
    have ly := World.block_lt_of_cell? _ _ c_y0
    have lz := World.block_lt_of_cell? _ _ c_z0
    simp only at lx ly lz
    go_wp2_with fail
    (with_reducible refine (meetN (d_apart b) (d_apart a) HM'.out _).mono ?_)
    rintro e w6 ⟨rfl, hb⟩
    have c_m0 := ckeep hb (cat _ _ _ 0 _ rfl _ rfl)
    have c_m1 := ckeep hb (cat _ _ _ 1 _ rfl _ rfl)
    replace hb := ba1 hb
    replace c_x0 := ckeep hb c_x0
    replace c_x1 := ckeep hb c_x1
    replace c_y0 := ckeep hb c_y0
    replace c_y1 := ckeep hb c_y1
    replace c_z0 := ckeep hb c_z0
    replace c_z1 := ckeep hb c_z1
    replace hbel := bstep hbel hb
    clear hb
    simp only [List.getElem_toArray, List.getElem_cons_zero, List.getElem_cons_succ] at c_m0 c_m1
    have heqs := HEQ.out
    clear HEQ
    have lx := World.block_lt_of_cell? _ _ c_x0
    have ly := World.block_lt_of_cell? _ _ c_y0
    have lz := World.block_lt_of_cell? _ _ c_z0
    have lm := World.block_lt_of_cell? _ _ c_m0
    simp only at lx ly lz lm
    obtain ⟨h1, h2⟩ := KEY.out
    clear KEY
    have H2 := Lib.hid h2
    clear h2
    generalize hp : (bits .and .i64 (encF (dY a)) (encF (dN b)) == 0) = p at *
    generalize hq : (bits .and .i64 (encF (dN a)) (encF (dY b)) == 0) = q at *
    have hp' : (bits .and .i64 (encF (dY a)) (encF (dN b)) != 0) = !p := by rw [bne, hp]
    have hq' : (bits .and .i64 (encF (dN a)) (encF (dY b)) != 0) = !q := by rw [bne, hq]
    cases p <;> cases q <;> (first | (exfalso; simp at h1; done) | skip)
    all_goals simp only [Bool.not_true, Bool.not_false] at hp' hq'
    all_goals clear h1
    all_goals go_wp2_with fail
    all_goals (with_reducible refine (withinM' (d_apart c) (d_apart a) _).mono ?_)
    all_goals rintro e w8 ⟨rfl, hb⟩
    all_goals replace hb := ba1 hb
    all_goals replace c_x0 := ckeep hb c_x0
    all_goals replace c_x1 := ckeep hb c_x1
    all_goals replace c_y0 := ckeep hb c_y0
    all_goals replace c_y1 := ckeep hb c_y1
    all_goals replace c_z0 := ckeep hb c_z0
    all_goals replace c_z1 := ckeep hb c_z1
    all_goals replace c_m0 := ckeep hb c_m0
    all_goals replace c_m1 := ckeep hb c_m1
    all_goals replace hbel := bstep hbel hb
    all_goals clear hb heqs heqg hp hq hp' hq'
    all_goals go_wp2_with fail
    all_goals (with_reducible refine (withinM' (d_apart c) (d_apart b) _).mono ?_)
    all_goals rintro e w9 ⟨rfl, hb⟩
    all_goals replace hbel := bstep hbel hb
    all_goals have h2 := H2.out
    all_goals clear H2
    all_goals generalize (allF fun i => (!dY a i || dY c i) && (!dN a i || dN c i)) = B1 at *
    all_goals generalize (allF fun i => (!dY b i || dY c i) && (!dN b i || dN c i)) = B2 at *
    all_goals cases B1 <;> cases B2 <;> (first | (exfalso; simp at h2; done) | skip)
    all_goals clear h2
    all_goals go_wp2
    all_goals go_ret
    all_goals exact ⟨rfl, hbel⟩
  · have KEY := Lib.hid (key.1 hm)
    have HA := Lib.hid (show Apart (fun i => dY a i || dY b i) (fun i => dN a i || dN b i) from hm)
    clear key
    have hm' := (meets_comm (dY a) (dN a) (dY b) (dN b)).symm.trans hm
    have HM := Lib.hid hm
    have HM' := Lib.hid hm'
    clear hm hm'
    go_wp2_with fail
    (with_reducible refine (meetY (d_apart a) (d_apart b) HM.out _).mono ?_)
    rintro e w5 ⟨rfl, hb⟩
    obtain ⟨c_x0, c_x1, c_y0, c_y1, c_z0, c_z1, -, -, -, hb⟩ := boxes3 hb
    replace hbel := bstep hbel hb
    clear hb
    have lx := World.block_lt_of_cell? _ _ c_x0
    have ly := World.block_lt_of_cell? _ _ c_y0
    have lz := World.block_lt_of_cell? _ _ c_z0
    simp only at lx ly lz
    go_wp2_with fail
    (with_reducible refine (meetY (d_apart b) (d_apart a) HM'.out _).mono ?_)
    rintro e w6 ⟨rfl, hb⟩
    have c_m0 := ckeep hb (cat _ _ _ 0 _ rfl _ rfl)
    have c_m1 := ckeep hb (cat _ _ _ 1 _ rfl _ rfl)
    replace hb := ba1 hb
    replace c_x0 := ckeep hb c_x0
    replace c_x1 := ckeep hb c_x1
    replace c_y0 := ckeep hb c_y0
    replace c_y1 := ckeep hb c_y1
    replace c_z0 := ckeep hb c_z0
    replace c_z1 := ckeep hb c_z1
    replace hbel := bstep hbel hb
    clear hb
    simp only [List.getElem_toArray, List.getElem_cons_zero, List.getElem_cons_succ] at c_m0 c_m1
    rw [show (fun i => dY b i || dY a i) = (fun i => dY a i || dY b i) from funext fun i => Bool.or_comm _ _, show (fun i => dN b i || dN a i) = (fun i => dN a i || dN b i) from funext fun i => Bool.or_comm _ _]
    have heqs := HEQ.out
    clear HEQ
    have lx := World.block_lt_of_cell? _ _ c_x0
    have ly := World.block_lt_of_cell? _ _ c_y0
    have lz := World.block_lt_of_cell? _ _ c_z0
    have lm := World.block_lt_of_cell? _ _ c_m0
    simp only at lx ly lz lm
    obtain ⟨e1, e2, k1, k2⟩ := KEY.out
    clear KEY
    have e1' : (bits .and .i64 (encF (dY a)) (encF (dN b)) != 0) = false := by rw [bne, e1]; rfl
    have e2' : (bits .and .i64 (encF (dN a)) (encF (dY b)) != 0) = false := by rw [bne, e2]; rfl
    have K1 := Lib.hid k1
    have K2 := Lib.hid k2
    clear k1 k2
    go_wp2_with fail
    (with_reducible refine (withinM' (d_apart c) (d_apart a) _).mono ?_)
    rintro e w7 ⟨rfl, hb⟩
    replace hb := ba1 hb
    replace c_x0 := ckeep hb c_x0
    replace c_x1 := ckeep hb c_x1
    replace c_y0 := ckeep hb c_y0
    replace c_y1 := ckeep hb c_y1
    replace c_z0 := ckeep hb c_z0
    replace c_z1 := ckeep hb c_z1
    replace c_m0 := ckeep hb c_m0
    replace c_m1 := ckeep hb c_m1
    replace hbel := bstep hbel hb
    clear hb
    clear heqs heqg e1 e2 e1' e2'
    go_wp2_with fail
    (with_reducible refine (withinM' (d_apart c) (d_apart b) _).mono ?_)
    rintro e w8 ⟨rfl, hb⟩
    replace c_x0 := ckeep hb c_x0
    replace c_x1 := ckeep hb c_x1
    replace c_y0 := ckeep hb c_y0
    replace c_y1 := ckeep hb c_y1
    replace c_z0 := ckeep hb c_z0
    replace c_z1 := ckeep hb c_z1
    replace c_m0 := ckeep hb c_m0
    replace c_m1 := ckeep hb c_m1
    replace hbel := bstep hbel hb
    clear hb
    go_wp2_with fail
    (with_reducible refine (withinM' (d_apart c) HA.out _).mono ?_)
    rintro e w9 ⟨rfl, hb⟩
    replace c_x0 := ckeep hb c_x0
    replace c_x1 := ckeep hb c_x1
    replace c_y0 := ckeep hb c_y0
    replace c_y1 := ckeep hb c_y1
    replace c_z0 := ckeep hb c_z0
    replace c_z1 := ckeep hb c_z1
    replace c_m0 := ckeep hb c_m0
    replace c_m1 := ckeep hb c_m1
    replace hbel := bstep hbel hb
    clear hb
    rw [K1.out]
    go_wp2_with fail
    (with_reducible refine (hasM' T (d_apart a) _).mono ?_)
    rintro e w10 ⟨rfl, hb⟩
    replace c_x0 := ckeep hb c_x0
    replace c_x1 := ckeep hb c_x1
    replace c_y0 := ckeep hb c_y0
    replace c_y1 := ckeep hb c_y1
    replace c_z0 := ckeep hb c_z0
    replace c_z1 := ckeep hb c_z1
    replace c_m0 := ckeep hb c_m0
    replace c_m1 := ckeep hb c_m1
    replace hbel := bstep hbel hb
    clear hb
    go_wp2_with fail
    (with_reducible refine (hasM' T (d_apart b) _).mono ?_)
    rintro e w11 ⟨rfl, hb⟩
    replace c_x0 := ckeep hb c_x0
    replace c_x1 := ckeep hb c_x1
    replace c_y0 := ckeep hb c_y0
    replace c_y1 := ckeep hb c_y1
    replace c_z0 := ckeep hb c_z0
    replace c_z1 := ckeep hb c_z1
    replace c_m0 := ckeep hb c_m0
    replace c_m1 := ckeep hb c_m1
    replace hbel := bstep hbel hb
    clear hb
    go_wp2_with fail
    (with_reducible refine (hasM' T HA.out _).mono ?_)
    rintro e w12 ⟨rfl, hb⟩
    replace c_x0 := ckeep hb c_x0
    replace c_x1 := ckeep hb c_x1
    replace c_y0 := ckeep hb c_y0
    replace c_y1 := ckeep hb c_y1
    replace c_z0 := ckeep hb c_z0
    replace c_z1 := ckeep hb c_z1
    replace c_m0 := ckeep hb c_m0
    replace c_m1 := ckeep hb c_m1
    replace hbel := bstep hbel hb
    clear hb
    rw [K2.out]
    clear K1 K2
    generalize (allF fun i => (!dY a i || dY c i) && (!dN a i || dN c i)) = B1 at *
    generalize (allF fun i => (!dY b i || dY c i) && (!dN b i || dN c i)) = B2 at *
    generalize (allF fun i => (!dY a i || T i) && (!dN a i || !T i)) = B3 at *
    generalize (allF fun i => (!dY b i || T i) && (!dN b i || !T i)) = B4 at *
    cases B1 <;> cases B2 <;> cases B3 <;> cases B4
    all_goals go_wp2
    all_goals go_ret
    all_goals exact ⟨rfl, hbel⟩
end Go.Proofs.Ytbekllgecfjljaa
