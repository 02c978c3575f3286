/- The walk of CubeOrder: it returns true, whatever the integers are. Written by a small program (gen/cube.py). -/
import Derived.Test.YtbekllgecfjljaaCubeLaw0
namespace Go.Proofs.Ytbekllgecfjljaa
open Go.RowKit
set_option maxRecDepth 100000 in
set_option maxHeartbeats 4000000 in
theorem CubeOrder_walk (a b c tags : Int) (w : World) :
    Calls Try.prog 4 #[.int .i64 a, .int .i64 b, .int .i64 c, .int .i64 tags] w fun e w' => e = .returned (.bool true) ∧ Below w.heap.size w w' := by
  have hbel := Below.refl w.heap.size w
  go_enter Try.func4, Try.ntmps4
  go_wp2_with fail
  (with_reducible refine (cubeWithin_c 3 0 1 0 _).mono ?_)
  rintro e w1 ⟨rfl, hb⟩
  replace hbel := bstep hbel hb
  clear hb
  rw [show cubeWithin 3 0 1 0 = true from by decide +kernel, show cubeTwo 3 0 1 0 = 0 from by decide +kernel]
  go_wp2_with fail
  (with_reducible refine (oneM a _).mono ?_)
  rintro e w2 ⟨rfl, hb⟩
  replace hbel := bstep hbel hb
  clear hb
  go_wp2_with fail
  (with_reducible refine (oneM b _).mono ?_)
  rintro e w3 ⟨rfl, hb⟩
  replace hbel := bstep hbel hb
  clear hb
  go_wp2_with fail
  (with_reducible refine (oneM c _).mono ?_)
  rintro e w4 ⟨rfl, hb⟩
  replace hbel := bstep hbel hb
  clear hb
  go_wp2_with fail
  (with_reducible refine (withinInt_c tags 16 (by decide) (by decide) _).mono ?_)
  rintro e wt ⟨rfl, rfl⟩
  obtain ⟨T, hT⟩ : ∃ T, tags % 18446744073709551616 % 16 = encF T := ⟨tb (tags % 18446744073709551616 % 16), (enc_tb _ (by omega) (by omega)).symm⟩
  rw [hT]
  clear hT
  go_wp2_with fail
  (with_reducible refine (withinM' (d_apart a) (d_apart b) _).mono ?_)
  rintro e w5 ⟨rfl, hb⟩
  obtain ⟨c_x0, c_x1, c_y0, c_y1, c_z0, c_z1, -, -, -, hb⟩ := boxes3 hb
  replace hbel := bstep hbel hb
  clear hb
  go_wp2_with fail
  (with_reducible refine (withinM' (d_apart b) (d_apart a) _).mono ?_)
  rintro e w6 ⟨rfl, hb⟩
  replace c_x0 := ckeep hb c_x0
  replace c_x1 := ckeep hb c_x1
  replace c_y0 := ckeep hb c_y0
  replace c_y1 := ckeep hb c_y1
  replace c_z0 := ckeep hb c_z0
  replace c_z1 := ckeep hb c_z1
  replace hbel := bstep hbel hb
  clear hb
  go_wp2_with fail
  (with_reducible refine (withinM' (d_apart b) (d_apart c) _).mono ?_)
  rintro e w7 ⟨rfl, hb⟩
  replace c_x0 := ckeep hb c_x0
  replace c_x1 := ckeep hb c_x1
  replace c_y0 := ckeep hb c_y0
  replace c_y1 := ckeep hb c_y1
  replace c_z0 := ckeep hb c_z0
  replace c_z1 := ckeep hb c_z1
  replace hbel := bstep hbel hb
  clear hb
  go_wp2_with fail
  (with_reducible refine (withinM' (d_apart a) (d_apart c) _).mono ?_)
  rintro e w8 ⟨rfl, hb⟩
  replace c_x0 := ckeep hb c_x0
  replace c_x1 := ckeep hb c_x1
  replace c_y0 := ckeep hb c_y0
  replace c_y1 := ckeep hb c_y1
  replace c_z0 := ckeep hb c_z0
  replace c_z1 := ckeep hb c_z1
  replace hbel := bstep hbel hb
  clear hb
  go_wp2_with fail
  (with_reducible refine (hasM' T (d_apart a) _).mono ?_)
  rintro e w9 ⟨rfl, hb⟩
  replace c_x0 := ckeep hb c_x0
  replace c_x1 := ckeep hb c_x1
  replace c_y0 := ckeep hb c_y0
  replace c_y1 := ckeep hb c_y1
  replace c_z0 := ckeep hb c_z0
  replace c_z1 := ckeep hb c_z1
  replace hbel := bstep hbel hb
  clear hb
  go_wp2_with fail
  (with_reducible refine (hasM' T (d_apart b) _).mono ?_)
  rintro e w10 ⟨rfl, hb⟩
  replace c_x0 := ckeep hb c_x0
  replace c_x1 := ckeep hb c_x1
  replace c_y0 := ckeep hb c_y0
  replace c_y1 := ckeep hb c_y1
  replace c_z0 := ckeep hb c_z0
  replace c_z1 := ckeep hb c_z1
  replace hbel := bstep hbel hb
  clear hb
  go_wp2_with fail
  refine wp_loop_rounds 7 ?_
  iterate 6 (rw [rounds_succ]; go_wp2_with fail)
  obtain ⟨k1, k2, k3⟩ := order_key (dY a) (dN a) (dY b) (dN b) (dY c) (dN c) T
  generalize (allF fun i => (!dY b i || dY a i) && (!dN b i || dN a i)) = B1 at *
  generalize (allF fun i => (!dY a i || dY b i) && (!dN a i || dN b i)) = B2 at *
  generalize (allF fun i => (!dY c i || dY b i) && (!dN c i || dN b i)) = B3 at *
  generalize (allF fun i => (!dY c i || dY a i) && (!dN c i || dN a i)) = B4 at *
  generalize (allF fun i => (!dY a i || T i) && (!dN a i || !T i)) = B5 at *
  generalize (allF fun i => (!dY b i || T i) && (!dN b i || !T i)) = B6 at *
  have heqs : ∀ w, (Op.equalIn 10000 29 (.agg #[.int .i64 (encF (dY a)), .int .i64 (encF (dN a))]) (.agg #[.int .i64 (encF (dY b)), .int .i64 (encF (dN b))])).run Try.prog w = .ok (B1 && B2) w := fun w => by rw [eqCube, k3]
  have heqg := eqGuardCube
  clear k3
  rw [rounds_succ]
  have l0 := World.block_lt_of_cell? _ _ c_x0
  have l1 := World.block_lt_of_cell? _ _ c_y0
  simp only at l0 l1
  cases B1
  · simp only [Bool.false_and] at heqs
    clear k1 k2
    go_wp2
    all_goals go_ret
    all_goals exact ⟨rfl, hbel.alloc hbel.size _⟩
  all_goals cases B2
  all_goals cases B3
  all_goals cases B5
  all_goals (first | (obtain rfl : B4 = true := k1 rfl rfl) | skip)
  all_goals (first | (obtain rfl : B6 = true := k2 rfl rfl) | skip)
  all_goals clear k1 k2
  all_goals simp only [Bool.true_and, Bool.and_self] at heqs
  all_goals go_wp2
  all_goals go_ret
  all_goals exact ⟨rfl, hbel.alloc hbel.size _⟩
end Go.Proofs.Ytbekllgecfjljaa
