/- What cube.Less does to two cubes that have something in common, and to two that have not. Printed in part by a small program (gen/less.py). -/
import Derived.Test.YtbekllgecfjljaaCubeLaw0
import Derived.Test.YtbekllgecfjljaaSpanPure
import Derived.Test.YtbekllgecfjljaaBase2
namespace Go.Proofs.Ytbekllgecfjljaa
open Go.RowKit

/-- The cube that is left behind t tags. -/
def lessY (Y Y' : Nat → Bool) (t : Nat) (i : Nat) : Bool := Y i || (decide (i < t) && Y' i)
/-- Is tag t told by the second cube and not by the first? -/
def cuts (Y N Y' N' : Nat → Bool) (t : Nat) : Bool := !(Y t || N t) && (Y' t || N' t)
/-- The cube that is put out at tag t. -/
def piece (Y N Y' N' : Nat → Bool) (t : Nat) : (Nat → Bool) × (Nat → Bool) :=
  (fun i => lessY Y Y' t i || (decide (i = t) && N' t), fun i => lessY N N' t i || (decide (i = t) && Y' t))
def pieces (Y N Y' N' : Nat → Bool) : Nat → List ((Nat → Bool) × (Nat → Bool))
  | 0 => []
  | t + 1 => if cuts Y N Y' N' t then pieces Y N Y' N' t ++ [piece Y N Y' N' t] else pieces Y N Y' N' t
def ints (l : List ((Nat → Bool) × (Nat → Bool))) : Spans := l.map fun p => (encF p.1, encF p.2)
def lessL (Y N Y' N' : Nat → Bool) : List ((Nat → Bool) × (Nat → Bool)) := if meets Y N Y' N' then pieces Y N Y' N' 4 else [(Y, N)]

theorem pieces_length (Y N Y' N' : Nat → Bool) (t : Nat) : (pieces Y N Y' N' t).length ≤ t := by
  induction t with
  | zero => simp [pieces]
  | succ t ih => simp only [pieces]; split
                 · simp only [List.length_append, List.length_singleton]; omega
                 · omega
theorem CubeTy.info : (Try.prog.info? 29).map (fun i => (i.zero, i.size, i.bytes)) = some (some (.agg #[.int .i64 0, .int .i64 0]), 2, 16) := by kernel_rfl
theorem told_bit (p q : Nat → Bool) : (bits .and .i64 (bits .or .i64 (encF p) (encF q)) 1 != 0) = (p 0 || q 0) ∧ (bits .and .i64 (bits .or .i64 (encF p) (encF q)) 2 != 0) = (p 1 || q 1) ∧
    (bits .and .i64 (bits .or .i64 (encF p) (encF q)) 4 != 0) = (p 2 || q 2) ∧ (bits .and .i64 (bits .or .i64 (encF p) (encF q)) 8 != 0) = (p 3 || q 3) := by
  rw [enc_or]; unfold encF
  show (bits .and .i64 (enc4 (p 0 || q 0) (p 1 || q 1) (p 2 || q 2) (p 3 || q 3)) 1 != 0) = (p 0 || q 0) ∧ (bits .and .i64 (enc4 (p 0 || q 0) (p 1 || q 1) (p 2 || q 2) (p 3 || q 3)) 2 != 0) = (p 1 || q 1) ∧ (bits .and .i64 (enc4 (p 0 || q 0) (p 1 || q 1) (p 2 || q 2) (p 3 || q 3)) 4 != 0) = (p 2 || q 2) ∧ (bits .and .i64 (enc4 (p 0 || q 0) (p 1 || q 1) (p 2 || q 2) (p 3 || q 3)) 8 != 0) = (p 3 || q 3)
  generalize (p 0 || q 0) = a
  generalize (p 1 || q 1) = b
  generalize (p 2 || q 2) = c
  generalize (p 3 || q 3) = d
  revert a b c d; decide +kernel
theorem has_bit (p : Nat → Bool) : (bits .and .i64 (encF p) 1 != 0) = p 0 ∧ (bits .and .i64 (encF p) 2 != 0) = p 1 ∧ (bits .and .i64 (encF p) 4 != 0) = p 2 ∧ (bits .and .i64 (encF p) 8 != 0) = p 3 := by
  unfold encF
  generalize p 0 = a; generalize p 1 = b; generalize p 2 = c; generalize p 3 = d
  revert a b c d; decide +kernel
theorem enc_congr {p q : Nat → Bool} (h : ∀ i, i < 4 → p i = q i) : encF p = encF q := by
  unfold encF; rw [h 0 (by omega), h 1 (by omega), h 2 (by omega), h 3 (by omega)]
theorem or_bit (p : Nat → Bool) (t : Nat) (ht : t < 4) : bits .or .i64 (encF p) (2 ^ t) = encF (fun i => p i || decide (i = t)) := by
  have e : (2 : Int) ^ t = encF (fun i => decide (i = t)) := by
    obtain rfl | rfl | rfl | rfl : t = 0 ∨ t = 1 ∨ t = 2 ∨ t = 3 := by omega
    all_goals decide
  rw [e, enc_or]
/-- What a round does where the tag is told, or told by neither. -/
theorem less_skip {Y N Y' N' : Nat → Bool} {t : Nat} (ht : t < 4) (ha : Apart Y N) (hm : meets Y N Y' N' = true) (h : cuts Y N Y' N' t = false) :
    encF (lessY Y Y' (t + 1)) = encF (lessY Y Y' t) ∧ encF (lessY N N' (t + 1)) = encF (lessY N N' t) ∧ pieces Y N Y' N' (t + 1) = pieces Y N Y' N' t := by
  have a := (allF_iff _).1 ha t ht; have m := (allF_iff _).1 hm t ht
  refine ⟨enc_congr fun i hi => ?_, enc_congr fun i hi => ?_, by simp only [pieces, h]; rfl⟩
  · unfold lessY
    by_cases hit : i = t
    · subst hit; unfold cuts at h; cases hy : Y i <;> cases hn : N i <;> cases hy' : Y' i <;> cases hn' : N' i <;> simp_all
    · rw [show decide (i < t + 1) = decide (i < t) from by simp; omega]
  · unfold lessY
    by_cases hit : i = t
    · subst hit; unfold cuts at h; cases hy : Y i <;> cases hn : N i <;> cases hy' : Y' i <;> cases hn' : N' i <;> simp_all
    · rw [show decide (i < t + 1) = decide (i < t) from by simp; omega]
theorem less_yes {Y N Y' N' : Nat → Bool} {t : Nat} (ht : t < 4) (hb : Apart Y' N') (h0 : (Y t || N t) = false) (h1 : Y' t = true) :
    encF (lessY Y Y' (t + 1)) = bits .or .i64 (encF (lessY Y Y' t)) (2 ^ t) ∧ encF (lessY N N' (t + 1)) = encF (lessY N N' t) ∧ pieces Y N Y' N' (t + 1) = pieces Y N Y' N' t ++ [piece Y N Y' N' t] ∧
      encF (piece Y N Y' N' t).1 = encF (lessY Y Y' t) ∧ encF (piece Y N Y' N' t).2 = bits .or .i64 (encF (lessY N N' t)) (2 ^ t) := by
  have b := (allF_iff _).1 hb t ht
  have n' : N' t = false := by cases hn' : N' t <;> simp_all
  refine ⟨?_, enc_congr fun i hi => ?_, by simp only [pieces, cuts, h0, h1]; rfl, enc_congr fun i hi => by simp [piece, n'], ?_⟩
  · rw [or_bit _ _ ht]; refine enc_congr fun i hi => ?_
    unfold lessY
    by_cases hit : i = t
    · subst hit; simp [h1]
    · rw [show decide (i < t + 1) = decide (i < t) from by simp; omega]; simp [hit]
  · unfold lessY
    by_cases hit : i = t
    · subst hit; simp [n']
    · rw [show decide (i < t + 1) = decide (i < t) from by simp; omega]
  · rw [or_bit _ _ ht]; exact enc_congr fun i hi => by simp [piece, h1]
theorem less_no {Y N Y' N' : Nat → Bool} {t : Nat} (ht : t < 4) (h0 : (Y t || N t) = false) (h1 : Y' t = false) (h2 : N' t = true) :
    encF (lessY N N' (t + 1)) = bits .or .i64 (encF (lessY N N' t)) (2 ^ t) ∧ encF (lessY Y Y' (t + 1)) = encF (lessY Y Y' t) ∧ pieces Y N Y' N' (t + 1) = pieces Y N Y' N' t ++ [piece Y N Y' N' t] ∧
      encF (piece Y N Y' N' t).2 = encF (lessY N N' t) ∧ encF (piece Y N Y' N' t).1 = bits .or .i64 (encF (lessY Y Y' t)) (2 ^ t) := by
  refine ⟨?_, enc_congr fun i hi => ?_, by simp only [pieces, cuts, h0, h1, h2]; rfl, enc_congr fun i hi => by simp [piece, h1], ?_⟩
  · rw [or_bit _ _ ht]; refine enc_congr fun i hi => ?_
    unfold lessY
    by_cases hit : i = t
    · subst hit; simp [h2]
    · rw [show decide (i < t + 1) = decide (i < t) from by simp; omega]; simp [hit]
  · unfold lessY
    by_cases hit : i = t
    · subst hit; simp [h1]
    · rw [show decide (i < t + 1) = decide (i < t) from by simp; omega]
  · rw [or_bit _ _ ht]; exact enc_congr fun i hi => by simp [piece, h2]
theorem ints_append (l m : List ((Nat → Bool) × (Nat → Bool))) : ints (l ++ m) = ints l ++ ints m := by simp [ints]
theorem ints_length (l : List ((Nat → Bool) × (Nat → Bool))) : (ints l).length = l.length := by simp [ints]
theorem lessY_zero (Y Y' : Nat → Bool) : encF (lessY Y Y' 0) = encF Y := enc_congr fun i _ => by simp [lessY]
theorem lessY_at (Y Y' : Nat → Bool) (t : Nat) : lessY Y Y' t t = Y t := by simp [lessY]

set_option maxHeartbeats 8000000 in
theorem cubeLess_c {Y N Y' N' : Nat → Bool} (h : Apart Y N) (h' : Apart Y' N') (w : World) :
    Calls Try.prog 35 #[.agg #[.int .i64 (encF Y), .int .i64 (encF N)], .agg #[.int .i64 (encF Y'), .int .i64 (encF N')]] w fun e w' =>
      ∃ v, e = .returned (.tuple #[v, .int .i64 0]) ∧ w'.ownsRow w.heap.size 29 2 v (lessL Y N Y' N').length (spansCells (ints (lessL Y N Y' N'))) ∧ Below w.heap.size w w' := by
  have htwo := cubeTwo_c (encF Y) (encF N) (encF Y') (encF N')
  rw [two_enc h h'] at htwo
  have HTWO := Lib.hid htwo
  clear htwo
  go_enter Try.func35, Try.ntmps35
  go_wp2_with fail
  refine (HTWO.out _).mono ?_
  rintro e w1 ⟨rfl, hb1⟩
  have f0 : w1.frozen? ⟨w.heap.size, 0, none⟩ = false := by rw [(bcell hb1).2 _ _ (by simp; omega), World.frozen?_alloc_past _ _ _ (by simp)]; exact World.frozen?_alloc_at _ _ _ _ rfl
  have f1 : w1.frozen? ⟨w.heap.size, 1, none⟩ = false := by rw [(bcell hb1).2 _ _ (by simp; omega), World.frozen?_alloc_past _ _ _ (by simp)]; exact World.frozen?_alloc_at _ _ _ _ rfl
  obtain ⟨c0, c1, c2, c3, hbel⟩ := boxes2 hb1
  clear hb1 HTWO
  cases hm : meets Y N Y' N'
  · have H := Lib.hid (show lessL Y N Y' N' = [(Y, N)] by simp [lessL, hm])
    have HM := Lib.hid hm
    clear hm
    go_wp2_with fail
    refine (meetN h h' HM.out _).mono ?_
    rintro e w2 ⟨rfl, hb⟩
    replace c0 := ckeep hb c0
    replace c1 := ckeep hb c1
    have l0 := World.block_lt_of_cell? _ _ c0
    simp only at l0
    replace hbel := bstep hbel hb
    clear hb c2 c3 f0 f1
    go_wp2
    go_ret2
    refine ⟨_, rfl, ?_, (hbel.alloc hbel.size _).alloc (by have := hbel.size; simp; omega) _⟩
    rw [H.out]
    exact litOwn _ _ 2 _ #[.int .i64 (encF Y), .int .i64 (encF N)] 1 _ (by simp) (by have := hbel.size; simp; omega) (by decide) rfl
  · have H := Lib.hid (show lessL Y N Y' N' = pieces Y N Y' N' 4 by simp [lessL, hm])
    have HM := Lib.hid hm
    clear hm
    go_wp2_with fail
    refine (meetY h h' HM.out _).mono ?_
    rintro e w2 ⟨rfl, hb⟩
    replace f0 := fkeep hb c0 f0
    replace f1 := fkeep hb c1 f1
    replace c0 := ckeep hb c0
    replace c1 := ckeep hb c1
    replace c2 := ckeep hb c2
    replace c3 := ckeep hb c3
    have l0 := World.block_lt_of_cell? _ _ c0
    simp only at l0
    have HZ := Lib.hid (show encF Y = encF (lessY Y Y' 0) ∧ encF N = encF (lessY N N' 0) from ⟨(lessY_zero _ _).symm, (lessY_zero _ _).symm⟩)
    replace hbel := bstep hbel hb
    clear hb
    go_wp2
    go_loopw [9, 28] (fun v i wr => ∃ t : Nat, t ≤ 4 ∧ i = .int .i64 t ∧ wr.ownsRow (w.heap.size + 1 + 1) 29 2 v (ints (pieces Y N Y' N' t)).length (spansCells (ints (pieces Y N Y' N' t))) ∧
        wr.cell? ⟨w.heap.size, 0, none⟩ = some (.int .i64 (encF (lessY Y Y' t))) ∧ wr.cell? ⟨w.heap.size, 1, none⟩ = some (.int .i64 (encF (lessY N N' t))) ∧
        wr.cell? ⟨w.heap.size + 1, 0, none⟩ = some (.int .i64 (encF Y')) ∧ wr.cell? ⟨w.heap.size + 1, 1, none⟩ = some (.int .i64 (encF N')) ∧ wr.frozen? ⟨w.heap.size, 0, none⟩ = false ∧ wr.frozen? ⟨w.heap.size, 1, none⟩ = false ∧
        Below w.heap.size w wr) (fun _ i _ => 4 - (intOf i).toNat)
    case atStart => exact ⟨0, by omega, rfl, World.ownsRow_nil _ _ _ _, by rw [← HZ.out.1]; exact cpast _ c0, by rw [← HZ.out.2]; exact cpast _ c1, cpast _ c2, cpast _ c3, (World.frozen?_alloc_past _ _ _ l0).trans f0, (World.frozen?_alloc_past _ _ _ l0).trans f1, hbel.alloc hbel.size _⟩
    case round =>
      obtain ⟨t, ht, rfl, hown, d0, d1, d2, d3, g0, g1, hbl⟩ := hrel
      clear c0 c1 c2 c3 f0 f1 l0 hbel HZ
      by_cases hlt : t < 4
      · have hle := pieces_length Y N Y' N' t
        rw [← ints_length] at hle
        have HO := Lib.hid hown
        have HB := Lib.hid hbl
        have hsz := blt d2
        have hsz0 := blt d0
        clear hown hbl
        obtain rfl | rfl | rfl | rfl : t = 0 ∨ t = 1 ∨ t = 2 ∨ t = 3 := by omega
        · have k1 := (told_bit (lessY Y Y' 0) (lessY N N' 0)).1
          rw [lessY_at, lessY_at] at k1
          have k2 := (has_bit Y').1
          have k3 := (has_bit N').1
          cases hT : (Y 0 || N 0)
          case true =>
            have S := Lib.hid (less_skip (t := 0) (by omega) h HM.out (by unfold cuts; rw [hT]; rfl))
            rw [hT] at k1
            clear hT k2 k3
            go_wp2
            go_roundw
            case rel => exact ⟨1, by omega, rfl, by rw [S.out.2.2]; exact HO.out, by rw [S.out.1]; exact d0, by rw [S.out.2.1]; exact d1, d2, d3, g0, g1, HB.out⟩
            case measure => simp [intOf]
          rw [hT] at k1
          cases hY : Y' 0
          case true =>
            have S := Lib.hid (less_yes (N := N) (N' := N') (t := 0) (by omega) h' hT hY)
            rw [hY] at k2
            clear hT hY k3
            go_wp2_with (at_builtin; refine wpList_append_new2 (w0 := w) rfl (.tmp 48) (.tmp 56) 63 rfl (w.heap.size + 1 + 1) 29 (.agg #[.int .i64 0, .int .i64 0]) 2 16 Try.underlying63 CubeTy.info rfl (by decide) _ _ _ rfl HO.out [.int .i64 (encF (lessY Y Y' 0)), .int .i64 (bits .or .i64 (encF (lessY N N' 0)) 1)] rfl (by simp [Value.oneCell']) rfl HB.out (by omega) (by unfold maxLen; omega) (by omega) ?_)
            intro v' w' hown' hg
            replace g0 := gfkeep hg HO.out d0 (by omega) g0
            replace g1 := gfkeep hg HO.out d1 (by omega) g1
            replace d0 := gkeep hg HO.out d0 (by omega)
            replace d1 := gkeep hg HO.out d1 (by omega)
            replace d2 := gkeep hg HO.out d2 (by omega)
            replace d3 := gkeep hg HO.out d3 (by omega)
            have B := Lib.hid (gbelow hg HO.out HB.out (by omega))
            have O := Lib.hid hown'
            clear hg hown' HO HB
            have hsz := blt d2
            have hsz0 := blt d0
            go_wp2
            go_roundw
            case rel =>
              refine ⟨1, by omega, rfl, ?_, (World.cell?_setCell_same _ _ _ d0).trans (by rw [S.out.1]; rfl), (World.cell?_setCell_other _ _ _ _ (by simp)).trans (by rw [S.out.2.1]; exact d1), (World.cell?_setCell_other _ _ _ _ (by simp)).trans d2, (World.cell?_setCell_other _ _ _ _ (by simp)).trans d3, (World.frozen?_setCell _ _ _ _).trans g0, (World.frozen?_setCell _ _ _ _).trans g1, B.out.setCell (by simp) _⟩
              have o1 := (ownsRow_setCell_below O.out (a := ⟨w.heap.size, 0, none⟩) (by simp; omega) (.int .i64 (bits .or .i64 (encF (lessY Y Y' 0)) 1)))
              rw [S.out.2.2.1, ints_append, spansCells_append]
              have e : spansCells (ints [piece Y N Y' N' 0]) = [.int .i64 (encF (lessY Y Y' 0)), .int .i64 (bits .or .i64 (encF (lessY N N' 0)) 1)] := by
                show [Value.int .i64 (encF (piece Y N Y' N' 0).1), Value.int .i64 (encF (piece Y N Y' N' 0).2)] = _
                rw [S.out.2.2.2.1, S.out.2.2.2.2]; rfl
              rw [e, List.length_append]
              exact o1
            case measure => simp [intOf]
          rw [hY] at k2
          cases hN : N' 0
          case true =>
            have S := Lib.hid (less_no (t := 0) (by omega) hT hY hN)
            rw [hN] at k3
            clear hT hY hN
            go_wp2_with (at_builtin; refine wpList_append_new2 (w0 := w) rfl (.tmp 69) (.tmp 77) 63 rfl (w.heap.size + 1 + 1) 29 (.agg #[.int .i64 0, .int .i64 0]) 2 16 Try.underlying63 CubeTy.info rfl (by decide) _ _ _ rfl HO.out [.int .i64 (bits .or .i64 (encF (lessY Y Y' 0)) 1), .int .i64 (encF (lessY N N' 0))] rfl (by simp [Value.oneCell']) rfl HB.out (by omega) (by unfold maxLen; omega) (by omega) ?_)
            intro v' w' hown' hg
            replace g0 := gfkeep hg HO.out d0 (by omega) g0
            replace g1 := gfkeep hg HO.out d1 (by omega) g1
            replace d0 := gkeep hg HO.out d0 (by omega)
            replace d1 := gkeep hg HO.out d1 (by omega)
            replace d2 := gkeep hg HO.out d2 (by omega)
            replace d3 := gkeep hg HO.out d3 (by omega)
            have B := Lib.hid (gbelow hg HO.out HB.out (by omega))
            have O := Lib.hid hown'
            clear hg hown' HO HB
            have hsz := blt d2
            have hsz0 := blt d0
            go_wp2
            go_roundw
            case rel =>
              refine ⟨1, by omega, rfl, ?_, (World.cell?_setCell_other _ _ _ _ (by simp)).trans (by rw [S.out.2.1]; exact d0), (World.cell?_setCell_same _ _ _ d1).trans (by rw [S.out.1]; rfl), (World.cell?_setCell_other _ _ _ _ (by simp)).trans d2, (World.cell?_setCell_other _ _ _ _ (by simp)).trans d3, (World.frozen?_setCell _ _ _ _).trans g0, (World.frozen?_setCell _ _ _ _).trans g1, B.out.setCell (by simp) _⟩
              have o1 := (ownsRow_setCell_below O.out (a := ⟨w.heap.size, 1, none⟩) (by simp; omega) (.int .i64 (bits .or .i64 (encF (lessY N N' 0)) 1)))
              rw [S.out.2.2.1, ints_append, spansCells_append]
              have e : spansCells (ints [piece Y N Y' N' 0]) = [.int .i64 (bits .or .i64 (encF (lessY Y Y' 0)) 1), .int .i64 (encF (lessY N N' 0))] := by
                show [Value.int .i64 (encF (piece Y N Y' N' 0).1), Value.int .i64 (encF (piece Y N Y' N' 0).2)] = _
                rw [S.out.2.2.2.1, S.out.2.2.2.2]; rfl
              rw [e, List.length_append]
              exact o1
            case measure => simp [intOf]
          have S := Lib.hid (less_skip (t := 0) (by omega) h HM.out (by unfold cuts; rw [hT, hY, hN]; rfl))
          rw [hN] at k3
          clear hT hY hN
          go_wp2
          go_roundw
          case rel => exact ⟨1, by omega, rfl, by rw [S.out.2.2]; exact HO.out, by rw [S.out.1]; exact d0, by rw [S.out.2.1]; exact d1, d2, d3, g0, g1, HB.out⟩
          case measure => simp [intOf]
        · have k1 := (told_bit (lessY Y Y' 1) (lessY N N' 1)).2.1
          rw [lessY_at, lessY_at] at k1
          have k2 := (has_bit Y').2.1
          have k3 := (has_bit N').2.1
          cases hT : (Y 1 || N 1)
          case true =>
            have S := Lib.hid (less_skip (t := 1) (by omega) h HM.out (by unfold cuts; rw [hT]; rfl))
            rw [hT] at k1
            clear hT k2 k3
            go_wp2
            go_roundw
            case rel => exact ⟨2, by omega, rfl, by rw [S.out.2.2]; exact HO.out, by rw [S.out.1]; exact d0, by rw [S.out.2.1]; exact d1, d2, d3, g0, g1, HB.out⟩
            case measure => simp [intOf]
          rw [hT] at k1
          cases hY : Y' 1
          case true =>
            have S := Lib.hid (less_yes (N := N) (N' := N') (t := 1) (by omega) h' hT hY)
            rw [hY] at k2
            clear hT hY k3
            go_wp2_with (at_builtin; refine wpList_append_new2 (w0 := w) rfl (.tmp 48) (.tmp 56) 63 rfl (w.heap.size + 1 + 1) 29 (.agg #[.int .i64 0, .int .i64 0]) 2 16 Try.underlying63 CubeTy.info rfl (by decide) _ _ _ rfl HO.out [.int .i64 (encF (lessY Y Y' 1)), .int .i64 (bits .or .i64 (encF (lessY N N' 1)) 2)] rfl (by simp [Value.oneCell']) rfl HB.out (by omega) (by unfold maxLen; omega) (by omega) ?_)
            intro v' w' hown' hg
            replace g0 := gfkeep hg HO.out d0 (by omega) g0
            replace g1 := gfkeep hg HO.out d1 (by omega) g1
            replace d0 := gkeep hg HO.out d0 (by omega)
            replace d1 := gkeep hg HO.out d1 (by omega)
            replace d2 := gkeep hg HO.out d2 (by omega)
            replace d3 := gkeep hg HO.out d3 (by omega)
            have B := Lib.hid (gbelow hg HO.out HB.out (by omega))
            have O := Lib.hid hown'
            clear hg hown' HO HB
            have hsz := blt d2
            have hsz0 := blt d0
            go_wp2
            go_roundw
            case rel =>
              refine ⟨2, by omega, rfl, ?_, (World.cell?_setCell_same _ _ _ d0).trans (by rw [S.out.1]; rfl), (World.cell?_setCell_other _ _ _ _ (by simp)).trans (by rw [S.out.2.1]; exact d1), (World.cell?_setCell_other _ _ _ _ (by simp)).trans d2, (World.cell?_setCell_other _ _ _ _ (by simp)).trans d3, (World.frozen?_setCell _ _ _ _).trans g0, (World.frozen?_setCell _ _ _ _).trans g1, B.out.setCell (by simp) _⟩
              have o1 := (ownsRow_setCell_below O.out (a := ⟨w.heap.size, 0, none⟩) (by simp; omega) (.int .i64 (bits .or .i64 (encF (lessY Y Y' 1)) 2)))
              rw [S.out.2.2.1, ints_append, spansCells_append]
              have e : spansCells (ints [piece Y N Y' N' 1]) = [.int .i64 (encF (lessY Y Y' 1)), .int .i64 (bits .or .i64 (encF (lessY N N' 1)) 2)] := by
                show [Value.int .i64 (encF (piece Y N Y' N' 1).1), Value.int .i64 (encF (piece Y N Y' N' 1).2)] = _
                rw [S.out.2.2.2.1, S.out.2.2.2.2]; rfl
              rw [e, List.length_append]
              exact o1
            case measure => simp [intOf]
          rw [hY] at k2
          cases hN : N' 1
          case true =>
            have S := Lib.hid (less_no (t := 1) (by omega) hT hY hN)
            rw [hN] at k3
            clear hT hY hN
            go_wp2_with (at_builtin; refine wpList_append_new2 (w0 := w) rfl (.tmp 69) (.tmp 77) 63 rfl (w.heap.size + 1 + 1) 29 (.agg #[.int .i64 0, .int .i64 0]) 2 16 Try.underlying63 CubeTy.info rfl (by decide) _ _ _ rfl HO.out [.int .i64 (bits .or .i64 (encF (lessY Y Y' 1)) 2), .int .i64 (encF (lessY N N' 1))] rfl (by simp [Value.oneCell']) rfl HB.out (by omega) (by unfold maxLen; omega) (by omega) ?_)
            intro v' w' hown' hg
            replace g0 := gfkeep hg HO.out d0 (by omega) g0
            replace g1 := gfkeep hg HO.out d1 (by omega) g1
            replace d0 := gkeep hg HO.out d0 (by omega)
            replace d1 := gkeep hg HO.out d1 (by omega)
            replace d2 := gkeep hg HO.out d2 (by omega)
            replace d3 := gkeep hg HO.out d3 (by omega)
            have B := Lib.hid (gbelow hg HO.out HB.out (by omega))
            have O := Lib.hid hown'
            clear hg hown' HO HB
            have hsz := blt d2
            have hsz0 := blt d0
            go_wp2
            go_roundw
            case rel =>
              refine ⟨2, by omega, rfl, ?_, (World.cell?_setCell_other _ _ _ _ (by simp)).trans (by rw [S.out.2.1]; exact d0), (World.cell?_setCell_same _ _ _ d1).trans (by rw [S.out.1]; rfl), (World.cell?_setCell_other _ _ _ _ (by simp)).trans d2, (World.cell?_setCell_other _ _ _ _ (by simp)).trans d3, (World.frozen?_setCell _ _ _ _).trans g0, (World.frozen?_setCell _ _ _ _).trans g1, B.out.setCell (by simp) _⟩
              have o1 := (ownsRow_setCell_below O.out (a := ⟨w.heap.size, 1, none⟩) (by simp; omega) (.int .i64 (bits .or .i64 (encF (lessY N N' 1)) 2)))
              rw [S.out.2.2.1, ints_append, spansCells_append]
              have e : spansCells (ints [piece Y N Y' N' 1]) = [.int .i64 (bits .or .i64 (encF (lessY Y Y' 1)) 2), .int .i64 (encF (lessY N N' 1))] := by
                show [Value.int .i64 (encF (piece Y N Y' N' 1).1), Value.int .i64 (encF (piece Y N Y' N' 1).2)] = _
                rw [S.out.2.2.2.1, S.out.2.2.2.2]; rfl
              rw [e, List.length_append]
              exact o1
            case measure => simp [intOf]
          have S := Lib.hid (less_skip (t := 1) (by omega) h HM.out (by unfold cuts; rw [hT, hY, hN]; rfl))
          rw [hN] at k3
          clear hT hY hN
          go_wp2
          go_roundw
          case rel => exact ⟨2, by omega, rfl, by rw [S.out.2.2]; exact HO.out, by rw [S.out.1]; exact d0, by rw [S.out.2.1]; exact d1, d2, d3, g0, g1, HB.out⟩
          case measure => simp [intOf]
        · have k1 := (told_bit (lessY Y Y' 2) (lessY N N' 2)).2.2.1
          rw [lessY_at, lessY_at] at k1
          have k2 := (has_bit Y').2.2.1
          have k3 := (has_bit N').2.2.1
          cases hT : (Y 2 || N 2)
          case true =>
            have S := Lib.hid (less_skip (t := 2) (by omega) h HM.out (by unfold cuts; rw [hT]; rfl))
            rw [hT] at k1
            clear hT k2 k3
            go_wp2
            go_roundw
            case rel => exact ⟨3, by omega, rfl, by rw [S.out.2.2]; exact HO.out, by rw [S.out.1]; exact d0, by rw [S.out.2.1]; exact d1, d2, d3, g0, g1, HB.out⟩
            case measure => simp [intOf]
          rw [hT] at k1
          cases hY : Y' 2
          case true =>
            have S := Lib.hid (less_yes (N := N) (N' := N') (t := 2) (by omega) h' hT hY)
            rw [hY] at k2
            clear hT hY k3
            go_wp2_with (at_builtin; refine wpList_append_new2 (w0 := w) rfl (.tmp 48) (.tmp 56) 63 rfl (w.heap.size + 1 + 1) 29 (.agg #[.int .i64 0, .int .i64 0]) 2 16 Try.underlying63 CubeTy.info rfl (by decide) _ _ _ rfl HO.out [.int .i64 (encF (lessY Y Y' 2)), .int .i64 (bits .or .i64 (encF (lessY N N' 2)) 4)] rfl (by simp [Value.oneCell']) rfl HB.out (by omega) (by unfold maxLen; omega) (by omega) ?_)
            intro v' w' hown' hg
            replace g0 := gfkeep hg HO.out d0 (by omega) g0
            replace g1 := gfkeep hg HO.out d1 (by omega) g1
            replace d0 := gkeep hg HO.out d0 (by omega)
            replace d1 := gkeep hg HO.out d1 (by omega)
            replace d2 := gkeep hg HO.out d2 (by omega)
            replace d3 := gkeep hg HO.out d3 (by omega)
            have B := Lib.hid (gbelow hg HO.out HB.out (by omega))
            have O := Lib.hid hown'
            clear hg hown' HO HB
            have hsz := blt d2
            have hsz0 := blt d0
            go_wp2
            go_roundw
            case rel =>
              refine ⟨3, by omega, rfl, ?_, (World.cell?_setCell_same _ _ _ d0).trans (by rw [S.out.1]; rfl), (World.cell?_setCell_other _ _ _ _ (by simp)).trans (by rw [S.out.2.1]; exact d1), (World.cell?_setCell_other _ _ _ _ (by simp)).trans d2, (World.cell?_setCell_other _ _ _ _ (by simp)).trans d3, (World.frozen?_setCell _ _ _ _).trans g0, (World.frozen?_setCell _ _ _ _).trans g1, B.out.setCell (by simp) _⟩
              have o1 := (ownsRow_setCell_below O.out (a := ⟨w.heap.size, 0, none⟩) (by simp; omega) (.int .i64 (bits .or .i64 (encF (lessY Y Y' 2)) 4)))
              rw [S.out.2.2.1, ints_append, spansCells_append]
              have e : spansCells (ints [piece Y N Y' N' 2]) = [.int .i64 (encF (lessY Y Y' 2)), .int .i64 (bits .or .i64 (encF (lessY N N' 2)) 4)] := by
                show [Value.int .i64 (encF (piece Y N Y' N' 2).1), Value.int .i64 (encF (piece Y N Y' N' 2).2)] = _
                rw [S.out.2.2.2.1, S.out.2.2.2.2]; rfl
              rw [e, List.length_append]
              exact o1
            case measure => simp [intOf]
          rw [hY] at k2
          cases hN : N' 2
          case true =>
            have S := Lib.hid (less_no (t := 2) (by omega) hT hY hN)
            rw [hN] at k3
            clear hT hY hN
            go_wp2_with (at_builtin; refine wpList_append_new2 (w0 := w) rfl (.tmp 69) (.tmp 77) 63 rfl (w.heap.size + 1 + 1) 29 (.agg #[.int .i64 0, .int .i64 0]) 2 16 Try.underlying63 CubeTy.info rfl (by decide) _ _ _ rfl HO.out [.int .i64 (bits .or .i64 (encF (lessY Y Y' 2)) 4), .int .i64 (encF (lessY N N' 2))] rfl (by simp [Value.oneCell']) rfl HB.out (by omega) (by unfold maxLen; omega) (by omega) ?_)
            intro v' w' hown' hg
            replace g0 := gfkeep hg HO.out d0 (by omega) g0
            replace g1 := gfkeep hg HO.out d1 (by omega) g1
            replace d0 := gkeep hg HO.out d0 (by omega)
            replace d1 := gkeep hg HO.out d1 (by omega)
            replace d2 := gkeep hg HO.out d2 (by omega)
            replace d3 := gkeep hg HO.out d3 (by omega)
            have B := Lib.hid (gbelow hg HO.out HB.out (by omega))
            have O := Lib.hid hown'
            clear hg hown' HO HB
            have hsz := blt d2
            have hsz0 := blt d0
            go_wp2
            go_roundw
            case rel =>
              refine ⟨3, by omega, rfl, ?_, (World.cell?_setCell_other _ _ _ _ (by simp)).trans (by rw [S.out.2.1]; exact d0), (World.cell?_setCell_same _ _ _ d1).trans (by rw [S.out.1]; rfl), (World.cell?_setCell_other _ _ _ _ (by simp)).trans d2, (World.cell?_setCell_other _ _ _ _ (by simp)).trans d3, (World.frozen?_setCell _ _ _ _).trans g0, (World.frozen?_setCell _ _ _ _).trans g1, B.out.setCell (by simp) _⟩
              have o1 := (ownsRow_setCell_below O.out (a := ⟨w.heap.size, 1, none⟩) (by simp; omega) (.int .i64 (bits .or .i64 (encF (lessY N N' 2)) 4)))
              rw [S.out.2.2.1, ints_append, spansCells_append]
              have e : spansCells (ints [piece Y N Y' N' 2]) = [.int .i64 (bits .or .i64 (encF (lessY Y Y' 2)) 4), .int .i64 (encF (lessY N N' 2))] := by
                show [Value.int .i64 (encF (piece Y N Y' N' 2).1), Value.int .i64 (encF (piece Y N Y' N' 2).2)] = _
                rw [S.out.2.2.2.1, S.out.2.2.2.2]; rfl
              rw [e, List.length_append]
              exact o1
            case measure => simp [intOf]
          have S := Lib.hid (less_skip (t := 2) (by omega) h HM.out (by unfold cuts; rw [hT, hY, hN]; rfl))
          rw [hN] at k3
          clear hT hY hN
          go_wp2
          go_roundw
          case rel => exact ⟨3, by omega, rfl, by rw [S.out.2.2]; exact HO.out, by rw [S.out.1]; exact d0, by rw [S.out.2.1]; exact d1, d2, d3, g0, g1, HB.out⟩
          case measure => simp [intOf]
        · have k1 := (told_bit (lessY Y Y' 3) (lessY N N' 3)).2.2.2
          rw [lessY_at, lessY_at] at k1
          have k2 := (has_bit Y').2.2.2
          have k3 := (has_bit N').2.2.2
          cases hT : (Y 3 || N 3)
          case true =>
            have S := Lib.hid (less_skip (t := 3) (by omega) h HM.out (by unfold cuts; rw [hT]; rfl))
            rw [hT] at k1
            clear hT k2 k3
            go_wp2
            go_roundw
            case rel => exact ⟨4, by omega, rfl, by rw [S.out.2.2]; exact HO.out, by rw [S.out.1]; exact d0, by rw [S.out.2.1]; exact d1, d2, d3, g0, g1, HB.out⟩
            case measure => simp [intOf]
          rw [hT] at k1
          cases hY : Y' 3
          case true =>
            have S := Lib.hid (less_yes (N := N) (N' := N') (t := 3) (by omega) h' hT hY)
            rw [hY] at k2
            clear hT hY k3
            go_wp2_with (at_builtin; refine wpList_append_new2 (w0 := w) rfl (.tmp 48) (.tmp 56) 63 rfl (w.heap.size + 1 + 1) 29 (.agg #[.int .i64 0, .int .i64 0]) 2 16 Try.underlying63 CubeTy.info rfl (by decide) _ _ _ rfl HO.out [.int .i64 (encF (lessY Y Y' 3)), .int .i64 (bits .or .i64 (encF (lessY N N' 3)) 8)] rfl (by simp [Value.oneCell']) rfl HB.out (by omega) (by unfold maxLen; omega) (by omega) ?_)
            intro v' w' hown' hg
            replace g0 := gfkeep hg HO.out d0 (by omega) g0
            replace g1 := gfkeep hg HO.out d1 (by omega) g1
            replace d0 := gkeep hg HO.out d0 (by omega)
            replace d1 := gkeep hg HO.out d1 (by omega)
            replace d2 := gkeep hg HO.out d2 (by omega)
            replace d3 := gkeep hg HO.out d3 (by omega)
            have B := Lib.hid (gbelow hg HO.out HB.out (by omega))
            have O := Lib.hid hown'
            clear hg hown' HO HB
            have hsz := blt d2
            have hsz0 := blt d0
            go_wp2
            go_roundw
            case rel =>
              refine ⟨4, by omega, rfl, ?_, (World.cell?_setCell_same _ _ _ d0).trans (by rw [S.out.1]; rfl), (World.cell?_setCell_other _ _ _ _ (by simp)).trans (by rw [S.out.2.1]; exact d1), (World.cell?_setCell_other _ _ _ _ (by simp)).trans d2, (World.cell?_setCell_other _ _ _ _ (by simp)).trans d3, (World.frozen?_setCell _ _ _ _).trans g0, (World.frozen?_setCell _ _ _ _).trans g1, B.out.setCell (by simp) _⟩
              have o1 := (ownsRow_setCell_below O.out (a := ⟨w.heap.size, 0, none⟩) (by simp; omega) (.int .i64 (bits .or .i64 (encF (lessY Y Y' 3)) 8)))
              rw [S.out.2.2.1, ints_append, spansCells_append]
              have e : spansCells (ints [piece Y N Y' N' 3]) = [.int .i64 (encF (lessY Y Y' 3)), .int .i64 (bits .or .i64 (encF (lessY N N' 3)) 8)] := by
                show [Value.int .i64 (encF (piece Y N Y' N' 3).1), Value.int .i64 (encF (piece Y N Y' N' 3).2)] = _
                rw [S.out.2.2.2.1, S.out.2.2.2.2]; rfl
              rw [e, List.length_append]
              exact o1
            case measure => simp [intOf]
          rw [hY] at k2
          cases hN : N' 3
          case true =>
            have S := Lib.hid (less_no (t := 3) (by omega) hT hY hN)
            rw [hN] at k3
            clear hT hY hN
            go_wp2_with (at_builtin; refine wpList_append_new2 (w0 := w) rfl (.tmp 69) (.tmp 77) 63 rfl (w.heap.size + 1 + 1) 29 (.agg #[.int .i64 0, .int .i64 0]) 2 16 Try.underlying63 CubeTy.info rfl (by decide) _ _ _ rfl HO.out [.int .i64 (bits .or .i64 (encF (lessY Y Y' 3)) 8), .int .i64 (encF (lessY N N' 3))] rfl (by simp [Value.oneCell']) rfl HB.out (by omega) (by unfold maxLen; omega) (by omega) ?_)
            intro v' w' hown' hg
            replace g0 := gfkeep hg HO.out d0 (by omega) g0
            replace g1 := gfkeep hg HO.out d1 (by omega) g1
            replace d0 := gkeep hg HO.out d0 (by omega)
            replace d1 := gkeep hg HO.out d1 (by omega)
            replace d2 := gkeep hg HO.out d2 (by omega)
            replace d3 := gkeep hg HO.out d3 (by omega)
            have B := Lib.hid (gbelow hg HO.out HB.out (by omega))
            have O := Lib.hid hown'
            clear hg hown' HO HB
            have hsz := blt d2
            have hsz0 := blt d0
            go_wp2
            go_roundw
            case rel =>
              refine ⟨4, by omega, rfl, ?_, (World.cell?_setCell_other _ _ _ _ (by simp)).trans (by rw [S.out.2.1]; exact d0), (World.cell?_setCell_same _ _ _ d1).trans (by rw [S.out.1]; rfl), (World.cell?_setCell_other _ _ _ _ (by simp)).trans d2, (World.cell?_setCell_other _ _ _ _ (by simp)).trans d3, (World.frozen?_setCell _ _ _ _).trans g0, (World.frozen?_setCell _ _ _ _).trans g1, B.out.setCell (by simp) _⟩
              have o1 := (ownsRow_setCell_below O.out (a := ⟨w.heap.size, 1, none⟩) (by simp; omega) (.int .i64 (bits .or .i64 (encF (lessY N N' 3)) 8)))
              rw [S.out.2.2.1, ints_append, spansCells_append]
              have e : spansCells (ints [piece Y N Y' N' 3]) = [.int .i64 (bits .or .i64 (encF (lessY Y Y' 3)) 8), .int .i64 (encF (lessY N N' 3))] := by
                show [Value.int .i64 (encF (piece Y N Y' N' 3).1), Value.int .i64 (encF (piece Y N Y' N' 3).2)] = _
                rw [S.out.2.2.2.1, S.out.2.2.2.2]; rfl
              rw [e, List.length_append]
              exact o1
            case measure => simp [intOf]
          have S := Lib.hid (less_skip (t := 3) (by omega) h HM.out (by unfold cuts; rw [hT, hY, hN]; rfl))
          rw [hN] at k3
          clear hT hY hN
          go_wp2
          go_roundw
          case rel => exact ⟨4, by omega, rfl, by rw [S.out.2.2]; exact HO.out, by rw [S.out.1]; exact d0, by rw [S.out.2.1]; exact d1, d2, d3, g0, g1, HB.out⟩
          case measure => simp [intOf]
      · obtain rfl : t = 4 := by omega
        go_wp2
        go_ret2
        refine ⟨_, rfl, ?_, hbl⟩
        rw [H.out, ← ints_length]
        refine ⟨hown.1, hown.2.imp id ?_⟩
        rintro ⟨g, cap, cur, e1, e2, e3⟩
        exact ⟨g, cap, cur, e1, by omega, e3⟩
end Go.Proofs.Ytbekllgecfjljaa
