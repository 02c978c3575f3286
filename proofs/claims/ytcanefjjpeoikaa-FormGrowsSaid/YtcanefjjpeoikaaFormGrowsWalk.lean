/- The walk of FormGrows. -/
import Derived.Test.YtcanefjjpeoikaaFormLaw0
import Derived.Test.YtcanefjjpeoikaaClaims
import Derived.Test.YtcanefjjpeoikaaNodeClone
import Derived.Test.YtcanefjjpeoikaaCube2
namespace Go.Proofs.Ytcanefjjpeoikaa
open Go.RowKit

set_option maxRecDepth 100000 in
theorem Try.mixed : Try.prog.follows .mixedOrders = true := by kernel_rfl

set_option maxRecDepth 100000 in
set_option maxHeartbeats 2000000 in
theorem FormGrows_walk (v : Value) (l : Nds) (a b t n : Int) (w : World) (hs : NdsAt w v l) :
    Calls Try.prog 3 #[v, .int .i64 a, .int .i64 b, .agg #[.int .i64 t, .int .i64 n]] w fun e w' => e = .returned (.bool true) ∧ Below w.heap.size w w' := by
  have hcell : ∀ w1, Below (w.alloc (.cells #[.int .i64 t, .int .i64 n] 24)).heap.size (w.alloc (.cells #[.int .i64 t, .int .i64 n] 24)) w1 →
      w1.cell? ⟨w.heap.size, 0, none⟩ = some (.int .i64 t) ∧ w1.cell? ⟨w.heap.size, 1, none⟩ = some (.int .i64 n) ∧ Below w.heap.size w w1 := fun w1 h =>
    ⟨ckeep h (cat _ _ _ 0 _ rfl _ rfl), ckeep h (cat _ _ _ 1 _ rfl _ rfl), ba1 h⟩
  have HC := Lib.hid hcell
  clear hcell
  go_enter Try.func3, Try.ntmps3
  go_wp2_with fail
  (with_reducible refine (formIs_c _ [⟨3, 3, 9⟩] _ _ _ (ndLit _ _ _ _ _ _ (by simp))).mono ?_)
  rintro e w1 ⟨rfl, hb⟩
  obtain ⟨c0, c1, hbel⟩ := HC.out _ (ba1 hb)
  clear HC hb
  rw [show formIs [⟨3, 3, 9⟩] 0 8 = true from by decide, show formIsE [⟨3, 3, 9⟩] 0 8 = 0 from by decide]
  replace hs := hs.below hbel
  go_wp2_with fail
  (with_reducible refine (formChk_c _ l _ hs).mono ?_)
  rintro e w2 ⟨rfl, hb⟩
  replace c0 := ckeep hb c0
  replace c1 := ckeep hb c1
  replace hs := hs.below hb
  replace hbel := bstep hbel hb
  clear hb
  cases hc : (formChk l == 0)
  · have h' : (formChk l != 0) = true := by simp [bne, hc]
    clear hc
    go_wp2
    go_ret
    exact ⟨rfl, hbel⟩
  have h0 : formChk l = 0 := by simpa using hc
  have H0 := Lib.hid h0
  rw [h0]
  clear h0 hc
  obtain ⟨hpos, h30, -⟩ := formChk_all H0.out
  obtain ⟨va, vc, hv⟩ := hs.shape
  subst hv
  have hvc : l.length ≤ vc := by obtain ⟨a', c', h1, h2, -⟩ := hs; simp only [Value.slice.injEq] at h1; omega
  cases hx : ((l.length : Int) == 30)
  rotate_left
  · go_wp2
    go_ret
    exact ⟨rfl, hbel⟩
  have hlt : l.length < 30 := by simp at hx; omega
  go_wp2_with fail
  (with_reducible refine (point_c _ _ _).mono ?_)
  rintro e w3 ⟨rfl, hb⟩
  replace c0 := ckeep hb c0
  replace c1 := ckeep hb c1
  replace hs := hs.below hb
  replace hbel := bstep hbel hb
  clear hb
  cases hp : ptOk t n
  · go_wp2
    go_ret
    exact ⟨rfl, hbel⟩
  have HP := Lib.hid hp
  clear hp hx
  go_wp2_with fail
  (with_reducible refine (withinInt_c _ _ (by omega) (by omega) _).mono ?_)
  rintro e w4 ⟨rfl, rfl⟩
  go_wp2_with fail
  (with_reducible refine (withinInt_c _ _ (by omega) (by omega) _).mono ?_)
  rintro e w4 ⟨rfl, rfl⟩
  have hA0 := Int.emod_nonneg (a % 18446744073709551616) (show (l.length : Int) ≠ 0 by omega)
  have hA1 := Int.emod_lt_of_pos (a % 18446744073709551616) (show 0 < (l.length : Int) by omega)
  have hB0 := Int.emod_nonneg (b % 18446744073709551616) (show (l.length : Int) ≠ 0 by omega)
  have hB1 := Int.emod_lt_of_pos (b % 18446744073709551616) (show 0 < (l.length : Int) by omega)
  generalize a % 18446744073709551616 % (l.length : Int) = A at *
  generalize b % 18446744073709551616 % (l.length : Int) = B at *
  obtain ⟨i, rfl⟩ := Int.eq_ofNat_of_zero_le hA0
  obtain ⟨j, rfl⟩ := Int.eq_ofNat_of_zero_le hB0
  replace hA1 : i < l.length := by omega
  replace hB1 : j < l.length := by omega
  clear hA0 hB0
  have C0 := Lib.hid c0
  have C1 := Lib.hid c1
  clear c0 c1
  have c0 := C0
  have c1 := C1
  clear C0 C1
  have IT : ∀ k, k < l.length → formIs (l.take (k + 1)) t n = (valsK l t n l.length).getD k false ∧ formIsE (l.take (k + 1)) t n = 0 := fun k hk => by
    have h := formIs_of (t := t) (n := n) (formChk_take H0.out (k + 1) (by omega) (by omega)) HP.out
    rw [formVal_take l t n k hk] at h; exact h
  have IA : ∀ x, ndChk l.length x = 0 → formIs (l ++ [x]) t n = ndVal (valsK l t n l.length) t n x ∧ formIsE (l ++ [x]) t n = 0 := fun x hx => by
    have h := formIs_of (t := t) (n := n) (formChk_snoc H0.out hlt hx) HP.out
    rw [formVal_snoc] at h; exact h
  replace IT := Lib.hid IT
  replace IA := Lib.hid IA
  -- REGIONS
  go_wp2_with fail
  refine Cl.region 160 rfl (fun _ => []) (fun q v w => match q with | 0 => v = .slice va l.length vc | 1 => v = .int .i64 i | 2 => v = .int .i64 ((i : Int) + 1) | 3 => v = .slice va (i + 1) vc | 4 => v = .agg #[.int .i64 t, .int .i64 n] | 5 => v = .tuple #[.bool (formIs (l.take (i + 1)) t n), .int .i64 (formIsE (l.take (i + 1)) t n)] | 6 => v = .tuple #[.bool (formIs (l.take (i + 1)) t n), .int .i64 (formIsE (l.take (i + 1)) t n)] | 7 => v = .bool (formIs (l.take (i + 1)) t n) | 8 => v = .int .i64 (formIsE (l.take (i + 1)) t n) | 9 => v = .bool (formIs (l.take (i + 1)) t n) | 10 => v = .int .i64 (formIsE (l.take (i + 1)) t n) | _ => True) (fun w => Below w4.heap.size w4 w) (fun q w w' => Below w.heap.size w w') Try.mixed (by kernel_rfl) (Below.refl _ _).drew (fun q r v w w' _ _ h _ => h) ?_ ?_
  · refine ⟨?_, ?_, ?_, ?_, ?_, ?_, ?_, ?_, ?_, ?_, ?_, trivial⟩
    · intro x wx hG
      have f0 := hG.old 0 (by kernel_rfl)
      have hg := hG.good
      clear hG
      go_wp2
      exact ⟨_, rfl, rfl, hg, Below.refl _ _⟩
    · intro x wx hG
      have f1 := hG.old 1 (by kernel_rfl)
      have hg := hG.good
      clear hG
      go_wp2
      exact ⟨_, rfl, rfl, hg, Below.refl _ _⟩
    · intro x wx hG
      have g1 : (x.tmps.getD 61 undef) = .int .i64 i := hG.claims 1 _ rfl (by kernel_rfl) (by kernel_rfl)
      have hg := hG.good
      clear hG
      go_wp2
      exact ⟨_, rfl, rfl, hg, Below.refl _ _⟩
    · intro x wx hG
      have g0 : (x.tmps.getD 60 undef) = .slice va l.length vc := hG.claims 0 _ rfl (by kernel_rfl) (by kernel_rfl)
      have g2 : (x.tmps.getD 62 undef) = .int .i64 ((i : Int) + 1) := hG.claims 2 _ rfl (by kernel_rfl) (by kernel_rfl)
      have hg := hG.good
      clear hG
      go_wp2
      exact ⟨_, rfl, rfl, hg, Below.refl _ _⟩
    · intro x wx hG
      have f7 := hG.old 7 (by kernel_rfl)
      have hg := hG.good
      clear hG
      have c0 := ckeep hg c0.out
      have c1 := ckeep hg c1.out
      go_wp2
      exact ⟨_, rfl, rfl, hg, Below.refl _ _⟩
    · intro x wx hG
      have g3 : (x.tmps.getD 63 undef) = .slice va (i + 1) vc := hG.claims 3 _ rfl (by kernel_rfl) (by kernel_rfl)
      have g4 : (x.tmps.getD 64 undef) = .agg #[.int .i64 t, .int .i64 n] := hG.claims 4 _ rfl (by kernel_rfl) (by kernel_rfl)
      have hg := hG.good
      clear hG
      go_wp2_with fail
      (with_reducible refine (formIs_c _ (l.take (i + 1)) t n _ (by have h := (hs.below hg).take (i + 1) (by omega); simpa [Nat.min_eq_left (show i + 1 ≤ l.length by omega)] using h)).mono ?_)
      rintro e w5 ⟨rfl, hb⟩
      clear g3 g4
      go_wp2
      exact ⟨_, rfl, rfl, bstep hg hb, hb⟩
    · intro x wx hG
      have g5 : (x.tmps.getD 65 undef) = .tuple #[.bool (formIs (l.take (i + 1)) t n), .int .i64 (formIsE (l.take (i + 1)) t n)] := hG.claims 5 _ rfl (by kernel_rfl) (by kernel_rfl)
      have hg := hG.good
      clear hG
      go_wp2
      exact ⟨_, rfl, rfl, hg, Below.refl _ _⟩
    · intro x wx hG
      have g6 : (x.tmps.getD 59 undef) = .tuple #[.bool (formIs (l.take (i + 1)) t n), .int .i64 (formIsE (l.take (i + 1)) t n)] := hG.claims 6 _ rfl (by kernel_rfl) (by kernel_rfl)
      have hg := hG.good
      clear hG
      go_wp2
      exact ⟨_, rfl, rfl, hg, Below.refl _ _⟩
    · intro x wx hG
      have g6 : (x.tmps.getD 59 undef) = .tuple #[.bool (formIs (l.take (i + 1)) t n), .int .i64 (formIsE (l.take (i + 1)) t n)] := hG.claims 6 _ rfl (by kernel_rfl) (by kernel_rfl)
      have hg := hG.good
      clear hG
      go_wp2
      exact ⟨_, rfl, rfl, hg, Below.refl _ _⟩
    · intro x wx hG
      have g7 : (x.tmps.getD 66 undef) = .bool (formIs (l.take (i + 1)) t n) := hG.claims 7 _ rfl (by kernel_rfl) (by kernel_rfl)
      have hg := hG.good
      clear hG
      go_wp2
      exact ⟨_, rfl, rfl, hg, Below.refl _ _⟩
    · intro x wx hG
      have g8 : (x.tmps.getD 67 undef) = .int .i64 (formIsE (l.take (i + 1)) t n) := hG.claims 8 _ rfl (by kernel_rfl) (by kernel_rfl)
      have hg := hG.good
      clear hG
      go_wp2
      exact ⟨_, rfl, rfl, hg, Below.refl _ _⟩
  · intro vals w5 hg hF
    obtain ⟨g0, g1, g2, g3, g4, g5, g6, g7, g8, g9, g10, -⟩ := hF
    have e0 : vals 0 = .slice va l.length vc := g0 rfl
    have e1 : vals 1 = .int .i64 i := g1 rfl
    have e2 : vals 2 = .int .i64 ((i : Int) + 1) := g2 rfl
    have e3 : vals 3 = .slice va (i + 1) vc := g3 rfl
    have e4 : vals 4 = .agg #[.int .i64 t, .int .i64 n] := g4 rfl
    have e5 : vals 5 = .tuple #[.bool (formIs (l.take (i + 1)) t n), .int .i64 (formIsE (l.take (i + 1)) t n)] := g5 rfl
    have e6 : vals 6 = .tuple #[.bool (formIs (l.take (i + 1)) t n), .int .i64 (formIsE (l.take (i + 1)) t n)] := g6 rfl
    have e7 : vals 7 = .bool (formIs (l.take (i + 1)) t n) := g7 rfl
    have e8 : vals 8 = .int .i64 (formIsE (l.take (i + 1)) t n) := g8 rfl
    have e9 : vals 9 = .bool (formIs (l.take (i + 1)) t n) := g9 rfl
    have e10 : vals 10 = .int .i64 (formIsE (l.take (i + 1)) t n) := g10 rfl
    simp only [Cl.puts, e0, e1, e2, e3, e4, e5, e6, e7, e8, e9, e10]
    clear e0 e1 e2 e3 e4 e5 e6 e7 e8 e9 e10 g0 g1 g2 g3 g4 g5 g6 g7 g8 g9 g10
    go_simp
    replace hs := hs.below hg
    replace c0 := Lib.hid (ckeep hg c0.out)
    replace c1 := Lib.hid (ckeep hg c1.out)
    replace hbel := bstep hbel hg
    clear hg
    rw [(IT.out i (by omega)).1, (IT.out i (by omega)).2]
    go_wp2_with fail
    refine Cl.region 160 rfl (fun _ => []) (fun q v w => match q with | 0 => v = .slice va l.length vc | 1 => v = .int .i64 j | 2 => v = .int .i64 ((j : Int) + 1) | 3 => v = .slice va (j + 1) vc | 4 => v = .agg #[.int .i64 t, .int .i64 n] | 5 => v = .tuple #[.bool (formIs (l.take (j + 1)) t n), .int .i64 (formIsE (l.take (j + 1)) t n)] | 6 => v = .tuple #[.bool (formIs (l.take (j + 1)) t n), .int .i64 (formIsE (l.take (j + 1)) t n)] | 7 => v = .bool (formIs (l.take (j + 1)) t n) | 8 => v = .int .i64 (formIsE (l.take (j + 1)) t n) | 9 => v = .bool (formIs (l.take (j + 1)) t n) | 10 => v = .int .i64 (formIsE (l.take (j + 1)) t n) | _ => True) (fun w => Below w5.heap.size w5 w) (fun q w w' => Below w.heap.size w w') Try.mixed (by kernel_rfl) (Below.refl _ _).drew (fun q r v w w' _ _ h _ => h) ?_ ?_
    · refine ⟨?_, ?_, ?_, ?_, ?_, ?_, ?_, ?_, ?_, ?_, ?_, trivial⟩
      · intro x wx hG
        have f0 := hG.old 0 (by kernel_rfl)
        have hg := hG.good
        clear hG
        go_wp2
        exact ⟨_, rfl, rfl, hg, Below.refl _ _⟩
      · intro x wx hG
        have f2 := hG.old 2 (by kernel_rfl)
        have hg := hG.good
        clear hG
        go_wp2
        exact ⟨_, rfl, rfl, hg, Below.refl _ _⟩
      · intro x wx hG
        have g1 : (x.tmps.getD 70 undef) = .int .i64 j := hG.claims 1 _ rfl (by kernel_rfl) (by kernel_rfl)
        have hg := hG.good
        clear hG
        go_wp2
        exact ⟨_, rfl, rfl, hg, Below.refl _ _⟩
      · intro x wx hG
        have g0 : (x.tmps.getD 69 undef) = .slice va l.length vc := hG.claims 0 _ rfl (by kernel_rfl) (by kernel_rfl)
        have g2 : (x.tmps.getD 71 undef) = .int .i64 ((j : Int) + 1) := hG.claims 2 _ rfl (by kernel_rfl) (by kernel_rfl)
        have hg := hG.good
        clear hG
        go_wp2
        exact ⟨_, rfl, rfl, hg, Below.refl _ _⟩
      · intro x wx hG
        have f7 := hG.old 7 (by kernel_rfl)
        have hg := hG.good
        clear hG
        have c0 := ckeep hg c0.out
        have c1 := ckeep hg c1.out
        go_wp2
        exact ⟨_, rfl, rfl, hg, Below.refl _ _⟩
      · intro x wx hG
        have g3 : (x.tmps.getD 72 undef) = .slice va (j + 1) vc := hG.claims 3 _ rfl (by kernel_rfl) (by kernel_rfl)
        have g4 : (x.tmps.getD 73 undef) = .agg #[.int .i64 t, .int .i64 n] := hG.claims 4 _ rfl (by kernel_rfl) (by kernel_rfl)
        have hg := hG.good
        clear hG
        go_wp2_with fail
        (with_reducible refine (formIs_c _ (l.take (j + 1)) t n _ (by have h := (hs.below hg).take (j + 1) (by omega); simpa [Nat.min_eq_left (show j + 1 ≤ l.length by omega)] using h)).mono ?_)
        rintro e w5 ⟨rfl, hb⟩
        clear g3 g4
        go_wp2
        exact ⟨_, rfl, rfl, bstep hg hb, hb⟩
      · intro x wx hG
        have g5 : (x.tmps.getD 74 undef) = .tuple #[.bool (formIs (l.take (j + 1)) t n), .int .i64 (formIsE (l.take (j + 1)) t n)] := hG.claims 5 _ rfl (by kernel_rfl) (by kernel_rfl)
        have hg := hG.good
        clear hG
        go_wp2
        exact ⟨_, rfl, rfl, hg, Below.refl _ _⟩
      · intro x wx hG
        have g6 : (x.tmps.getD 68 undef) = .tuple #[.bool (formIs (l.take (j + 1)) t n), .int .i64 (formIsE (l.take (j + 1)) t n)] := hG.claims 6 _ rfl (by kernel_rfl) (by kernel_rfl)
        have hg := hG.good
        clear hG
        go_wp2
        exact ⟨_, rfl, rfl, hg, Below.refl _ _⟩
      · intro x wx hG
        have g6 : (x.tmps.getD 68 undef) = .tuple #[.bool (formIs (l.take (j + 1)) t n), .int .i64 (formIsE (l.take (j + 1)) t n)] := hG.claims 6 _ rfl (by kernel_rfl) (by kernel_rfl)
        have hg := hG.good
        clear hG
        go_wp2
        exact ⟨_, rfl, rfl, hg, Below.refl _ _⟩
      · intro x wx hG
        have g7 : (x.tmps.getD 75 undef) = .bool (formIs (l.take (j + 1)) t n) := hG.claims 7 _ rfl (by kernel_rfl) (by kernel_rfl)
        have hg := hG.good
        clear hG
        go_wp2
        exact ⟨_, rfl, rfl, hg, Below.refl _ _⟩
      · intro x wx hG
        have g8 : (x.tmps.getD 76 undef) = .int .i64 (formIsE (l.take (j + 1)) t n) := hG.claims 8 _ rfl (by kernel_rfl) (by kernel_rfl)
        have hg := hG.good
        clear hG
        go_wp2
        exact ⟨_, rfl, rfl, hg, Below.refl _ _⟩
    · intro vals w6 hg hF
      obtain ⟨g0, g1, g2, g3, g4, g5, g6, g7, g8, g9, g10, -⟩ := hF
      have e0 : vals 0 = .slice va l.length vc := g0 rfl
      have e1 : vals 1 = .int .i64 j := g1 rfl
      have e2 : vals 2 = .int .i64 ((j : Int) + 1) := g2 rfl
      have e3 : vals 3 = .slice va (j + 1) vc := g3 rfl
      have e4 : vals 4 = .agg #[.int .i64 t, .int .i64 n] := g4 rfl
      have e5 : vals 5 = .tuple #[.bool (formIs (l.take (j + 1)) t n), .int .i64 (formIsE (l.take (j + 1)) t n)] := g5 rfl
      have e6 : vals 6 = .tuple #[.bool (formIs (l.take (j + 1)) t n), .int .i64 (formIsE (l.take (j + 1)) t n)] := g6 rfl
      have e7 : vals 7 = .bool (formIs (l.take (j + 1)) t n) := g7 rfl
      have e8 : vals 8 = .int .i64 (formIsE (l.take (j + 1)) t n) := g8 rfl
      have e9 : vals 9 = .bool (formIs (l.take (j + 1)) t n) := g9 rfl
      have e10 : vals 10 = .int .i64 (formIsE (l.take (j + 1)) t n) := g10 rfl
      simp only [Cl.puts, e0, e1, e2, e3, e4, e5, e6, e7, e8, e9, e10]
      clear e0 e1 e2 e3 e4 e5 e6 e7 e8 e9 e10 g0 g1 g2 g3 g4 g5 g6 g7 g8 g9 g10
      go_simp
      replace hs := hs.below hg
      replace c0 := Lib.hid (ckeep hg c0.out)
      replace c1 := Lib.hid (ckeep hg c1.out)
      replace hbel := bstep hbel hg
      clear hg
      rw [(IT.out j (by omega)).1, (IT.out j (by omega)).2]
      go_wp2_with fail
      refine Cl.region 160 rfl (fun q => match q with | 1 => [5] | 4 => [5] | _ => []) (fun q v w => match q with | 0 => v = .slice va l.length vc | 1 => w.ownsRow w6.heap.size 29 3 v l.length (ndCells l) | 2 => v = .int .i64 i | 3 => v = .agg #[.int .i64 4, .int .i64 i, .int .i64 0] | 4 => CellsAt w v 1 [.int .i64 4, .int .i64 i, .int .i64 0] | 5 => NdsAt w v (l ++ [⟨4, i, 0⟩]) | 6 => v = .agg #[.int .i64 t, .int .i64 n] | 7 => v = .tuple #[.bool (formIs (l ++ [⟨4, i, 0⟩]) t n), .int .i64 (formIsE (l ++ [⟨4, i, 0⟩]) t n)] | 8 => v = .tuple #[.bool (formIs (l ++ [⟨4, i, 0⟩]) t n), .int .i64 (formIsE (l ++ [⟨4, i, 0⟩]) t n)] | 9 => v = .bool (formIs (l ++ [⟨4, i, 0⟩]) t n) | 10 => v = .int .i64 (formIsE (l ++ [⟨4, i, 0⟩]) t n) | 11 => v = .bool (formIs (l ++ [⟨4, i, 0⟩]) t n) | 12 => v = .int .i64 (formIsE (l ++ [⟨4, i, 0⟩]) t n) | _ => True) (fun w => Below w6.heap.size w6 w) (fun q w w' => q ≠ 5 → Below w.heap.size w w') Try.mixed (by kernel_rfl) (Below.refl _ _).drew ?_ ?_ ?_
      · intro q r v w w' hne hk h hR
        match r, hk, h, hne with
        | 0, _, h, _ => exact h
        | 1, hk, h, _ => exact owns_below h (hR (by simpa using hk))
        | 2, _, h, _ => exact h
        | 3, _, h, _ => exact h
        | 4, hk, h, _ => exact h.below (hR (by simpa using hk))
        | 5, _, h, hne => exact h.below (hR (by exact hne))
        | 6, _, h, _ => exact h
        | 7, _, h, _ => exact h
        | 8, _, h, _ => exact h
        | 9, _, h, _ => exact h
        | 10, _, h, _ => exact h
        | 11, _, h, _ => exact h
        | 12, _, h, _ => exact h
        | _ + 13, _, _, _ => trivial
      · refine ⟨?_, ?_, ?_, ?_, ?_, ?_, ?_, ?_, ?_, ?_, ?_, ?_, ?_, trivial⟩
        · intro x wx hG
          have f0 := hG.old 0 (by kernel_rfl)
          have hg := hG.good
          clear hG
          go_wp2
          exact ⟨_, rfl, rfl, hg, fun _ => Below.refl _ _⟩
        · intro x wx hG
          have g0 : (x.tmps.getD 78 undef) = .slice va l.length vc := hG.claims 0 _ rfl (by kernel_rfl) (by kernel_rfl)
          have hg := hG.good
          clear hG
          have hs2 : CellsAt wx (.slice va l.length vc) l.length (ndCells l) := hs.below hg
          go_wp2_with fail
          (with_reducible refine (NodeClone_c _ l.length (ndCells l) _ hs2 (ndCells_length l) (ndCells_one l) (by omega)).mono ?_)
          rintro e w5 ⟨v5, rfl, ho, hb⟩
          clear g0
          go_wp2
          exact ⟨_, rfl, owns_mono ho hg.size, bstep hg hb, fun _ => hb⟩
        · intro x wx hG
          have f1 := hG.old 1 (by kernel_rfl)
          have hg := hG.good
          clear hG
          go_wp2
          exact ⟨_, rfl, rfl, hg, fun _ => Below.refl _ _⟩
        · intro x wx hG
          have g2 : (x.tmps.getD 80 undef) = .int .i64 i := hG.claims 2 _ rfl (by kernel_rfl) (by kernel_rfl)
          have g2b := g2
          rw [Array.getD_eq_getD_getElem?] at g2b
          have hg := hG.good
          clear hG
          go_wp2
          exact ⟨_, rfl, rfl, hg, fun _ => Below.refl _ _⟩
        · intro x wx hG
          have g3 : (x.tmps.getD 81 undef) = .agg #[.int .i64 4, .int .i64 i, .int .i64 0] := hG.claims 3 _ rfl (by kernel_rfl) (by kernel_rfl)
          have g3b := g3
          rw [Array.getD_eq_getD_getElem?] at g3b
          have hg := hG.good
          clear hG
          have hc := (ndLit wx 4 i 0 29 _ rfl : NdsAt _ _ _)
          have HC := Lib.hid hc
          clear hc
          go_wp2
          exact ⟨_, rfl, HC.out, hg.alloc hg.size _, fun _ => bal _⟩
        · intro x wx hG
          have g1 : wx.ownsRow w6.heap.size 29 3 (x.tmps.getD 79 undef) l.length (ndCells l) := hG.claims 1 _ rfl (by kernel_rfl) (by kernel_rfl)
          have g4 : CellsAt wx (x.tmps.getD 82 undef) 1 [.int .i64 4, .int .i64 i, .int .i64 0] := hG.claims 4 _ rfl (by kernel_rfl) (by kernel_rfl)
          have hg := hG.good
          clear hG
          refine wpList_append_cells (w0 := w6) rfl (.tmp 79) (.tmp 82) 22 rfl w6.heap.size 29 _ 3 24 Try.underlying22 NodeTy.info rfl (by decide) _ l.length _ rfl g1 _ 1 _ rfl g4 rfl (by intro u hu; simp at hu; rcases hu with rfl | rfl | rfl <;> rfl) hg hg.size (by unfold maxLen; omega) (by omega) ?_
          intro v5 w5 ho hb
          refine wpList_nil ?_
          exact ⟨v5, rfl, (by have h := CellsAt.of_owns ho (by omega); unfold NdsAt; rw [ndCells_append, List.length_append, List.length_singleton]; exact h), hb, fun h => absurd rfl h⟩
        · intro x wx hG
          have f7 := hG.old 7 (by kernel_rfl)
          have hg := hG.good
          clear hG
          have c0 := ckeep hg c0.out
          have c1 := ckeep hg c1.out
          go_wp2
          exact ⟨_, rfl, rfl, hg, fun _ => Below.refl _ _⟩
        · intro x wx hG
          have g5 : NdsAt wx (x.tmps.getD 83 undef) (l ++ [⟨4, i, 0⟩]) := hG.claims 5 _ rfl (by kernel_rfl) (by kernel_rfl)
          have g6 : (x.tmps.getD 84 undef) = .agg #[.int .i64 t, .int .i64 n] := hG.claims 6 _ rfl (by kernel_rfl) (by kernel_rfl)
          have hg := hG.good
          clear hG
          generalize hx : x.tmps.getD 83 undef = xa at *
          have GA := Lib.hid g5
          clear g5
          go_wp2_with fail
          (with_reducible refine (formIs_c _ (l ++ [⟨4, i, 0⟩]) t n _ GA.out).mono ?_)
          rintro e w5 ⟨rfl, hb⟩
          clear hx GA
          go_wp2
          exact ⟨_, rfl, rfl, bstep hg hb, fun _ => hb⟩
        · intro x wx hG
          have g7 : (x.tmps.getD 85 undef) = .tuple #[.bool (formIs (l ++ [⟨4, i, 0⟩]) t n), .int .i64 (formIsE (l ++ [⟨4, i, 0⟩]) t n)] := hG.claims 7 _ rfl (by kernel_rfl) (by kernel_rfl)
          have hg := hG.good
          clear hG
          go_wp2
          exact ⟨_, rfl, rfl, hg, fun _ => Below.refl _ _⟩
        · intro x wx hG
          have g8 : (x.tmps.getD 77 undef) = .tuple #[.bool (formIs (l ++ [⟨4, i, 0⟩]) t n), .int .i64 (formIsE (l ++ [⟨4, i, 0⟩]) t n)] := hG.claims 8 _ rfl (by kernel_rfl) (by kernel_rfl)
          have hg := hG.good
          clear hG
          go_wp2
          exact ⟨_, rfl, rfl, hg, fun _ => Below.refl _ _⟩
        · intro x wx hG
          have g8 : (x.tmps.getD 77 undef) = .tuple #[.bool (formIs (l ++ [⟨4, i, 0⟩]) t n), .int .i64 (formIsE (l ++ [⟨4, i, 0⟩]) t n)] := hG.claims 8 _ rfl (by kernel_rfl) (by kernel_rfl)
          have hg := hG.good
          clear hG
          go_wp2
          exact ⟨_, rfl, rfl, hg, fun _ => Below.refl _ _⟩
        · intro x wx hG
          have g9 : (x.tmps.getD 86 undef) = .bool (formIs (l ++ [⟨4, i, 0⟩]) t n) := hG.claims 9 _ rfl (by kernel_rfl) (by kernel_rfl)
          have hg := hG.good
          clear hG
          go_wp2
          exact ⟨_, rfl, rfl, hg, fun _ => Below.refl _ _⟩
        · intro x wx hG
          have g10 : (x.tmps.getD 87 undef) = .int .i64 (formIsE (l ++ [⟨4, i, 0⟩]) t n) := hG.claims 10 _ rfl (by kernel_rfl) (by kernel_rfl)
          have hg := hG.good
          clear hG
          go_wp2
          exact ⟨_, rfl, rfl, hg, fun _ => Below.refl _ _⟩
      · intro vals w7 hg hF
        obtain ⟨g0, g1, g2, g3, g4, g5, g6, g7, g8, g9, g10, g11, g12, -⟩ := hF
        have e0 : vals 0 = .slice va l.length vc := g0 rfl
        have e2 : vals 2 = .int .i64 i := g2 rfl
        have e3 : vals 3 = .agg #[.int .i64 4, .int .i64 i, .int .i64 0] := g3 rfl
        have e6 : vals 6 = .agg #[.int .i64 t, .int .i64 n] := g6 rfl
        have e7 : vals 7 = .tuple #[.bool (formIs (l ++ [⟨4, i, 0⟩]) t n), .int .i64 (formIsE (l ++ [⟨4, i, 0⟩]) t n)] := g7 rfl
        have e8 : vals 8 = .tuple #[.bool (formIs (l ++ [⟨4, i, 0⟩]) t n), .int .i64 (formIsE (l ++ [⟨4, i, 0⟩]) t n)] := g8 rfl
        have e9 : vals 9 = .bool (formIs (l ++ [⟨4, i, 0⟩]) t n) := g9 rfl
        have e10 : vals 10 = .int .i64 (formIsE (l ++ [⟨4, i, 0⟩]) t n) := g10 rfl
        have e11 : vals 11 = .bool (formIs (l ++ [⟨4, i, 0⟩]) t n) := g11 rfl
        have e12 : vals 12 = .int .i64 (formIsE (l ++ [⟨4, i, 0⟩]) t n) := g12 rfl
        simp only [Cl.puts, e0, e2, e3, e6, e7, e8, e9, e10, e11, e12]
        clear e0 e2 e3 e6 e7 e8 e9 e10 e11 e12 g0 g1 g2 g3 g4 g5 g6 g7 g8 g9 g10 g11 g12
        go_simp
        replace hs := hs.below hg
        replace c0 := Lib.hid (ckeep hg c0.out)
        replace c1 := Lib.hid (ckeep hg c1.out)
        replace hbel := bstep hbel hg
        clear hg
        rw [(IA.out ⟨4, i, 0⟩ (by simp [ndChk]; omega)).1, (IA.out ⟨4, i, 0⟩ (by simp [ndChk]; omega)).2]
        go_wp2_with fail
        refine Cl.region 160 rfl (fun q => match q with | 1 => [6] | 5 => [6] | _ => []) (fun q v w => match q with | 0 => v = .slice va l.length vc | 1 => w.ownsRow w7.heap.size 29 3 v l.length (ndCells l) | 2 => v = .int .i64 i | 3 => v = .int .i64 j | 4 => v = .agg #[.int .i64 5, .int .i64 i, .int .i64 j] | 5 => CellsAt w v 1 [.int .i64 5, .int .i64 i, .int .i64 j] | 6 => NdsAt w v (l ++ [⟨5, i, j⟩]) | 7 => v = .agg #[.int .i64 t, .int .i64 n] | 8 => v = .tuple #[.bool (formIs (l ++ [⟨5, i, j⟩]) t n), .int .i64 (formIsE (l ++ [⟨5, i, j⟩]) t n)] | 9 => v = .tuple #[.bool (formIs (l ++ [⟨5, i, j⟩]) t n), .int .i64 (formIsE (l ++ [⟨5, i, j⟩]) t n)] | 10 => v = .bool (formIs (l ++ [⟨5, i, j⟩]) t n) | 11 => v = .int .i64 (formIsE (l ++ [⟨5, i, j⟩]) t n) | 12 => v = .bool (formIs (l ++ [⟨5, i, j⟩]) t n) | 13 => v = .int .i64 (formIsE (l ++ [⟨5, i, j⟩]) t n) | _ => True) (fun w => Below w7.heap.size w7 w) (fun q w w' => q ≠ 6 → Below w.heap.size w w') Try.mixed (by kernel_rfl) (Below.refl _ _).drew ?_ ?_ ?_
        · intro q r v w w' hne hk h hR
          match r, hk, h, hne with
          | 0, _, h, _ => exact h
          | 1, hk, h, _ => exact owns_below h (hR (by simpa using hk))
          | 2, _, h, _ => exact h
          | 3, _, h, _ => exact h
          | 4, _, h, _ => exact h
          | 5, hk, h, _ => exact h.below (hR (by simpa using hk))
          | 6, _, h, hne => exact h.below (hR (by exact hne))
          | 7, _, h, _ => exact h
          | 8, _, h, _ => exact h
          | 9, _, h, _ => exact h
          | 10, _, h, _ => exact h
          | 11, _, h, _ => exact h
          | 12, _, h, _ => exact h
          | 13, _, h, _ => exact h
          | _ + 14, _, _, _ => trivial
        · refine ⟨?_, ?_, ?_, ?_, ?_, ?_, ?_, ?_, ?_, ?_, ?_, ?_, ?_, ?_, trivial⟩
          · intro x wx hG
            have f0 := hG.old 0 (by kernel_rfl)
            have hg := hG.good
            clear hG
            go_wp2
            exact ⟨_, rfl, rfl, hg, fun _ => Below.refl _ _⟩
          · intro x wx hG
            have g0 : (x.tmps.getD 89 undef) = .slice va l.length vc := hG.claims 0 _ rfl (by kernel_rfl) (by kernel_rfl)
            have hg := hG.good
            clear hG
            have hs2 : CellsAt wx (.slice va l.length vc) l.length (ndCells l) := hs.below hg
            go_wp2_with fail
            (with_reducible refine (NodeClone_c _ l.length (ndCells l) _ hs2 (ndCells_length l) (ndCells_one l) (by omega)).mono ?_)
            rintro e w5 ⟨v5, rfl, ho, hb⟩
            clear g0
            go_wp2
            exact ⟨_, rfl, owns_mono ho hg.size, bstep hg hb, fun _ => hb⟩
          · intro x wx hG
            have f1 := hG.old 1 (by kernel_rfl)
            have hg := hG.good
            clear hG
            go_wp2
            exact ⟨_, rfl, rfl, hg, fun _ => Below.refl _ _⟩
          · intro x wx hG
            have f2 := hG.old 2 (by kernel_rfl)
            have hg := hG.good
            clear hG
            go_wp2
            exact ⟨_, rfl, rfl, hg, fun _ => Below.refl _ _⟩
          · intro x wx hG
            have g2 : (x.tmps.getD 91 undef) = .int .i64 i := hG.claims 2 _ rfl (by kernel_rfl) (by kernel_rfl)
            have g2b := g2
            rw [Array.getD_eq_getD_getElem?] at g2b
            have g3 : (x.tmps.getD 92 undef) = .int .i64 j := hG.claims 3 _ rfl (by kernel_rfl) (by kernel_rfl)
            have g3b := g3
            rw [Array.getD_eq_getD_getElem?] at g3b
            have hg := hG.good
            clear hG
            go_wp2
            exact ⟨_, rfl, rfl, hg, fun _ => Below.refl _ _⟩
          · intro x wx hG
            have g4 : (x.tmps.getD 93 undef) = .agg #[.int .i64 5, .int .i64 i, .int .i64 j] := hG.claims 4 _ rfl (by kernel_rfl) (by kernel_rfl)
            have g4b := g4
            rw [Array.getD_eq_getD_getElem?] at g4b
            have hg := hG.good
            clear hG
            have hc := (ndLit wx 5 i j 29 _ rfl : NdsAt _ _ _)
            have HC := Lib.hid hc
            clear hc
            go_wp2
            exact ⟨_, rfl, HC.out, hg.alloc hg.size _, fun _ => bal _⟩
          · intro x wx hG
            have g1 : wx.ownsRow w7.heap.size 29 3 (x.tmps.getD 90 undef) l.length (ndCells l) := hG.claims 1 _ rfl (by kernel_rfl) (by kernel_rfl)
            have g5 : CellsAt wx (x.tmps.getD 94 undef) 1 [.int .i64 5, .int .i64 i, .int .i64 j] := hG.claims 5 _ rfl (by kernel_rfl) (by kernel_rfl)
            have hg := hG.good
            clear hG
            refine wpList_append_cells (w0 := w7) rfl (.tmp 90) (.tmp 94) 22 rfl w7.heap.size 29 _ 3 24 Try.underlying22 NodeTy.info rfl (by decide) _ l.length _ rfl g1 _ 1 _ rfl g5 rfl (by intro u hu; simp at hu; rcases hu with rfl | rfl | rfl <;> rfl) hg hg.size (by unfold maxLen; omega) (by omega) ?_
            intro v5 w5 ho hb
            refine wpList_nil ?_
            exact ⟨v5, rfl, (by have h := CellsAt.of_owns ho (by omega); unfold NdsAt; rw [ndCells_append, List.length_append, List.length_singleton]; exact h), hb, fun h => absurd rfl h⟩
          · intro x wx hG
            have f7 := hG.old 7 (by kernel_rfl)
            have hg := hG.good
            clear hG
            have c0 := ckeep hg c0.out
            have c1 := ckeep hg c1.out
            go_wp2
            exact ⟨_, rfl, rfl, hg, fun _ => Below.refl _ _⟩
          · intro x wx hG
            have g6 : NdsAt wx (x.tmps.getD 95 undef) (l ++ [⟨5, i, j⟩]) := hG.claims 6 _ rfl (by kernel_rfl) (by kernel_rfl)
            have g7 : (x.tmps.getD 96 undef) = .agg #[.int .i64 t, .int .i64 n] := hG.claims 7 _ rfl (by kernel_rfl) (by kernel_rfl)
            have hg := hG.good
            clear hG
            generalize hx : x.tmps.getD 95 undef = xa at *
            have GA := Lib.hid g6
            clear g6
            go_wp2_with fail
            (with_reducible refine (formIs_c _ (l ++ [⟨5, i, j⟩]) t n _ GA.out).mono ?_)
            rintro e w5 ⟨rfl, hb⟩
            clear hx GA
            go_wp2
            exact ⟨_, rfl, rfl, bstep hg hb, fun _ => hb⟩
          · intro x wx hG
            have g8 : (x.tmps.getD 97 undef) = .tuple #[.bool (formIs (l ++ [⟨5, i, j⟩]) t n), .int .i64 (formIsE (l ++ [⟨5, i, j⟩]) t n)] := hG.claims 8 _ rfl (by kernel_rfl) (by kernel_rfl)
            have hg := hG.good
            clear hG
            go_wp2
            exact ⟨_, rfl, rfl, hg, fun _ => Below.refl _ _⟩
          · intro x wx hG
            have g9 : (x.tmps.getD 88 undef) = .tuple #[.bool (formIs (l ++ [⟨5, i, j⟩]) t n), .int .i64 (formIsE (l ++ [⟨5, i, j⟩]) t n)] := hG.claims 9 _ rfl (by kernel_rfl) (by kernel_rfl)
            have hg := hG.good
            clear hG
            go_wp2
            exact ⟨_, rfl, rfl, hg, fun _ => Below.refl _ _⟩
          · intro x wx hG
            have g9 : (x.tmps.getD 88 undef) = .tuple #[.bool (formIs (l ++ [⟨5, i, j⟩]) t n), .int .i64 (formIsE (l ++ [⟨5, i, j⟩]) t n)] := hG.claims 9 _ rfl (by kernel_rfl) (by kernel_rfl)
            have hg := hG.good
            clear hG
            go_wp2
            exact ⟨_, rfl, rfl, hg, fun _ => Below.refl _ _⟩
          · intro x wx hG
            have g10 : (x.tmps.getD 98 undef) = .bool (formIs (l ++ [⟨5, i, j⟩]) t n) := hG.claims 10 _ rfl (by kernel_rfl) (by kernel_rfl)
            have hg := hG.good
            clear hG
            go_wp2
            exact ⟨_, rfl, rfl, hg, fun _ => Below.refl _ _⟩
          · intro x wx hG
            have g11 : (x.tmps.getD 99 undef) = .int .i64 (formIsE (l ++ [⟨5, i, j⟩]) t n) := hG.claims 11 _ rfl (by kernel_rfl) (by kernel_rfl)
            have hg := hG.good
            clear hG
            go_wp2
            exact ⟨_, rfl, rfl, hg, fun _ => Below.refl _ _⟩
        · intro vals w8 hg hF
          obtain ⟨g0, g1, g2, g3, g4, g5, g6, g7, g8, g9, g10, g11, g12, g13, -⟩ := hF
          have e0 : vals 0 = .slice va l.length vc := g0 rfl
          have e2 : vals 2 = .int .i64 i := g2 rfl
          have e3 : vals 3 = .int .i64 j := g3 rfl
          have e4 : vals 4 = .agg #[.int .i64 5, .int .i64 i, .int .i64 j] := g4 rfl
          have e7 : vals 7 = .agg #[.int .i64 t, .int .i64 n] := g7 rfl
          have e8 : vals 8 = .tuple #[.bool (formIs (l ++ [⟨5, i, j⟩]) t n), .int .i64 (formIsE (l ++ [⟨5, i, j⟩]) t n)] := g8 rfl
          have e9 : vals 9 = .tuple #[.bool (formIs (l ++ [⟨5, i, j⟩]) t n), .int .i64 (formIsE (l ++ [⟨5, i, j⟩]) t n)] := g9 rfl
          have e10 : vals 10 = .bool (formIs (l ++ [⟨5, i, j⟩]) t n) := g10 rfl
          have e11 : vals 11 = .int .i64 (formIsE (l ++ [⟨5, i, j⟩]) t n) := g11 rfl
          have e12 : vals 12 = .bool (formIs (l ++ [⟨5, i, j⟩]) t n) := g12 rfl
          have e13 : vals 13 = .int .i64 (formIsE (l ++ [⟨5, i, j⟩]) t n) := g13 rfl
          simp only [Cl.puts, e0, e2, e3, e4, e7, e8, e9, e10, e11, e12, e13]
          clear e0 e2 e3 e4 e7 e8 e9 e10 e11 e12 e13 g0 g1 g2 g3 g4 g5 g6 g7 g8 g9 g10 g11 g12 g13
          go_simp
          replace hs := hs.below hg
          replace c0 := Lib.hid (ckeep hg c0.out)
          replace c1 := Lib.hid (ckeep hg c1.out)
          replace hbel := bstep hbel hg
          clear hg
          rw [(IA.out ⟨5, i, j⟩ (by simp [ndChk]; omega)).1, (IA.out ⟨5, i, j⟩ (by simp [ndChk]; omega)).2]
          go_wp2_with fail
          refine Cl.region 160 rfl (fun q => match q with | 1 => [6] | 5 => [6] | _ => []) (fun q v w => match q with | 0 => v = .slice va l.length vc | 1 => w.ownsRow w8.heap.size 29 3 v l.length (ndCells l) | 2 => v = .int .i64 i | 3 => v = .int .i64 j | 4 => v = .agg #[.int .i64 6, .int .i64 i, .int .i64 j] | 5 => CellsAt w v 1 [.int .i64 6, .int .i64 i, .int .i64 j] | 6 => NdsAt w v (l ++ [⟨6, i, j⟩]) | 7 => v = .agg #[.int .i64 t, .int .i64 n] | 8 => v = .tuple #[.bool (formIs (l ++ [⟨6, i, j⟩]) t n), .int .i64 (formIsE (l ++ [⟨6, i, j⟩]) t n)] | 9 => v = .tuple #[.bool (formIs (l ++ [⟨6, i, j⟩]) t n), .int .i64 (formIsE (l ++ [⟨6, i, j⟩]) t n)] | 10 => v = .bool (formIs (l ++ [⟨6, i, j⟩]) t n) | 11 => v = .int .i64 (formIsE (l ++ [⟨6, i, j⟩]) t n) | 12 => v = .bool (formIs (l ++ [⟨6, i, j⟩]) t n) | 13 => v = .int .i64 (formIsE (l ++ [⟨6, i, j⟩]) t n) | _ => True) (fun w => Below w8.heap.size w8 w) (fun q w w' => q ≠ 6 → Below w.heap.size w w') Try.mixed (by kernel_rfl) (Below.refl _ _).drew ?_ ?_ ?_
          · intro q r v w w' hne hk h hR
            match r, hk, h, hne with
            | 0, _, h, _ => exact h
            | 1, hk, h, _ => exact owns_below h (hR (by simpa using hk))
            | 2, _, h, _ => exact h
            | 3, _, h, _ => exact h
            | 4, _, h, _ => exact h
            | 5, hk, h, _ => exact h.below (hR (by simpa using hk))
            | 6, _, h, hne => exact h.below (hR (by exact hne))
            | 7, _, h, _ => exact h
            | 8, _, h, _ => exact h
            | 9, _, h, _ => exact h
            | 10, _, h, _ => exact h
            | 11, _, h, _ => exact h
            | 12, _, h, _ => exact h
            | 13, _, h, _ => exact h
            | _ + 14, _, _, _ => trivial
          · refine ⟨?_, ?_, ?_, ?_, ?_, ?_, ?_, ?_, ?_, ?_, ?_, ?_, ?_, ?_, trivial⟩
            · intro x wx hG
              have f0 := hG.old 0 (by kernel_rfl)
              have hg := hG.good
              clear hG
              go_wp2
              exact ⟨_, rfl, rfl, hg, fun _ => Below.refl _ _⟩
            · intro x wx hG
              have g0 : (x.tmps.getD 101 undef) = .slice va l.length vc := hG.claims 0 _ rfl (by kernel_rfl) (by kernel_rfl)
              have hg := hG.good
              clear hG
              have hs2 : CellsAt wx (.slice va l.length vc) l.length (ndCells l) := hs.below hg
              go_wp2_with fail
              (with_reducible refine (NodeClone_c _ l.length (ndCells l) _ hs2 (ndCells_length l) (ndCells_one l) (by omega)).mono ?_)
              rintro e w5 ⟨v5, rfl, ho, hb⟩
              clear g0
              go_wp2
              exact ⟨_, rfl, owns_mono ho hg.size, bstep hg hb, fun _ => hb⟩
            · intro x wx hG
              have f1 := hG.old 1 (by kernel_rfl)
              have hg := hG.good
              clear hG
              go_wp2
              exact ⟨_, rfl, rfl, hg, fun _ => Below.refl _ _⟩
            · intro x wx hG
              have f2 := hG.old 2 (by kernel_rfl)
              have hg := hG.good
              clear hG
              go_wp2
              exact ⟨_, rfl, rfl, hg, fun _ => Below.refl _ _⟩
            · intro x wx hG
              have g2 : (x.tmps.getD 103 undef) = .int .i64 i := hG.claims 2 _ rfl (by kernel_rfl) (by kernel_rfl)
              have g2b := g2
              rw [Array.getD_eq_getD_getElem?] at g2b
              have g3 : (x.tmps.getD 104 undef) = .int .i64 j := hG.claims 3 _ rfl (by kernel_rfl) (by kernel_rfl)
              have g3b := g3
              rw [Array.getD_eq_getD_getElem?] at g3b
              have hg := hG.good
              clear hG
              go_wp2
              exact ⟨_, rfl, rfl, hg, fun _ => Below.refl _ _⟩
            · intro x wx hG
              have g4 : (x.tmps.getD 105 undef) = .agg #[.int .i64 6, .int .i64 i, .int .i64 j] := hG.claims 4 _ rfl (by kernel_rfl) (by kernel_rfl)
              have g4b := g4
              rw [Array.getD_eq_getD_getElem?] at g4b
              have hg := hG.good
              clear hG
              have hc := (ndLit wx 6 i j 29 _ rfl : NdsAt _ _ _)
              have HC := Lib.hid hc
              clear hc
              go_wp2
              exact ⟨_, rfl, HC.out, hg.alloc hg.size _, fun _ => bal _⟩
            · intro x wx hG
              have g1 : wx.ownsRow w8.heap.size 29 3 (x.tmps.getD 102 undef) l.length (ndCells l) := hG.claims 1 _ rfl (by kernel_rfl) (by kernel_rfl)
              have g5 : CellsAt wx (x.tmps.getD 106 undef) 1 [.int .i64 6, .int .i64 i, .int .i64 j] := hG.claims 5 _ rfl (by kernel_rfl) (by kernel_rfl)
              have hg := hG.good
              clear hG
              refine wpList_append_cells (w0 := w8) rfl (.tmp 102) (.tmp 106) 22 rfl w8.heap.size 29 _ 3 24 Try.underlying22 NodeTy.info rfl (by decide) _ l.length _ rfl g1 _ 1 _ rfl g5 rfl (by intro u hu; simp at hu; rcases hu with rfl | rfl | rfl <;> rfl) hg hg.size (by unfold maxLen; omega) (by omega) ?_
              intro v5 w5 ho hb
              refine wpList_nil ?_
              exact ⟨v5, rfl, (by have h := CellsAt.of_owns ho (by omega); unfold NdsAt; rw [ndCells_append, List.length_append, List.length_singleton]; exact h), hb, fun h => absurd rfl h⟩
            · intro x wx hG
              have f7 := hG.old 7 (by kernel_rfl)
              have hg := hG.good
              clear hG
              have c0 := ckeep hg c0.out
              have c1 := ckeep hg c1.out
              go_wp2
              exact ⟨_, rfl, rfl, hg, fun _ => Below.refl _ _⟩
            · intro x wx hG
              have g6 : NdsAt wx (x.tmps.getD 107 undef) (l ++ [⟨6, i, j⟩]) := hG.claims 6 _ rfl (by kernel_rfl) (by kernel_rfl)
              have g7 : (x.tmps.getD 108 undef) = .agg #[.int .i64 t, .int .i64 n] := hG.claims 7 _ rfl (by kernel_rfl) (by kernel_rfl)
              have hg := hG.good
              clear hG
              generalize hx : x.tmps.getD 107 undef = xa at *
              have GA := Lib.hid g6
              clear g6
              go_wp2_with fail
              (with_reducible refine (formIs_c _ (l ++ [⟨6, i, j⟩]) t n _ GA.out).mono ?_)
              rintro e w5 ⟨rfl, hb⟩
              clear hx GA
              go_wp2
              exact ⟨_, rfl, rfl, bstep hg hb, fun _ => hb⟩
            · intro x wx hG
              have g8 : (x.tmps.getD 109 undef) = .tuple #[.bool (formIs (l ++ [⟨6, i, j⟩]) t n), .int .i64 (formIsE (l ++ [⟨6, i, j⟩]) t n)] := hG.claims 8 _ rfl (by kernel_rfl) (by kernel_rfl)
              have hg := hG.good
              clear hG
              go_wp2
              exact ⟨_, rfl, rfl, hg, fun _ => Below.refl _ _⟩
            · intro x wx hG
              have g9 : (x.tmps.getD 100 undef) = .tuple #[.bool (formIs (l ++ [⟨6, i, j⟩]) t n), .int .i64 (formIsE (l ++ [⟨6, i, j⟩]) t n)] := hG.claims 9 _ rfl (by kernel_rfl) (by kernel_rfl)
              have hg := hG.good
              clear hG
              go_wp2
              exact ⟨_, rfl, rfl, hg, fun _ => Below.refl _ _⟩
            · intro x wx hG
              have g9 : (x.tmps.getD 100 undef) = .tuple #[.bool (formIs (l ++ [⟨6, i, j⟩]) t n), .int .i64 (formIsE (l ++ [⟨6, i, j⟩]) t n)] := hG.claims 9 _ rfl (by kernel_rfl) (by kernel_rfl)
              have hg := hG.good
              clear hG
              go_wp2
              exact ⟨_, rfl, rfl, hg, fun _ => Below.refl _ _⟩
            · intro x wx hG
              have g10 : (x.tmps.getD 110 undef) = .bool (formIs (l ++ [⟨6, i, j⟩]) t n) := hG.claims 10 _ rfl (by kernel_rfl) (by kernel_rfl)
              have hg := hG.good
              clear hG
              go_wp2
              exact ⟨_, rfl, rfl, hg, fun _ => Below.refl _ _⟩
            · intro x wx hG
              have g11 : (x.tmps.getD 111 undef) = .int .i64 (formIsE (l ++ [⟨6, i, j⟩]) t n) := hG.claims 11 _ rfl (by kernel_rfl) (by kernel_rfl)
              have hg := hG.good
              clear hG
              go_wp2
              exact ⟨_, rfl, rfl, hg, fun _ => Below.refl _ _⟩
          · intro vals w9 hg hF
            obtain ⟨g0, g1, g2, g3, g4, g5, g6, g7, g8, g9, g10, g11, g12, g13, -⟩ := hF
            have e0 : vals 0 = .slice va l.length vc := g0 rfl
            have e2 : vals 2 = .int .i64 i := g2 rfl
            have e3 : vals 3 = .int .i64 j := g3 rfl
            have e4 : vals 4 = .agg #[.int .i64 6, .int .i64 i, .int .i64 j] := g4 rfl
            have e7 : vals 7 = .agg #[.int .i64 t, .int .i64 n] := g7 rfl
            have e8 : vals 8 = .tuple #[.bool (formIs (l ++ [⟨6, i, j⟩]) t n), .int .i64 (formIsE (l ++ [⟨6, i, j⟩]) t n)] := g8 rfl
            have e9 : vals 9 = .tuple #[.bool (formIs (l ++ [⟨6, i, j⟩]) t n), .int .i64 (formIsE (l ++ [⟨6, i, j⟩]) t n)] := g9 rfl
            have e10 : vals 10 = .bool (formIs (l ++ [⟨6, i, j⟩]) t n) := g10 rfl
            have e11 : vals 11 = .int .i64 (formIsE (l ++ [⟨6, i, j⟩]) t n) := g11 rfl
            have e12 : vals 12 = .bool (formIs (l ++ [⟨6, i, j⟩]) t n) := g12 rfl
            have e13 : vals 13 = .int .i64 (formIsE (l ++ [⟨6, i, j⟩]) t n) := g13 rfl
            simp only [Cl.puts, e0, e2, e3, e4, e7, e8, e9, e10, e11, e12, e13]
            clear e0 e2 e3 e4 e7 e8 e9 e10 e11 e12 e13 g0 g1 g2 g3 g4 g5 g6 g7 g8 g9 g10 g11 g12 g13
            go_simp
            replace hs := hs.below hg
            replace c0 := Lib.hid (ckeep hg c0.out)
            replace c1 := Lib.hid (ckeep hg c1.out)
            replace hbel := bstep hbel hg
            clear hg
            rw [(IA.out ⟨6, i, j⟩ (by simp [ndChk]; omega)).1, (IA.out ⟨6, i, j⟩ (by simp [ndChk]; omega)).2]
            go_wp2_with fail
            refine Cl.region 160 rfl (fun q => match q with | 1 => [4] | 3 => [4] | _ => []) (fun q v w => match q with | 0 => v = .slice va l.length vc | 1 => w.ownsRow w9.heap.size 29 3 v l.length (ndCells l) | 2 => v = .agg #[.int .i64 1, .int .i64 0, .int .i64 0] | 3 => CellsAt w v 1 [.int .i64 1, .int .i64 0, .int .i64 0] | 4 => NdsAt w v (l ++ [⟨1, 0, 0⟩]) | 5 => v = .agg #[.int .i64 t, .int .i64 n] | 6 => v = .tuple #[.bool (formIs (l ++ [⟨1, 0, 0⟩]) t n), .int .i64 (formIsE (l ++ [⟨1, 0, 0⟩]) t n)] | 7 => v = .tuple #[.bool (formIs (l ++ [⟨1, 0, 0⟩]) t n), .int .i64 (formIsE (l ++ [⟨1, 0, 0⟩]) t n)] | 8 => v = .bool (formIs (l ++ [⟨1, 0, 0⟩]) t n) | 9 => v = .int .i64 (formIsE (l ++ [⟨1, 0, 0⟩]) t n) | 10 => v = .bool (formIs (l ++ [⟨1, 0, 0⟩]) t n) | 11 => v = .int .i64 (formIsE (l ++ [⟨1, 0, 0⟩]) t n) | _ => True) (fun w => Below w9.heap.size w9 w) (fun q w w' => q ≠ 4 → Below w.heap.size w w') Try.mixed (by kernel_rfl) (Below.refl _ _).drew ?_ ?_ ?_
            · intro q r v w w' hne hk h hR
              match r, hk, h, hne with
              | 0, _, h, _ => exact h
              | 1, hk, h, _ => exact owns_below h (hR (by simpa using hk))
              | 2, _, h, _ => exact h
              | 3, hk, h, _ => exact h.below (hR (by simpa using hk))
              | 4, _, h, hne => exact h.below (hR (by exact hne))
              | 5, _, h, _ => exact h
              | 6, _, h, _ => exact h
              | 7, _, h, _ => exact h
              | 8, _, h, _ => exact h
              | 9, _, h, _ => exact h
              | 10, _, h, _ => exact h
              | 11, _, h, _ => exact h
              | _ + 12, _, _, _ => trivial
            · refine ⟨?_, ?_, ?_, ?_, ?_, ?_, ?_, ?_, ?_, ?_, ?_, ?_, trivial⟩
              · intro x wx hG
                have f0 := hG.old 0 (by kernel_rfl)
                have hg := hG.good
                clear hG
                go_wp2
                exact ⟨_, rfl, rfl, hg, fun _ => Below.refl _ _⟩
              · intro x wx hG
                have g0 : (x.tmps.getD 113 undef) = .slice va l.length vc := hG.claims 0 _ rfl (by kernel_rfl) (by kernel_rfl)
                have hg := hG.good
                clear hG
                have hs2 : CellsAt wx (.slice va l.length vc) l.length (ndCells l) := hs.below hg
                go_wp2_with fail
                (with_reducible refine (NodeClone_c _ l.length (ndCells l) _ hs2 (ndCells_length l) (ndCells_one l) (by omega)).mono ?_)
                rintro e w5 ⟨v5, rfl, ho, hb⟩
                clear g0
                go_wp2
                exact ⟨_, rfl, owns_mono ho hg.size, bstep hg hb, fun _ => hb⟩
              · intro x wx hG
                have hg := hG.good
                clear hG
                go_wp2
                exact ⟨_, rfl, rfl, hg, fun _ => Below.refl _ _⟩
              · intro x wx hG
                have g2 : (x.tmps.getD 115 undef) = .agg #[.int .i64 1, .int .i64 0, .int .i64 0] := hG.claims 2 _ rfl (by kernel_rfl) (by kernel_rfl)
                have g2b := g2
                rw [Array.getD_eq_getD_getElem?] at g2b
                have hg := hG.good
                clear hG
                have hc := (ndLit wx 1 0 0 29 _ rfl : NdsAt _ _ _)
                have HC := Lib.hid hc
                clear hc
                go_wp2
                exact ⟨_, rfl, HC.out, hg.alloc hg.size _, fun _ => bal _⟩
              · intro x wx hG
                have g1 : wx.ownsRow w9.heap.size 29 3 (x.tmps.getD 114 undef) l.length (ndCells l) := hG.claims 1 _ rfl (by kernel_rfl) (by kernel_rfl)
                have g3 : CellsAt wx (x.tmps.getD 116 undef) 1 [.int .i64 1, .int .i64 0, .int .i64 0] := hG.claims 3 _ rfl (by kernel_rfl) (by kernel_rfl)
                have hg := hG.good
                clear hG
                refine wpList_append_cells (w0 := w9) rfl (.tmp 114) (.tmp 116) 22 rfl w9.heap.size 29 _ 3 24 Try.underlying22 NodeTy.info rfl (by decide) _ l.length _ rfl g1 _ 1 _ rfl g3 rfl (by intro u hu; simp at hu; rcases hu with rfl | rfl | rfl <;> rfl) hg hg.size (by unfold maxLen; omega) (by omega) ?_
                intro v5 w5 ho hb
                refine wpList_nil ?_
                exact ⟨v5, rfl, (by have h := CellsAt.of_owns ho (by omega); unfold NdsAt; rw [ndCells_append, List.length_append, List.length_singleton]; exact h), hb, fun h => absurd rfl h⟩
              · intro x wx hG
                have f7 := hG.old 7 (by kernel_rfl)
                have hg := hG.good
                clear hG
                have c0 := ckeep hg c0.out
                have c1 := ckeep hg c1.out
                go_wp2
                exact ⟨_, rfl, rfl, hg, fun _ => Below.refl _ _⟩
              · intro x wx hG
                have g4 : NdsAt wx (x.tmps.getD 117 undef) (l ++ [⟨1, 0, 0⟩]) := hG.claims 4 _ rfl (by kernel_rfl) (by kernel_rfl)
                have g5 : (x.tmps.getD 118 undef) = .agg #[.int .i64 t, .int .i64 n] := hG.claims 5 _ rfl (by kernel_rfl) (by kernel_rfl)
                have hg := hG.good
                clear hG
                generalize hx : x.tmps.getD 117 undef = xa at *
                have GA := Lib.hid g4
                clear g4
                go_wp2_with fail
                (with_reducible refine (formIs_c _ (l ++ [⟨1, 0, 0⟩]) t n _ GA.out).mono ?_)
                rintro e w5 ⟨rfl, hb⟩
                clear hx GA
                go_wp2
                exact ⟨_, rfl, rfl, bstep hg hb, fun _ => hb⟩
              · intro x wx hG
                have g6 : (x.tmps.getD 119 undef) = .tuple #[.bool (formIs (l ++ [⟨1, 0, 0⟩]) t n), .int .i64 (formIsE (l ++ [⟨1, 0, 0⟩]) t n)] := hG.claims 6 _ rfl (by kernel_rfl) (by kernel_rfl)
                have hg := hG.good
                clear hG
                go_wp2
                exact ⟨_, rfl, rfl, hg, fun _ => Below.refl _ _⟩
              · intro x wx hG
                have g7 : (x.tmps.getD 112 undef) = .tuple #[.bool (formIs (l ++ [⟨1, 0, 0⟩]) t n), .int .i64 (formIsE (l ++ [⟨1, 0, 0⟩]) t n)] := hG.claims 7 _ rfl (by kernel_rfl) (by kernel_rfl)
                have hg := hG.good
                clear hG
                go_wp2
                exact ⟨_, rfl, rfl, hg, fun _ => Below.refl _ _⟩
              · intro x wx hG
                have g7 : (x.tmps.getD 112 undef) = .tuple #[.bool (formIs (l ++ [⟨1, 0, 0⟩]) t n), .int .i64 (formIsE (l ++ [⟨1, 0, 0⟩]) t n)] := hG.claims 7 _ rfl (by kernel_rfl) (by kernel_rfl)
                have hg := hG.good
                clear hG
                go_wp2
                exact ⟨_, rfl, rfl, hg, fun _ => Below.refl _ _⟩
              · intro x wx hG
                have g8 : (x.tmps.getD 120 undef) = .bool (formIs (l ++ [⟨1, 0, 0⟩]) t n) := hG.claims 8 _ rfl (by kernel_rfl) (by kernel_rfl)
                have hg := hG.good
                clear hG
                go_wp2
                exact ⟨_, rfl, rfl, hg, fun _ => Below.refl _ _⟩
              · intro x wx hG
                have g9 : (x.tmps.getD 121 undef) = .int .i64 (formIsE (l ++ [⟨1, 0, 0⟩]) t n) := hG.claims 9 _ rfl (by kernel_rfl) (by kernel_rfl)
                have hg := hG.good
                clear hG
                go_wp2
                exact ⟨_, rfl, rfl, hg, fun _ => Below.refl _ _⟩
            · intro vals w10 hg hF
              obtain ⟨g0, g1, g2, g3, g4, g5, g6, g7, g8, g9, g10, g11, -⟩ := hF
              have e0 : vals 0 = .slice va l.length vc := g0 rfl
              have e2 : vals 2 = .agg #[.int .i64 1, .int .i64 0, .int .i64 0] := g2 rfl
              have e5 : vals 5 = .agg #[.int .i64 t, .int .i64 n] := g5 rfl
              have e6 : vals 6 = .tuple #[.bool (formIs (l ++ [⟨1, 0, 0⟩]) t n), .int .i64 (formIsE (l ++ [⟨1, 0, 0⟩]) t n)] := g6 rfl
              have e7 : vals 7 = .tuple #[.bool (formIs (l ++ [⟨1, 0, 0⟩]) t n), .int .i64 (formIsE (l ++ [⟨1, 0, 0⟩]) t n)] := g7 rfl
              have e8 : vals 8 = .bool (formIs (l ++ [⟨1, 0, 0⟩]) t n) := g8 rfl
              have e9 : vals 9 = .int .i64 (formIsE (l ++ [⟨1, 0, 0⟩]) t n) := g9 rfl
              have e10 : vals 10 = .bool (formIs (l ++ [⟨1, 0, 0⟩]) t n) := g10 rfl
              have e11 : vals 11 = .int .i64 (formIsE (l ++ [⟨1, 0, 0⟩]) t n) := g11 rfl
              simp only [Cl.puts, e0, e2, e5, e6, e7, e8, e9, e10, e11]
              clear e0 e2 e5 e6 e7 e8 e9 e10 e11 g0 g1 g2 g3 g4 g5 g6 g7 g8 g9 g10 g11
              go_simp
              replace hs := hs.below hg
              replace c0 := Lib.hid (ckeep hg c0.out)
              replace c1 := Lib.hid (ckeep hg c1.out)
              replace hbel := bstep hbel hg
              clear hg
              rw [(IA.out ⟨1, 0, 0⟩ (by simp [ndChk])).1, (IA.out ⟨1, 0, 0⟩ (by simp [ndChk])).2]
              simp only [ndVal, Int.toNat_natCast]
              simp only [if_true, if_false, show ¬ (4 : Int) = 1 by decide, show ¬ (4 : Int) = 2 by decide, show ¬ (4 : Int) = 3 by decide, show ¬ (5 : Int) = 1 by decide, show ¬ (5 : Int) = 2 by decide, show ¬ (5 : Int) = 3 by decide, show ¬ (5 : Int) = 4 by decide, show ¬ (6 : Int) = 1 by decide, show ¬ (6 : Int) = 2 by decide, show ¬ (6 : Int) = 3 by decide, show ¬ (6 : Int) = 4 by decide, show ¬ (6 : Int) = 5 by decide]
              clear hs c0 c1 IT IA
              simp only [List.getD_eq_getElem?_getD]
              generalize (valsK l t n l.length)[i]?.getD false = X
              generalize (valsK l t n l.length)[j]?.getD false = Y
              go_wp2_with fail
              refine wp_loop_rounds 7 ?_
              iterate 6 (rw [rounds_succ]; go_wp2_with fail)
              cases X
              all_goals cases Y
              all_goals rw [rounds_succ]
              all_goals go_wp2
              all_goals go_ret
              all_goals exact ⟨rfl, hbel.alloc hbel.size _⟩
end Go.Proofs.Ytcanefjjpeoikaa
