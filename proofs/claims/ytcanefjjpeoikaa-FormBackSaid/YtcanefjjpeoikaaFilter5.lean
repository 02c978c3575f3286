/- What filter.Count, Every, In, Has do; the laws' helpers. -/
import Derived.Test.YtcanefjjpeoikaaFilter4
namespace Go.Proofs.Ytcanefjjpeoikaa
open Go.RowKit

set_option maxRecDepth 100000 in
theorem index_tab (q : Nat → Nat) (j : Nat) (hj : j < 16) (W : World) : (Instr.index 98 (.agg (tabC q)) (.int .i64 (j : Int))).run Try.prog W = .ok (.int .u32 (q j : Nat)) W := by
  have hu := Try.underlying98
  have hi : (Try.prog.info? 57).map (·.size) = some 1 := by kernel_rfl
  have hg : (tabC q)[j]? = some (.int .u32 (q j : Nat)) := tabC_get q j hj
  have hsz := tabC_size q
  have hag : ∀ W, (isAgg 57).run Try.prog W = .ok false W := fun W => by kernel_rfl
  obtain ⟨i, hi2, hs⟩ : ∃ i, Try.prog.info? 57 = some i ∧ i.size = 1 := by
    cases h : Try.prog.info? 57 with
    | none => rw [h] at hi; simp at hi
    | some i => rw [h] at hi; exact ⟨i, rfl, by simpa using hi⟩
  simp only [Instr.index, asIntOf, run_underlying hu, Sem.run_bind, Sem.run_pure, Result.andThen_ok]
  rw [if_pos (by omega)]
  simp [part, sizeOf, typeInfo, hi2, hs, hag, hg, hsz, Int.toNat_natCast, hj]
  exact (Array.getElem?_eq_some_iff.1 hg).2

def cntE (f : Bxs) : Int := if fChk f = 0 then cntF (inF f · ·) else 0
theorem u32_pred (x : Nat) (h : 0 < x) (h2 : x < 4294967296) : bits .and .u32 (x : Int) ((x : Int) - 1) = ((x &&& (x - 1) : Nat) : Int) := by
  rw [show ((x : Int) - 1) = ((x - 1 : Nat) : Int) by omega]
  exact u32_and_nat x (x - 1) h2 (by omega)

set_option maxRecDepth 100000 in
set_option maxHeartbeats 1000000 in
theorem countf_c (v : Value) (f : Bxs) (w : World) (hf : BxsAt w v f) :
    Calls Try.prog 26 #[v] w fun e w' => e = .returned (.tuple #[.int .i64 (cntE f), .int .i64 (fChk f)]) ∧ Below w.heap.size w w' := by
  obtain ⟨fa, fc, rfl⟩ := hf.shape
  go_enter Try.func26, Try.ntmps26
  go_wp2_with fail
  (with_reducible refine (fChk_c _ f _ hf).mono ?_)
  rintro e w1 ⟨rfl, hb⟩
  replace hf := hf.below hb
  have hbel := hb
  clear hb
  cases hx : (fChk f == 0)
  · have H := Lib.hid (show cntE f = 0 by simp at hx; simp [cntE, hx])
    have h' : (fChk f != 0) = true := by simp [bne, hx]
    clear hx hf
    go_wp2
    go_ret2
    exact ⟨ret_ie H.out.symm rfl, hbel⟩
  have h0 : fChk f = 0 := by simpa using hx
  have hfo := (fChk_zero.1 h0).2
  have HF := Lib.hid (show cntE f = cntF (fun k n => (tabN f k).testBit n) ∧ fChk f = 0 by
    simp only [cntE, if_pos h0]; exact ⟨cntF_congr fun t n _ _ => ((tabN_good f t hfo).2 n).symm, h0⟩)
  have HT := Lib.hid (fun k => (tabN_good f k hfo).1)
  rw [h0]
  clear h0 hx
  go_wp2_with fail
  (with_reducible refine (tabled_c _ f _ hf hfo).mono ?_)
  rintro e w2 ⟨rfl, hb⟩
  replace hbel := bstep hbel hb
  clear hb hf hfo
  generalize tabN f = t at *
  have HBD := Lib.hid (cntT_bd (fun k n => (t k).testBit n))
  go_wp2
  go_loop [5, 15] (fun nn i => ∃ j : Nat, j ≤ 16 ∧ i = .int .i64 j ∧ nn = .int .i64 (cntT (fun k n => (t k).testBit n) j)) (fun _ i => 16 - (intOf i).toNat)
  case atStart => exact ⟨0, by omega, rfl, rfl⟩
  case round =>
    obtain ⟨j, hj, rfl, rfl⟩ := hrel
    by_cases hjl : j < 16
    · have hdj : decide ((j : Int) < 16) = true := by simp only [decide_eq_true_eq]; omega
      have hidx := index_tab t j hjl w2
      have HSUC := Lib.hid (show cntT (fun k n => (t k).testBit n) (j + 1) = cntT (fun k n => (t k).testBit n) j + cnt (fun n => (t j).testBit n) 32 from rfl)
      have hbd0 := HBD.out j
      have hbd1 := cnt_bd (fun n => (t j).testBit n) 32
      have HTJ := Lib.hid (HT.out j)
      generalize cntT (fun k n => (t k).testBit n) j = c0 at *
      obtain ⟨hc0, hc1⟩ := hbd0
      obtain ⟨hd0, hd1⟩ := hbd1
      go_wp2
      have HS0 := Lib.hid (rfl : cnt (fun n => (t j).testBit n) 32 = cnt (fun n => (t j).testBit n) 32)
      clear hidx
      go_loop [5, 7] (fun nn y => ∃ (x : Nat) (c : Int), y = .int .u32 x ∧ x < 4294967296 ∧ 0 ≤ c ∧ c ≤ 32 ∧ nn = .int .i64 (c0 + c) ∧ c + cnt (fun n => x.testBit n) 32 = cnt (fun n => (t j).testBit n) 32) (fun _ y => (intOf y).toNat)
      case atStart => exact ⟨t j, 0, rfl, HTJ.out, by omega, by omega, by simp, by simp⟩
      case round =>
        obtain ⟨x, c, rfl, hx, hcc0, hcc1, rfl, hsum⟩ := hrel
        have HSUM := Lib.hid hsum
        clear hsum
        by_cases hz : x = 0
        · subst hz
          have hcz : c = cnt (fun n => (t j).testBit n) 32 := by
            have := HSUM.out
            rw [show cnt (fun n => Nat.testBit 0 n) 32 = 0 from by
              have : (fun n => Nat.testBit 0 n) = fun _ => false := by funext n; simp
              rw [this]; exact cnt_false 32] at this
            omega
          have HCZ := Lib.hid hcz
          clear hcz
          go_wp2
          go_round
          case rel => exact ⟨j + 1, by omega, by go_num, by rw [HSUC.out, HCZ.out]⟩
          case measure => first | (simp [intOf]; done) | (simp [intOf]; omega)
        · have hp : 0 < x := by omega
          have hne : ((x : Int) != 0) = true := by rw [bne_iff_ne]; omega
          have hcl := cnt_clear 32 x hp hx
          have hcb := cnt_bd (fun n => (x &&& (x - 1)).testBit n) 32
          have hle : c + 1 ≤ 32 := by have := HSUM.out; omega
          have hlt := and_pred_lt x hp
          have HU := Lib.hid (u32_pred x hp hx)
          have HCL := Lib.hid (show (c + 1) + cnt (fun n => (x &&& (x - 1)).testBit n) 32 = cnt (fun n => (t j).testBit n) 32 by have := HSUM.out; omega)
          clear hcl hcb
          go_wp2
          go_round
          case rel => exact ⟨x &&& (x - 1), c + 1, by rw [HU.out], by omega, by omega, hle, by rw [Int.add_assoc], HCL.out⟩
          case measure => simp only [intOf]; rw [HU.out]; omega
    · obtain rfl : j = 16 := by omega
      go_wp2
      go_ret2
      exact ⟨ret_ie HF.out.1.symm HF.out.2.symm, hbel⟩

set_option maxRecDepth 100000 in
theorem every_f (w : World) : Calls Try.prog 28 #[] w fun e w' => ∃ v, e = .returned v ∧ BxsAt w' v [⟨0, 0, [(0, 32)]⟩] ∧ Below w.heap.size w w' := by
  go_enter Try.func28, Try.ntmps28
  go_wp2
  go_ret
  refine ⟨_, rfl, ?_, (bal _).alloc (by simp) _⟩
  refine ⟨[.slice (some ⟨w.heap.size, 0, none⟩) 1 1], rfl, ?_, fun i hi hi' => ?_⟩
  · have h := CellsAt.mk (w := (w.alloc (.cells #[.int .i64 0, .int .i64 32] 59)).alloc (.cells #[.int .i64 0, .int .i64 0, .slice (some ⟨w.heap.size, 0, none⟩) 1 1] 52)) (b := w.heap.size + 1) (off := 0) (n := 1) (cap := 1) (xs := [.int .i64 0, .int .i64 0, .slice (some ⟨w.heap.size, 0, none⟩) 1 1]) (Nat.le_refl _) (by decide) (by simp) (fun j x hj => by
      rw [Nat.zero_add, World.cell?_alloc_at _ _ _ _ (by simp)]; simpa using hj)
    exact h
  · obtain rfl : i = 0 := by simp at hi; omega
    exact lit1 _ _ _ _ _ _ rfl

/-- A filter written out: one box with one span. -/
theorem boxLit (w : World) (y n a b : Int) (g : Nat) (hg : g = w.heap.size) (k : Nat) (hk : k = w.heap.size + 1) :
    BxsAt ((w.alloc (.cells #[.int .i64 a, .int .i64 b] 59)).alloc (.cells #[.int .i64 y, .int .i64 n, .slice (some ⟨g, 0, none⟩) 1 1] 52)) (.slice (some ⟨k, 0, none⟩) 1 1) [⟨y, n, [(a, b)]⟩] := by
  subst hg hk
  refine ⟨[.slice (some ⟨w.heap.size, 0, none⟩) 1 1], rfl, ?_, fun i hi hi' => ?_⟩
  · exact CellsAt.mk (b := w.heap.size + 1) (off := 0) (n := 1) (cap := 1) (xs := [.int .i64 y, .int .i64 n, .slice (some ⟨w.heap.size, 0, none⟩) 1 1]) (Nat.le_refl _) (by decide) (by simp) (fun j x hj => by
      rw [Nat.zero_add, World.cell?_alloc_at _ _ _ _ (by simp)]; simpa using hj)
  · obtain rfl : i = 0 := by simp at hi; omega
    exact lit1 _ _ _ _ _ _ rfl

theorem begun_count : cntE [⟨1, 0, [(0, 2)]⟩] = 16 ∧ fChk [⟨1, 0, [(0, 2)]⟩] = 0 := by decide +kernel
set_option maxRecDepth 100000 in
set_option maxHeartbeats 400000 in
theorem filterBegun_c (w : World) : Calls Try.prog 20 #[] w fun e w' => e = .returned (.bool true) ∧ Below w.heap.size w w' := by
  go_enter Try.func20, Try.ntmps20
  go_wp2_with fail
  (with_reducible refine (countf_c _ [⟨1, 0, [(0, 2)]⟩] _ (boxLit _ _ _ _ _ _ rfl _ rfl)).mono ?_)
  rintro e w1 ⟨rfl, hb⟩
  rw [begun_count.1, begun_count.2]
  go_wp2
  go_ret
  exact ⟨rfl, ba2 hb⟩

theorem FOut.below {base : Nat} {w w' : World} {v : Value} {E : Int} {p : Nat → Nat → Bool} (h : FOut base w v E p) (hb : Below w.heap.size w w') : FOut base w' v E p :=
  ⟨fun e => let ⟨l, h1, h2⟩ := h.1 e; ⟨l, h1.below hb, h2⟩, h.2⟩
/-- v is a filter, in its form, of just the points p. -/
def FV (w : World) (v : Value) (p : Nat → Nat → Bool) : Prop := ∃ l, BxsAt w v l ∧ fChk l = 0 ∧ ∀ k n : Nat, k < 16 → n < 32 → inF l k n = p k n
theorem FV.below {w w' : World} {v : Value} {p : Nat → Nat → Bool} (h : FV w v p) (hb : Below w.heap.size w w') : FV w' v p := by
  obtain ⟨l, h1, h2, h3⟩ := h; exact ⟨l, h1.below hb, h2, h3⟩
theorem FV.shape {w : World} {v : Value} {p : Nat → Nat → Bool} (h : FV w v p) : ∃ a n c, v = .slice a n c := by
  obtain ⟨l, h1, -⟩ := h; obtain ⟨a, c, hv⟩ := h1.shape; exact ⟨a, _, c, hv⟩
theorem FGood.chk {l : Bxs} {p : Nat → Nat → Bool} (h : FGood l p) : fChk l = 0 := fChk_zero.2 ⟨by have := h.len; omega, h.ok⟩
theorem FV.of_out {base : Nat} {w : World} {v : Value} {p q : Nat → Nat → Bool} (h : FOut base w v 0 p) (hpq : ∀ k n : Nat, k < 16 → n < 32 → p k n = q k n) : FV w v q := by
  obtain ⟨l, h1, h2⟩ := h.1 rfl
  exact ⟨l, FGood.own_at h1 h2, h2.chk, fun k n hk hn => (h2.pts k n hk hn).trans (hpq k n hk hn)⟩
theorem FV.mk {w : World} {v : Value} {l : Bxs} (h : BxsAt w v l) (hc : fChk l = 0) : FV w v (fun k n => inF l k n) := ⟨l, h, hc, fun _ _ _ _ => rfl⟩

set_option maxRecDepth 100000 in
theorem joinF (va vb : Value) (p q : Nat → Nat → Bool) (w : World) (ha : FV w va p) (hb : FV w vb q) :
    Calls Try.prog 21 #[va, vb] w fun e w' => ∃ v, e = .returned (.tuple #[v, .int .i64 0]) ∧ FV w' v (fun k n => p k n || q k n) ∧ Below w.heap.size w w' := by
  obtain ⟨f, f1, f2, f3⟩ := ha; obtain ⟨g, g1, g2, g3⟩ := hb
  have h0 : fTwo f g = 0 := by simp [fTwo, f2, g2]
  refine (joinf_c va vb f g w f1 g1).mono ?_
  rintro e w' ⟨v, rfl, ho, hb⟩
  rw [h0] at ho ⊢
  exact ⟨v, rfl, FV.of_out ho fun k n hk hn => by rw [f3 k n hk hn, g3 k n hk hn], hb⟩
set_option maxRecDepth 100000 in
theorem meetF (va vb : Value) (p q : Nat → Nat → Bool) (w : World) (ha : FV w va p) (hb : FV w vb q) :
    Calls Try.prog 23 #[va, vb] w fun e w' => ∃ v, e = .returned (.tuple #[v, .int .i64 0]) ∧ FV w' v (fun k n => p k n && q k n) ∧ Below w.heap.size w w' := by
  obtain ⟨f, f1, f2, f3⟩ := ha; obtain ⟨g, g1, g2, g3⟩ := hb
  have h0 : fTwo f g = 0 := by simp [fTwo, f2, g2]
  refine (meetf_c va vb f g w f1 g1).mono ?_
  rintro e w' ⟨v, rfl, ho, hb⟩
  rw [h0] at ho ⊢
  exact ⟨v, rfl, FV.of_out ho fun k n hk hn => by rw [f3 k n hk hn, g3 k n hk hn], hb⟩
set_option maxRecDepth 100000 in
theorem lessF (va vb : Value) (p q : Nat → Nat → Bool) (w : World) (ha : FV w va p) (hb : FV w vb q) :
    Calls Try.prog 25 #[va, vb] w fun e w' => ∃ v, e = .returned (.tuple #[v, .int .i64 0]) ∧ FV w' v (fun k n => p k n && !q k n) ∧ Below w.heap.size w w' := by
  obtain ⟨f, f1, f2, f3⟩ := ha; obtain ⟨g, g1, g2, g3⟩ := hb
  have h0 : fTwo f g = 0 := by simp [fTwo, f2, g2]
  refine (lessf_c va vb f g w f1 g1).mono ?_
  rintro e w' ⟨v, rfl, ho, hb⟩
  rw [h0] at ho ⊢
  exact ⟨v, rfl, FV.of_out ho fun k n hk hn => by rw [f3 k n hk hn, g3 k n hk hn], hb⟩
set_option maxRecDepth 100000 in
theorem withinF (va vb : Value) (p q : Nat → Nat → Bool) (w : World) (ha : FV w va p) (hb : FV w vb q) :
    Calls Try.prog 27 #[va, vb] w fun e w' => e = .returned (.tuple #[.bool (allPt fun k n => !p k n || q k n), .int .i64 0]) ∧ Below w.heap.size w w' := by
  obtain ⟨f, f1, f2, f3⟩ := ha; obtain ⟨g, g1, g2, g3⟩ := hb
  have h0 : fTwo f g = 0 := by simp [fTwo, f2, g2]
  refine (withinf_c va vb f g w f1 g1).mono ?_
  rintro e w' ⟨rfl, hb⟩
  exact ⟨ret_be (by simp only [withinE, if_pos h0]; exact allPt_congr fun k n hk hn => by rw [f3 k n hk hn, g3 k n hk hn]; cases p k n <;> cases q k n <;> rfl) h0, hb⟩
set_option maxRecDepth 100000 in
theorem countF (v : Value) (p : Nat → Nat → Bool) (w : World) (h : FV w v p) :
    Calls Try.prog 26 #[v] w fun e w' => e = .returned (.tuple #[.int .i64 (cntF p), .int .i64 0]) ∧ Below w.heap.size w w' := by
  obtain ⟨f, f1, f2, f3⟩ := h
  refine (countf_c v f w f1).mono ?_
  rintro e w' ⟨rfl, hb⟩
  exact ⟨ret_ie (by simp only [cntE, if_pos f2]; exact cntF_congr f3) f2, hb⟩
set_option maxRecDepth 100000 in
theorem checkF (v : Value) (p : Nat → Nat → Bool) (w : World) (h : FV w v p) :
    Calls Try.prog 22 #[v] w fun e w' => e = .returned (.int .i64 0) ∧ Below w.heap.size w w' := by
  obtain ⟨f, f1, f2, f3⟩ := h
  refine (fChk_c v f w f1).mono ?_
  rintro e w' ⟨rfl, hb⟩
  exact ⟨ret_int f2, hb⟩
set_option maxRecDepth 100000 in
theorem everyF (w : World) : Calls Try.prog 28 #[] w fun e w' => ∃ v, e = .returned v ∧ FV w' v (fun _ _ => true) ∧ Below w.heap.size w w' := by
  refine (every_f w).mono ?_
  rintro e w' ⟨v, rfl, h, hb⟩
  refine ⟨v, rfl, ⟨_, h, by decide, ?_⟩, hb⟩
  intro k n hk hn
  have : ∀ k : Nat, k < 16 → cubeIn 0 0 (k : Int) = true := by decide +kernel
  simp [inF, this k hk, inB]
  omega
/-- reedkeep.same -/
def sameB (f g : Bxs) : Bool := sameE f g
set_option maxRecDepth 100000 in
set_option maxHeartbeats 400000 in
theorem same_c (va vb : Value) (f g : Bxs) (w : World) (hf : BxsAt w va f) (hg : BxsAt w vb g) :
    Calls Try.prog 24 #[va, vb] w fun e w' => e = .returned (.bool (sameE f g)) ∧ Below w.heap.size w w' := by
  obtain ⟨fa, fc, rfl⟩ := hf.shape
  obtain ⟨ga, gc, rfl⟩ := hg.shape
  have HB := Lib.hid (samef_c _ _ f g w hf hg)
  clear hf hg
  go_enter Try.func24, Try.ntmps24
  go_wp2_with fail
  (with_reducible refine HB.out.mono ?_)
  rintro e w1 ⟨rfl, hb⟩
  clear HB
  by_cases h0 : fTwo f g = 0
  · rw [h0]
    clear h0
    go_wp2
    go_ret
    exact ⟨rfl, hb⟩
  · have H := Lib.hid (show sameE f g = false by simp only [sameE, if_neg h0])
    have h' : (fTwo f g == 0) = false := by simpa using h0
    clear h0
    go_wp2
    go_ret
    exact ⟨ret_bool H.out.symm, hb⟩
set_option maxRecDepth 100000 in
theorem sameF (va vb : Value) (p q : Nat → Nat → Bool) (w : World) (ha : FV w va p) (hb : FV w vb q) :
    Calls Try.prog 24 #[va, vb] w fun e w' => e = .returned (.bool (allPt fun k n => p k n == q k n)) ∧ Below w.heap.size w w' := by
  obtain ⟨f, f1, f2, f3⟩ := ha; obtain ⟨g, g1, g2, g3⟩ := hb
  have h0 : fTwo f g = 0 := by simp [fTwo, f2, g2]
  refine (same_c va vb f g w f1 g1).mono ?_
  rintro e w' ⟨rfl, hb⟩
  exact ⟨ret_bool (by simp only [sameE, if_pos h0]; exact allPt_congr fun k n hk hn => by rw [f3 k n hk hn, g3 k n hk hn]; cases p k n <;> cases q k n <;> rfl), hb⟩
set_option maxRecDepth 100000 in
theorem sameT (va vb : Value) (p q : Nat → Nat → Bool) (w : World) (ha : FV w va p) (hb : FV w vb q) (h : ∀ k n, p k n = q k n) :
    Calls Try.prog 24 #[va, vb] w fun e w' => e = .returned (.bool true) ∧ Below w.heap.size w w' := by
  refine (sameF va vb p q w ha hb).mono ?_
  rintro e w' ⟨rfl, hb⟩
  exact ⟨ret_bool (allPt_iff _ |>.2 fun k n _ _ => by rw [h k n]; simp), hb⟩
end Go.Proofs.Ytcanefjjpeoikaa
