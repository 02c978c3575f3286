/- What filter.both, and what stands on it, do. Written by a small program (gen/filter3.py). -/
import Derived.Test.YtcanefjjpeoikaaFilter2
namespace Go.Proofs.Ytcanefjjpeoikaa
open Go.RowKit

set_option maxRecDepth 100000 in
theorem join1_f (a b : Nat) (ha : a < 4294967296) (hb : b < 4294967296) (w : World) : Calls Try.prog 56 #[.int .u32 (a : Nat), .int .u32 (b : Nat)] w fun e w' => e = .returned (.int .u32 ((a ||| b : Nat) : Int)) ∧ w = w' := by
  go_enter Try.func56, Try.ntmps56
  go_wp2
  go_ret
  exact ⟨ret_int (u32_or_nat a b ha hb), rfl⟩
set_option maxRecDepth 100000 in
theorem meet1_f (a b : Nat) (ha : a < 4294967296) (hb : b < 4294967296) (w : World) : Calls Try.prog 59 #[.int .u32 (a : Nat), .int .u32 (b : Nat)] w fun e w' => e = .returned (.int .u32 ((a &&& b : Nat) : Int)) ∧ w = w' := by
  go_enter Try.func59, Try.ntmps59
  go_wp2
  go_ret
  exact ⟨ret_int (u32_and_nat a b ha hb), rfl⟩
set_option maxRecDepth 100000 in
theorem less1_f (a b : Nat) (ha : a < 4294967296) (hb : b < 4294967296) (w : World) : Calls Try.prog 61 #[.int .u32 (a : Nat), .int .u32 (b : Nat)] w fun e w' => e = .returned (.int .u32 ((a &&& (4294967295 - b) : Nat) : Int)) ∧ w = w' := by
  go_enter Try.func61, Try.ntmps61
  go_wp2
  go_ret
  exact ⟨ret_int (u32_andNot_nat a b ha hb), rfl⟩
set_option maxRecDepth 100000 in
theorem same1_f (a b : Nat) (ha : a < 4294967296) (hb : b < 4294967296) (w : World) : Calls Try.prog 83 #[.int .u32 (a : Nat), .int .u32 (b : Nat)] w fun e w' => e = .returned (.int .u32 ((a ^^^ b : Nat) : Int)) ∧ w = w' := by
  go_enter Try.func83, Try.ntmps83
  go_wp2
  go_ret
  exact ⟨ret_int (u32_xor_nat a b ha hb), rfl⟩

theorem tabC_congr {q r : Nat → Nat} (h : ∀ k, k < 16 → q k = r k) : tabC q = tabC r := by
  unfold tabC
  rw [List.map_congr_left fun k hk => congrArg (fun (x : Nat) => Value.int .u32 (x : Int)) (h k (List.mem_range.1 hk))]
def fTwo (f g : Bxs) : Int := if fChk f = 0 then fChk g else fChk f
/-- A filter of just the points p, as it comes out. -/
structure FGood (l : Bxs) (p : Nat → Nat → Bool) : Prop where
  len : l.length ≤ 16
  ok : ∀ b ∈ l, bxChk b = 0
  pts : ∀ k n : Nat, k < 16 → n < 32 → inF l k n = p k n
  nil : l = [] ↔ ∀ k n : Nat, k < 16 → n < 32 → p k n = false
theorem FGood.of_st {q : Nat → Nat} {l : Bxs} {dn : Nat → Bool} {p : Nat → Nat → Bool} (h : BoxSt q 16 l dn) (hq : ∀ k, k < 16 → q k < 4294967296) (hp : ∀ k n : Nat, k < 16 → n < 32 → (q k).testBit n = p k n) : FGood l p := by
  have hpts : ∀ k n : Nat, k < 16 → n < 32 → inF l k n = p k n := by
    intro k n hk hn
    rw [h.pts k n hk hn, ← hp k n hk hn]
    by_cases hz : q k = 0
    · rw [hz]; simp
    · rw [h.all k hk hz]; simp
  refine ⟨h.len, h.ok, hpts, fun e k n hk hn => ?_, fun hall => ?_⟩
  · rw [← hpts k n hk hn, e]; rfl
  · by_cases e : l = []
    · exact e
    · obtain ⟨k, hk, hz⟩ := h.some_ e
      exfalso; apply hz
      apply Nat.eq_of_testBit_eq
      intro n
      rw [Nat.zero_testBit]
      by_cases hn : n < 32
      · rw [hp k n hk hn]; exact hall k n hk hn
      · exact Nat.testBit_lt_two_pow (Nat.lt_of_lt_of_le (hq k hk) (show 2 ^ 32 ≤ 2 ^ n from Nat.pow_le_pow_right (by decide) (by omega)))
def FOut (base : Nat) (w : World) (v : Value) (E : Int) (p : Nat → Nat → Bool) : Prop := (E = 0 → ∃ l, BxsOwn w base 52 59 v l ∧ FGood l p) ∧ (E ≠ 0 → v = .slice none 0 0)
theorem BxsOwn.mono {w : World} {base base' eB eS : Nat} {v : Value} {l : Bxs} (h : BxsOwn w base eB eS v l) (hb : base' ≤ base) : BxsOwn w base' eB eS v l := by
  obtain ⟨us, h1, h2, h3⟩ := h
  exact ⟨us, h1, owns_mono h2 hb, fun i hi hi' => owns_mono (h3 i hi hi') hb⟩
theorem FGood.own_at {w : World} {base : Nat} {v : Value} {l : Bxs} {p : Nat → Nat → Bool} (h : BxsOwn w base 52 59 v l) (hg : FGood l p) : BxsAt w v l := h.at_ (by have := hg.len; omega) hg.ok

set_option maxRecDepth 100000 in
set_option maxHeartbeats 4000000 in
theorem both_c (F : FuncId) (op : Nat → Nat → Nat) (hm : ∀ args W, (callFunc F args).run Try.prog W = .ok (.enter F args) W)
    (hc : ∀ a b : Nat, a < 4294967296 → b < 4294967296 → ∀ W, Calls Try.prog F #[.int .u32 (a : Nat), .int .u32 (b : Nat)] W fun e w' => e = .returned (.int .u32 (op a b : Nat)) ∧ W = w')
    (ho : ∀ a b : Nat, a < 4294967296 → b < 4294967296 → op a b < 4294967296) (p : Nat → Nat → Bool) (va vb : Value) (f g : Bxs)
    (hp : fTwo f g = 0 → ∀ k n : Nat, k < 16 → n < 32 → (op (tabN f k) (tabN g k)).testBit n = p k n) (w : World) (hf : BxsAt w va f) (hg : BxsAt w vb g) :
    Calls Try.prog 55 #[va, vb, .func (.func F) #[] #[]] w fun e w' => ∃ v, e = .returned (.tuple #[v, .int .i64 (fTwo f g)]) ∧ FOut w.heap.size w' v (fTwo f g) p ∧ Below w.heap.size w w' := by
  obtain ⟨fa, fc, rfl⟩ := hf.shape
  obtain ⟨ga, gc, rfl⟩ := hg.shape
  have HM := Lib.hid hm
  have HCALL := Lib.hid hc
  have HO := Lib.hid ho
  have HP := Lib.hid hp
  clear hm hc ho hp
  go_enter Try.func55, Try.ntmps55
  go_wp2_with fail
  (with_reducible refine (fChk_c _ f _ hf).mono ?_)
  rintro e w1 ⟨rfl, hb⟩
  replace hf := hf.below hb
  replace hg := hg.below hb
  have hbel := hb
  clear hb
  cases hx : (fChk f == 0)
  · have H := Lib.hid (show fTwo f g = fChk f ∧ fChk f ≠ 0 by simp at hx; simp [fTwo, hx])
    have h' : (fChk f != 0) = true := by simp [bne, hx]
    clear hx
    go_wp2
    go_ret2
    exact ⟨_, ret_ve H.out.1.symm, ⟨fun h => absurd (H.out.1.symm.trans h) H.out.2, fun _ => rfl⟩, hbel⟩
  have h0 : fChk f = 0 := by simpa using hx
  have HF := Lib.hid h0
  rw [h0]
  clear h0 hx
  go_wp2_with fail
  (with_reducible refine (fChk_c _ g _ hg).mono ?_)
  rintro e w2 ⟨rfl, hb⟩
  replace hf := hf.below hb
  replace hg := hg.below hb
  replace hbel := bstep hbel hb
  clear hb
  cases hx : (fChk g == 0)
  · have H := Lib.hid (show fTwo f g = fChk g ∧ fChk g ≠ 0 by simp at hx; simp [fTwo, HF.out, hx])
    have h' : (fChk g != 0) = true := by simp [bne, hx]
    clear hx
    go_wp2
    go_ret2
    exact ⟨_, ret_ve H.out.1.symm, ⟨fun h => absurd (H.out.1.symm.trans h) H.out.2, fun _ => rfl⟩, hbel⟩
  have h0 : fChk g = 0 := by simpa using hx
  have HG := Lib.hid h0
  have H2 := Lib.hid (show fTwo f g = 0 by simp [fTwo, HF.out, h0])
  rw [h0]
  clear h0 hx
  have hfo := (fChk_zero.1 HF.out).2
  have hgo := (fChk_zero.1 HG.out).2
  have HTF := Lib.hid (fun k => (tabN_good f k hfo).1)
  have HTG := Lib.hid (fun k => (tabN_good g k hgo).1)
  go_wp2_with fail
  (with_reducible refine (tabled_c _ f _ hf hfo).mono ?_)
  rintro e w3 ⟨rfl, hb⟩
  replace hg := hg.below hb
  replace hbel := bstep hbel hb
  clear hb hf
  go_wp2_with fail
  (with_reducible refine (tabled_c _ g _ hg hgo).mono ?_)
  rintro e w4 ⟨rfl, hb⟩
  replace hbel := bstep hbel hb
  clear hb hg hfo hgo
  generalize htf : tabN f = tf at *
  generalize htg : tabN g = tg at *
  clear htf htg
  have hi := Lib.hid (fun (t : Nat → Nat) => (show (Try.prog.info? 98).map (·.size) = some (tabC t).size by rw [tabC_size]; kernel_rfl))
  have hall := Lib.hid (fun (t : Nat → Nat) => (show (tabC t).all (·.oneCell') = true by simp [tabC, Value.oneCell']))
  go_wp2_with (first | (with_reducible refine wpList_store_row rfl 98 (.tmp 10) (.tmp 24) rfl w4.heap.size (tabC tf) rfl rfl 98 #[.int .u32 0, .int .u32 0, .int .u32 0, .int .u32 0, .int .u32 0, .int .u32 0, .int .u32 0, .int .u32 0, .int .u32 0, .int .u32 0, .int .u32 0, .int .u32 0, .int .u32 0, .int .u32 0, .int .u32 0, .int .u32 0] ?a1 (hi.out _) ?a2 (hall.out _) ?_) | (with_reducible refine wpList_store_row rfl 98 (.tmp 11) (.tmp 26) rfl (w4.heap.size + 1) (tabC tg) rfl rfl 98 #[.int .u32 0, .int .u32 0, .int .u32 0, .int .u32 0, .int .u32 0, .int .u32 0, .int .u32 0, .int .u32 0, .int .u32 0, .int .u32 0, .int .u32 0, .int .u32 0, .int .u32 0, .int .u32 0, .int .u32 0, .int .u32 0] ?b1 (hi.out _) ?b2 (hall.out _) ?_))
  case a1 => exact (heap_alloc_old _ _ (by simp)).trans (heap_alloc_new _ _)
  case a2 => simp [tabC_size]
  case b1 =>
    rw [setRow_other _ _ _ _ (by omega)]
    have h := fun (o1 o2 : Obj) => heap_alloc_new (w4.alloc o1) o2
    simp only [World.size_alloc] at h
    exact h _ _
  case b2 => simp [tabC_size]
  obtain ⟨w5, hw5⟩ : ∃ w5, w5 = (((w4.alloc (.cells #[.int .u32 0, .int .u32 0, .int .u32 0, .int .u32 0, .int .u32 0, .int .u32 0, .int .u32 0, .int .u32 0, .int .u32 0, .int .u32 0, .int .u32 0, .int .u32 0, .int .u32 0, .int .u32 0, .int .u32 0, .int .u32 0] 98)).alloc (.cells #[.int .u32 0, .int .u32 0, .int .u32 0, .int .u32 0, .int .u32 0, .int .u32 0, .int .u32 0, .int .u32 0, .int .u32 0, .int .u32 0, .int .u32 0, .int .u32 0, .int .u32 0, .int .u32 0, .int .u32 0, .int .u32 0] 98)).setRow w4.heap.size (tabC tf)).setRow (w4.heap.size + 1) (tabC tg) := ⟨_, rfl⟩
  have hA : w5.heap[w4.heap.size]? = some (.cells (tabC tf) 98 (0, 0)) := by
    rw [hw5, setRow_other _ _ _ _ (by omega)]
    exact setRow_heap _ _ _ _ _ _ ((heap_alloc_old _ _ (by simp)).trans (heap_alloc_new _ _))
  have hB : w5.heap[w4.heap.size + 1]? = some (.cells (tabC tg) 98 (0, 0)) := by
    rw [hw5]
    refine setRow_heap _ _ #[.int .u32 0, .int .u32 0, .int .u32 0, .int .u32 0, .int .u32 0, .int .u32 0, .int .u32 0, .int .u32 0, .int .u32 0, .int .u32 0, .int .u32 0, .int .u32 0, .int .u32 0, .int .u32 0, .int .u32 0, .int .u32 0] _ _ _ ?_
    rw [setRow_other _ _ _ _ (by omega)]
    have h := fun (o1 o2 : Obj) => heap_alloc_new (w4.alloc o1) o2
    simp only [World.size_alloc] at h
    exact h _ _
  have hb5 : Below w4.heap.size w4 w5 := by
    rw [hw5]; exact below_setRow (below_setRow ((bal _).alloc (by simp) _) (Nat.le_refl _) _) (by omega) _
  rw [← hw5]
  clear hw5
  go_loopw [27] (fun i wr => ∃ j : Nat, j ≤ 16 ∧ i = .int .i64 j ∧ wr.heap[w4.heap.size]? = some (.cells (tabC fun k => if k < j then op (tf k) (tg k) else tf k) 98 (0, 0)) ∧ wr.heap[w4.heap.size + 1]? = some (.cells (tabC tg) 98 (0, 0)) ∧ Below w4.heap.size w4 wr) (fun i _ => 16 - (intOf i).toNat)
  case atStart => exact ⟨0, by omega, rfl, by simpa using hA, hB, hb5⟩
  case round =>
    clear hA hB hb5
    obtain ⟨j, hj, rfl, hA, hB, hb5⟩ := hrel
    have HA := Lib.hid hA
    have HB := Lib.hid hB
    have hz5 : w4.heap.size + 1 < wr.heap.size := (Array.getElem?_eq_some_iff.1 hB).1
    clear hA hB
    obtain ⟨w6, hw6⟩ : ∃ w6, w6 = wr := ⟨_, rfl⟩
    subst hw6
    by_cases hjl : j < 16
    · have hdj : decide ((j : Int) < 16) = true := by simp only [decide_eq_true_eq]; omega
      go_wp2_with fail
      refine Cl.region0 43 rfl [10] (fun ww => ww.heap = w6.heap) (fun _ => []) (fun jq v ww => match jq with | 0 => v = .int .i64 (j : Nat) | 1 => v = .func (.func F) #[] #[] | 2 => v = .int .i64 (j : Nat) | 3 => v = .pointer (some ⟨w4.heap.size, j, none⟩) | 4 => v = .int .u32 (tf j : Nat) | 5 => v = .int .i64 (j : Nat) | 6 => v = .pointer (some ⟨w4.heap.size + 1, j, none⟩) | 7 => v = .int .u32 (tg j : Nat) | 8 => v = .int .u32 (op (tf j) (tg j) : Nat) | 9 => v = .pointer (some ⟨w4.heap.size, j, none⟩) | 10 => ww.heap[w4.heap.size]? = some (.cells (tabC fun k => if k = j then op (tf j) (tg j) else if k < j then op (tf k) (tg k) else tf k) 98 (0, 0)) | _ => True) (fun ww => w6.grownBy ww (some w4.heap.size)) (fun jq ww ww' => jq ≠ 10 → ww'.heap = ww.heap) Try.mixed (by decide +kernel) ⟨rfl, rfl, rfl, Nat.le_refl _, fun _ _ _ => rfl⟩ rfl ?_ (fun jq ww ww' hk h hR => (hR (by simpa using hk)).trans h) ?_ ?_
      · intro q r v w w' hne hk hlt h hR
        match r, hk, hlt, h, hne with
        | 0, _, _, h, _ => exact h
        | 1, _, _, h, _ => exact h
        | 2, _, _, h, _ => exact h
        | 3, _, _, h, _ => exact h
        | 4, _, _, h, _ => exact h
        | 5, _, _, h, _ => exact h
        | 6, _, _, h, _ => exact h
        | 7, _, _, h, _ => exact h
        | 8, _, _, h, _ => exact h
        | 9, _, _, h, _ => exact h
        | 10, _, _, h, hne => exact (congrArg (fun (x : Array Obj) => x[w4.heap.size]?) (hR hne)).trans h
        | _ + 11, _, _, _, _ => trivial
      · refine ⟨?_, ?_, ?_, ?_, ?_, ?_, ?_, ?_, ?_, ?_, ?_, trivial⟩
        · intro x wx hG
          have f12 := hG.old 12 (by decide +kernel)
          have hg := hG.good
          clear hG
          go_wp2
          exact ⟨_, rfl, rfl, hg, fun _ => rfl⟩
        · intro x wx hG
          have f2 := hG.old 2 (by decide +kernel)
          have hg := hG.good
          clear hG
          go_wp2
          exact ⟨_, rfl, rfl, hg, fun _ => rfl⟩
        · intro x wx hG
          have f12 := hG.old 12 (by decide +kernel)
          have hg := hG.good
          clear hG
          go_wp2
          exact ⟨_, rfl, rfl, hg, fun _ => rfl⟩
        · intro x wx hG
          have f10 := hG.old 10 (by decide +kernel)
          have g2 : (x.tmps.getD 32 undef) = .int .i64 (j : Nat) := hG.claims 2 _ rfl (by decide +kernel) (by decide +kernel)
          have hg := hG.good
          clear hG
          go_wp2
          exact ⟨_, rfl, rfl, hg, fun _ => rfl⟩
        · intro x wx hG
          have g3 : (x.tmps.getD 33 undef) = .pointer (some ⟨w4.heap.size, j, none⟩) := hG.claims 3 _ rfl (by decide +kernel) (by decide +kernel)
          have hp := hG.pre (by decide +kernel)
          have hg := hG.good
          clear hG
          have h := HA.out
          rw [← hp] at h
          have c := cell_of_block (j := j) h (tabC_get _ j hjl)
          simp only [Nat.lt_irrefl, if_false] at c
          clear h hp
          go_wp2
          exact ⟨_, rfl, rfl, hg, fun _ => rfl⟩
        · intro x wx hG
          have f12 := hG.old 12 (by decide +kernel)
          have hg := hG.good
          clear hG
          go_wp2
          exact ⟨_, rfl, rfl, hg, fun _ => rfl⟩
        · intro x wx hG
          have f11 := hG.old 11 (by decide +kernel)
          have g5 : (x.tmps.getD 35 undef) = .int .i64 (j : Nat) := hG.claims 5 _ rfl (by decide +kernel) (by decide +kernel)
          have hg := hG.good
          clear hG
          go_wp2
          exact ⟨_, rfl, rfl, hg, fun _ => rfl⟩
        · intro x wx hG
          have g6 : (x.tmps.getD 36 undef) = .pointer (some ⟨w4.heap.size + 1, j, none⟩) := hG.claims 6 _ rfl (by decide +kernel) (by decide +kernel)
          have hp := hG.pre (by decide +kernel)
          have hg := hG.good
          clear hG
          have h := HB.out
          rw [← hp] at h
          have c := cell_of_block (j := j) h (tabC_get _ j hjl)
          skip
          clear h hp
          go_wp2
          exact ⟨_, rfl, rfl, hg, fun _ => rfl⟩
        · intro x wx hG
          have g1 : (x.tmps.getD 31 undef) = .func (.func F) #[] #[] := hG.claims 1 _ rfl (by decide +kernel) (by decide +kernel)
          have g4 : (x.tmps.getD 34 undef) = .int .u32 (tf j : Nat) := hG.claims 4 _ rfl (by decide +kernel) (by decide +kernel)
          have g7 : (x.tmps.getD 37 undef) = .int .u32 (tg j : Nat) := hG.claims 7 _ rfl (by decide +kernel) (by decide +kernel)
          have hg := hG.good
          clear hG
          have hm := HM.out
          go_wp2_with fail
          (with_reducible refine (HCALL.out _ _ (HTF.out j) (HTG.out j) _).mono ?_)
          rintro e w7 ⟨rfl, rfl⟩
          clear hm
          go_wp2
          exact ⟨_, rfl, rfl, hg, fun _ => rfl⟩
        · intro x wx hG
          have f10 := hG.old 10 (by decide +kernel)
          have g0 : (x.tmps.getD 30 undef) = .int .i64 (j : Nat) := hG.claims 0 _ rfl (by decide +kernel) (by decide +kernel)
          have hg := hG.good
          clear hG
          go_wp2
          exact ⟨_, rfl, rfl, hg, fun _ => rfl⟩
        · intro x wx hG
          have g8 : (x.tmps.getD 38 undef) = .int .u32 (op (tf j) (tg j) : Nat) := hG.claims 8 _ rfl (by decide +kernel) (by decide +kernel)
          have g9 : (x.tmps.getD 39 undef) = .pointer (some ⟨w4.heap.size, j, none⟩) := hG.claims 9 _ rfl (by decide +kernel) (by decide +kernel)
          have hp := hG.pre (by decide +kernel)
          have hg := hG.good
          clear hG
          have h := HA.out
          rw [← hp] at h
          have c := cell_of_block (j := j) h (tabC_get _ j hjl)
          have ff := free_of_block (j := j) h
          have H := Lib.hid h
          have HPP := Lib.hid hp
          clear h hp
          go_wp2
          exact ⟨undef, rfl, (heap_set_same H.out).trans (by rw [tabC_set]), ⟨hg.os, hg.tape, hg.output, by simpa using hg.size, fun k hk hne => (heap_set_other (by intro e; subst e; exact hne rfl)).trans (hg.block k hk hne)⟩, fun h => absurd rfl h⟩
      · intro vals w7 hg hF
        obtain ⟨g0, g1, g2, g3, g4, g5, g6, g7, g8, g9, g10, -⟩ := hF
        have e0 : vals 0 = .int .i64 (j : Nat) := g0 rfl
        have e1 : vals 1 = .func (.func F) #[] #[] := g1 rfl
        have e2 : vals 2 = .int .i64 (j : Nat) := g2 rfl
        have e3 : vals 3 = .pointer (some ⟨w4.heap.size, j, none⟩) := g3 rfl
        have e4 : vals 4 = .int .u32 (tf j : Nat) := g4 rfl
        have e5 : vals 5 = .int .i64 (j : Nat) := g5 rfl
        have e6 : vals 6 = .pointer (some ⟨w4.heap.size + 1, j, none⟩) := g6 rfl
        have e7 : vals 7 = .int .u32 (tg j : Nat) := g7 rfl
        have e8 : vals 8 = .int .u32 (op (tf j) (tg j) : Nat) := g8 rfl
        have e9 : vals 9 = .pointer (some ⟨w4.heap.size, j, none⟩) := g9 rfl
        replace g10 : w7.heap[w4.heap.size]? = some (.cells (tabC fun k => if k = j then op (tf j) (tg j) else if k < j then op (tf k) (tg k) else tf k) 98 (0, 0)) := g10 rfl
        simp only [Cl.puts, e0, e1, e2, e3, e4, e5, e6, e7, e8, e9]
        clear e0 e1 e2 e3 e4 e5 e6 e7 e8 e9 g0 g1 g2 g3 g4 g5 g6 g7 g8 g9
        go_simp
        have G10 := Lib.hid g10
        clear g10
        go_wp2
        go_roundw
        case rel =>
          refine ⟨j + 1, by omega, by go_num, G10.out.trans (congrArg (fun c => some (Obj.cells c 98 (0, 0))) (tabC_congr fun o _ => ?_)), (hg.block _ hz5 (by simp)).trans HB.out, hb5.grown hg hb5.size (fun k hk => by simp at hk; omega)⟩
          by_cases e1 : o = j
          · subst e1; simp
          · by_cases e2 : o < j
            · simp [e1, e2, show o < j + 1 by omega]
            · simp [e1, e2, show ¬ o < j + 1 by omega]
        case measure => first | (simp [intOf]; done) | (simp [intOf]; omega)
    · obtain rfl : j = 16 := by omega
      have e : tabC (fun k => if k < 16 then op (tf k) (tg k) else tf k) = tabC fun k => op (tf k) (tg k) := tabC_congr fun o ho => if_pos ho
      rw [e] at HA
      clear e
      have hi2 := Lib.hid (hi.out fun k => op (tf k) (tg k))
      go_wp2_with (with_reducible refine wpList_load_row rfl 98 (.tmp 10) rfl w4.heap.size rfl 98 (tabC fun k => op (tf k) (tg k)) (0, 0) _ HA.out Try.underlying98 rfl hi2.out ?_)
      (with_reducible refine (boxes_c (fun k => op (tf k) (tg k)) (fun k _ => HO.out _ _ (HTF.out k) (HTG.out k)) _).mono ?_)
      rintro e w7 ⟨v, l, rfl, hown, ⟨dn, hst⟩, hb7⟩
      have hl := hst.len
      obtain ⟨xa, xc, hv⟩ := hown.shape
      subst hv
      have HOW := Lib.hid hown
      have HST := Lib.hid hst
      clear hown hst
      go_wp2
      go_ret2
      refine ⟨_, ret_ve H2.out.symm, ⟨fun _ => ⟨l, HOW.out.mono (by have h1 := hb5.size; have h2 := hbel.size; omega), FGood.of_st HST.out (fun k _ => HO.out _ _ (HTF.out k) (HTG.out k)) (HP.out H2.out)⟩, fun h => absurd H2.out h⟩, ?_⟩
      exact hbel.trans ((hb5.trans (hb7.mono hb5.size)).mono hbel.size)

end Go.Proofs.Ytcanefjjpeoikaa
