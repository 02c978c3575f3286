/- What filter.In and filter.Has do. -/
import Derived.Test.YtcanefjjpeoikaaFilter5
namespace Go.Proofs.Ytcanefjjpeoikaa
open Go.RowKit

set_option maxRecDepth 100000 in
set_option maxHeartbeats 800000 in
theorem in1_c (y n : Int) (sp : Spans) (u : Value) (P : Nat) (t m : Int) (W : World) (hs : SpansAt W u sp) (h0 : W.cell? ⟨P, 0, none⟩ = some (.int .i64 t)) (h1 : W.cell? ⟨P, 1, none⟩ = some (.int .i64 m)) :
    Calls Try.prog 86 #[.agg #[.int .i64 y, .int .i64 n, u], .pointer (some ⟨P, 0, none⟩)] W fun e w' => e = .returned (.bool (cubeIn y n t && inB sp m)) ∧ Below W.heap.size W w' := by
  obtain ⟨ua, uc, rfl⟩ := hs.shape
  have hlt := blt h0
  have HC := Lib.hid (fun (w1 : World) (h : Below (W.alloc (.cells #[.int .i64 y, .int .i64 n, .slice ua sp.length uc] 52)).heap.size (W.alloc (.cells #[.int .i64 y, .int .i64 n, .slice ua sp.length uc] 52)) w1) =>
        (show w1.cell? ⟨W.heap.size, 2, none⟩ = some (.slice ua sp.length uc) ∧ Below W.heap.size W w1 ∧ SpansAt w1 (.slice ua sp.length uc) sp ∧ w1.cell? ⟨P, 1, none⟩ = some (.int .i64 m) from
          ⟨ckeep h (cat _ _ _ 2 _ rfl _ rfl), ba1 h, hs.below (ba1 h), ckeep (ba1 h) h1⟩))
  clear hs
  go_enter Try.func86, Try.ntmps86
  go_wp2_with fail
  (with_reducible refine (cubeIn_c _ _ _ _).mono ?_)
  rintro e w1 ⟨rfl, hb⟩
  obtain ⟨c2, hbel, hs1, cm⟩ := HC.out _ hb
  clear HC hb h0 h1
  cases hc : cubeIn y n t
  · have H := Lib.hid hc
    clear hc hs1
    go_wp2
    go_ret
    exact ⟨ret_bool (by rw [H.out]; rfl), hbel⟩
  · have H := Lib.hid hc
    clear hc
    go_wp2_with fail
    (with_reducible refine (in_c _ sp m _ hs1).mono ?_)
    rintro e w2 ⟨rfl, hb⟩
    clear c2 hs1 cm
    go_wp2
    go_ret
    exact ⟨ret_bool (by rw [H.out]; simp), bstep hbel hb⟩

/-- What a predicate on boxes, handed over as a function value, does: it answers q at every box that lies in memory, in whatever world that has grown out of w. -/
def BxPred (g : FuncId) (caps : Array Value) (q : Bx → Bool) (w : World) : Prop :=
  (∀ args W, (callFunc g args).run Try.prog W = .ok (.enter g args) W) ∧ ∀ (b : Bx) (u : Value) (W : World), SpansAt W u b.sp → Below w.heap.size w W → Calls Try.prog g (#[.agg #[.int .i64 b.y, .int .i64 b.n, u]] ++ caps) W fun e w' => e = .returned (.bool (q b)) ∧ Below W.heap.size W w'
def bxIdx (l : Bxs) (q : Bx → Bool) : Int := match l.findIdx? q with | some i => i | none => -1
theorem bxIdx_hit (l : Bxs) (q : Bx → Bool) (k : Nat) (hk : k < l.length) (hno : ∀ j (h : j < k), q (l[j]'(by omega)) = false) (h : q l[k] = true) : bxIdx l q = k := by
  unfold bxIdx
  rw [List.findIdx?_eq_some_iff_getElem.2 ⟨hk, h, fun j hj => by simp [hno j hj]⟩]
theorem bxIdx_miss (l : Bxs) (q : Bx → Bool) (hno : ∀ j (h : j < l.length), q l[j] = false) : bxIdx l q = -1 := by
  unfold bxIdx
  rw [List.findIdx?_eq_none_iff.2 fun x hx => by
    obtain ⟨j, hj, rfl⟩ := List.getElem_of_mem hx
    exact hno j hj]
theorem bxIdx_any (l : Bxs) (q : Bx → Bool) : decide (0 ≤ bxIdx l q) = l.any q := by
  unfold bxIdx
  cases h : l.findIdx? q with
  | none =>
    rw [List.findIdx?_eq_none_iff] at h
    have : l.any q = false := by rw [List.any_eq_false]; intro x hx; simp [h x hx]
    rw [this]; decide
  | some i =>
    obtain ⟨hi, hq, -⟩ := List.findIdx?_eq_some_iff_getElem.1 h
    have : l.any q = true := List.any_eq_true.2 ⟨_, List.getElem_mem hi, hq⟩
    rw [this]; simp

set_option maxRecDepth 100000 in
set_option maxHeartbeats 1000000 in
theorem bxIndex_c (g : FuncId) (caps : Array Value) (q : Bx → Bool) (v : Value) (l : Bxs) (w : World) (hs : BxsAt w v l) (hg : BxPred g caps q w) :
    Calls Try.prog 90 #[v, .func (.func g) #[] caps] w fun e w' => e = .returned (.int .i64 (bxIdx l q)) ∧ Below w.heap.size w w' := by
  obtain ⟨a, cap, rfl, hcap, hm, -, hl⟩ := hs.open_
  clear hs
  obtain ⟨hcall, hg⟩ := hg
  have HG := Lib.hid hg
  clear hg
  go_enter Try.func90, Try.ntmps90
  go_wp2
  go_loopw [8] (fun i wr => ∃ k : Nat, k ≤ l.length ∧ i = .int .i64 k ∧ (∀ j (h : j < k) (h' : j < l.length), q l[j] = false) ∧ Below w.heap.size w wr) (fun i _ => l.length - (intOf i).toNat)
  case atStart => exact ⟨0, Nat.zero_le _, rfl, fun j h => by omega, Below.refl _ _⟩
  case round =>
    obtain ⟨k, hk, rfl, hno, hbl⟩ := hrel
    have HN := Lib.hid hno
    clear hno
    by_cases hlt : k < l.length
    · rcases hl with rfl | ⟨b, off, rfl, hb, hc⟩
      · simp at hlt
      obtain ⟨u, d1, d2, d3, hsp⟩ := hc k hlt
      replace d1 := (hbl.cell (p := ⟨b, off + k * 3, none⟩) hb).trans d1
      replace d2 := (hbl.cell (p := ⟨b, off + k * 3 + 1, none⟩) hb).trans d2
      replace d3 := (hbl.cell (p := ⟨b, off + k * 3 + 2, none⟩) hb).trans d3
      replace hsp := hsp.below hbl
      have HH := Lib.hid (fun h => bxIdx_hit l q k hlt (fun j hj => HN.out j hj (by omega)) h)
      have HNX := Lib.hid (fun (h : q l[k] = false) => show ∀ j (h : j < k + 1) (h' : j < l.length), q l[j] = false from fun j hj hj' => by
        by_cases e : j = k
        · subst e; exact h
        · exact HN.out j (by omega) hj')
      clear hc
      generalize hx : l[k] = bx at *
      clear hx
      have hdk : decide ((k : Int) < (l.length : Int)) = true := by simp only [decide_eq_true_eq]; omega
      go_wp2_with fail
      refine (HG.out bx u _ hsp hbl).mono ?_
      rintro e w1 ⟨rfl, hb1⟩
      replace hbl := bstep hbl hb1
      clear hb1 d1 d2 d3 hsp
      cases hq : q bx
      · have H := Lib.hid (HNX.out hq)
        clear hq HH
        go_wp2
        go_roundw
        case rel => exact ⟨k + 1, by omega, by go_num, H.out, hbl⟩
        case measure => first | (simp [intOf]; done) | (simp [intOf]; omega)
      · have H := Lib.hid (HH.out hq)
        clear hq HH
        go_wp2
        go_ret
        exact ⟨ret_int H.out.symm, hbl⟩
    · obtain rfl : k = l.length := by omega
      go_wp2
      go_ret
      exact ⟨ret_int (bxIdx_miss l q fun j h => HN.out j h h).symm, hbl⟩

set_option maxRecDepth 100000 in
set_option maxHeartbeats 400000 in
theorem bxContains_c (g : FuncId) (caps : Array Value) (q : Bx → Bool) (v : Value) (l : Bxs) (w : World) (hs : BxsAt w v l) (hg : BxPred g caps q w) :
    Calls Try.prog 85 #[v, .func (.func g) #[] caps] w fun e w' => e = .returned (.bool (l.any q)) ∧ Below w.heap.size w w' := by
  have HI := Lib.hid (bxIndex_c g caps q v l w hs hg)
  have HA := Lib.hid (bxIdx_any l q)
  clear hs hg
  go_enter Try.func85, Try.ntmps85
  go_wp2_with fail
  (with_reducible refine HI.out.mono ?_)
  rintro e w1 ⟨rfl, hb⟩
  generalize bxIdx l q = x at *
  clear HI
  go_wp2
  go_ret
  exact ⟨ret_bool HA.out, hb⟩

set_option maxRecDepth 100000 in
set_option maxHeartbeats 400000 in
theorem inf_c (v : Value) (l : Bxs) (t n : Int) (w : World) (hs : BxsAt w v l) :
    Calls Try.prog 64 #[v, .agg #[.int .i64 t, .int .i64 n]] w fun e w' => e = .returned (.bool (inF l t n)) ∧ Below w.heap.size w w' := by
  obtain ⟨a, cap, rfl⟩ := hs.shape
  have hm : ∀ args W, (callFunc 86 args).run Try.prog W = .ok (.enter 86 args) W := fun _ _ => by kernel_rfl
  have hp : BxPred 86 #[.pointer (some ⟨w.heap.size, 0, none⟩)] (fun b => cubeIn b.y b.n t && inB b.sp n) (w.alloc (.cells #[.int .i64 t, .int .i64 n] 24)) :=
    ⟨hm, fun b u W hsp hW => in1_c b.y b.n b.sp u _ t n W hsp (ckeep hW (cat _ _ _ 0 _ rfl _ rfl)) (ckeep hW (cat _ _ _ 1 _ rfl _ rfl))⟩
  have HB := Lib.hid (bxContains_c _ _ _ _ l _ (hs.below (bal _)) hp)
  clear hm hp hs
  go_enter Try.func64, Try.ntmps64
  go_wp2_with fail
  (with_reducible refine HB.out.mono ?_)
  rintro e w1 ⟨rfl, hb⟩
  clear HB
  go_wp2
  go_ret
  exact ⟨rfl, ba1 hb⟩

def hasB (f : Bxs) (t n : Int) : Bool := if fChk f = 0 then (if ptOk t n then inF f t n else false) else false
def hasEr (f : Bxs) (t n : Int) : Int := if fChk f = 0 then (if ptOk t n then 0 else 1) else fChk f
set_option maxRecDepth 100000 in
set_option maxHeartbeats 800000 in
theorem hasf_c (v : Value) (f : Bxs) (t n : Int) (w : World) (hs : BxsAt w v f) :
    Calls Try.prog 30 #[v, .agg #[.int .i64 t, .int .i64 n]] w fun e w' => e = .returned (.tuple #[.bool (hasB f t n), .int .i64 (hasEr f t n)]) ∧ Below w.heap.size w w' := by
  obtain ⟨a, cap, rfl⟩ := hs.shape
  have hcell : ∀ w1, Below (w.alloc (.cells #[.int .i64 t, .int .i64 n] 24)).heap.size (w.alloc (.cells #[.int .i64 t, .int .i64 n] 24)) w1 →
      w1.cell? ⟨w.heap.size, 0, none⟩ = some (.int .i64 t) ∧ w1.cell? ⟨w.heap.size, 1, none⟩ = some (.int .i64 n) ∧ Below w.heap.size w w1 := fun w1 h =>
    ⟨ckeep h (cat _ _ _ 0 _ rfl _ rfl), ckeep h (cat _ _ _ 1 _ rfl _ rfl), ba1 h⟩
  have HC := Lib.hid hcell
  clear hcell
  go_enter Try.func30, Try.ntmps30
  go_wp2_with fail
  (with_reducible refine (fChk_c _ f _ (hs.below (bal _))).mono ?_)
  rintro e w1 ⟨rfl, hb⟩
  obtain ⟨c0, c1, hbel⟩ := HC.out _ hb
  replace hs := hs.below hbel
  clear HC hb
  cases hx : (fChk f == 0)
  · have H := Lib.hid (show hasB f t n = false ∧ hasEr f t n = fChk f by simp at hx; simp [hasB, hasEr, hx])
    have h' : (fChk f != 0) = true := by simp [bne, hx]
    clear hx hs
    go_wp2
    go_ret2
    exact ⟨ret_be H.out.1.symm H.out.2.symm, hbel⟩
  have h0 : fChk f = 0 := by simpa using hx
  have H0 := Lib.hid h0
  rw [h0]
  clear h0 hx
  go_wp2_with fail
  (with_reducible refine (point_c _ _ _).mono ?_)
  rintro e w2 ⟨rfl, hb⟩
  replace c0 := ckeep hb c0
  replace c1 := ckeep hb c1
  replace hs := hs.below hb
  replace hbel := bstep hbel hb
  clear hb
  cases hp : ptOk t n
  · have H := Lib.hid (show hasB f t n = false ∧ hasEr f t n = 1 by simp [hasB, hasEr, H0.out, hp])
    clear hp hs
    go_wp2
    go_ret2
    exact ⟨ret_be H.out.1.symm H.out.2.symm, hbel⟩
  have H := Lib.hid (show hasB f t n = inF f t n ∧ hasEr f t n = 0 by simp [hasB, hasEr, H0.out, hp])
  clear hp
  go_wp2_with fail
  (with_reducible refine (inf_c _ f t n _ hs).mono ?_)
  rintro e w3 ⟨rfl, hb⟩
  clear c0 c1 hs
  go_wp2
  go_ret2
  exact ⟨ret_be H.out.1.symm H.out.2.symm, bstep hbel hb⟩
/-- .. at a filter in its form. -/
def atP (p : Nat → Nat → Bool) (t n : Int) : Bool := ptOk t n && p t.toNat n.toNat
set_option maxRecDepth 100000 in
theorem hasF (v : Value) (p : Nat → Nat → Bool) (t n : Int) (w : World) (h : FV w v p) :
    Calls Try.prog 30 #[v, .agg #[.int .i64 t, .int .i64 n]] w fun e w' => e = .returned (.tuple #[.bool (atP p t n), .int .i64 (if ptOk t n then 0 else 1)]) ∧ Below w.heap.size w w' := by
  obtain ⟨f, f1, f2, f3⟩ := h
  refine (hasf_c v f t n w f1).mono ?_
  rintro e w' ⟨rfl, hb⟩
  refine ⟨ret_be ?_ (by simp [hasEr, f2]), hb⟩
  unfold hasB atP
  rw [if_pos f2]
  cases hp : ptOk t n
  · simp
  · simp only [if_true, Bool.true_and]
    have hb : 0 ≤ t ∧ t ≤ 15 ∧ 0 ≤ n ∧ n < 32 := by
      simp only [ptOk, tagsB, Bool.and_eq_true, decide_eq_true_eq] at hp; omega
    have := f3 t.toNat n.toNat (by omega) (by omega)
    rw [Int.toNat_of_nonneg hb.1, Int.toNat_of_nonneg hb.2.2.1] at this
    exact this

theorem atP_or (p q : Nat → Nat → Bool) (t n : Int) : atP (fun k m => p k m || q k m) t n = (atP p t n || atP q t n) := by unfold atP; cases ptOk t n <;> simp
theorem atP_and (p q : Nat → Nat → Bool) (t n : Int) : atP (fun k m => p k m && q k m) t n = (atP p t n && atP q t n) := by unfold atP; cases ptOk t n <;> simp
theorem atP_less (p q : Nat → Nat → Bool) (t n : Int) : atP (fun k m => p k m && !q k m) t n = (atP p t n && !atP q t n) := by unfold atP; cases ptOk t n <;> simp
theorem atP_no {p : Nat → Nat → Bool} {t n : Int} (h : ptOk t n = false) : atP p t n = false := by unfold atP; rw [h]; rfl
/-- What FilterWithin leans on. -/
theorem within_keys (f g h : Nat → Nat → Bool) (t n : Int) :
    (allPt fun k n => f k n == g k n) = ((allPt fun k n => !f k n || g k n) && allPt fun k n => !g k n || f k n) ∧
    ((allPt fun k n => !f k n || g k n) = true → (allPt fun k n => !g k n || h k n) = true → (allPt fun k n => !f k n || h k n) = true) ∧
    ((allPt fun k n => !f k n || g k n) = true → atP f t n = true → atP g t n = true) ∧
    ((allPt fun k n => !f k n || g k n) = true → cntF f ≤ cntF g ∧ (decide (cntF f < cntF g)) = !(allPt fun k n => !g k n || f k n)) := by
  refine ⟨?_, ?_, ?_, ?_⟩
  · rw [Bool.eq_iff_iff, Bool.and_eq_true, allPt_iff, allPt_iff, allPt_iff]
    exact ⟨fun h => ⟨fun t n ht hn => by have := h t n ht hn; revert this; cases f t n <;> cases g t n <;> simp, fun t n ht hn => by have := h t n ht hn; revert this; cases f t n <;> cases g t n <;> simp⟩, fun h t n ht hn => by have h1 := h.1 t n ht hn; have h2 := h.2 t n ht hn; revert h1 h2; cases f t n <;> cases g t n <;> simp⟩
  · rw [allPt_iff, allPt_iff, allPt_iff]
    intro h1 h2 t n ht hn
    have a1 := h1 t n ht hn
    have a2 := h2 t n ht hn
    revert a1 a2
    cases f t n <;> cases g t n <;> cases h t n <;> simp
  · rw [allPt_iff]
    intro h1 h2
    unfold atP at *
    rw [Bool.and_eq_true] at *
    refine ⟨h2.1, ?_⟩
    have hb : 0 ≤ t ∧ t ≤ 15 ∧ 0 ≤ n ∧ n < 32 := by
      have hp := h2.1
      simp only [ptOk, tagsB, Bool.and_eq_true, decide_eq_true_eq] at hp; omega
    have := h1 t.toNat n.toNat (by omega) (by omega)
    rw [h2.2] at this; simpa using this
  · rw [allPt_iff]
    intro h1
    obtain ⟨m1, m2⟩ := cntT_mono (p := f) (q := g) 16 (Nat.le_refl _) fun t n ht hn hf => by have := h1 t n ht hn; rw [hf] at this; simpa using this
    refine ⟨m1, ?_⟩
    have e : (cntF f = cntF g) ↔ (allPt fun k n => !g k n || f k n) = true := by
      rw [allPt_iff]
      refine ⟨fun h t n ht hn => ?_, fun h => cntF_congr fun t n ht hn => ?_⟩
      · have := m2 h t n ht hn
        cases hg : g t n
        · rfl
        · simp [this hg]
      · have a1 := h1 t n ht hn
        have a2 := h t n ht hn
        revert a1 a2
        cases f t n <;> cases g t n <;> simp
    have m1' : cntF f ≤ cntF g := m1
    cases hb : allPt fun k n => !g k n || f k n
    · have : cntF f ≠ cntF g := fun h => by rw [e] at h; rw [h] at hb; exact absurd hb (by decide)
      simp; omega
    · have := e.2 hb
      simp; omega
end Go.Proofs.Ytcanefjjpeoikaa
