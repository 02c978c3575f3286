/- What know.told, Join, Add do. Written by a small program (gen/know6.py). -/
import Derived.Test.YthnkmjjldggecaaMKnow3
import Derived.Test.YthnkmjjldggecaaKnow5
import Derived.Test.YthnkmjjldggecaaMPure
import Derived.Test.YthnkmjjldggecaaMClone
namespace Go.Proofs.Ythnkmjjldggecaa
open Go.RowKit
theorem formK_at {w : World} {base : Nat} {u v : Value} {P : DPred} (h : KnOwn w base u v (formK P)) : KnAt w u v (formK P) := h.at_ (formK_ok P).len (by have := formM_len P; omega)
set_option maxRecDepth 100000 in
theorem made_f (vv dv : Value) (vs : List (List Int)) (ds : Dots) (P : DPred) (w : World) (hv : RowAt vecE w vv vs) (hd : DsAt w dv ds) (hvs : ∀ l ∈ vs, vecOk l) (hds : ∀ d ∈ ds, dotOk d = true) (hlen : ds.length ≤ 1000000)
    (hP : DEq (fun s c => decide (c ≤ vmaxAt vs s) || decide ((s, c) ∈ ds)) P) :
    Calls Try.prog 111 #[vv, dv] w fun e w' => ∃ (u v : Value), e = .returned (.agg #[u, v]) ∧ KnOwn w' w.heap.size u v (formK P) ∧ Below w.heap.size w w' := by
  refine (made_c vv dv vs ds w hv hd hvs hds hlen).mono ?_
  rintro e w' ⟨k, u, v, rfl, ho, hok, -, hm, hb⟩
  have : k = formK P := formK_uniq hok fun s c h0 h5 h1 h2 => by rw [hm s c h0 h5 h1]; exact hP s c h0 h5 h1 h2
  subst this
  exact ⟨u, v, rfl, ho, hb⟩
/-- A set that was answered: it is the call's own; or an error. -/
def KnRes (w : World) (base : Nat) (u v : Value) (E : Int) (k : Kn) : Prop := (E = 0 ∧ KnOwn w base u v k) ∨ (E ≠ 0 ∧ u = .slice none 0 0 ∧ v = .slice none 0 0)
theorem KnRes.below {w w' : World} {base : Nat} {u v : Value} {E : Int} {k : Kn} (h : KnRes w base u v E k) (hb : Below w.heap.size w w') : KnRes w' base u v E k := h.imp (fun h => ⟨h.1, h.2.below hb⟩) id
theorem KnRes.mono {w : World} {base base' : Nat} {u v : Value} {E : Int} {k : Kn} (h : KnRes w base u v E k) (hb : base' ≤ base) : KnRes w base' u v E k := h.imp (fun h => ⟨h.1, h.2.mono hb⟩) id
theorem KnRes.shape {w : World} {base : Nat} {u v : Value} {E : Int} {k : Kn} (h : KnRes w base u v E k) : ∃ a n c b m d, u = .slice a n c ∧ v = .slice b m d := by
  rcases h with ⟨-, h⟩ | ⟨-, rfl, rfl⟩
  · obtain ⟨a, c, rfl⟩ := owns_slice h.vec; obtain ⟨b, d, rfl⟩ := owns_slice h.more; exact ⟨_, _, _, _, _, _, rfl, rfl⟩
  · exact ⟨none, 0, 0, none, 0, 0, rfl, rfl⟩
theorem KnRes.set {w : World} {base g j : Nat} {u v x : Value} {E : Int} {k : Kn} {cs : Array Value} (h : KnRes w base u v E k) (hg : w.heap[g]? = some (Obj.cells cs 81 (0, 0))) : KnRes (w.setCell ⟨g, j, none⟩ x) base u v E k :=
  h.imp (fun h => ⟨h.1, own_set h.2.vec hg (by decide), own_set h.2.more hg (by decide)⟩) id
set_option maxRecDepth 100000 in
set_option maxHeartbeats 400000 in
theorem ktold_c (u v : Value) (k : Kn) (base : Nat) (w : World) (hk : KnOwn w base u v k) (hl : k.more.length ≤ 1000000) :
    Calls Try.prog 110 #[.agg #[u, v]] w fun e w' => ∃ (x y : Value), e = .returned (.tuple #[.agg #[x, y], .int .i64 (kE k)]) ∧ KnRes w' base x y (kE k) k ∧ Below w.heap.size w w' := by
  obtain ⟨va, vc, rfl⟩ := owns_slice hk.more
  obtain ⟨ua, uc, rfl⟩ := owns_slice hk.vec
  have HK := Lib.hid hk
  have hbx : Below w.heap.size w (w.alloc (.cells #[.slice ua k.vec.length uc, .slice va k.more.length vc] 81)) := bal _
  clear hk
  by_cases h : 60 < k.more.length
  · have H := Lib.hid (show kE k = 2 by unfold kE; rw [if_pos h])
    go_enter Try.func110, Try.ntmps110
    go_wp2
    refine bodyPost_ret (v := .tuple #[.agg #[_, _], _]) (by simp [results, Try.results110, go_sem, *]; exact ⟨⟨rfl, rfl⟩, rfl⟩) rfl ?_
    refine ⟨_, _, by rw [H.out], .inr ⟨by rw [H.out]; decide, rfl, rfl⟩, (hbx.alloc (by simp) _)⟩
  · have H := Lib.hid (show kE k = 0 by unfold kE; rw [if_neg h])
    go_enter Try.func110, Try.ntmps110
    go_wp2
    refine bodyPost_ret (v := .tuple #[.agg #[_, _], _]) (by simp [results, Try.results110, go_sem, *]; exact ⟨⟨rfl, rfl⟩, rfl⟩) rfl ?_
    refine ⟨_, _, by rw [H.out], .inl ⟨H.out, ?_⟩, (hbx.alloc (by simp) _)⟩
    exact (HK.out.below (bal _)).below (bal _)
/-- The dots of two. -/
theorem vmax_two (a b : List Int) (s : Int) : vmaxAt [a, b] s = max (max 0 (vecAt a s)) (vecAt b s) := rfl
def orK (P Q : DPred) : DPred := fun s c => P s c || Q s c
def andK (P Q : DPred) : DPred := fun s c => P s c && Q s c
theorem join_mem (a b : Kn) : DEq (fun s c => decide (c ≤ vmaxAt [a.vec, b.vec] s) || decide ((s, c) ∈ a.more ++ b.more)) (orK (knIn a) (knIn b)) := by
  intro s c _ _ h1 _
  rw [Bool.eq_iff_iff]
  simp only [orK, knIn, Bool.or_eq_true, decide_eq_true_eq, List.mem_append]
  rw [vmax_two]
  have e : (c ≤ max (max 0 (vecAt a.vec s)) (vecAt b.vec s)) ↔ (c ≤ vecAt a.vec s ∨ c ≤ vecAt b.vec s) := by omega
  rw [e, or_or_or_comm]
/-- What Join, Meet and Add answer. -/
def resE (E0 : Int) (P : DPred) : Int := if E0 = 0 then kE (formK P) else E0

theorem bstep2 {w w1 w2 : World} (h : Below w.heap.size w w1) (k : Below w1.heap.size w1 w2) : Below w.heap.size w w2 := bstep h k
theorem rowLit2 (w : World) (u1 u2 : Value) (l1 l2 : List Int) (t : TypeId) {g : Nat} (hg : g = w.heap.size) (h1 : IsAt (w.alloc (.cells #[u1, u2] t)) u1 l1) (h2 : IsAt (w.alloc (.cells #[u1, u2] t)) u2 l2) : RowAt vecE (w.alloc (.cells #[u1, u2] t)) (.slice (some ⟨g, 0, none⟩) 2 2) [l1, l2] := by
  subst hg
  refine ⟨[[u1], [u2]], ⟨⟨_, rfl, h1⟩, ⟨_, rfl, h2⟩, trivial⟩, CellsAt.mk (Nat.le_refl _) (by decide) (by simp) fun j x hj => ?_⟩
  rw [Nat.zero_add, World.cell?_alloc_at _ _ _ _ rfl]
  simpa using hj
theorem rowsLit2 (w : World) (u1 u2 : Value) (n1 n2 : Nat) (l1 l2 : List Value) (t : TypeId) (g : Nat) (hg : g = w.heap.size) (h1 : CellsAt (w.alloc (.cells #[u1, u2] t)) u1 n1 l1) (h2 : CellsAt (w.alloc (.cells #[u1, u2] t)) u2 n2 l2) : RowsAt (w.alloc (.cells #[u1, u2] t)) (.slice (some ⟨g, 0, none⟩) 2 2) [(u1, n1, l1), (u2, n2, l2)] := by
  subst hg
  refine ⟨CellsAt.mk (Nat.le_refl _) (by decide) (by simp) fun j x hj => ?_, fun r hr => ?_⟩
  · rw [Nat.zero_add, World.cell?_alloc_at _ _ _ _ rfl]
    simpa using hj
  · simp only [List.mem_cons, List.not_mem_nil, or_false] at hr
    rcases hr with rfl | rfl
    · exact h1
    · exact h2
theorem rowsBelow {w w' : World} {v : Value} {rs : Rows3} (h : RowsAt w v rs) (hb : Below w.heap.size w w') : RowsAt w' v rs := ⟨h.1.below hb, fun r hr => (h.2 r hr).below hb⟩
theorem vecsOk2 {a b : Kn} (ha : KnOk a) (hb : KnOk b) : ∀ l ∈ [a.vec, b.vec], vecOk l := by
  intro l hl
  simp only [List.mem_cons, List.not_mem_nil, or_false] at hl
  rcases hl with rfl | rfl
  · exact ⟨ha.len, ha.bd⟩
  · exact ⟨hb.len, hb.bd⟩
theorem dotsOk2 {a b : Kn} (ha : KnOk a) (hb : KnOk b) : ∀ d ∈ a.more ++ b.more, dotOk d = true := by
  intro d hd
  rcases List.mem_append.1 hd with h | h
  · exact (ha.dots d h).1
  · exact (hb.dots d h).1
set_option maxRecDepth 100000 in
/-- slices.Concat of two slices of dots. -/
theorem concat2 (x u1 u2 : Value) (a b : Kn) (w : World) (h : RowsAt w x [(u1, a.more.length, spansCells a.more), (u2, b.more.length, spansCells b.more)]) (ha : KnOk a ∧ a.more.length ≤ 60) (hb : KnOk b ∧ b.more.length ≤ 60) :
    Calls Try.prog 113 #[x] w fun e w' => ∃ v, e = .returned v ∧ DsAt w' v (a.more ++ b.more) ∧ Below w.heap.size w w' := by
  refine (DlConcat_c x _ w h ?_ ?_ ?_).mono ?_
  · intro r hr
    simp only [List.mem_cons, List.not_mem_nil, or_false] at hr
    rcases hr with rfl | rfl <;> exact spansCells_length _
  · intro r hr
    simp only [List.mem_cons, List.not_mem_nil, or_false] at hr
    rcases hr with rfl | rfl <;> exact spansCells_one _
  · simp [tot]; omega
  · rintro e w' ⟨v, rfl, ho, hbl⟩
    refine ⟨v, rfl, ?_, hbl⟩
    have e1 : tot [(u1, a.more.length, spansCells a.more), (u2, b.more.length, spansCells b.more)] = (a.more ++ b.more).length := by simp [tot]
    have e2 : flat [(u1, a.more.length, spansCells a.more), (u2, b.more.length, spansCells b.more)] = spansCells (a.more ++ b.more) := by simp [flat, spansCells_append]
    rw [e1, e2] at ho
    exact CellsAt.of_owns ho (by simp; omega)
set_option maxRecDepth 100000 in
set_option maxHeartbeats 4000000 in
theorem kjoin_c (ua va ub vb : Value) (a b : Kn) (w : World) (ha : KnAt w ua va a) (hb : KnAt w ub vb b) :
    Calls Try.prog 52 #[.agg #[ua, va], .agg #[ub, vb]] w fun e w' => ∃ (x y : Value), e = .returned (.tuple #[.agg #[x, y], .int .i64 (resE (knTwo a b) (orK (knIn a) (knIn b)))]) ∧ KnRes w' w.heap.size x y (resE (knTwo a b) (orK (knIn a) (knIn b))) (formK (orK (knIn a) (knIn b))) ∧ Below w.heap.size w w' := by
  obtain ⟨xa, ca, hua⟩ := ha.vec.shape
  obtain ⟨ya, da, hva⟩ := ha.more.shape
  obtain ⟨xb, cb, hub⟩ := hb.vec.shape
  obtain ⟨yb, db, hvb⟩ := hb.more.shape
  subst hua hva hub hvb
  obtain ⟨W, hW⟩ : ∃ W, W = ((w.alloc (.cells #[.slice xa a.vec.length ca, .slice ya a.more.length da] 81)).alloc (.cells #[.slice xb b.vec.length cb, .slice yb b.more.length db] 81)).alloc (.cells #[.slice none 0 0, .slice none 0 0] 81) := ⟨_, rfl⟩
  have hbW : Below w.heap.size w W := by rw [hW]; exact ((bal _).alloc (by simp) _).alloc (by simp; omega) _
  have A := Lib.hid (show W.heap[w.heap.size]? = some (Obj.cells #[.slice xa a.vec.length ca, .slice ya a.more.length da] 81 (0, 0)) by rw [hW]; exact alloc_keep _ (alloc_keep _ (alloc_new _ _ _ _ rfl)))
  have B := Lib.hid (show W.heap[w.heap.size + 1]? = some (Obj.cells #[.slice xb b.vec.length cb, .slice yb b.more.length db] 81 (0, 0)) by rw [hW]; exact alloc_keep _ (alloc_new _ _ _ _ (by simp)))
  have R := Lib.hid (show W.heap[w.heap.size + 2]? = some (Obj.cells #[.slice none 0 0, .slice none 0 0] 81 (0, 0)) by rw [hW]; exact alloc_new _ _ _ _ (by simp))
  have HA := Lib.hid (ha.below hbW)
  have HB := Lib.hid (hb.below hbW)
  have HBW := Lib.hid hbW
  clear hbW ha hb
  go_enter Try.func52, Try.ntmps52
  go_wp2_with fail
  rw [show w.heap.size + 1 + 1 = w.heap.size + 2 from rfl, ← hW]
  clear hW
  (with_reducible refine (ktwo_c _ _ _ _ a b _ HA.out HB.out).mono ?_)
  rintro e w1 ⟨rfl, hb1⟩
  have A1 := Lib.hid (below_keep hb1 A.out)
  have B1 := Lib.hid (below_keep hb1 B.out)
  have R1 := Lib.hid (below_keep hb1 R.out)
  have HA1 := Lib.hid (HA.out.below hb1)
  have HB1 := Lib.hid (HB.out.below hb1)
  have hbl := HBW.out.trans (hb1.mono HBW.out.size)
  clear hb1 A B R HA HB HBW
  cases hx : (knTwo a b == 0)
  · have H0 := Lib.hid (show knTwo a b ≠ 0 by simpa using hx)
    have H := Lib.hid (show resE (knTwo a b) (orK (knIn a) (knIn b)) = knTwo a b by unfold resE; rw [if_neg H0.out])
    have h' : (knTwo a b != 0) = true := by simp [bne, hx]
    have r0 := cell_of_block (j := 0) R1.out rfl
    have r1 := cell_of_block (j := 1) R1.out rfl
    have f0 := free_of_block (j := 0) R1.out
    have f1 := free_of_block (j := 1) R1.out
    have hRl := hlt_of R1.out
    clear hx
    go_wp2
    refine bodyPost_ret (v := .tuple #[.agg #[_, _], _]) (by simp [results, Try.results52, go_sem, *]; exact ⟨⟨rfl, rfl⟩, rfl⟩) rfl ?_
    exact ⟨_, _, by rw [H.out], .inr ⟨by rw [H.out]; exact H0.out, rfl, rfl⟩, (hbl.setCell (by simp) _).setCell (by simp) _⟩
  have h0 : knTwo a b = 0 := by simpa using hx
  have HE := Lib.hid (show resE (knTwo a b) (orK (knIn a) (knIn b)) = kE (formK (orK (knIn a) (knIn b))) by unfold resE; rw [if_pos h0])
  obtain ⟨c1, c2⟩ := knTwo_zero.1 h0
  have OA := Lib.hid (knChk_zero.1 c1)
  have OB := Lib.hid (knChk_zero.1 c2)
  rw [h0]
  clear hx h0 c1 c2
  go_wp2_with fail
  have CA0 := Lib.hid (cell_of_block (j := 0) A1.out rfl)
  have CA1 := Lib.hid (cell_of_block (j := 1) A1.out rfl)
  have CB0 := Lib.hid (cell_of_block (j := 0) B1.out rfl)
  have CB1 := Lib.hid (cell_of_block (j := 1) B1.out rfl)
  refine Cl.region0 29 rfl [15] (fun ww => Below w1.heap.size w1 ww) (fun jq => match jq with | 4 => [15] | 9 => [15] | 10 => [15] | 11 => [15] | 12 => [15] | 13 => [15] | _ => []) (fun jq v ww => match jq with | 0 => v = .pointer (some ⟨w.heap.size, 0, none⟩) | 1 => v = .slice xa a.vec.length ca | 2 => v = .pointer (some ⟨w.heap.size + 1, 0, none⟩) | 3 => v = .slice xb b.vec.length cb | 4 => RowAt vecE ww v [a.vec, b.vec] | 5 => v = .pointer (some ⟨w.heap.size, 1, none⟩) | 6 => v = .slice ya a.more.length da | 7 => v = .pointer (some ⟨w.heap.size + 1, 1, none⟩) | 8 => v = .slice yb b.more.length db | 9 => RowsAt ww v [(.slice ya a.more.length da, a.more.length, spansCells a.more), (.slice yb b.more.length db, b.more.length, spansCells b.more)] | 10 => DsAt ww v (a.more ++ b.more) | 11 => ∃ X Y, v = .agg #[X, Y] ∧ KnOwn ww w.heap.size X Y (formK (orK (knIn a) (knIn b))) | 12 => ∃ X Y, v = .tuple #[.agg #[X, Y], .int .i64 (kE (formK (orK (knIn a) (knIn b))))] ∧ KnRes ww w.heap.size X Y (kE (formK (orK (knIn a) (knIn b)))) (formK (orK (knIn a) (knIn b))) | 13 => ∃ X Y, v = .agg #[X, Y] ∧ KnRes ww w.heap.size X Y (kE (formK (orK (knIn a) (knIn b)))) (formK (orK (knIn a) (knIn b))) | 14 => v = .int .i64 (kE (formK (orK (knIn a) (knIn b)))) | 15 => ∃ X Y, ww.heap[w.heap.size + 2]? = some (Obj.cells #[X, Y] 81 (0, 0)) ∧ KnRes ww w.heap.size X Y (kE (formK (orK (knIn a) (knIn b)))) (formK (orK (knIn a) (knIn b))) ∧ Below w.heap.size w ww | 16 => v = .int .i64 (kE (formK (orK (knIn a) (knIn b)))) | _ => True) (fun ww => True) (fun jq ww ww' => jq ≠ 15 → Below ww.heap.size ww ww') Try.mixed (by decide +kernel) trivial ((Below.refl _ _).drew) ?_ (fun jq ww ww' hk h hR => bstep h (hR (by simpa using hk))) ?_ ?_
  · intro q r v w w' hne hk hlt h hR
    match r, hk, hlt, h, hne with
    | 0, _, _, h, _ => exact h
    | 1, _, _, h, _ => exact h
    | 2, _, _, h, _ => exact h
    | 3, _, _, h, _ => exact h
    | 4, hk, _, h, _ => exact h.below (hR (by simpa using hk))
    | 5, _, _, h, _ => exact h
    | 6, _, _, h, _ => exact h
    | 7, _, _, h, _ => exact h
    | 8, _, _, h, _ => exact h
    | 9, hk, _, h, _ => exact rowsBelow h (hR (by simpa using hk))
    | 10, hk, _, h, _ => exact h.below (hR (by simpa using hk))
    | 11, hk, _, h, _ => exact (fun hb => let ⟨x, y, h1, h2⟩ := h; ⟨x, y, h1, h2.below hb⟩) (hR (by simpa using hk))
    | 12, hk, _, h, _ => exact (fun hb => let ⟨x, y, h1, h2⟩ := h; ⟨x, y, h1, h2.below hb⟩) (hR (by simpa using hk))
    | 13, hk, _, h, _ => exact (fun hb => let ⟨x, y, h1, h2⟩ := h; ⟨x, y, h1, h2.below hb⟩) (hR (by simpa using hk))
    | 14, _, _, h, _ => exact h
    | 15, _, _, h, hne => exact (fun hb => let ⟨x, y, h1, h2, h3⟩ := h; ⟨x, y, below_keep hb h1, h2.below hb, bstep2 h3 hb⟩) (hR (by exact hne))
    | 16, _, _, h, _ => exact h
    | _ + 17, _, _, _, _ => trivial
  · refine ⟨?_, ?_, ?_, ?_, ?_, ?_, ?_, ?_, ?_, ?_, ?_, ?_, ?_, ?_, ?_, ?_, ?_, trivial⟩
    · intro x wx hG
      have f2 := hG.old 2 (by decide +kernel)
      have hp := hG.pre (by decide +kernel)
      have hg := hG.good
      clear hG
      have hg := hp
      go_wp2
      exact ⟨_, rfl, rfl, trivial, fun _ => Below.refl _ _⟩
    · intro x wx hG
      have g0 : (x.tmps.getD 14 undef) = .pointer (some ⟨w.heap.size, 0, none⟩) := hG.claims 0 _ rfl (by decide +kernel) (by decide +kernel)
      have hp := hG.pre (by decide +kernel)
      have hg := hG.good
      clear hG
      have hg := hp
      have c_CA0 := ckeep hg CA0.out
      go_wp2
      exact ⟨_, rfl, rfl, trivial, fun _ => Below.refl _ _⟩
    · intro x wx hG
      have f3 := hG.old 3 (by decide +kernel)
      have hp := hG.pre (by decide +kernel)
      have hg := hG.good
      clear hG
      have hg := hp
      go_wp2
      exact ⟨_, rfl, rfl, trivial, fun _ => Below.refl _ _⟩
    · intro x wx hG
      have g2 : (x.tmps.getD 16 undef) = .pointer (some ⟨w.heap.size + 1, 0, none⟩) := hG.claims 2 _ rfl (by decide +kernel) (by decide +kernel)
      have hp := hG.pre (by decide +kernel)
      have hg := hG.good
      clear hG
      have hg := hp
      have c_CB0 := ckeep hg CB0.out
      go_wp2
      exact ⟨_, rfl, rfl, trivial, fun _ => Below.refl _ _⟩
    · intro x wx hG
      have g1 : (x.tmps.getD 15 undef) = .slice xa a.vec.length ca := hG.claims 1 _ rfl (by decide +kernel) (by decide +kernel)
      have g1b := g1
      rw [Array.getD_eq_getD_getElem?] at g1b
      have g3 : (x.tmps.getD 17 undef) = .slice xb b.vec.length cb := hG.claims 3 _ rfl (by decide +kernel) (by decide +kernel)
      have g3b := g3
      rw [Array.getD_eq_getD_getElem?] at g3b
      have hp := hG.pre (by decide +kernel)
      have hg := hG.good
      clear hG
      have hg := hp
      go_wp2
      exact ⟨_, rfl, rowLit2 _ _ _ _ _ _ rfl (HA1.out.below (hg.alloc hg.size _)).vec (HB1.out.below (hg.alloc hg.size _)).vec, trivial, fun _ => bal _⟩
    · intro x wx hG
      have f2 := hG.old 2 (by decide +kernel)
      have hp := hG.pre (by decide +kernel)
      have hg := hG.good
      clear hG
      have hg := hp
      go_wp2
      exact ⟨_, rfl, rfl, trivial, fun _ => Below.refl _ _⟩
    · intro x wx hG
      have g5 : (x.tmps.getD 19 undef) = .pointer (some ⟨w.heap.size, 1, none⟩) := hG.claims 5 _ rfl (by decide +kernel) (by decide +kernel)
      have hp := hG.pre (by decide +kernel)
      have hg := hG.good
      clear hG
      have hg := hp
      have c_CA1 := ckeep hg CA1.out
      go_wp2
      exact ⟨_, rfl, rfl, trivial, fun _ => Below.refl _ _⟩
    · intro x wx hG
      have f3 := hG.old 3 (by decide +kernel)
      have hp := hG.pre (by decide +kernel)
      have hg := hG.good
      clear hG
      have hg := hp
      go_wp2
      exact ⟨_, rfl, rfl, trivial, fun _ => Below.refl _ _⟩
    · intro x wx hG
      have g7 : (x.tmps.getD 21 undef) = .pointer (some ⟨w.heap.size + 1, 1, none⟩) := hG.claims 7 _ rfl (by decide +kernel) (by decide +kernel)
      have hp := hG.pre (by decide +kernel)
      have hg := hG.good
      clear hG
      have hg := hp
      have c_CB1 := ckeep hg CB1.out
      go_wp2
      exact ⟨_, rfl, rfl, trivial, fun _ => Below.refl _ _⟩
    · intro x wx hG
      have g6 : (x.tmps.getD 20 undef) = .slice ya a.more.length da := hG.claims 6 _ rfl (by decide +kernel) (by decide +kernel)
      have g6b := g6
      rw [Array.getD_eq_getD_getElem?] at g6b
      have g8 : (x.tmps.getD 22 undef) = .slice yb b.more.length db := hG.claims 8 _ rfl (by decide +kernel) (by decide +kernel)
      have g8b := g8
      rw [Array.getD_eq_getD_getElem?] at g8b
      have hp := hG.pre (by decide +kernel)
      have hg := hG.good
      clear hG
      have hg := hp
      go_wp2
      exact ⟨_, rfl, rowsLit2 _ _ _ _ _ _ _ _ _ rfl (HA1.out.below (hg.alloc hg.size _)).more (HB1.out.below (hg.alloc hg.size _)).more, trivial, fun _ => bal _⟩
    · intro x wx hG
      have g9 : RowsAt wx (x.tmps.getD 23 undef) [(.slice ya a.more.length da, a.more.length, spansCells a.more), (.slice yb b.more.length db, b.more.length, spansCells b.more)] := hG.claims 9 _ rfl (by decide +kernel) (by decide +kernel)
      have hp := hG.pre (by decide +kernel)
      have hg := hG.good
      clear hG
      have hg := hp
      generalize hx : x.tmps.getD 23 undef = x23 at *
      have G9 := Lib.hid g9
      clear g9
      go_wp2_with fail
      skip
      (with_reducible refine (concat2 _ _ _ _ _ _ G9.out OA.out OB.out).mono ?_)
      rintro e wq ⟨v9, rfl, h9, hb⟩
      obtain ⟨za, zc, hz⟩ := h9.shape
      generalize (a.more ++ b.more).length = ln at hz
      subst hz
      have H9 := Lib.hid h9
      clear h9
      go_wp2
      exact ⟨_, rfl, H9.out, trivial, fun _ => hb⟩
    · intro x wx hG
      have g4 : RowAt vecE wx (x.tmps.getD 18 undef) [a.vec, b.vec] := hG.claims 4 _ rfl (by decide +kernel) (by decide +kernel)
      have g10 : DsAt wx (x.tmps.getD 24 undef) (a.more ++ b.more) := hG.claims 10 _ rfl (by decide +kernel) (by decide +kernel)
      have hp := hG.pre (by decide +kernel)
      have hg := hG.good
      clear hG
      have hg := hp
      generalize hx : x.tmps.getD 24 undef = x24 at *
      generalize hy : x.tmps.getD 18 undef = x18 at *
      have G10 := Lib.hid g10
      have G4 := Lib.hid g4
      clear g10 g4
      go_wp2_with fail
      (with_reducible refine (made_f _ _ _ _ (orK (knIn a) (knIn b)) _ G4.out G10.out (vecsOk2 OA.out.1 OB.out.1) (dotsOk2 OA.out.1 OB.out.1) (by have := OA.out.2; have := OB.out.2; simp only [List.length_append]; omega) (join_mem a b)).mono ?_)
      rintro e wq ⟨u9, v9, rfl, h9, hb⟩
      have H9 := Lib.hid (h9.mono (base' := w.heap.size) (by have := hbl.size; have := hg.size; omega))
      clear h9
      go_wp2
      exact ⟨_, rfl, ⟨_, _, rfl, H9.out⟩, trivial, fun _ => hb⟩
    · intro x wx hG
      have g11 : ∃ X Y, (x.tmps.getD 25 undef) = .agg #[X, Y] ∧ KnOwn wx w.heap.size X Y (formK (orK (knIn a) (knIn b))) := hG.claims 11 _ rfl (by decide +kernel) (by decide +kernel)
      have hp := hG.pre (by decide +kernel)
      have hg := hG.good
      clear hG
      have hg := hp
      obtain ⟨x9, y9, hx9, h9⟩ := g11
      have H9 := Lib.hid h9
      clear h9
      go_wp2_with fail
      (with_reducible refine (ktold_c _ _ _ _ _ H9.out (by have := formM_len (orK (knIn a) (knIn b)); omega)).mono ?_)
      rintro e wq ⟨u9, v9, rfl, h8, hb⟩
      have H8 := Lib.hid h8
      clear h8
      go_wp2
      exact ⟨_, rfl, ⟨_, _, rfl, H8.out⟩, trivial, fun _ => hb⟩
    · intro x wx hG
      have g12 : ∃ X Y, (x.tmps.getD 26 undef) = .tuple #[.agg #[X, Y], .int .i64 (kE (formK (orK (knIn a) (knIn b))))] ∧ KnRes wx w.heap.size X Y (kE (formK (orK (knIn a) (knIn b)))) (formK (orK (knIn a) (knIn b))) := hG.claims 12 _ rfl (by decide +kernel) (by decide +kernel)
      have hp := hG.pre (by decide +kernel)
      have hg := hG.good
      clear hG
      have hg := hp
      obtain ⟨x9, y9, hx9, h9⟩ := g12
      have H9 := Lib.hid h9
      clear h9
      go_wp2
      exact ⟨_, rfl, ⟨_, _, rfl, H9.out⟩, trivial, fun _ => Below.refl _ _⟩
    · intro x wx hG
      have g12 : ∃ X Y, (x.tmps.getD 26 undef) = .tuple #[.agg #[X, Y], .int .i64 (kE (formK (orK (knIn a) (knIn b))))] ∧ KnRes wx w.heap.size X Y (kE (formK (orK (knIn a) (knIn b)))) (formK (orK (knIn a) (knIn b))) := hG.claims 12 _ rfl (by decide +kernel) (by decide +kernel)
      have hp := hG.pre (by decide +kernel)
      have hg := hG.good
      clear hG
      have hg := hp
      obtain ⟨x9, y9, hx9, h9⟩ := g12
      clear h9
      go_wp2
      exact ⟨_, rfl, rfl, trivial, fun _ => Below.refl _ _⟩
    · intro x wx hG
      have f4 := hG.old 4 (by decide +kernel)
      have g13 : ∃ X Y, (x.tmps.getD 27 undef) = .agg #[X, Y] ∧ KnRes wx w.heap.size X Y (kE (formK (orK (knIn a) (knIn b)))) (formK (orK (knIn a) (knIn b))) := hG.claims 13 _ rfl (by decide +kernel) (by decide +kernel)
      have hp := hG.pre (by decide +kernel)
      have hg := hG.good
      clear hG
      have hg := hp
      obtain ⟨x9, y9, hx9, h9⟩ := g13
      obtain ⟨qa, qn, qc, qb, qm, qd, hq1, hq2⟩ := h9.shape
      subst hq1 hq2
      have H9 := Lib.hid h9
      have hR := below_keep hp R1.out
      have HR := Lib.hid hR
      have r0 := cell_of_block (j := 0) hR rfl
      have r1 := cell_of_block (j := 1) hR rfl
      have f0 := free_of_block (j := 0) hR
      have f1 := free_of_block (j := 1) hR
      have hRl := hlt_of hR
      have HBLX := Lib.hid (hbl.trans (hp.mono hbl.size))
      clear h9 hR
      go_wp2
      exact ⟨undef, rfl, ⟨_, _, by rw [heap_set_same (heap_set_same HR.out)]; rfl, (H9.out.set HR.out).set (heap_set_same HR.out), (HBLX.out.setCell (by simp) _).setCell (by simp) _⟩, trivial, fun h => absurd rfl h⟩
    · intro x wx hG
      have g14 : (x.tmps.getD 28 undef) = .int .i64 (kE (formK (orK (knIn a) (knIn b)))) := hG.claims 14 _ rfl (by decide +kernel) (by decide +kernel)
      have hg := hG.good
      clear hG
      go_wp2
      exact ⟨_, rfl, rfl, trivial, fun _ => Below.refl _ _⟩
  · intro vals w2 hg hF
    obtain ⟨g0, g1, g2, g3, g4, g5, g6, g7, g8, g9, g10, g11, g12, g13, g14, g15, g16, -⟩ := hF
    have e0 : vals 0 = .pointer (some ⟨w.heap.size, 0, none⟩) := g0 rfl
    have e1 : vals 1 = .slice xa a.vec.length ca := g1 rfl
    have e2 : vals 2 = .pointer (some ⟨w.heap.size + 1, 0, none⟩) := g2 rfl
    have e3 : vals 3 = .slice xb b.vec.length cb := g3 rfl
    have e5 : vals 5 = .pointer (some ⟨w.heap.size, 1, none⟩) := g5 rfl
    have e6 : vals 6 = .slice ya a.more.length da := g6 rfl
    have e7 : vals 7 = .pointer (some ⟨w.heap.size + 1, 1, none⟩) := g7 rfl
    have e8 : vals 8 = .slice yb b.more.length db := g8 rfl
    have e14 : vals 14 = .int .i64 (kE (formK (orK (knIn a) (knIn b)))) := g14 rfl
    replace g15 : ∃ X Y, w2.heap[w.heap.size + 2]? = some (Obj.cells #[X, Y] 81 (0, 0)) ∧ KnRes w2 w.heap.size X Y (kE (formK (orK (knIn a) (knIn b)))) (formK (orK (knIn a) (knIn b))) ∧ Below w.heap.size w w2 := g15 rfl
    have e16 : vals 16 = .int .i64 (kE (formK (orK (knIn a) (knIn b)))) := g16 rfl
    simp only [Cl.puts, e0, e1, e2, e3, e5, e6, e7, e8, e14, e16]
    clear e0 e1 e2 e3 e5 e6 e7 e8 e14 e16 g0 g1 g2 g3 g4 g5 g6 g7 g8 g9 g10 g11 g12 g13 g14 g16
    go_simp
    obtain ⟨x9, y9, h1, h2, h3⟩ := g15
    obtain ⟨qa, qn, qc, qb, qm, qd, hq1, hq2⟩ := h2.shape
    subst hq1 hq2
    have r0 := cell_of_block (j := 0) h1 rfl
    have r1 := cell_of_block (j := 1) h1 rfl
    have H2 := Lib.hid h2
    clear h1 h2
    go_wp2
    refine bodyPost_ret (v := .tuple #[.agg #[_, _], _]) (by simp [results, Try.results52, go_sem, *]; exact ⟨⟨rfl, rfl⟩, rfl⟩) rfl ?_
    exact ⟨_, _, by rw [HE.out], by rw [HE.out]; exact H2.out, h3⟩
end Go.Proofs.Ythnkmjjldggecaa
