/- What know.Meet does. Written by a small program (gen/know9.py). Sets of dots in the laws: the functions of package know at sets whose counts are small. -/
import Derived.Test.YtboakoipdfmpcaaMKnow5
import Derived.Test.YtboakoipdfmpcaaMKnow7
import Derived.Test.YtboakoipdfmpcaaMElt
import Derived.Test.YtboakoipdfmpcaaMDots
import Derived.Test.YtboakoipdfmpcaaMKnow3
namespace Go.Proofs.Ytboakoipdfmpcaa
open Go.RowKit
def meetSel (a b : Kn) (q : Nat) (d : Int × Int) : Bool := decide (d.1 = (q : Int)) && knIn a d.1 d.2 && knIn b d.1 d.2
/-- The dots taken for the sites below q. -/
def meetD (a b : Kn) : Nat → Dots
  | 0 => []
  | q + 1 => meetD a b q ++ (a.more ++ b.more).filter (meetSel a b q)
theorem meetD_mem (a b : Kn) (q : Nat) (d : Int × Int) : d ∈ meetD a b q ↔ d ∈ a.more ++ b.more ∧ (∃ s : Nat, s < q ∧ d.1 = (s : Int)) ∧ knIn a d.1 d.2 = true ∧ knIn b d.1 d.2 = true := by
  induction q with
  | zero => simp [meetD]
  | succ q ih =>
    rw [meetD, List.mem_append, ih, List.mem_filter]
    simp only [meetSel, Bool.and_eq_true, decide_eq_true_eq]
    constructor
    · rintro (⟨h1, ⟨s, h2, h3⟩, h4⟩ | ⟨h1, ⟨h2, h3⟩, h4⟩)
      · exact ⟨h1, ⟨s, by omega, h3⟩, h4⟩
      · exact ⟨h1, ⟨q, by omega, h2⟩, h3, h4⟩
    · rintro ⟨h1, ⟨s, h2, h3⟩, h4, h5⟩
      by_cases e : s = q
      · subst e; exact .inr ⟨h1, ⟨h3, h4⟩, h5⟩
      · exact .inl ⟨h1, ⟨s, by omega, h3⟩, h4, h5⟩
theorem meetD_len (a b : Kn) (ha : a.more.length ≤ 60) (hb : b.more.length ≤ 60) (q : Nat) : (meetD a b q).length ≤ 120 * q := by
  induction q with
  | zero => simp [meetD]
  | succ q ih =>
    have := List.length_filter_le (meetSel a b q) (a.more ++ b.more)
    rw [List.length_append] at this
    rw [meetD, List.length_append]
    omega
theorem meetD_ok {a b : Kn} (ha : KnOk a) (hb : KnOk b) (q : Nat) : ∀ d ∈ meetD a b q, dotOk d = true := by
  intro d hd
  have := ((meetD_mem a b q d).1 hd).1
  rcases List.mem_append.1 this with h | h
  · exact (ha.dots d h).1
  · exact (hb.dots d h).1
theorem meet_mem {a b : Kn} (_ha : KnOk a) (_hb : KnOk b) {v : List Int} (hv : ∀ s : Int, 0 ≤ s → s < 5 → vecAt v s = min (vecAt a.vec s) (vecAt b.vec s)) :
    DEq (fun s c => decide (c ≤ vmaxAt [v] s) || decide ((s, c) ∈ meetD a b 5)) (andK (knIn a) (knIn b)) := by
  intro s c h0 h5 h1 h2
  rw [Bool.eq_iff_iff]
  simp only [Bool.or_eq_true, decide_eq_true_eq, meetD_mem]
  rw [show vmaxAt [v] s = max 0 (vecAt v s) from rfl, hv s h0 h5]
  simp only [andK, knIn, Bool.and_eq_true, Bool.or_eq_true, decide_eq_true_eq, List.mem_append]
  have e : (∃ q : Nat, q < 5 ∧ s = (q : Int)) := ⟨s.toNat, by omega, by omega⟩
  constructor
  · rintro (h | ⟨h, -, h3, h4⟩)
    · exact ⟨.inl (by omega), .inl (by omega)⟩
    · exact ⟨h3, h4⟩
  · rintro ⟨h3, h4⟩
    by_cases hm : (s, c) ∈ a.more ∨ (s, c) ∈ b.more
    · exact .inr ⟨hm, e, h3, h4⟩
    · left
      have h5' := h3.resolve_right fun h => hm (.inl h)
      have h6 := h4.resolve_right fun h => hm (.inr h)
      omega
set_option maxRecDepth 100000 in
/-- slices.Concat of two slices of dots: a row of the call's own. -/
theorem concat2o (x u1 u2 : Value) (a b : Kn) (w : World) (h : RowsAt w x [(u1, a.more.length, spansCells a.more), (u2, b.more.length, spansCells b.more)]) (ha : KnOk a ∧ a.more.length ≤ 60) (hb : KnOk b ∧ b.more.length ≤ 60) :
    Calls Try.prog 29 #[x] w fun e w' => ∃ v, e = .returned v ∧ w'.ownsRow w.heap.size 27 2 v (a.more ++ b.more).length (spansCells (a.more ++ b.more)) ∧ Below w.heap.size w w' := by
  refine (DlConcat_c x _ w h ?_ ?_ ?_).mono ?_
  · intro r hr
    simp only [List.mem_cons, List.not_mem_nil, or_false] at hr
    rcases hr with rfl | rfl <;> exact spansCells_length _
  · intro r hr
    simp only [List.mem_cons, List.not_mem_nil, or_false] at hr
    rcases hr with rfl | rfl <;> exact spansCells_one _
  · simp [tot]; omega
  · rintro e w' ⟨v, rfl, ho, hbl⟩
    refine ⟨v, rfl, ?_, hbl⟩
    have e1 : tot [(u1, a.more.length, spansCells a.more), (u2, b.more.length, spansCells b.more)] = (a.more ++ b.more).length := by simp [tot]
    have e2 : flat [(u1, a.more.length, spansCells a.more), (u2, b.more.length, spansCells b.more)] = spansCells (a.more ++ b.more) := by simp [flat, spansCells_append]
    rw [e1, e2] at ho
    exact ho
/-- What stands in memory while two sets are met. -/
structure MtSt (w wr : World) (G : Nat) (ua va ub vb : Value) (v : List Int) (ds es : Dots) (dv cv : Value) : Prop where
  a : wr.heap[w.heap.size]? = some (Obj.cells #[ua, va] 25 (0, 0))
  b : wr.heap[w.heap.size + 1]? = some (Obj.cells #[ub, vb] 25 (0, 0))
  r : wr.heap[w.heap.size + 2]? = some (Obj.cells #[.slice none 0 0, .slice none 0 0] 25 (0, 0))
  g : wr.heap[G]? = some (Obj.cells (intsC v).toArray 3 (0, 0))
  own : wr.ownsRow w.heap.size 27 2 dv ds.length (spansCells ds)
  row : wr.ownsRow w.heap.size 27 2 cv es.length (spansCells es)
  ne : cv.ownBlock = none ∨ cv.ownBlock ≠ dv.ownBlock
  bel : Below w.heap.size w wr
  lo : w.heap.size + 2 < G
section
variable {w wr : World} {G : Nat} {ua va ub vb : Value} {v : List Int} {ds es : Dots} {dv cv : Value}
theorem MtSt.below {w2 : World} (h : MtSt w wr G ua va ub vb v ds es dv cv) (hb : Below wr.heap.size wr w2) : MtSt w w2 G ua va ub vb v ds es dv cv :=
  ⟨below_keep hb h.a, below_keep hb h.b, below_keep hb h.r, below_keep hb h.g, owns_below h.own hb, owns_below h.row hb, h.ne, h.bel.trans (hb.mono h.bel.size), h.lo⟩
theorem MtSt.drewN (h : MtSt w wr G ua va ub vb v ds es dv cv) (n : Nat) : MtSt w (wr.drewN n) G ua va ub vb v ds es dv cv := h.below (below_drewN (Below.refl _ _) n)
theorem MtSt.alloc (h : MtSt w wr G ua va ub vb v ds es dv cv) (o : Obj) : MtSt w (wr.alloc o) G ua va ub vb v ds es dv cv := h.below (bal _)
theorem MtSt.setG (h : MtSt w wr G ua va ub vb v ds es dv cv) (j : Nat) (x : Int) : MtSt w (wr.setCell ⟨G, j, none⟩ (.int .i64 x)) G ua va ub vb (v.set j x) ds es dv cv :=
  have := h.lo
  ⟨(heap_set_other (by omega)).trans h.a, (heap_set_other (by omega)).trans h.b, (heap_set_other (by omega)).trans h.r, by rw [heap_set_same h.g, intsC_set], own_set h.own h.g (by decide), own_set h.row h.g (by decide), h.ne, h.bel.setCell (by show w.heap.size ≤ G; omega) _, h.lo⟩
theorem MtSt.push {w2 : World} {dv' : Value} {d : Int × Int} (h : MtSt w wr G ua va ub vb v ds es dv cv) (ho : w2.ownsRow w.heap.size 27 2 dv' (ds.length + 1) (spansCells ds ++ [.int .i64 d.1, .int .i64 d.2])) (hg : wr.grownBy w2 dv.ownBlock)
    (hw : dv'.ownBlock = dv.ownBlock ∨ dv'.ownBlock = some wr.heap.size) : MtSt w w2 G ua va ub vb v (ds ++ [d]) es dv' cv := by
  obtain ⟨q1, q2⟩ := own_apart h.row h.own ho hg hw h.ne
  refine ⟨grown_keep h.own hg h.a (by decide), grown_keep h.own hg h.b (by decide), grown_keep h.own hg h.r (by decide), grown_keep h.own hg h.g (by decide), ?_, q1, q2, h.bel.grown hg h.bel.size fun k hk => (h.own.lt k hk).1, h.lo⟩
  rw [List.length_append, spansCells_append]
  exact ho
/-- A new row to go through. -/
theorem MtSt.fresh {w2 : World} {cv' : Value} {es' : Dots} {B : Nat} (h : MtSt w wr G ua va ub vb v ds es dv cv) (hb : Below wr.heap.size wr w2) (hB : wr.heap.size ≤ B) (ho : w2.ownsRow B 27 2 cv' es'.length (spansCells es')) : MtSt w w2 G ua va ub vb v ds es' dv cv' := by
  have h2 := h.below hb
  refine ⟨h2.a, h2.b, h2.r, h2.g, h2.own, owns_mono ho (by have := h.bel.size; omega), ?_, h2.bel, h2.lo⟩
  cases hk : cv'.ownBlock with
  | none => exact .inl rfl
  | some k =>
    right
    intro e
    have h3 := (ho.lt k hk).1
    have h4 := (h.own.lt k e.symm).2
    omega
end
theorem own_nilD (w : World) (base : Nat) : w.ownsRow base 27 2 (.slice none 0 0) ([] : Dots).length (spansCells []) := World.ownsRow_nil _ _ _ _

set_option maxRecDepth 100000 in
set_option maxHeartbeats 4000000 in
theorem kmeet_c (ua va ub vb : Value) (a b : Kn) (w : World) (ha : KnAt w ua va a) (hb : KnAt w ub vb b) :
    Calls Try.prog 9 #[.agg #[ua, va], .agg #[ub, vb]] w fun e w' => ∃ (x y : Value), e = .returned (.tuple #[.agg #[x, y], .int .i64 (resE (knTwo a b) (andK (knIn a) (knIn b)))]) ∧ KnRes w' w.heap.size x y (resE (knTwo a b) (andK (knIn a) (knIn b))) (formK (andK (knIn a) (knIn b))) ∧ Below w.heap.size w w' := by
  obtain ⟨xa, ca, hua⟩ := ha.vec.shape
  obtain ⟨ya, da, hva⟩ := ha.more.shape
  obtain ⟨xb, cb, hub⟩ := hb.vec.shape
  obtain ⟨yb, db, hvb⟩ := hb.more.shape
  subst hua hva hub hvb
  obtain ⟨W, hW⟩ : ∃ W, W = ((w.alloc (.cells #[.slice xa a.vec.length ca, .slice ya a.more.length da] 25)).alloc (.cells #[.slice xb b.vec.length cb, .slice yb b.more.length db] 25)).alloc (.cells #[.slice none 0 0, .slice none 0 0] 25) := ⟨_, rfl⟩
  have hbW : Below w.heap.size w W := by rw [hW]; exact ((bal _).alloc (by simp) _).alloc (by simp; omega) _
  have A := Lib.hid (show W.heap[w.heap.size]? = some (Obj.cells #[.slice xa a.vec.length ca, .slice ya a.more.length da] 25 (0, 0)) by rw [hW]; exact alloc_keep _ (alloc_keep _ (alloc_new _ _ _ _ rfl)))
  have B := Lib.hid (show W.heap[w.heap.size + 1]? = some (Obj.cells #[.slice xb b.vec.length cb, .slice yb b.more.length db] 25 (0, 0)) by rw [hW]; exact alloc_keep _ (alloc_new _ _ _ _ (by simp)))
  have R := Lib.hid (show W.heap[w.heap.size + 2]? = some (Obj.cells #[.slice none 0 0, .slice none 0 0] 25 (0, 0)) by rw [hW]; exact alloc_new _ _ _ _ (by simp))
  have HA := Lib.hid (ha.below hbW)
  have HB := Lib.hid (hb.below hbW)
  have HA0 := Lib.hid ha
  have HB0 := Lib.hid hb
  have HBW := Lib.hid hbW
  clear hbW ha hb
  go_enter Try.func9, Try.ntmps9
  go_wp2_with fail
  rw [show w.heap.size + 1 + 1 = w.heap.size + 2 from rfl, ← hW]
  clear hW
  (with_reducible refine (ktwo_c _ _ _ _ a b _ HA.out HB.out).mono ?_)
  rintro e w1 ⟨rfl, hb1⟩
  have A1 := Lib.hid (below_keep hb1 A.out)
  have B1 := Lib.hid (below_keep hb1 B.out)
  have R1 := Lib.hid (below_keep hb1 R.out)
  have hbl := HBW.out.trans (hb1.mono HBW.out.size)
  clear hb1 A B R HA HB HBW
  cases hx : (knTwo a b == 0)
  · have H0 := Lib.hid (show knTwo a b ≠ 0 by simpa using hx)
    have H := Lib.hid (show resE (knTwo a b) (andK (knIn a) (knIn b)) = knTwo a b by unfold resE; rw [if_neg H0.out])
    have h' : (knTwo a b != 0) = true := by simp [bne, hx]
    have r0 := cell_of_block (j := 0) R1.out rfl
    have r1 := cell_of_block (j := 1) R1.out rfl
    have f0 := free_of_block (j := 0) R1.out
    have f1 := free_of_block (j := 1) R1.out
    have hRl := hlt_of R1.out
    clear hx
    go_wp2
    refine bodyPost_ret (v := .tuple #[.agg #[_, _], _]) (by simp [results, Try.results9, go_sem, *]; exact ⟨⟨rfl, rfl⟩, rfl⟩) rfl ?_
    exact ⟨_, _, by rw [H.out], .inr ⟨by rw [H.out]; exact H0.out, rfl, rfl⟩, (hbl.setCell (by simp) _).setCell (by simp) _⟩
  have h0 : knTwo a b = 0 := by simpa using hx
  have HE := Lib.hid (show resE (knTwo a b) (andK (knIn a) (knIn b)) = kE (formK (andK (knIn a) (knIn b))) by unfold resE; rw [if_pos h0])
  obtain ⟨c1, c2⟩ := knTwo_zero.1 h0
  have OA := Lib.hid (knChk_zero.1 c1)
  have OB := Lib.hid (knChk_zero.1 c2)
  rw [h0]
  clear hx h0 c1 c2
  obtain ⟨w2, hmk, hown, hbm⟩ := mk_slice (P := Try.prog) w1 22 3 (.int .i64 0) 1 8 Try.underlying22 IcTy.info 5 (by omega) (by unfold maxLen; omega)
  rw [madeCells_one _ rfl] at hown
  have hG0 := own_full hown (by decide)
  have hlo : w.heap.size + 2 < w1.heap.size := hlt_of R1.out
  have hmk5 : (Instr.makeSlice 22 (.int .i64 5) (.int .i64 5)).run Try.prog w1 = .ok (.slice (some ⟨w1.heap.size, 0, none⟩) 5 5) w2 := hmk
  obtain ⟨G, hG⟩ : ∃ G, G = w1.heap.size := ⟨_, rfl⟩
  rw [← hG] at hmk5 hG0 hlo
  have M0 := Lib.hid (show MtSt w w2 G (.slice xa a.vec.length ca) (.slice ya a.more.length da) (.slice xb b.vec.length cb) (.slice yb b.more.length db) [0, 0, 0, 0, 0] (meetD a b 0) [] (.slice none 0 0) (.slice none 0 0) from
    ⟨below_keep hbm A1.out, below_keep hbm B1.out, below_keep hbm R1.out, hG0, own_nilD _ _, own_nilD _ _, .inl rfl, hbl.trans (hbm.mono hbl.size), hlo⟩)
  clear hown hG0 hmk hbm A1 B1 R1 hbl hlo hG
  go_wp2_with fail
  clear hmk5
  go_loopw [8, 22] (fun dv i wr => ∃ (q : Nat) (v : List Int) (es : Dots) (cv : Value), q ≤ 5 ∧ i = .int .i64 q ∧ V5 v ∧ (∀ s : Int, 0 ≤ s → s < 5 → vecAt v s = if s < q then min (vecAt a.vec s) (vecAt b.vec s) else 0) ∧ MtSt w wr G (.slice xa a.vec.length ca) (.slice ya a.more.length da) (.slice xb b.vec.length cb) (.slice yb b.more.length db) v (meetD a b q) es dv cv) (fun _ i _ => 5 - (intOf i).toNat)
  case atStart =>
    refine ⟨0, [0, 0, 0, 0, 0], [], .slice none 0 0, by omega, rfl, ⟨rfl, by simp⟩, fun s h0 h5 => ?_, M0.out⟩
    rw [if_neg (by omega)]
    have : s = 0 ∨ s = 1 ∨ s = 2 ∨ s = 3 ∨ s = 4 := by omega
    rcases this with rfl | rfl | rfl | rfl | rfl <;> rfl
  case round =>
    clear M0
    obtain ⟨q, v0, es0, cv0, hq, rfl, h5, hm, hM⟩ := hrel
    obtain ⟨wo, hwo⟩ : ∃ wo, wo = wr := ⟨_, rfl⟩
    subst hwo
    have HM := Lib.hid hm
    have H5 := Lib.hid h5
    have M := Lib.hid hM
    clear hm h5 hM
    by_cases hlt : q < 5
    · have KA := Lib.hid (HA0.out.below M.out.bel)
      have KB := Lib.hid (HB0.out.below M.out.bel)
      have C00 := Lib.hid (cell_of_block (j := 0) M.out.a rfl)
      have C01 := Lib.hid (cell_of_block (j := 1) M.out.a rfl)
      have C10 := Lib.hid (cell_of_block (j := 0) M.out.b rfl)
      have C11 := Lib.hid (cell_of_block (j := 1) M.out.b rfl)
      have hlv : v0.length = 5 := H5.out.len
      go_wp2_with fail
      refine Cl.region0 73 rfl [10] (fun ww => Below wo.heap.size wo ww) (fun _ => []) (fun jq v ww => match jq with | 0 => v = .slice (some ⟨G, 0, none⟩) 5 5 | 1 => v = .int .i64 (q : Int) | 2 => v = .agg #[.slice xa a.vec.length ca, .slice ya a.more.length da] | 3 => v = .int .i64 (q : Int) | 4 => v = .int .i64 (vecAt a.vec q) | 5 => v = .agg #[.slice xb b.vec.length cb, .slice yb b.more.length db] | 6 => v = .int .i64 (q : Int) | 7 => v = .int .i64 (vecAt b.vec q) | 8 => v = .int .i64 (min (vecAt a.vec q) (vecAt b.vec q)) | 9 => v = .pointer (some ⟨G, q, none⟩) | 10 => ∃ wz, Below wo.heap.size wo wz ∧ Below (wz.setCell ⟨G, q, none⟩ (.int .i64 (min (vecAt a.vec q) (vecAt b.vec q)))).heap.size (wz.setCell ⟨G, q, none⟩ (.int .i64 (min (vecAt a.vec q) (vecAt b.vec q)))) ww | _ => True) (fun ww => True) (fun jq ww ww' => jq ≠ 10 → Below ww.heap.size ww ww') Try.mixed (by decide +kernel) trivial ((Below.refl _ _).drew) ?_ (fun jq ww ww' hk h hR => bstep h (hR (by simpa using hk))) ?_ ?_
      · intro q r v w w' hne hk hlt h hR
        match r, hk, hlt, h, hne with
        | 0, _, _, h, _ => exact h
        | 1, _, _, h, _ => exact h
        | 2, _, _, h, _ => exact h
        | 3, _, _, h, _ => exact h
        | 4, _, _, h, _ => exact h
        | 5, _, _, h, _ => exact h
        | 6, _, _, h, _ => exact h
        | 7, _, _, h, _ => exact h
        | 8, _, _, h, _ => exact h
        | 9, _, _, h, _ => exact h
        | 10, _, _, h, hne => obtain ⟨wz, h1, h2⟩ := h; exact ⟨wz, h1, bstep h2 (hR (by exact hne))⟩
        | _ + 11, _, _, _, _ => trivial
      · refine ⟨?_, ?_, ?_, ?_, ?_, ?_, ?_, ?_, ?_, ?_, ?_, trivial⟩
        · intro x wx hG
          have f7 := hG.old 7 (by decide +kernel)
          have hp := hG.pre (by decide +kernel)
          have hg := hG.good
          clear hG
          have hg := hp
          go_wp2
          exact ⟨_, rfl, rfl, trivial, fun _ => Below.refl _ _⟩
        · intro x wx hG
          have f9 := hG.old 9 (by decide +kernel)
          have hp := hG.pre (by decide +kernel)
          have hg := hG.good
          clear hG
          have hg := hp
          go_wp2
          exact ⟨_, rfl, rfl, trivial, fun _ => Below.refl _ _⟩
        · intro x wx hG
          have f2 := hG.old 2 (by decide +kernel)
          have hp := hG.pre (by decide +kernel)
          have hg := hG.good
          clear hG
          have hg := hp
          have c_C00 := ckeep hg C00.out
          have c_C01 := ckeep hg C01.out
          go_wp2
          exact ⟨_, rfl, rfl, trivial, fun _ => Below.refl _ _⟩
        · intro x wx hG
          have f9 := hG.old 9 (by decide +kernel)
          have hp := hG.pre (by decide +kernel)
          have hg := hG.good
          clear hG
          have hg := hp
          go_wp2
          exact ⟨_, rfl, rfl, trivial, fun _ => Below.refl _ _⟩
        · intro x wx hG
          have g2 : (x.tmps.getD 27 undef) = .agg #[.slice xa a.vec.length ca, .slice ya a.more.length da] := hG.claims 2 _ rfl (by decide +kernel) (by decide +kernel)
          have g3 : (x.tmps.getD 28 undef) = .int .i64 (q : Int) := hG.claims 3 _ rfl (by decide +kernel) (by decide +kernel)
          have hp := hG.pre (by decide +kernel)
          have hg := hG.good
          clear hG
          have hg := hp
          go_wp2_with fail
          (with_reducible refine (vec_c _ _ _ _ _ (KA.out.below hp).vec (Int.natCast_nonneg q)).mono ?_)
          rintro e wq ⟨rfl, hb⟩
          go_wp2
          exact ⟨_, rfl, rfl, trivial, fun _ => hb⟩
        · intro x wx hG
          have f3 := hG.old 3 (by decide +kernel)
          have hp := hG.pre (by decide +kernel)
          have hg := hG.good
          clear hG
          have hg := hp
          have c_C10 := ckeep hg C10.out
          have c_C11 := ckeep hg C11.out
          go_wp2
          exact ⟨_, rfl, rfl, trivial, fun _ => Below.refl _ _⟩
        · intro x wx hG
          have f9 := hG.old 9 (by decide +kernel)
          have hp := hG.pre (by decide +kernel)
          have hg := hG.good
          clear hG
          have hg := hp
          go_wp2
          exact ⟨_, rfl, rfl, trivial, fun _ => Below.refl _ _⟩
        · intro x wx hG
          have g5 : (x.tmps.getD 30 undef) = .agg #[.slice xb b.vec.length cb, .slice yb b.more.length db] := hG.claims 5 _ rfl (by decide +kernel) (by decide +kernel)
          have g6 : (x.tmps.getD 31 undef) = .int .i64 (q : Int) := hG.claims 6 _ rfl (by decide +kernel) (by decide +kernel)
          have hp := hG.pre (by decide +kernel)
          have hg := hG.good
          clear hG
          have hg := hp
          go_wp2_with fail
          (with_reducible refine (vec_c _ _ _ _ _ (KB.out.below hp).vec (Int.natCast_nonneg q)).mono ?_)
          rintro e wq ⟨rfl, hb⟩
          go_wp2
          exact ⟨_, rfl, rfl, trivial, fun _ => hb⟩
        · intro x wx hG
          have g4 : (x.tmps.getD 29 undef) = .int .i64 (vecAt a.vec q) := hG.claims 4 _ rfl (by decide +kernel) (by decide +kernel)
          have g7 : (x.tmps.getD 32 undef) = .int .i64 (vecAt b.vec q) := hG.claims 7 _ rfl (by decide +kernel) (by decide +kernel)
          have hp := hG.pre (by decide +kernel)
          have hg := hG.good
          clear hG
          have hg := hp
          go_wp2
          exact ⟨_, rfl, rfl, trivial, fun _ => Below.refl _ _⟩
        · intro x wx hG
          have g0 : (x.tmps.getD 25 undef) = .slice (some ⟨G, 0, none⟩) 5 5 := hG.claims 0 _ rfl (by decide +kernel) (by decide +kernel)
          have g1 : (x.tmps.getD 26 undef) = .int .i64 (q : Int) := hG.claims 1 _ rfl (by decide +kernel) (by decide +kernel)
          have hp := hG.pre (by decide +kernel)
          have hg := hG.good
          clear hG
          have hg := hp
          go_wp2
          exact ⟨_, rfl, rfl, trivial, fun _ => Below.refl _ _⟩
        · intro x wx hG
          have g9 : (x.tmps.getD 34 undef) = .pointer (some ⟨G, q, none⟩) := hG.claims 9 _ rfl (by decide +kernel) (by decide +kernel)
          have g8 : (x.tmps.getD 33 undef) = .int .i64 (min (vecAt a.vec q) (vecAt b.vec q)) := hG.claims 8 _ rfl (by decide +kernel) (by decide +kernel)
          have hp := hG.pre (by decide +kernel)
          have hg := hG.good
          clear hG
          have hg := hp
          have hR := below_keep hp M.out.g
          have r0 := cell_of_block (j := q) hR (intsC_get (by omega))
          have f0 := free_of_block (j := q) hR
          have hRl := hlt_of hR
          have HP := Lib.hid hp
          clear hR hp
          go_wp2
          exact ⟨undef, rfl, ⟨_, HP.out, Below.refl _ _⟩, trivial, fun h => absurd rfl h⟩
      · intro vals w3 hg hF
        obtain ⟨g0, g1, g2, g3, g4, g5, g6, g7, g8, g9, g10, -⟩ := hF
        have e0 : vals 0 = .slice (some ⟨G, 0, none⟩) 5 5 := g0 rfl
        have e1 : vals 1 = .int .i64 (q : Int) := g1 rfl
        have e2 : vals 2 = .agg #[.slice xa a.vec.length ca, .slice ya a.more.length da] := g2 rfl
        have e3 : vals 3 = .int .i64 (q : Int) := g3 rfl
        have e4 : vals 4 = .int .i64 (vecAt a.vec q) := g4 rfl
        have e5 : vals 5 = .agg #[.slice xb b.vec.length cb, .slice yb b.more.length db] := g5 rfl
        have e6 : vals 6 = .int .i64 (q : Int) := g6 rfl
        have e7 : vals 7 = .int .i64 (vecAt b.vec q) := g7 rfl
        have e8 : vals 8 = .int .i64 (min (vecAt a.vec q) (vecAt b.vec q)) := g8 rfl
        have e9 : vals 9 = .pointer (some ⟨G, q, none⟩) := g9 rfl
        replace g10 : ∃ wz, Below wo.heap.size wo wz ∧ Below (wz.setCell ⟨G, q, none⟩ (.int .i64 (min (vecAt a.vec q) (vecAt b.vec q)))).heap.size (wz.setCell ⟨G, q, none⟩ (.int .i64 (min (vecAt a.vec q) (vecAt b.vec q)))) w3 := g10 rfl
        simp only [Cl.puts, e0, e1, e2, e3, e4, e5, e6, e7, e8, e9]
        clear e0 e1 e2 e3 e4 e5 e6 e7 e8 e9 g0 g1 g2 g3 g4 g5 g6 g7 g8 g9
        go_simp
        obtain ⟨wz, h1, h2⟩ := g10
        have hsl : wo.heap.size ≤ w3.heap.size := by have := h1.size; have := h2.size; simp at *; omega
        have hV5 : V5 (v0.set q (min (vecAt a.vec q) (vecAt b.vec q))) := H5.out.set q (by have := (OA.out.1.vec_bd q).1; have := (OB.out.1.vec_bd q).1; omega) (by have := (OA.out.1.vec_bd q).2; omega)
        have hVM : ∀ s : Int, 0 ≤ s → s < 5 → vecAt (v0.set q (min (vecAt a.vec q) (vecAt b.vec q))) s = if s < ((q + 1 : Nat) : Int) then min (vecAt a.vec s) (vecAt b.vec s) else 0 := by
          intro s h0 h5
          have e := vecAt_set (v := v0) (s := (q : Int)) (r := s) (x := min (vecAt a.vec q) (vecAt b.vec q)) (by omega) (by omega) h0
          rw [Int.toNat_natCast] at e
          rw [e]
          by_cases e1 : s = q
          · subst e1; rw [if_pos rfl, if_pos (by omega)]
          · rw [if_neg e1, HM.out s h0 h5]
            by_cases e2 : s < q
            · rw [if_pos e2, if_pos (by omega)]
            · rw [if_neg e2, if_neg (by omega)]
        have M1 := Lib.hid (((M.out.below h1).setG q (min (vecAt a.vec q) (vecAt b.vec q))).below h2)
        have H5N := Lib.hid hV5
        have HMN := Lib.hid hVM
        generalize v0.set q (min (vecAt a.vec q) (vecAt b.vec q)) = v1 at *
        clear h1 h2 hV5 hVM HM H5 M KA KB C00 C01 C10 C11 hlv v0
        have r0 := cell_of_block (j := 1) M1.out.a rfl
        have r1 := cell_of_block (j := 1) M1.out.b rfl
        have HA9 := Lib.hid (HA0.out.below (M1.out.alloc (.cells #[.slice ya a.more.length da, .slice yb b.more.length db] 23)).bel).more
        have HB9 := Lib.hid (HB0.out.below (M1.out.alloc (.cells #[.slice ya a.more.length da, .slice yb b.more.length db] 23)).bel).more
        have M2 := Lib.hid (M1.out.alloc (.cells #[.slice ya a.more.length da, .slice yb b.more.length db] 23))
        have HR9 := Lib.hid (rowsLit2 w3 (.slice ya a.more.length da) (.slice yb b.more.length db) a.more.length b.more.length (spansCells a.more) (spansCells b.more) 23 w3.heap.size rfl HA9.out HB9.out)
        clear HA9 HB9
        go_wp2_with fail
        (with_reducible refine (concat2o _ _ _ a b _ HR9.out OA.out OB.out).mono ?_)
        rintro e w4 ⟨cv, rfl, ho4, hb4⟩
        have M3 := Lib.hid (M2.out.fresh hb4 (Nat.le_refl _) ho4)
        obtain ⟨za, zc, hz⟩ := owns_slice ho4
        subst hz
        obtain ⟨es, hes⟩ : ∃ es : Dots, es = a.more ++ b.more := ⟨_, rfl⟩
        have HQ := Lib.hid (show meetD a b (q + 1) = meetD a b q ++ es.filter (meetSel a b q) by rw [hes]; rfl)
        have hel : es.length ≤ 120 := by rw [hes, List.length_append]; have := OA.out.2; have := OB.out.2; omega
        have HDS := Lib.hid (show ∀ d ∈ es, dotOk d = true by intro d hd; rw [hes] at hd; exact (List.mem_append.1 hd).elim (fun h => (OA.out.1.dots d h).1) (fun h => (OB.out.1.dots d h).1))
        have HML := Lib.hid (meetD_len a b OA.out.2 OB.out.2 q)
        rw [← hes] at M3 ⊢
        clear hb4 ho4 M1 M2 HR9 r0 r1 hes es0 cv0 hsl
        go_wp2
        go_loopw [8, 42] (fun dv i wr => ∃ (j : Nat), j ≤ es.length ∧ i = .int .i64 j ∧ MtSt w wr G (.slice xa a.vec.length ca) (.slice ya a.more.length da) (.slice xb b.vec.length cb) (.slice yb b.more.length db) v1 (meetD a b q ++ (es.take j).filter (meetSel a b q)) es dv (.slice za es.length zc)) (fun _ i _ => es.length - (intOf i).toNat)
        case atStart => exact ⟨0, Nat.zero_le _, rfl, by simpa using M3.out⟩
        case round =>
          clear M3
          obtain ⟨j, hj, rfl, hM⟩ := hrel
          have M := Lib.hid hM
          clear hM
          by_cases hlj : j < es.length
          · obtain ⟨bb, cap, hvz, c1, c2⟩ := row_cell M.out.row hlj
            simp only [Value.slice.injEq, true_and] at hvz
            obtain ⟨rfl, rfl⟩ := hvz
            obtain ⟨ea, ec, hq8⟩ := owns_slice M.out.own
            have HT := Lib.hid (show meetD a b q ++ (es.take (j + 1)).filter (meetSel a b q) = if meetSel a b q es[j] = true then (meetD a b q ++ (es.take j).filter (meetSel a b q)) ++ [es[j]] else meetD a b q ++ (es.take j).filter (meetSel a b q) by
              rw [List.take_succ_eq_append_getElem hlj, List.filter_append]
              by_cases h : meetSel a b q es[j] = true
              · rw [if_pos h, List.filter_cons_of_pos h, List.filter_nil, List.append_assoc]
              · rw [if_neg h, List.filter_cons_of_neg h, List.filter_nil, List.append_nil])
            have hdl : (meetD a b q ++ (es.take j).filter (meetSel a b q)).length ≤ 120 * q + j := by
              have h1 := HML.out
              have h2 := List.length_filter_le (meetSel a b q) (es.take j)
              rw [List.length_take] at h2
              rw [List.length_append]; omega
            obtain ⟨⟨d0, d5⟩, d1, d2⟩ := dotOk_iff.1 (HDS.out es[j] (List.getElem_mem hlj))
            have HBD := Lib.hid (dotBd_of (l := [es[j]]) fun d hx => by simp only [List.mem_singleton] at hx; rw [hx]; exact HDS.out _ (List.getElem_mem hlj))
            generalize es[j] = d at *
            obtain ⟨s, c⟩ := d
            simp only at c1 c2 d0 d5 d1 d2
            generalize meetD a b q ++ (es.take j).filter (meetSel a b q) = ds at *
            subst hq8
            have MA := Lib.hid (M.out.alloc (.cells #[.int .i64 s, .int .i64 c] 27))
            have x0 := cat wr #[.int .i64 s, .int .i64 c] 27 0 _ rfl _ rfl
            have x1 := cat wr #[.int .i64 s, .int .i64 c] 27 1 _ rfl _ rfl
            have a0 := cell_of_block (j := 0) MA.out.a rfl
            have a1 := cell_of_block (j := 1) MA.out.a rfl
            have b0 := cell_of_block (j := 0) MA.out.b rfl
            have b1 := cell_of_block (j := 1) MA.out.b rfl
            by_cases hsq : s = q
            · subst hsq
              have KA := Lib.hid (HA0.out.below MA.out.bel)
              have hjb : bb < wr.heap.size := (M.out.row.lt bb rfl).2
              clear M
              go_wp2_with fail
              (with_reducible refine (knIn_c _ _ a (q : Int) c _ KA.out d0 OA.out.1.ord (dotBd_of fun d hd => (OA.out.1.dots d hd).1) HBD.out).mono ?_)
              rintro e w5 ⟨rfl, hb5⟩
              have MB := Lib.hid (MA.out.below hb5)
              have x0' := ckeep hb5 x0
              have x1' := ckeep hb5 x1
              clear x0 x1 a0 a1 b0 b1 KA
              cases hka : knIn a (q : Int) c
              · have HSEL := Lib.hid hka
                have MX := MB
                clear hka MA MB
                go_wp2
                go_roundw
                case rel =>
                  refine ⟨j + 1, hlj, by go_num, ?_⟩
                  rw [HT.out, if_neg (by unfold meetSel; simp [HSEL.out])]
                  exact MX.out
                case measure => simp [intOf]; omega
              have b0 := cell_of_block (j := 0) MB.out.b rfl
              have b1 := cell_of_block (j := 1) MB.out.b rfl
              have KB := Lib.hid (HB0.out.below MB.out.bel)
              have HKA := Lib.hid hka
              clear hka MA
              go_wp2_with fail
              (with_reducible refine (knIn_c _ _ b (q : Int) c _ KB.out d0 OB.out.1.ord (dotBd_of fun d hd => (OB.out.1.dots d hd).1) HBD.out).mono ?_)
              rintro e w6 ⟨rfl, hb6⟩
              have MC := Lib.hid (MB.out.below hb6)
              have x0 := ckeep hb6 x0'
              have x1 := ckeep hb6 x1'
              clear x0' x1' b0 b1 KB MB
              cases hkb : knIn b (q : Int) c
              · have HSEL := Lib.hid hkb
                have MX := MC
                clear hkb MC
                go_wp2
                go_roundw
                case rel =>
                  refine ⟨j + 1, hlj, by go_num, ?_⟩
                  rw [HT.out, if_neg (by unfold meetSel; simp [HSEL.out])]
                  exact MX.out
                case measure => simp [intOf]; omega
              have HSEL := Lib.hid (show meetSel a b q ((q : Int), c) = true by simp [meetSel, HKA.out, hkb])
              have MD := Lib.hid (MC.out.alloc (.cells #[.int .i64 (q : Int), .int .i64 c] 27))
              have HOWN := Lib.hid MD.out.own
              have hsz := MD.out.bel.size
              have ROW := Lib.hid (fun j u (hj : ([.int .i64 (q : Int), .int .i64 c] : List Value)[j]? = some u) => (show (w6.alloc (.cells #[.int .i64 (q : Int), .int .i64 c] 27)).cell? ((⟨w6.heap.size, 0, none⟩ : Addr).add j) = some u by
                rw [show (⟨w6.heap.size, 0, none⟩ : Addr).add j = ⟨w6.heap.size, j, none⟩ from by simp [Addr.add]; exact fun h => h.symm, World.cell?_alloc_at _ _ _ _ rfl]; simpa using hj))
              clear hkb MC
              go_wp2_with (at_builtin; refine wpList_append_own' rfl (.tmp 60) (.tmp 62) 23 rfl w.heap.size 27 _ 2 16 Try.underlying23 DcTy.info rfl (by decide) _ ds.length _ rfl HOWN.out _ 1 1 [.int .i64 (q : Int), .int .i64 c] rfl rfl ROW.out (by intro u hu; simp at hu; rcases hu with rfl | rfl <;> rfl) (by unfold maxLen; omega) (by omega) hsz ?_)
              intro v' w7 ho hgr hwh
              obtain ⟨qa, qc, hq⟩ := owns_slice ho
              subst hq
              have HP := Lib.hid (MD.out.push (d := ((q : Int), c)) ho hgr (by rw [World.size_alloc]; exact hwh))
              clear ho hgr hwh HOWN ROW MD x0 x1 hsz
              go_wp2
              go_roundw
              case rel =>
                refine ⟨j + 1, hlj, by go_num, ?_⟩
                rw [HT.out, if_pos HSEL.out]
                exact HP.out
              case measure => simp [intOf]; omega
            · have hsq' : (s == (q : Int)) = false := by simp [hsq]
              have HSEL := Lib.hid hsq
              have MX := MA
              clear MA M a0 a1 b0 b1
              go_wp2
              go_roundw
              case rel =>
                refine ⟨j + 1, hlj, by go_num, ?_⟩
                rw [HT.out, if_neg (by unfold meetSel; simp [HSEL.out])]
                exact MX.out
              case measure => simp [intOf]; omega
          · obtain rfl : j = es.length := by omega
            have hts : (es.take es.length) = es := List.take_length
            have my := M.out
            rw [hts, ← HQ.out] at my
            have MY := Lib.hid my
            obtain ⟨ea, ec, hq8⟩ := owns_slice MY.out.own
            subst hq8
            clear M HQ hts my
            go_wp2
            go_roundw
            case rel => exact ⟨q + 1, v1, es, _, hlt, by go_num, H5N.out, HMN.out, MY.out⟩
            case measure => simp [intOf]; omega
    · obtain rfl : q = 5 := by omega
      have hq5 : ((5 : Nat) : Int) = 5 := rfl
      obtain ⟨ea, ec, hq8⟩ := owns_slice M.out.own
      subst hq8
      have hdl := meetD_len a b OA.out.2 OB.out.2 5
      have MA := Lib.hid (M.out.alloc (.cells #[.slice (some ⟨G, 0, none⟩) 5 5] 22))
      have hv5 := H5.out.len
      have HV1 := Lib.hid (rowOf1 (t := 22) (l := v0) (alloc_new wo _ _ _ rfl) (show IsAt (wo.alloc (.cells #[.slice (some ⟨G, 0, none⟩) 5 5] 22)) (.slice (some ⟨G, 0, none⟩) 5 5) v0 by
        unfold IsAt
        rw [hv5]
        exact CellsAt.mk (Nat.le_refl _) (by decide) (hlt_of MA.out.g) fun j x hj => by rw [Nat.zero_add]; exact cell_of_block (cs := (intsC v0).toArray) MA.out.g (by simpa using hj)))
      have HD := Lib.hid (show DsAt (wo.alloc (.cells #[.slice (some ⟨G, 0, none⟩) 5 5] 22)) (.slice ea (meetD a b 5).length ec) (meetD a b 5) from CellsAt.of_owns MA.out.own (by omega))
      have HVO := Lib.hid (show ∀ l ∈ [v0], vecOk l by intro l hl; simp only [List.mem_singleton] at hl; rw [hl]; exact ⟨by omega, H5.out.bd⟩)
      have HME := Lib.hid (meet_mem OA.out.1 OB.out.1 (v := v0) fun s h0 h5 => by rw [HM.out s h0 h5, if_pos (by omega)])
      clear M HM H5
      go_wp2_with fail
      (with_reducible refine (made_f _ _ _ _ (andK (knIn a) (knIn b)) _ HV1.out HD.out HVO.out (meetD_ok OA.out.1 OB.out.1 5) (by omega) HME.out).mono ?_)
      rintro e w5 ⟨x5, y5, rfl, ho5, hb5⟩
      have MB := Lib.hid (MA.out.below hb5)
      have HO5 := Lib.hid (ho5.mono (base' := w.heap.size) (Nat.le_trans MA.out.bel.size (Nat.le_refl _)))
      clear ho5 hb5 MA HV1 HD HVO HME
      go_wp2_with fail
      (with_reducible refine (ktold_c _ _ _ _ _ HO5.out (by have := formM_len (andK (knIn a) (knIn b)); omega)).mono ?_)
      rintro e w6 ⟨x6, y6, rfl, hk6, hb6⟩
      have MC := Lib.hid (MB.out.below hb6)
      obtain ⟨qa, qn, qc, qb, qm, qd, hq1, hq2⟩ := hk6.shape
      subst hq1 hq2
      have r0 := cell_of_block (j := 0) MC.out.r rfl
      have r1 := cell_of_block (j := 1) MC.out.r rfl
      have f0 := free_of_block (j := 0) MC.out.r
      have f1 := free_of_block (j := 1) MC.out.r
      have hRl := hlt_of MC.out.r
      have H6 := Lib.hid hk6
      have HBL := Lib.hid MC.out.bel
      have HR := Lib.hid MC.out.r
      clear hk6 hb6 MB MC
      go_wp2
      refine bodyPost_ret (v := .tuple #[.agg #[_, _], _]) (by simp [results, Try.results9, go_sem, *]; exact ⟨⟨rfl, rfl⟩, rfl⟩) rfl ?_
      exact ⟨_, _, by rw [HE.out], by rw [HE.out]; exact (H6.out.set HR.out).set (heap_set_same HR.out), (HBL.out.setCell (by simp) _).setCell (by simp) _⟩
end Go.Proofs.Ytboakoipdfmpcaa
namespace Go.Proofs.Ytboakoipdfmpcaa
open Go.RowKit
theorem ints1 {w : World} {g : Nat} {l : List Int} {t : TypeId} (h : w.heap[g]? = some (Obj.cells (intsC l).toArray t (0, 0))) (hl : l.length ≤ 1000) : IsAt w (.slice (some ⟨g, 0, none⟩) l.length l.length) l :=
  CellsAt.mk (Nat.le_refl _) (by omega) (hlt_of h) fun j x hj => by rw [Nat.zero_add]; exact cell_of_block h (by simpa using hj)
theorem dots1 {w : World} {g : Nat} {l : Dots} {t : TypeId} (h : w.heap[g]? = some (Obj.cells (spansCells l).toArray t (0, 0))) (hl : l.length ≤ 1000) : DsAt w (.slice (some ⟨g, 0, none⟩) l.length l.length) l :=
  CellsAt.mk (Nat.le_refl _) (by omega) (hlt_of h) fun j x hj => by rw [Nat.zero_add]; exact cell_of_block h (by simpa using hj)
end Go.Proofs.Ytboakoipdfmpcaa
