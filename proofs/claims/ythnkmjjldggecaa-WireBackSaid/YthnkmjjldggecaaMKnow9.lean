/- What know.Meet does. Written by a small program (gen/know9.py). Sets of dots in the laws: the functions of package know at sets whose counts are small. -/
import Derived.Test.YthnkmjjldggecaaKnow6
import Derived.Test.YthnkmjjldggecaaMElt
import Derived.Test.YthnkmjjldggecaaDots3
import Derived.Test.YthnkmjjldggecaaMKnow3
namespace Go.Proofs.Ythnkmjjldggecaa
open Go.RowKit
/-- What stands in memory while two sets are met. -/
structure MtSt (w wr : World) (G : Nat) (ua va ub vb : Value) (v : List Int) (ds es : Dots) (dv cv : Value) : Prop where
  a : wr.heap[w.heap.size]? = some (Obj.cells #[ua, va] 81 (0, 0))
  b : wr.heap[w.heap.size + 1]? = some (Obj.cells #[ub, vb] 81 (0, 0))
  r : wr.heap[w.heap.size + 2]? = some (Obj.cells #[.slice none 0 0, .slice none 0 0] 81 (0, 0))
  g : wr.heap[G]? = some (Obj.cells (intsC v).toArray 3 (0, 0))
  own : wr.ownsRow w.heap.size 92 2 dv ds.length (spansCells ds)
  row : wr.ownsRow w.heap.size 92 2 cv es.length (spansCells es)
  ne : cv.ownBlock = none ∨ cv.ownBlock ≠ dv.ownBlock
  bel : Below w.heap.size w wr
  lo : w.heap.size + 2 < G
section
variable {w wr : World} {G : Nat} {ua va ub vb : Value} {v : List Int} {ds es : Dots} {dv cv : Value}
theorem MtSt.below {w2 : World} (h : MtSt w wr G ua va ub vb v ds es dv cv) (hb : Below wr.heap.size wr w2) : MtSt w w2 G ua va ub vb v ds es dv cv :=
  ⟨below_keep hb h.a, below_keep hb h.b, below_keep hb h.r, below_keep hb h.g, owns_below h.own hb, owns_below h.row hb, h.ne, h.bel.trans (hb.mono h.bel.size), h.lo⟩
theorem MtSt.drewN (h : MtSt w wr G ua va ub vb v ds es dv cv) (n : Nat) : MtSt w (wr.drewN n) G ua va ub vb v ds es dv cv := h.below (below_drewN (Below.refl _ _) n)
theorem MtSt.alloc (h : MtSt w wr G ua va ub vb v ds es dv cv) (o : Obj) : MtSt w (wr.alloc o) G ua va ub vb v ds es dv cv := h.below (bal _)
theorem MtSt.setG (h : MtSt w wr G ua va ub vb v ds es dv cv) (j : Nat) (x : Int) : MtSt w (wr.setCell ⟨G, j, none⟩ (.int .i64 x)) G ua va ub vb (v.set j x) ds es dv cv :=
  have := h.lo
  ⟨(heap_set_other (by omega)).trans h.a, (heap_set_other (by omega)).trans h.b, (heap_set_other (by omega)).trans h.r, by rw [heap_set_same h.g, intsC_set], own_set h.own h.g (by decide), own_set h.row h.g (by decide), h.ne, h.bel.setCell (by show w.heap.size ≤ G; omega) _, h.lo⟩
theorem MtSt.push {w2 : World} {dv' : Value} {d : Int × Int} (h : MtSt w wr G ua va ub vb v ds es dv cv) (ho : w2.ownsRow w.heap.size 92 2 dv' (ds.length + 1) (spansCells ds ++ [.int .i64 d.1, .int .i64 d.2])) (hg : wr.grownBy w2 dv.ownBlock)
    (hw : dv'.ownBlock = dv.ownBlock ∨ dv'.ownBlock = some wr.heap.size) : MtSt w w2 G ua va ub vb v (ds ++ [d]) es dv' cv := by
  obtain ⟨q1, q2⟩ := own_apart h.row h.own ho hg hw h.ne
  refine ⟨grown_keep h.own hg h.a (by decide), grown_keep h.own hg h.b (by decide), grown_keep h.own hg h.r (by decide), grown_keep h.own hg h.g (by decide), ?_, q1, q2, h.bel.grown hg h.bel.size fun k hk => (h.own.lt k hk).1, h.lo⟩
  rw [List.length_append, spansCells_append]
  exact ho
end
end Go.Proofs.Ythnkmjjldggecaa
namespace Go.Proofs.Ythnkmjjldggecaa
open Go.RowKit
/-- All counts are 12 at most. -/
def Sm (P : DPred) : Prop := ∀ s c : Int, 0 ≤ s → s < 5 → 1 ≤ c → c ≤ 1000 → P s c = true → c ≤ 12
theorem Sm.or {P Q : DPred} (h : Sm P) (k : Sm Q) : Sm (orK P Q) := by
  intro s c h0 h5 h1 h2 hp
  simp only [orK, Bool.or_eq_true] at hp
  exact hp.elim (h s c h0 h5 h1 h2) (k s c h0 h5 h1 h2)
theorem Sm.and {P Q : DPred} (h : Sm P) : Sm (andK P Q) := by
  intro s c h0 h5 h1 h2 hp
  simp only [andK, Bool.and_eq_true] at hp
  exact h s c h0 h5 h1 h2 hp.1
theorem setP_sm (ls : List (List Int)) : Sm (setP ls) := by
  intro s c h0 h5 h1 h2 hp
  rw [setP_mem ls h0 h1 h2, decide_eq_true_eq] at hp
  unfold setDs at hp
  obtain ⟨x, -, hx⟩ := List.mem_filterMap.1 hp
  have := rowDot_bd hx
  simp only at this
  omega
theorem restOf_small (p : Nat → Bool) (h : ∀ c, 1 ≤ c → c ≤ 1000 → p c = true → c ≤ 12) : (restOf p).length ≤ 11 := by
  have hs : (restOf p).Sublist (List.range' 2 11) := by
    have e : List.range 1001 = [0, 1] ++ (List.range' 2 11 ++ List.range' 13 988) := by
      have h1 := List.range'_append_1 (s := 2) (m := 11) (n := 988)
      have h2 := List.range'_append_1 (s := 0) (m := 2) (n := 999)
      rw [List.range_eq_range']
      rw [show List.range' 13 988 = List.range' (2 + 11) 988 from rfl, h1]
      exact h2.symm
    unfold restOf
    rw [e, List.filter_append, List.filter_append]
    have h1 : [0, 1].filter (fun c => decide (vecOf p + 2 ≤ c) && p c) = [] := by
      rw [List.filter_eq_nil_iff]
      intro a ha
      simp only [List.mem_cons, List.not_mem_nil, or_false] at ha
      simp only [Bool.and_eq_true, decide_eq_true_eq, not_and]
      intro h; omega
    have h2 : (List.range' 13 988).filter (fun c => decide (vecOf p + 2 ≤ c) && p c) = [] := by
      rw [List.filter_eq_nil_iff]
      intro a ha
      obtain ⟨x, hx, rfl⟩ := List.mem_range'.1 ha
      simp only [Bool.and_eq_true, decide_eq_true_eq, not_and]
      intro _ hp
      have := h _ (by omega) (by omega) hp
      omega
    rw [h1, h2, List.nil_append, List.append_nil]
    exact List.filter_sublist
  have := hs.length_le
  rw [List.length_range'] at this
  exact this
theorem sum5b {a b c d e : Nat} (h0 : a ≤ 11) (h1 : b ≤ 11) (h2 : c ≤ 11) (h3 : d ≤ 11) (h4 : e ≤ 11) : a + (b + (c + (d + (e + 0)))) ≤ 60 := by omega
theorem small_len {P : DPred} (h : Sm P) : (formK P).more.length ≤ 60 := by
  rw [formK_more]
  unfold formM
  have e : List.range 5 = [0, 1, 2, 3, 4] := rfl
  rw [e]
  simp only [List.flatMap_cons, List.flatMap_nil, List.length_append, List.length_nil, List.length_map]
  have r : ∀ s : Nat, s < 5 → (restOf fun (c : Nat) => P s c).length ≤ 11 := fun s hs => restOf_small _ fun c h1 h2 hp => by have := h s c (by omega) (by omega) (by omega) (by omega) hp; omega
  exact sum5b (r 0 (by decide)) (r 1 (by decide)) (r 2 (by decide)) (r 3 (by decide)) (r 4 (by decide))
theorem chk_small {P : DPred} (h : Sm P) : knChk (formK P) = 0 := knChk_zero.2 ⟨formK_ok P, small_len h⟩
open Classical in
open Classical in
/-- A set of dots in memory. -/
structure KV (w : World) (u v : Value) (P : DPred) : Prop where
  at_ : KnAt w u v (formK P)
  sm : Sm P
theorem KV.below {w w' : World} {u v : Value} {P : DPred} (h : KV w u v P) (hb : Below w.heap.size w w') : KV w' u v P := ⟨h.at_.below hb, h.sm⟩
end Go.Proofs.Ythnkmjjldggecaa
