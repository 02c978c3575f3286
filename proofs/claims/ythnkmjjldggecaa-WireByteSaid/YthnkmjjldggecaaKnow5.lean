/- What know.Made does. -/
import Derived.Test.YthnkmjjldggecaaMPure
import Derived.Test.YthnkmjjldggecaaKnow2
import Derived.Test.YthnkmjjldggecaaMElt
import Derived.Test.YthnkmjjldggecaaMClone
import Derived.Test.YthnkmjjldggecaaKnowSort
namespace Go.Proofs.Ythnkmjjldggecaa
open Go.RowKit
/-- Slices of slices of integers. -/
def vecE : Elt (List Int) where
  size := 1
  El w a cs := ∃ u, cs = [u] ∧ IsAt w u a
  len := by rintro w a cs ⟨u, rfl, -⟩; rfl
  one := by
    rintro w a cs ⟨u, rfl, h⟩ z hz
    simp only [List.mem_singleton] at hz
    subst hz
    obtain ⟨x, c, rfl⟩ := h.shape; rfl
  sub := by rintro w w' a cs ⟨u, rfl, h⟩ hs; exact ⟨u, rfl, h.sub hs⟩
  pos := by decide
theorem vecAt_nat {v : List Int} {j : Nat} (h : j < v.length) : vecAt v (j : Int) = v[j] := by
  unfold vecAt; rw [Int.toNat_natCast, List.getD_eq_getElem?_getD, List.getElem?_eq_getElem h]; rfl
theorem vecAt_out {v : List Int} {s : Int} (h : v.length ≤ s) : vecAt v s = 0 := by
  unfold vecAt; rw [List.getD_eq_getElem?_getD, List.getElem?_eq_none (by omega)]; rfl
/-- The vector on the way: five counts, each in its bounds. -/
structure V5 (v : List Int) : Prop where
  len : v.length = 5
  bd : ∀ n ∈ v, 0 ≤ n ∧ n ≤ 1000
theorem V5.set {v : List Int} (h : V5 v) (j : Nat) {x : Int} (h0 : 0 ≤ x) (h1 : x ≤ 1000) : V5 (v.set j x) :=
  ⟨by simp [h.len], fun n hn => by rcases List.mem_or_eq_of_mem_set hn with hn | rfl; exact h.bd n hn; exact ⟨h0, h1⟩⟩
theorem V5.get {v : List Int} (h : V5 v) {j : Nat} (hj : j < 5) : 0 ≤ v[j]'(by rw [h.len]; exact hj) ∧ v[j]'(by rw [h.len]; exact hj) ≤ 1000 := h.bd _ (List.getElem_mem _)
/-- A set of dots of the call's own. -/
structure KnOwn (w : World) (base : Nat) (u v : Value) (k : Kn) : Prop where
  vec : w.ownsRow base 3 1 u k.vec.length (intsC k.vec)
  more : w.ownsRow base 92 2 v k.more.length (spansCells k.more)
theorem KnOwn.at_ {w : World} {base : Nat} {u v : Value} {k : Kn} (h : KnOwn w base u v k) (h1 : k.vec.length ≤ 5) (h2 : k.more.length ≤ 1000000) : KnAt w u v k := ⟨CellsAt.of_owns h.vec (by omega), CellsAt.of_owns h.more (by omega)⟩
theorem KnOwn.below {w w' : World} {base : Nat} {u v : Value} {k : Kn} (h : KnOwn w base u v k) (hb : Below w.heap.size w w') : KnOwn w' base u v k := ⟨owns_below h.vec hb, owns_below h.more hb⟩
theorem KnOwn.mono {w : World} {base base' : Nat} {u v : Value} {k : Kn} (h : KnOwn w base u v k) (hb : base' ≤ base) : KnOwn w base' u v k := ⟨owns_mono h.vec hb, owns_mono h.more hb⟩
theorem own_drewN {w : World} {base e size n : Nat} {v : Value} {xs : List Value} (h : w.ownsRow base e size v n xs) (k : Nat) : (w.drewN k).ownsRow base e size v n xs := h
set_option maxRecDepth 100000 in
/-- '==' on two dots. -/
theorem eqDot (a b c d : Int) (w : World) : (Op.equalIn 10000 92 (.agg #[.int .i64 a, .int .i64 b]) (.agg #[.int .i64 c, .int .i64 d])).run Try.prog w = .ok (a == c && b == d) w := by
  have u3 := Try.underlying3
  have a3 := Try.isAgg3
  have z3 := Try.sizeOf3
  rw [show (10000 : Nat) = 9999 + 1 from rfl, run_equalIn_agg w 9999 92 _ _ (by kernel_rfl) (by kernel_rfl)]
  simp only [Program.fieldsOf, Try.underlying92]
  go_simp
  by_cases h1 : a = c <;> by_cases h2 : b = d <;> simp [h1, h2]
set_option maxRecDepth 100000 in
theorem eqGuardDot : Try.prog.eqGuardType Try.prog.depth 92 = false := by kernel_rfl
/-- What stands in memory while the dots are gone through. -/
structure MSt (w wr : World) (base B3 G R O : Nat) (v : List Int) (more es : Dots) (mv v3 : Value) : Prop where
  g : wr.heap[G]? = some (Obj.cells (intsC v).toArray 3 (0, 0))
  r : wr.heap[R]? = some (Obj.cells #[.slice none 0 0, .slice none 0 0] 81 (0, 0))
  o : wr.heap[O]? = some (Obj.cells #[.slice none 0 0, mv] 81 (0, 0))
  own : wr.ownsRow B3 92 2 mv more.length (spansCells more)
  row : wr.ownsRow base 92 2 v3 es.length (spansCells es)
  low : ∀ k, v3.ownBlock = some k → k < B3
  bel : Below w.heap.size w wr
  sz : B3 ≤ wr.heap.size
section
variable {w wr : World} {base B3 G R O : Nat} {v : List Int} {more es : Dots} {mv v3 : Value}
theorem MSt.drewN (h : MSt w wr base B3 G R O v more es mv v3) (n : Nat) : MSt w (wr.drewN n) base B3 G R O v more es mv v3 :=
  ⟨h.g, h.r, h.o, own_drewN h.own n, own_drewN h.row n, h.low, below_drewN h.bel n, h.sz⟩
theorem MSt.alloc (h : MSt w wr base B3 G R O v more es mv v3) (o : Obj) : MSt w (wr.alloc o) base B3 G R O v more es mv v3 :=
  ⟨alloc_keep _ h.g, alloc_keep _ h.r, alloc_keep _ h.o, h.own.alloc _, h.row.alloc _, h.low, h.bel.alloc h.bel.size _, by have := h.sz; simp; omega⟩
theorem MSt.push {w2 : World} {mv' : Value} {d : Int × Int} (h : MSt w wr base B3 G R O v more es mv v3) (hRO : R ≠ O) (hGO : G ≠ O) (hO : w.heap.size ≤ O) (hB : w.heap.size ≤ B3) (ho : w2.ownsRow B3 92 2 mv' (more.length + 1) (spansCells more ++ [.int .i64 d.1, .int .i64 d.2])) (hg : wr.grownBy w2 mv.ownBlock) :
    MSt w (w2.setCell ⟨O, 1, none⟩ mv') base B3 G R O v (more ++ [d]) es mv' v3 := by
  have g2 := grown_keep h.own hg h.g (by decide)
  have r2 := grown_keep h.own hg h.r (by decide)
  have o2 := grown_keep h.own hg h.o (by decide)
  have row2 : w2.ownsRow base 92 2 v3 es.length (spansCells es) := h.row.kept hg (by
    cases hv : v3.ownBlock with
    | none => exact .inl rfl
    | some k => right; intro e; have h1 := h.low k hv; have h2 := (h.own.lt k e.symm).1; omega)
  refine ⟨(heap_set_other hGO).trans g2, (heap_set_other hRO).trans r2, by rw [heap_set_same o2]; rfl, ?_, own_set row2 o2 (by decide), h.low, (h.bel.grown hg h.bel.size fun k hk => by have := (h.own.lt k hk).1; omega).setCell hO _, by have := hg.size; have := h.sz; simp; omega⟩
  rw [List.length_append, spansCells_append]
  exact own_set ho o2 (by decide)
end
end Go.Proofs.Ythnkmjjldggecaa
