/- What KnowOwn's loops hold. No walk here. -/
import Derived.Test.YtboakoipdfmpcaaKnowOwn1
import Derived.Test.YtboakoipdfmpcaaMCl3
import Derived.Test.YtboakoipdfmpcaaMPart5
namespace Go.Proofs.Ytboakoipdfmpcaa
open Go.RowKit
def Kz.cells (z : Kz) : List Value := [z.u, z.x]
namespace Ko
abbrev BTy : TypeId := 28
abbrev PTy : TypeId := 33
/-- While knows and fs are gathered: k parts were read. -/
structure Ga (W w : World) (K0 : List Kz) (Z : List Pz) (k : Nat) (cv kv fv : Value) : Prop where
  bel : Below W.heap.size W w
  crow : w.ownsRow W.heap.size PTy 3 cv Z.length (Z.map Pz.cells).flatten
  krow : w.ownsRow W.heap.size KTy 2 kv (K0.length + k) ((K0 ++ (Z.take k).map Pz.kz).map Kz.cells).flatten
  frow : w.ownsRow W.heap.size BTy 1 fv k ((Z.take k).map Pz.f)
theorem Ga.step {W w : World} {K0 : List Kz} {Z : List Pz} {k : Nat} {cv kv fv : Value} (hk : k < Z.length) (hb : Below W.heap.size W w) (h1 : w.ownsRow W.heap.size PTy 3 cv Z.length (Z.map Pz.cells).flatten)
    (h2 : w.ownsRow W.heap.size KTy 2 kv (K0.length + k + 1) (((K0 ++ (Z.take k).map Pz.kz).map Kz.cells).flatten ++ [Z[k].u, Z[k].x])) (h3 : w.ownsRow W.heap.size BTy 1 fv (k + 1) ((Z.take k).map Pz.f ++ [Z[k].f])) : Ga W w K0 Z (k + 1) cv kv fv := by
  refine ⟨hb, h1, ?_, ?_⟩
  · have e : K0 ++ (Z.take (k + 1)).map Pz.kz = (K0 ++ (Z.take k).map Pz.kz) ++ [Z[k].kz] := by
      rw [List.take_succ_eq_append_getElem hk, List.map_append, List.append_assoc]; rfl
    rw [e, List.map_append, List.flatten_append]
    exact h2
  · rw [List.take_succ_eq_append_getElem hk, List.map_append]
    exact h3
/-- What holds all the while, region 17. -/
structure G17 (W : World) (bk : Nat) (cs : Array Value) (cv : Value) (n : Nat) (xs : List Value) (w : World) : Prop where
  bel : Below W.heap.size W w
  blk : w.heap[bk]? = some (.cells cs PTy (0, 0))
  crow : w.ownsRow W.heap.size PTy 3 cv n xs
theorem G17.drew {W w : World} {bk n : Nat} {cs : Array Value} {cv : Value} {xs : List Value} (h : G17 W bk cs cv n xs w) : G17 W bk cs cv n xs w.drew := ⟨h.bel.drew, h.blk, h.crow⟩
theorem G17.alloc {W w : World} {bk n : Nat} {cs : Array Value} {cv : Value} {xs : List Value} (h : G17 W bk cs cv n xs w) (o : Obj) : G17 W bk cs cv n xs (w.alloc o) := ⟨h.bel.alloc h.bel.size _, alloc_keep _ h.blk, owns_below h.crow (bal _)⟩
theorem G17.app {W w w' : World} {bk n e size m : Nat} {cs : Array Value} {cv v : Value} {xs ys : List Value} (h : G17 W bk cs cv n xs w) (he : PTy ≠ e) (h1 : w.ownsRow W.heap.size e size v m ys) (h2 : w.grownBy w' v.ownBlock) : G17 W bk cs cv n xs w' :=
  ⟨h.bel.grown h2 h.bel.size fun k hk => (h1.lt k hk).1, grown_keep h1 h2 h.blk he, own_kept2 h.crow h1 he h2⟩
/-- The list of all sets, the list of all filters. -/
def kall (K0 : List Kz) (Z : List Pz) : List Kz := K0 ++ Z.map Pz.kz
def fall (Z : List Pz) : List Fz := Z.map Pz.fz
theorem Ga.done {W w : World} {K0 : List Kz} {Z : List Pz} {cv kv fv : Value} (h : Ga W w K0 Z Z.length cv kv fv) : w.ownsRow W.heap.size KTy 2 kv (kall K0 Z).length ((kall K0 Z).map Kz.cells).flatten ∧ w.ownsRow W.heap.size BTy 1 fv (fall Z).length ((fall Z).map Fz.v) := by
  have h1 := h.krow
  have h2 := h.frow
  rw [List.take_length] at h1 h2
  refine ⟨?_, ?_⟩
  · rw [show (kall K0 Z).length = K0.length + Z.length by simp [kall]]; exact h1
  · rw [show (fall Z).length = Z.length by simp [fall], show (fall Z).map Fz.v = Z.map Pz.f by simp [fall, Pz.fz]]; exact h2
/-- Both lists of parts, one behind the other. -/
theorem cat2 {w : World} {b1 b2 h1 h2 : Nat} {v1 v2 : Value} {Z1 Z2 : List Pz} {t : TypeId} (k1 : PzsAt w b1 h1 v1 Z1) (k2 : PzsAt w b2 h2 v2 Z2) :
    ∃ rs : Rows3, RowsAt (w.alloc (.cells #[v1, v2] t)) (.slice (some ⟨w.heap.size, 0, none⟩) 2 2) rs ∧ (∀ r ∈ rs, r.2.2.length = r.2.1 * 3) ∧ (∀ r ∈ rs, ∀ u ∈ r.2.2, u.oneCell' = true) ∧ tot rs = (Z1 ++ Z2).length ∧ flat rs = ((Z1 ++ Z2).map Pz.cells).flatten := by
  have a1 := CellsAt.of_owns (owns_below k1.row (bal (.cells #[v1, v2] t))) (by have := k1.len; omega)
  have a2 := CellsAt.of_owns (owns_below k2.row (bal (.cells #[v1, v2] t))) (by have := k2.len; omega)
  have one : ∀ {b h : Nat} {v : Value} {Z : List Pz}, PzsAt w b h v Z → ∀ u ∈ (Z.map Pz.cells).flatten, u.oneCell' = true := by
    intro b h v Z hz u hu
    obtain ⟨c, hc, hu⟩ := List.mem_flatten.1 hu
    obtain ⟨z, hz2, rfl⟩ := List.mem_map.1 hc
    obtain ⟨a, c, e1⟩ := (hz.fs.own z.fz (List.mem_map_of_mem hz2)).shape
    have e4 := hz.ks.own z.kz (List.mem_map_of_mem hz2)
    obtain ⟨a2, c2, e2⟩ := owns_slice e4.vec
    obtain ⟨a3, c3, e3⟩ := owns_slice e4.more
    simp only [Pz.cells, List.mem_cons, List.not_mem_nil, or_false] at hu
    have f1 : z.f = _ := e1
    have f2 : z.u = _ := e2
    have f3 : z.x = _ := e3
    rcases hu with rfl | rfl | rfl
    · rw [f1]; rfl
    · rw [f2]; rfl
    · rw [f3]; rfl
  refine ⟨_, rowsLit2 w v1 v2 _ _ _ _ t _ rfl a1 a2, fun r hr => ?_, fun r hr => ?_, by simp [tot], by simp [flat]⟩
  · simp only [List.mem_cons, List.not_mem_nil, or_false] at hr
    rcases hr with rfl | rfl
    · exact k1.row.1
    · exact k2.row.1
  · simp only [List.mem_cons, List.not_mem_nil, or_false] at hr
    rcases hr with rfl | rfl
    · exact one k1
    · exact one k2
theorem pz_get : ∀ {Z : List Pz} {k : Nat} (hk : k < Z.length), (Z.map Pz.cells).flatten[k * 3]? = some Z[k].f ∧ (Z.map Pz.cells).flatten[k * 3 + 1]? = some Z[k].u ∧ (Z.map Pz.cells).flatten[k * 3 + 2]? = some Z[k].x
  | z :: Z, 0, _ => ⟨rfl, rfl, rfl⟩
  | z :: Z, k + 1, hk => by
    have := pz_get (Z := Z) (k := k) (by simpa using hk)
    rw [show (k + 1) * 3 = k * 3 + 3 by omega]
    exact this
theorem kz_get : ∀ {Z : List Kz} {k : Nat} (hk : k < Z.length), (Z.map Kz.cells).flatten[k * 2]? = some Z[k].u ∧ (Z.map Kz.cells).flatten[k * 2 + 1]? = some Z[k].x
  | z :: Z, 0, _ => ⟨rfl, rfl⟩
  | z :: Z, k + 1, hk => by
    have := kz_get (Z := Z) (k := k) (by simpa using hk)
    rw [show (k + 1) * 2 = k * 2 + 2 by omega]
    exact this
theorem fz_get {Z : List Fz} {k : Nat} (hk : k < Z.length) : (Z.map Fz.v)[k]? = some Z[k].v := by
  rw [List.getElem?_map, List.getElem?_eq_getElem hk]; rfl
theorem KsOk.part {w : World} {lo hi : Nat} {K0 : List Kz} {Z : List Pz} (h : KsOk w lo hi (kall K0 Z)) : ∀ z ∈ Z, KzOwn w lo z.kz := fun z hz => h.own _ (List.mem_append_right _ (List.mem_map_of_mem hz))
theorem own_type {w : World} {b e size n g : Nat} {v : Value} {xs : List Value} {cs : Array Value} {t : TypeId} (h : w.ownsRow b e size v n xs) (hg : w.heap[g]? = some (.cells cs t (0, 0))) (he : e ≠ t) : v.ownBlock ≠ some g := by
  intro hq
  obtain ⟨cs2, h2⟩ := owns_type h hq
  rw [hg] at h2
  simp only [Option.some.injEq, Obj.cells.injEq] at h2
  exact he h2.2.1.symm
theorem blk_kz {w : World} {b g : Nat} {cs : Array Value} {t : TypeId} {z : Kz} (h : KzOwn w b z) (hg : w.heap[g]? = some (.cells cs t (0, 0))) (h1 : 3 ≠ t) (h2 : 27 ≠ t) : ¬ kzS z g := by
  rintro (hq | hq)
  · exact own_type h.vec hg h1 hq
  · exact own_type h.more hg h2 hq
theorem blk_fz {w : World} {b g : Nat} {cs : Array Value} {t : TypeId} {z : Fz} (h : FzOwn w b z) (hg : w.heap[g]? = some (.cells cs t (0, 0))) (h1 : 57 ≠ t) (h2 : 60 ≠ t) : ¬ fzS z g := by
  rintro (hq | ⟨y, hy, hq⟩)
  · exact own_type h.row hg h1 hq
  · obtain ⟨i, hi, rfl⟩ := List.mem_iff_getElem.1 hy
    exact own_type (h.each i (by have := h.len; omega) hi) hg h2 hq
theorem fz_type {w : World} {b q : Nat} {cs : Array Value} {z : Fz} (h : FzOwn w b z) (hq : fzS z q) (hg : w.heap[q]? = some (.cells cs 3 (0, 0)) ∨ w.heap[q]? = some (.cells cs 27 (0, 0))) : False := by
  rcases hg with hg | hg
  · exact blk_fz h hg (by decide) (by decide) hq
  · exact blk_fz h hg (by decide) (by decide) hq
theorem kz_rng {w : World} {base q : Nat} {u x : Value} {k : Kn} (h : KnOwn w base u x k) (hq : kzS ⟨u, x, k⟩ q) : base ≤ q ∧ q < w.heap.size := KzOwn.rng (z := ⟨u, x, k⟩) h hq
theorem sh_type {w : World} {u x : Value} {k : Kn} (h1 : ShRow w 3 1 u) (h2 : ShRow w 27 2 x) : ∀ q, kzS ⟨u, x, k⟩ q → ∃ cs, w.heap[q]? = some (.cells cs 3 (0, 0)) ∨ w.heap[q]? = some (.cells cs 27 (0, 0)) := by
  rintro q (hq | hq)
  · rcases h1 with rfl | ⟨g, n, cap, cur, rfl, -, -, h4, -⟩
    · simp [Value.ownBlock] at hq
    · simp only [Value.ownBlock, Option.some.injEq] at hq
      subst hq; exact ⟨cur, .inl h4⟩
  · rcases h2 with rfl | ⟨g, n, cap, cur, rfl, -, -, h4, -⟩
    · simp [Value.ownBlock] at hq
    · simp only [Value.ownBlock, Option.some.injEq] at hq
      subst hq; exact ⟨cur, .inr h4⟩
theorem blk_type {w : World} {q : Nat} {cs cs2 : Array Value} {t : TypeId} (h : w.heap[q]? = some (.cells cs t (0, 0))) (h1 : 3 ≠ t) (h2 : 27 ≠ t) (hg : w.heap[q]? = some (.cells cs2 3 (0, 0)) ∨ w.heap[q]? = some (.cells cs2 27 (0, 0))) : False := by
  rw [h] at hg
  simp only [Option.some.injEq, Obj.cells.injEq] at hg
  rcases hg with ⟨-, hg, -⟩ | ⟨-, hg, -⟩
  · exact h1 hg.symm
  · exact h2 hg.symm
end Ko
end Go.Proofs.Ytboakoipdfmpcaa
