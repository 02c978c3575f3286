/- The closures of ShelfOrder, and cuts and joins of rows of versions. Joins of rows of slices of integers. -/
import Derived.Test.YtliieljmfncmjaaMShelf13
import Derived.Test.YtliieljmfncmjaaMShelf7
import Derived.Test.YtliieljmfncmjaaShelf9
import Derived.Test.YtliieljmfncmjaaShelfRev
import Derived.Test.YtliieljmfncmjaaMTold
import Derived.Test.YtliieljmfncmjaaMClone
namespace Go.Proofs.Ytliieljmfncmjaa
open Go.RowKit
set_option maxRecDepth 100000 in
theorem ord1_p (B : Nat) (v : Ver) (y z : Value) (w : World) (hB : w.heap[B]? = some (Obj.cells (verC v y z) 57 (0, 0))) (hk : KnAt w y z v.past) (hd : dotOk (v.ds, v.dc) = true) :
    PredV VerOk 35 #[.pointer (some ⟨B, 0, none⟩)] (fun x => verOver x v) w := by
  refine ⟨enters_of Try.func35 (by kernel_rfl) rfl, fun a u x W hok hbl ha => ?_⟩
  show Calls Try.prog 35 #[.agg (verC a u x), .pointer (some ⟨B, 0, none⟩)] W _
  have HB := Lib.hid (below_keep hbl hB)
  have HK := Lib.hid (hk.below hbl)
  clear hbl hB hk
  obtain ⟨xa, ca, rfl⟩ := ha.vec.shape
  obtain ⟨ya, da, rfl⟩ := ha.more.shape
  obtain ⟨xb, cb, hxb⟩ := HK.out.vec.shape
  obtain ⟨yb, db, hyb⟩ := HK.out.more.shape
  subst hxb hyb
  have hbel := bal (W := W) (.cells (verC a (.slice xa a.past.vec.length ca) (.slice ya a.past.more.length da)) 57)
  have HA := Lib.hid (ha.below hbel)
  have HK2 := Lib.hid (HK.out.below hbel)
  have HO := Lib.hid (rover_c a v _ _ _ _ _ HA.out HK2.out hok.past hok.len hd)
  have hB2 := below_keep hbel HB.out
  have c0 := cell_of_block (j := 0) hB2 rfl
  have c1 := cell_of_block (j := 1) hB2 rfl
  have c2 := cell_of_block (j := 2) hB2 rfl
  have c3 := cell_of_block (j := 3) hB2 rfl
  have c4 := cell_of_block (j := 4) hB2 rfl
  have c5 := cell_of_block (j := 5) hB2 rfl
  have c6 := cell_of_block (j := 6) hB2 rfl
  have c7 := cell_of_block (j := 7) hB2 rfl
  clear ha hB2 HB HK
  unfold verC at *
  go_enter Try.func35, Try.ntmps35
  go_wp2_with fail
  (with_reducible refine (HO.out).mono ?_)
  rintro e w1 ⟨rfl, hb1⟩
  replace hbel := bstep hbel hb1
  clear hb1 c0 c1 c2 c3 c4 c5 c6 c7 HO
  go_wp2
  go_ret
  exact ⟨rfl, hbel⟩
set_option maxRecDepth 100000 in
theorem ord2_p (B : Nat) (v : Ver) (y z : Value) (w : World) (hB : w.heap[B]? = some (Obj.cells (verC v y z) 57 (0, 0))) (hk : KnAt w y z v.past) :
    PredV VerOk 37 #[.pointer (some ⟨B, 0, none⟩)] (fun x => sameVB v x) w := by
  refine ⟨enters_of Try.func37 (by kernel_rfl) rfl, fun a u x W hok hbl ha => ?_⟩
  show Calls Try.prog 37 #[.agg (verC a u x), .pointer (some ⟨B, 0, none⟩)] W _
  have HB := Lib.hid (below_keep hbl hB)
  have HK := Lib.hid (hk.below hbl)
  clear hbl hB hk
  obtain ⟨xa, ca, rfl⟩ := ha.vec.shape
  obtain ⟨ya, da, rfl⟩ := ha.more.shape
  obtain ⟨xb, cb, hxb⟩ := HK.out.vec.shape
  obtain ⟨yb, db, hyb⟩ := HK.out.more.shape
  subst hxb hyb
  have hbel := bal (W := W) (.cells (verC a (.slice xa a.past.vec.length ca) (.slice ya a.past.more.length da)) 57)
  have HA := Lib.hid (ha.below hbel)
  have HK2 := Lib.hid (HK.out.below hbel)
  have HO := Lib.hid (sameV_c v a _ _ _ _ _ HK2.out HA.out)
  have hB2 := below_keep hbel HB.out
  have c0 := cell_of_block (j := 0) hB2 rfl
  have c1 := cell_of_block (j := 1) hB2 rfl
  have c2 := cell_of_block (j := 2) hB2 rfl
  have c3 := cell_of_block (j := 3) hB2 rfl
  have c4 := cell_of_block (j := 4) hB2 rfl
  have c5 := cell_of_block (j := 5) hB2 rfl
  have c6 := cell_of_block (j := 6) hB2 rfl
  have c7 := cell_of_block (j := 7) hB2 rfl
  clear ha hB2 HB HK
  unfold verC at *
  go_enter Try.func37, Try.ntmps37
  go_wp2_with fail
  (with_reducible refine (HO.out).mono ?_)
  rintro e w1 ⟨rfl, hb1⟩
  replace hbel := bstep hbel hb1
  clear hb1 c0 c1 c2 c3 c4 c5 c6 c7 HO
  go_wp2
  go_ret
  exact ⟨rfl, hbel⟩
theorem RowAt.empty {α : Type} {E : Elt α} {w : World} {a : Option Addr} {c : Nat} (h : a = none → c = 0) : RowAt E w (.slice a 0 c) [] := ⟨[], trivial, a, c, rfl, Nat.zero_le _, by simp, h, .inl rfl⟩
/-- v[k:], v whatever. -/
theorem RowAt.drop_ {w : World} {a : Option Addr} {n cap : Nat} {l : List Ver} (h : RowAt verE w (.slice a n cap) l) (k : Nat) (hk : k ≤ l.length) : RowAt verE w (.slice (a.map fun x => x.add (k * 8)) (n - k) (cap - k)) (l.drop k) := by
  obtain ⟨a', cap', ha, hcap, hlen, h0, hl⟩ := h.open_
  simp only [Value.slice.injEq] at ha
  obtain ⟨rfl, rfl, rfl⟩ := ha
  rcases hl with rfl | ⟨b, off, rfl, -, -⟩
  · rw [List.drop_nil]
    simp only [List.length_nil, Nat.zero_sub, Nat.le_zero_eq] at hk ⊢
    subst hk
    refine RowAt.empty fun e => ?_
    cases a with
    | none => rw [h0 rfl]
    | some x => simp at e
  · have h2 : RowAt verE w (.slice (some ⟨b, off + k * 8, none⟩) (l.length - k) (cap - k)) (l.drop k) := h.drop k hk
    simpa [Option.map, Addr.add_lit] using h2
theorem RowAt.cut0 {w : World} {a : Option Addr} {n cap : Nat} {l : List Ver} (h : RowAt verE w (.slice a n cap) l) (k : Nat) (hk : k ≤ l.length) (hc : cap = k) : RowAt verE w (.slice a (n - k) 0) (l.drop k) := by
  obtain ⟨a', cap', ha, hcap, hlen, h0, hl⟩ := h.open_
  simp only [Value.slice.injEq] at ha
  obtain ⟨rfl, rfl, rfl⟩ := ha
  rw [List.drop_of_length_le (by omega), show l.length - k = 0 by omega]
  exact RowAt.empty fun _ => rfl
/-- A row of a row of versions. -/
def CatAt (w : World) (v : Value) (l : List Ver) : Prop := ∃ rs : Rows3, RowsAt w v rs ∧ (∀ r ∈ rs, r.2.2.length = r.2.1 * 8) ∧ (∀ r ∈ rs, ∀ u ∈ r.2.2, u.oneCell' = true) ∧ ∃ css, Els verE w l css ∧ flat rs = css.flatten ∧ tot rs = l.length
theorem rows_of {w : World} : ∀ (rows : List (Value × List Ver)), (∀ r ∈ rows, RowAt verE w r.1 r.2) → ∃ rs : Rows3, rs.map (·.1) = rows.map (·.1) ∧ (∀ r ∈ rs, CellsAt w r.1 r.2.1 r.2.2) ∧ (∀ r ∈ rs, r.2.2.length = r.2.1 * 8) ∧ (∀ r ∈ rs, ∀ u ∈ r.2.2, u.oneCell' = true) ∧ ∃ css, Els verE w (rows.flatMap (·.2)) css ∧ flat rs = css.flatten ∧ tot rs = (rows.flatMap (·.2)).length
  | [], _ => ⟨[], rfl, by simp, by simp, by simp, [], trivial, rfl, rfl⟩
  | r :: rows, h => by
    obtain ⟨rs, h1, h2, h3, h4, css, h5, h6, h7⟩ := rows_of rows fun x hx => h x (by simp [hx])
    obtain ⟨cs, k1, k2⟩ := h r (by simp)
    refine ⟨(r.1, r.2.length, cs.flatten) :: rs, by simp [h1], ?_, ?_, ?_, cs ++ css, ?_, ?_, ?_⟩
    · intro x hx
      rcases List.mem_cons.1 hx with rfl | hx
      · exact k2
      · exact h2 x hx
    · intro x hx
      rcases List.mem_cons.1 hx with rfl | hx
      · exact k1.flat
      · exact h3 x hx
    · intro x hx
      rcases List.mem_cons.1 hx with rfl | hx
      · exact k1.one
      · exact h4 x hx
    · rw [List.flatMap_cons]; exact k1.append h5
    · rw [List.flatten_append, ← h6]; simp [flat]
    · rw [List.flatMap_cons, List.length_append, ← h7]; simp [tot]
theorem CatAt.lit {w : World} (rows : List (Value × List Ver)) (h : ∀ r ∈ rows, RowAt verE w r.1 r.2) (t : TypeId) (hn : rows.length ≤ 1000) : CatAt (w.alloc (.cells (rows.map (·.1)).toArray t)) (.slice (some ⟨w.heap.size, 0, none⟩) rows.length rows.length) (rows.flatMap (·.2)) := by
  have hb := bal (W := w) (.cells (rows.map (·.1)).toArray t)
  obtain ⟨rs, h1, h2, h3, h4, css, h5, h6, h7⟩ := rows_of rows h
  have hl : rs.length = rows.length := by have := congrArg List.length h1; simpa using this
  refine ⟨rs, ⟨?_, fun r hr => (h2 r hr).below hb⟩, h3, h4, css, h5.sub (Sub.of_below hb), h6, h7⟩
  rw [hl, h1]
  exact CellsAt.mk (Nat.le_refl _) (by omega) (by simp) fun j x hj => by rw [Nat.zero_add, World.cell?_alloc_at _ _ _ _ rfl]; simpa using hj
theorem CatAt.below {w w' : World} {v : Value} {l : List Ver} (h : CatAt w v l) (hb : Below w.heap.size w w') : CatAt w' v l := by
  obtain ⟨rs, ⟨k1, k2⟩, h2, h3, css, h4, h5, h6⟩ := h
  exact ⟨rs, ⟨k1.below hb, fun r hr => (k2 r hr).below hb⟩, h2, h3, css, h4.sub (Sub.of_below hb), h5, h6⟩
set_option maxRecDepth 100000 in
theorem vconcat_c (v : Value) (l : List Ver) (w : World) (h : CatAt w v l) (hl : l.length ≤ 1000) :
    Calls Try.prog 29 #[v] w fun e w' => ∃ v', e = .returned v' ∧ RowAt verE w' v' l ∧ Below w.heap.size w w' := by
  obtain ⟨rs, h1, h2, h3, css, h4, h5, h6⟩ := h
  refine (VlConcat_c v rs w h1 h2 h3 (by omega)).mono ?_
  rintro e w' ⟨v', rfl, h7, hb⟩
  rw [h5, h6] at h7
  exact ⟨v', rfl, ⟨css, h4.sub (Sub.of_below hb), CellsAt.of_owns h7 (by omega)⟩, hb⟩
theorem CatAt.lit3 {w : World} {a b c : Value} {l1 l2 l3 : List Ver} (h1 : RowAt verE w a l1) (h2 : RowAt verE w b l2) (h3 : RowAt verE w c l3) (t : TypeId) : CatAt (w.alloc (.cells #[a, b, c] t)) (.slice (some ⟨w.heap.size, 0, none⟩) 3 3) (l1 ++ l2 ++ l3) := by
  have h := CatAt.lit (w := w) [(a, l1), (b, l2), (c, l3)] (by simp; exact ⟨h1, h2, h3⟩) t (by simp)
  simpa [List.append_assoc] using h
theorem CatAt.lit2 {w : World} {a b : Value} {l1 l2 : List Ver} (h1 : RowAt verE w a l1) (h2 : RowAt verE w b l2) (t : TypeId) : CatAt (w.alloc (.cells #[a, b] t)) (.slice (some ⟨w.heap.size, 0, none⟩) 2 2) (l1 ++ l2) := by
  have h := CatAt.lit (w := w) [(a, l1), (b, l2)] (by simp; exact ⟨h1, h2⟩) t (by simp)
  simpa using h
theorem CatAt.shape {w : World} {v : Value} {l : List Ver} (h : CatAt w v l) : ∃ (p : Option Addr × Nat × Nat), v = .slice p.1 p.2.1 p.2.2 := by
  obtain ⟨rs, ⟨⟨a, c, hv, -⟩, -⟩, -⟩ := h
  exact ⟨(a, rs.length, c), hv⟩
theorem VOwn.shape {w : World} {base : Nat} {v : Value} {l : List Ver} (h : VOwn w base v l) : ∃ a c, v = Value.slice a l.length c := by
  obtain ⟨css, -, h2⟩ := h
  exact owns_slice h2
theorem RowAt.cap_le {w : World} {a : Option Addr} {n cap : Nat} {l : List Ver} (h : RowAt verE w (.slice a n cap) l) : l.length ≤ cap := by
  obtain ⟨a', cap', ha, hcap, -⟩ := h.open_
  simp only [Value.slice.injEq] at ha
  obtain ⟨-, -, rfl⟩ := ha
  exact hcap
/-- What laying gives. -/
def TupV (w : World) (v : Value) (l : List Ver) : Prop := ∃ a n c, v = .tuple #[.slice a n c, .bool true] ∧ VOwn w 0 (.slice a n c) l
theorem TupV.below {w w' : World} {v : Value} {l : List Ver} (h : TupV w v l) (hb : Below w.heap.size w w') : TupV w' v l := by
  obtain ⟨a, n, c, h1, h2⟩ := h; exact ⟨a, n, c, h1, h2.below hb⟩
set_option maxRecDepth 100000 in
theorem laid_t (v : Value) (l : List Ver) (w : World) (hv : RowAt verE w v l) (hok : LaidOk l) :
    Calls Try.prog 28 #[v] w fun e w' => ∃ v', e = .returned v' ∧ TupV w' v' (laidL l) ∧ Below w.heap.size w w' := by
  refine (laid_c v l w hv hok).mono ?_
  rintro e w' ⟨ov, rfl, h, hb⟩
  obtain ⟨a, c, rfl⟩ : ∃ a c, ov = Value.slice a (laidL l).length c := by
    obtain ⟨css, -, h2⟩ := h
    exact owns_slice h2
  exact ⟨_, rfl, ⟨_, _, _, rfl, h.mono (Nat.zero_le _)⟩, hb⟩
end Go.Proofs.Ytliieljmfncmjaa
namespace Go.Proofs.Ytliieljmfncmjaa
open Go.RowKit
theorem RowAt.cap_le' {α : Type} {E : Elt α} {w : World} {a : Option Addr} {n cap : Nat} {l : List α} (h : RowAt E w (.slice a n cap) l) : l.length ≤ cap := by
  obtain ⟨a', cap', ha, hcap, -⟩ := h.open_
  simp only [Value.slice.injEq] at ha
  obtain ⟨-, -, rfl⟩ := ha
  exact hcap
theorem CatV.lit2 {w : World} {a b : Value} {l1 l2 : List (List Int)} (h1 : RowAt vecE w a l1) (h2 : RowAt vecE w b l2) (t : TypeId) : ∃ rs : Rows3, RowsAt (w.alloc (.cells #[a, b] t)) (.slice (some ⟨w.heap.size, 0, none⟩) 2 2) rs ∧ (∀ r ∈ rs, r.2.2.length = r.2.1 * 1) ∧ (∀ r ∈ rs, ∀ u ∈ r.2.2, u.oneCell' = true) ∧ ∃ css, Els vecE w (l1 ++ l2) css ∧ flat rs = css.flatten ∧ tot rs = (l1 ++ l2).length := by
  obtain ⟨c1, k1, m1⟩ := h1
  obtain ⟨c2, k2, m2⟩ := h2
  have hb := bal (W := w) (.cells #[a, b] t)
  refine ⟨[(a, l1.length, c1.flatten), (b, l2.length, c2.flatten)], ⟨?_, ?_⟩, ?_, ?_, c1 ++ c2, k1.append k2, ?_, ?_⟩
  · exact CellsAt.mk (Nat.le_refl _) (by decide) (by simp) fun j x hj => by rw [Nat.zero_add, World.cell?_alloc_at _ _ _ _ rfl]; simpa using hj
  · intro r hr
    simp only [List.mem_cons, List.not_mem_nil, or_false] at hr
    rcases hr with rfl | rfl
    · exact m1.below hb
    · exact m2.below hb
  · intro r hr
    simp only [List.mem_cons, List.not_mem_nil, or_false] at hr
    rcases hr with rfl | rfl
    · exact k1.flat
    · exact k2.flat
  · intro r hr
    simp only [List.mem_cons, List.not_mem_nil, or_false] at hr
    rcases hr with rfl | rfl
    · exact k1.one
    · exact k2.one
  · rw [List.flatten_append]; simp [flat]
  · rw [List.length_append]; simp [tot]
set_option maxRecDepth 100000 in
theorem cconcat_c {a b : Value} {l1 l2 : List (List Int)} (w : World) (h1 : RowAt vecE w a l1) (h2 : RowAt vecE w b l2) (t : TypeId) (hl : (l1 ++ l2).length * 24 ≤ 140737488355328) :
    Calls Try.prog 39 #[.slice (some ⟨w.heap.size, 0, none⟩) 2 2] (w.alloc (.cells #[a, b] t)) fun e w' => ∃ v', e = .returned v' ∧ RowAt vecE w' v' (l1 ++ l2) ∧ Below (w.alloc (.cells #[a, b] t)).heap.size (w.alloc (.cells #[a, b] t)) w' := by
  obtain ⟨rs, k1, k2, k3, css, k4, k5, k6⟩ := CatV.lit2 h1 h2 t
  refine (WlConcat_c _ rs _ k1 k2 k3 (by rw [k6]; exact hl)).mono ?_
  rintro e w' ⟨v', rfl, h7, hb⟩
  rw [k5, k6] at h7
  exact ⟨v', rfl, ⟨css, k4.sub (Sub.of_below (ba1 hb)), CellsAt.of_owns h7 (by omega)⟩, hb⟩
end Go.Proofs.Ytliieljmfncmjaa
