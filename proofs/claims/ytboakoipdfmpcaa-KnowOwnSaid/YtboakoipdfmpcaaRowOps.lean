/- copy, clear and stores into rows whose elements have several cells. No program in sight. -/
import Derived.Test.YtboakoipdfmpcaaBase2
import Derived.Laws.CopyOwn
import Derived.Laws.NewBlocks
import Derived.Lib.AppendZerosOnto
import Derived.Lib.Overlaps
import Derived.Laws.Externs
namespace Go.Proofs.Ytboakoipdfmpcaa
open Go.RowKit
theorem setRow_else {w : World} {g k : Nat} {cs : Array Value} (h : g ≠ k) : (w.setRow g cs).heap[k]? = w.heap[k]? := by
  unfold World.setRow
  simp only
  rw [Array.getElem?_modify, if_neg h]
/-- The world w' is w but for the row g. -/
structure RowBut (w w' : World) (g : Nat) : Prop where
  os : w'.os = w.os
  tape : w'.tape = w.tape
  output : w'.output = w.output
  size : w'.heap.size = w.heap.size
  other : ∀ k, k ≠ g → w'.heap[k]? = w.heap[k]?
theorem RowBut.refl (w : World) (g : Nat) : RowBut w w g := ⟨rfl, rfl, rfl, rfl, fun _ _ => rfl⟩
theorem RowBut.setRow (w : World) (g : Nat) (cs : Array Value) : RowBut w (w.setRow g cs) g := ⟨rfl, rfl, rfl, setRow_size _ _ _, fun _ hk => setRow_else (Ne.symm hk)⟩
theorem RowBut.below {B g : Nat} {w0 w w' : World} (h : RowBut w w' g) (hb : Below B w0 w) (hg : B ≤ g) : Below B w0 w' :=
  hb.trans ⟨h.os, h.tape, h.output, by rw [h.size]; exact Nat.le_refl _, fun k hk => h.other k (by omega)⟩
/-- A store of several cells into a row that is known whole. -/
theorem wpList_store_at {P : Program} {ops : Array Oper} {rest : List Oper} {o : Oper} {a : Act} {w : World} {Q : Exit → Act → World → Prop} (hgd : o.guard = none) (ty : TypeId) (x y : Operand) (ho : o.op = .store ty x y)
    (g off : Nat) (cells : Array Value) (hx : a.eval x = .pointer (some ⟨g, off, none⟩)) (hy : a.eval y = .agg cells)
    (t : TypeId) (cur : List Value) (hg : w.heap[g]? = some (.cells cur.toArray t (0, 0))) (hi : (P.info? ty).map (·.size) = some cells.size)
    (hfit : off + cells.size ≤ cur.length) (h1 : ∀ v ∈ cells.toList, v.oneCell' = true)
    (h : ∀ w', Hid (w'.heap[g]? = some (.cells (splice cur off cells.toList).toArray t (0, 0))) → RowBut w w' g → wpList P ops Q rest (a.put o.dst undef) w') : wpList P ops Q (o :: rest) a w := by
  have hst := run_storeCells_at P g off t cells.toList 0 cur.toArray w hg (by simpa using hfit) h1
  obtain ⟨i, hq⟩ : ∃ i, P.info? ty = some i := by
    cases hq : P.info? ty with
    | none => simp [hq] at hi
    | some i => exact ⟨i, rfl⟩
  have hs : cells.size = i.size := by simp [hq] at hi; omega
  have hr : (storeVar ty ⟨g, off, none⟩ (.agg cells)).run P w = .ok () (w.setRow g (splice cur off cells.toList).toArray) := by
    simp [storeVar, sizeOf, typeInfo, hq, Value.cells, hs, hst, splice]
  refine wpList_plain hgd fun K hK => ?_
  unfold Oper.wp execOp
  simp only [ho, hx, hy, Instr.storeAt, Instr.sureAddr, Sem.run_bind, Sem.run_pure, Result.andThen_ok, hr]
  exact hK _ _ (h _ (setRow_heap w g _ _ t _ hg) (RowBut.setRow _ _ _))
/-- 'clear(s)' -/
theorem wpList_clearS {P : Program} {w : World} {ops : Array Oper} {rest : List Oper} {o : Oper} {a : Act} {Q : Exit → Act → World → Prop} (hgd : o.guard = none) (d : Operand) (dT : TypeId)
    (ho : o.op = .call { callee := .builtin .clear, args := #[d], argTypes := #[dT] }) (elem : TypeId) (z : Value) (sz bytes : Nat) (hu : P.underlying dT = some (.slice elem)) (hs : (P.info? elem).map (fun i => (i.zero, i.size, i.bytes)) = some (some z, sz, bytes))
    (hz : z.cells.size = sz) (hz1 : ∀ v ∈ z.cells.toList, v.oneCell' = true) (g off n cap : Nat) (sp : Option Addr) (hsp : 0 < n → sp = some ⟨g, off, none⟩) (hd : a.eval d = .slice sp n cap)
    (cur : List Value) (t : TypeId) (hg : w.heap[g]? = some (.cells cur.toArray t (0, 0))) (hfit : off + n * sz ≤ cur.length)
    (h : ∀ w' zs, Hid (w'.heap[g]? = some (.cells (splice cur off zs).toArray t (0, 0))) → zs.length = n * sz → RowBut w w' g → wpList P ops Q rest (a.put o.dst (.tuple #[])) w') : wpList P ops Q (o :: rest) a w := by
  obtain ⟨i, hi, hz0, hsize, hby⟩ := info_parts hs
  have hr : ∃ w' zs, (Builtin.clear_ #[dT] o.type #[.slice sp n cap]).run P w = .ok (.tuple #[]) w' ∧ w'.heap[g]? = some (.cells (splice cur off zs).toArray t (0, 0)) ∧ zs.length = n * sz ∧ RowBut w w' g := by
    cases n with
    | zero =>
      refine ⟨w, [], ?_, by simpa [splice] using hg, by simp, RowBut.refl _ _⟩
      cases sp <;> simp [Builtin.clear_, run_underlying hu]
    | succ m =>
      obtain rfl := hsp (by omega)
      have hzl : (Builtin.zeroCells z.cells (m + 1)).toList.length = (m + 1) * sz := by simp [Builtin.zeroCells, hz]
      have hz2 : ∀ v ∈ (Builtin.zeroCells z.cells (m + 1)).toList, v.oneCell' = true := by
        intro v hv
        simp only [Builtin.zeroCells, Array.toList_map, List.mem_map] at hv
        obtain ⟨k, hk, rfl⟩ := hv
        have hk2 : k < (m + 1) * z.cells.size := by simpa using hk
        have hpos : 0 < z.cells.size := by
          rcases Nat.eq_zero_or_pos z.cells.size with h | h
          · rw [h] at hk2; simp at hk2
          · exact h
        have hlt := Nat.mod_lt k hpos
        rw [getElem!_pos z.cells _ hlt]
        exact hz1 _ (Array.getElem_mem_toList hlt)
      have hst := run_storeCells_at P g off t (Builtin.zeroCells z.cells (m + 1)).toList 0 cur.toArray w hg (by rw [hzl]; simpa using hfit) hz2
      refine ⟨_, (Builtin.zeroCells z.cells (m + 1)).toList, ?_, ?_, hzl, RowBut.setRow w g (splice cur off (Builtin.zeroCells z.cells (m + 1)).toList).toArray⟩
      · simp [Builtin.clear_, run_underlying hu, zeroValue, typeInfo, hi, hz0, hst, splice]
      · exact setRow_heap w g _ _ t _ hg
  obtain ⟨w', zs, hr, h2, h3, h4⟩ := hr
  refine wpList_plain hgd fun K hK => ?_
  unfold Oper.wp execOp
  simp only [ho, resolve, invoke, builtin, Sem.run_bind, Sem.run_pure, Result.andThen_ok, List.map_toArray, List.map_cons, List.map_nil, hd, hr]
  exact hK _ _ (h w' zs h2 h3 h4)
end Go.Proofs.Ytboakoipdfmpcaa
