/- Shelves of the call's own: small laws. No program in sight. -/
import Derived.Test.YtboakoipdfmpcaaGreatMShelf5
namespace Go.Proofs.YtboakoipdfmpcaaGreat
open Go.RowKit
theorem VE.mono {w : World} {base base' : Nat} (hb : base' ≤ base) : ∀ {l : List Ver} {cs : List (List Value)}, VE w base l cs → VE w base' l cs
  | [], [], _ => trivial
  | _ :: _, _ :: _, ⟨⟨a, n, d, b, m, e, h1, h2⟩, h3⟩ => ⟨⟨a, n, d, b, m, e, h1, h2.mono hb⟩, VE.mono hb h3⟩
  | [], _ :: _, h3 => h3.elim
  | _ :: _, [], h3 => h3.elim
theorem VOwn.mono {w : World} {base base' : Nat} {vv : Value} {l : List Ver} (h : VOwn w base vv l) (hb : base' ≤ base) : VOwn w base' vv l := by
  obtain ⟨css, h1, h2⟩ := h
  exact ⟨css, h1.mono hb, owns_mono h2 hb⟩
theorem shok_bd {l : List Ver} (h : ∀ v ∈ l, VerOk v) : ∀ v ∈ l, v.past.vec.length ≤ 5 ∧ v.past.more.length ≤ 60 := fun v hv => ⟨(h v hv).past.len, (h v hv).len⟩
theorem verAt8 {w : World} {g : Nat} {v : Ver} {u x : Value} {t : TypeId} (h : w.heap[g]? = some (Obj.cells (verC v u x) t (0, 0))) :
    w.cell? ⟨g, 0, none⟩ = some (.string v.id) ∧ w.cell? ⟨g, 1, none⟩ = some (.int .i64 v.ds) ∧ w.cell? ⟨g, 2, none⟩ = some (.int .i64 v.dc) ∧ w.cell? ⟨g, 3, none⟩ = some (.int .i64 v.tg) ∧ w.cell? ⟨g, 4, none⟩ = some (.int .i64 v.nm) ∧ w.cell? ⟨g, 5, none⟩ = some (.int .i64 v.bd) ∧ w.cell? ⟨g, 6, none⟩ = some u ∧ w.cell? ⟨g, 7, none⟩ = some x :=
  ⟨cell_of_block h rfl, cell_of_block h rfl, cell_of_block h rfl, cell_of_block h rfl, cell_of_block h rfl, cell_of_block h rfl, cell_of_block h rfl, cell_of_block h rfl⟩
set_option maxRecDepth 100000 in
theorem VTy.size : (Tryz.prog.info? 75).map (·.size) = some 8 := by kernel_rfl
end Go.Proofs.YtboakoipdfmpcaaGreat
