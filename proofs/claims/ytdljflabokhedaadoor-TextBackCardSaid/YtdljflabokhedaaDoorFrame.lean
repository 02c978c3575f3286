/- From a walk to a row: a law that returns true and writes nothing that was there meets its statement. No law in sight. -/
import Derived.Test.YtdljflabokhedaaDoorRows
import Derived.Test.YtdljflabokhedaaDoorMBase
import Derived.ProofKit
import Derived.SizedLaws
import Derived.OpenShut
namespace Go.Proofs.YtdljflabokhedaaDoor
open Go.ChangeShapes Go.WideShapes Go.ChangeAt Go.RowKit
set_option maxRecDepth 100000 in
theorem Tryd.own:ownKnob Tryd.prog.godebug=none:=by kernel_rfl
set_option maxRecDepth 100000 in
theorem Tryd.laidOut:laidOutB Tryd.prog=true:=by kernel_rfl
theorem below_trodAll {H:Type} {enc:TypeId×Value→H} {P:Program} (hl:laidOutB P=true) {W W':World} (hb:Below W.heap.size W W') {ts:List TypeId} (hts:ts.all (fun t=>P.readableRec t&&decide (t < P.types.size))=true)
  {vs:List Value} {ds:List (DataW H)} {ps:List MemPlace} (h:DataW.TrodAll enc P W 0 (fun _=>true) true ts vs ds ps) (hlt: ∀x∈ps,x.block < W.heap.size):
  DataW.TrodAll enc P W' 0 (fun b=>decide (b < W.heap.size)) true ts vs ds ps:=by
 induction ts generalizing vs ds ps with
 | nil=>obtain ⟨rfl,rfl,rfl⟩:=trodAll_nil h;exact trodAll_mk0
 | cons t ts ih=>
  obtain⟨v,vs',d,ds',p,q,rfl,rfl,rfl,h1,h2⟩:=trodAll_cons h
  simp only[List.all_cons,Bool.and_eq_true,decide_eq_true_eq] at hts
  exact trodAll_cons_mk (Below.trod hl hts.1.1 hts.1.2 h1 hb fun x hx=>hlt x (List.mem_append_left _ hx)) (ih hts.2 h2 fun x hx=>hlt x (List.mem_append_right _ hx))
end Go.Proofs.YtdljflabokhedaaDoor
