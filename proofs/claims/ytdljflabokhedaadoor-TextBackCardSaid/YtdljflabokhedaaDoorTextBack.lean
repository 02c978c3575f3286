/- TextBack: the row (for every two texts, on every machine state in which the arguments and the listed variables can be read), and its tied card. Written by a small program (gen/textlaws.py). -/
import Derived.Test.YtdljflabokhedaaDoorLaid
import Derived.Test.YtdljflabokhedaaDoorMOpen
import Derived.Test.YtdljflabokhedaaDoorTextBackWalk
import Derived.Test.YtdljflabokhedaaDoorTie
import Derived.Test.YtdljflabokhedaaDoorCards
import Derived.SevenTiedAt
namespace Go.Proofs.YtdljflabokhedaaDoor
open Go.ChangeShapes Go.WideShapes Go.ChangeAt Go.RowKit Go.Deep
open Go.ChangeMaps (open_string shut_string)
set_option maxRecDepth 100000 in
theorem textBack_lifted (os:Os) (started:os.Started) (H:Type) (enc:TypeId×Value→H):
  ReturnsInHanded {} Tryd.checked os 5 .any (fun w args=>(Rows.textBackSpec.pre enc Tryd.prog Tryd.f5 Rows.textBackRow.domain false w args∧laidMet Tryd.prog laidL w)∧sizedMet enc Tryd.prog Tryd.f5 (OpenSpec.ofChange Rows.textBackSpec) false w args)
   (Rows.textBackSpec.post enc Tryd.prog Tryd.f5 false true false false):=by
 refine returnsInHanded_of_change_and (C:=Tryd.checked) (X:=fun w _=>laidMet Tryd.prog laidL w) (fun _ _ _ hh h=>h.of_heap hh) Tryd.own started (by kernel_rfl) Tryd.func5
  (ChangeSpec.witness_at (enc:=enc) (C:=Tryd.checked) (os:=os) (X:=fun w _=>laidMet Tryd.prog laidL w) false (laidWorld os) #[.slice none 0 0, .string ⟨#[]⟩] 8 rfl (by kernel_rfl) (by kernel_rfl) (by kernel_rfl) (by kernel_rfl) (by kernel_rfl) (laidWorld_met os _)) ?_
 intro W base args ds gs before hval0 hW _ hsz0 hL _
 have hsz:(DataW.weightsEach Tryd.prog (Tryd.f5.params.toList++Rows.textBackSpec.plain.varTypes Tryd.prog) (ds++gs)).all (· ≤reachBytes)=true:=hsz0
 clear hsz0
 have hval: ∀(j:Nat) t v,Tryd.f5.params[j]? =some t→args[j]? =some v→Value.okWide Tryd.prog W .any base t v:=hval0
 have hW':=hW
 obtain⟨p,q,hA0,hV,rfl,_,_⟩:=hW
 have hA:DataW.TrodAll enc Tryd.prog W 0 (fun _=>true) true Tryd.f5.params.toList args.toList ds p:=hA0
 rw[Tryd.params5] at hA hval hsz
 obtain⟨rfl,rfl⟩:=trodVars_none hV
 have hlt: ∀x∈p,x.block < W.heap.size:=fun x hx=>hW'.lt x (by simpa using hx)
 have hA2:=hA
 obtain⟨v0,vs0,d0,ds0,p0,q0,hargs,rfl,rfl,h0,r0⟩:=trodAll_cons hA
 obtain⟨v1,vs1,d1,ds1,p1,q1,rfl,rfl,rfl,h1,r1⟩:=trodAll_cons r0
 obtain⟨rfl,rfl,rfl⟩:=trodAll_nil r1
 obtain rfl:args= #[v0,v1]:=by cases args;simp_all
 simp only[List.append_nil] at hW'
 have hsz2:(DataW.weightsEach Tryd.prog [22,9] [d0,d1]).all (· ≤reachBytes)=true:=by
  have e:Rows.textBackSpec.plain.varTypes Tryd.prog=[]:=rfl
  rw[e,List.append_nil,List.append_nil] at hsz
  exact hsz
 obtain⟨l,hl, -⟩:=Rdo.nodes (H:=H) (enc:=enc) (v:=v0) (by have h:=Rdo.of_arg (j:=0) hsz2 rfl rfl h0 (fun x hx=>hlt x (by simp[hx]));rwa [okWide_slice_cells Tryd.underlying22 (hval 0 22 v0 rfl rfl)] at h)
 obtain⟨s,rfl,rfl,rfl,hs⟩:=open_string Tryd.underlying9 (hval 1 9 v1 rfl rfl) h1
 have hlim:s.size≤140737488355328:=by
  have h3:=sized_string hsz2 (j:=1) (t:=9) rfl rfl
  have h2:=reachBytes_lt
  have e4:s.size=s.data.size:=rfl
  have e5:s.data.toList.length=s.data.size:=Array.length_toList
  have e3:(2:Nat)^47=140737488355328:=by decide
  omega
 refine(textBack_walk v0 l s W hl (gl_of_laid hL) hlim).mono fun e W' ⟨he,hnx⟩=> ?_
 subst he
 refine⟨_,rfl,_,_,_,[],p0++[],[],hW', ?_, ?_,rfl,hnx.frame _,fun h=>by cases h⟩
 ·exact trodAll_mk1 (shut_bool Tryd.underlying4 _)
 ·exact below_trodAll (ts:=[22,9]) Tryd.laidOut hnx (by kernel_rfl) hA2 hlt
set_option maxRecDepth 100000 in
theorem textBack_row:Rows.TextBackSaid:=
 OpenClaim.holds_of_wide 5 Tryd.f5 rfl rfl rfl rfl rfl rfl rfl ⟨rfl,rfl,rfl,rfl,rfl⟩ rfl rfl rfl rfl rfl (by kernel_rfl) Tryd.func5 (by kernel_rfl)
  (of_decide_eq_true (by kernel_rfl)) (by unfold Func.isWrapper;first | (rw[if_pos (by decide+kernel)];kernel_rfl) | (rw[if_neg (by decide+kernel)];exact ⟨rfl,rfl⟩))
  (fun os started H enc _=>textBack_lifted os started H enc)
set_option maxRecDepth 100000 in
theorem textBack_proved:Rows.TextBackCardSaid:=
 Claim7.holds_tied_plain_at .later [] [.data, .data, .data, .sentinel, .sentinel] true (true, "78eb05da5ea7c0844f85ba3f8cee477199bce70716beb02db0949644dbd909d0") true
  textBack_row (fun _ h=>by cases h) (by kernel_rfl) (fun _ h=>by cases h) textBack_row_tie rfl ⟨rfl,rfl⟩ (by kernel_rfl) rfl
  (fun f fn hf hfn=>by
   obtain rfl : f = 5 := Option.some.inj ((show Tryd.prog.funcNamed "reedmace/reedkeep.TextBack" = some 5 by kernel_rfl).symm.trans hf) |>.symm
   obtain rfl:fn=Tryd.f5:=(Option.some.inj (Tryd.func5.symm.trans hfn)).symm
   exact⟨by kernel_rfl,fun j t ht=>by
    rw[Tryd.params5] at ht
    have h3:t=22∨t=9:=by
     rcases j with _ | _ | j
     ·exact .inl (by simpa using ht.symm)
     ·exact .inr (by simpa using ht.symm)
     ·simp at ht
    rcases h3 with rfl | rfl
    ·exact(show Tryd.prog.wantsStandIn 22=false by kernel_rfl)
    ·exact(show Tryd.prog.wantsStandIn 9=false by kernel_rfl)⟩)
  (by kernel_rfl)
#print axioms textBack_proved
end Go.Proofs.YtdljflabokhedaaDoor
