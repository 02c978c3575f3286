/- TextBoth: the row (for every two texts, on every machine state in which the arguments and the listed variables can be read), and its tied card. Written by a small program (gen/textlaws.py). -/
import Derived.Test.YtdljflabokhedaaDoorLaid
import Derived.Test.YtdljflabokhedaaDoorTextBothWalk
import Derived.Test.YtdljflabokhedaaDoorTie
import Derived.Test.YtdljflabokhedaaDoorCards
import Derived.SevenTiedAt
namespace Go.Proofs.YtdljflabokhedaaDoor
open Go.ChangeShapes Go.WideShapes Go.ChangeAt Go.RowKit
open Go.ChangeMaps (open_string shut_string)
set_option maxRecDepth 100000 in
theorem textBoth_lifted (os:Os) (started:os.Started) (H:Type) (enc:TypeId×Value→H):
  ReturnsInHanded {} Tryd.checked os 4 .any (fun w args=>(Rows.textBothSpec.pre enc Tryd.prog Tryd.f4 Rows.textBothRow.domain false w args∧laidMet Tryd.prog laidL w)∧sizedMet enc Tryd.prog Tryd.f4 (OpenSpec.ofChange Rows.textBothSpec) false w args)
   (Rows.textBothSpec.post enc Tryd.prog Tryd.f4 false true false false):=by
 refine returnsInHanded_of_change_and (C:=Tryd.checked) (X:=fun w _=>laidMet Tryd.prog laidL w) (fun _ _ _ hh h=>h.of_heap hh) Tryd.own started (by kernel_rfl) Tryd.func4
  (ChangeSpec.witness_at (enc:=enc) (C:=Tryd.checked) (os:=os) (X:=fun w _=>laidMet Tryd.prog laidL w) false (laidWorld os) #[.string ⟨#[]⟩, .string ⟨#[]⟩] 8 rfl (by kernel_rfl) (by kernel_rfl) (by kernel_rfl) (by kernel_rfl) (by kernel_rfl) (laidWorld_met os _)) ?_
 intro W base args ds gs before hval0 hW _ hsz0 hL _
 have hsz:(DataW.weightsEach Tryd.prog (Tryd.f4.params.toList++Rows.textBothSpec.plain.varTypes Tryd.prog) (ds++gs)).all (· ≤reachBytes)=true:=hsz0
 clear hsz0
 have hval: ∀(j:Nat) t v,Tryd.f4.params[j]? =some t→args[j]? =some v→Value.okWide Tryd.prog W .any base t v:=hval0
 have hW':=hW
 obtain⟨p,q,hA0,hV,rfl,_,_⟩:=hW
 have hA:DataW.TrodAll enc Tryd.prog W 0 (fun _=>true) true Tryd.f4.params.toList args.toList ds p:=hA0
 rw[Tryd.params4] at hA hval hsz
 obtain⟨v0,v1,d0,d1,p0,p1,rfl,rfl,rfl,h0,h1⟩:=trodAll_two hA
 obtain⟨rfl,rfl⟩:=trodVars_none hV
 obtain⟨s,rfl,rfl,rfl,hs⟩:=open_string Tryd.underlying9 (hval 0 9 v0 rfl rfl) h0
 obtain⟨t,rfl,rfl,rfl,ht⟩:=open_string Tryd.underlying9 (hval 1 9 v1 rfl rfl) h1
 clear hA0 hval0
 simp only[List.append_nil] at hW'
 have hlim:s.size≤140737488355328∧t.size≤140737488355328:=by
  have h1:=sized_string hsz (j:=0) (t:=9) rfl rfl
  have h3:=sized_string hsz (j:=1) (t:=9) rfl rfl
  have h2:=reachBytes_lt
  have e1:s.size=s.data.size:=rfl
  have e2:s.data.toList.length=s.data.size:=Array.length_toList
  have e4:t.size=t.data.size:=rfl
  have e5:t.data.toList.length=t.data.size:=Array.length_toList
  have e3:(2:Nat)^47=140737488355328:=by decide
  omega
 refine(textBoth_walk s t W (gl_of_laid hL) hlim.1 hlim.2).mono fun e W' ⟨he,hnx⟩=> ?_
 subst he
 refine⟨_,rfl,_,_,_,[],[],[],hW', ?_, ?_,rfl,hnx.frame _,fun h=>by cases h⟩
 ·exact trodAll_mk1 (shut_bool Tryd.underlying4 _)
 ·exact trodAll_mk2 (shut_string Tryd.underlying9 hs) (shut_string Tryd.underlying9 ht)
set_option maxRecDepth 100000 in
theorem textBoth_row:Rows.TextBothSaid:=
 OpenClaim.holds_of_wide 4 Tryd.f4 rfl rfl rfl rfl rfl rfl rfl ⟨rfl,rfl,rfl,rfl,rfl⟩ rfl rfl rfl rfl rfl (by kernel_rfl) Tryd.func4 (by kernel_rfl)
  (of_decide_eq_true (by kernel_rfl)) (by unfold Func.isWrapper;first | (rw[if_pos (by decide+kernel)];kernel_rfl) | (rw[if_neg (by decide+kernel)];exact ⟨rfl,rfl⟩))
  (fun os started H enc _=>textBoth_lifted os started H enc)
set_option maxRecDepth 100000 in
theorem textBoth_proved:Rows.TextBothCardSaid:=
 Claim7.holds_tied_plain_at .later [] [.data, .data, .data, .sentinel, .sentinel] true (true, "78eb05da5ea7c0844f85ba3f8cee477199bce70716beb02db0949644dbd909d0") true
  textBoth_row (fun _ h=>by cases h) (by kernel_rfl) (fun _ h=>by cases h) textBoth_row_tie rfl ⟨rfl,rfl⟩ (by kernel_rfl) rfl
  (fun f fn hf hfn=>by
   obtain rfl : f = 4 := Option.some.inj ((show Tryd.prog.funcNamed "reedmace/reedkeep.TextBoth" = some 4 by kernel_rfl).symm.trans hf) |>.symm
   obtain rfl:fn=Tryd.f4:=(Option.some.inj (Tryd.func4.symm.trans hfn)).symm
   exact⟨by kernel_rfl,fun j t ht=>by
    rw[Tryd.params4] at ht
    have h3:t=9:=by
     rcases j with _ | _ | j
     ·simpa using ht.symm
     ·simpa using ht.symm
     ·simp at ht
    subst h3
    exact(show Tryd.prog.wantsStandIn 9=false by kernel_rfl)⟩)
  (by kernel_rfl)
#print axioms textBoth_proved
end Go.Proofs.YtdljflabokhedaaDoor
