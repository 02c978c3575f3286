/- DeskBegins, where what it reads is of bulk at most 1048576: the row (for every text, on every machine state in which the arguments and the listed variables can be read), and its tied card. -/
import Derived.Test.YtajgndoiddmbmaaGreatDoorMEnd
import Derived.Test.YtajgndoiddmbmaaGreatDoorDeskBeginsWalk
namespace Go.Proofs.YtajgndoiddmbmaaGreatDoor
set_option maxRecDepth 100000
set_option maxHeartbeats 40000000
open Go.ChangeShapes Go.WideShapes Go.ChangeAt Go.RowKit
open Go.ChangeMaps (open_string shut_string)
theorem Cs (os:Os) {H:Type} (enc:TypeId×Value→H): ∃places,DataW.whole enc Tryz.prog ((rU os).forCall (fun _ _=>0) ⟨#[], #[.string ⟨#[]⟩, .int .i64 0],[]⟩).memory Tryz.f5.params.toList Rows.deskBeginsSpec.vars false #[Value.string ⟨#[]⟩,Value.int .i64 0].toList 8=some ([.lit (.string []), .lit (.int .i64 0)],[],places):=
 ⟨[],by kernel_rfl⟩
theorem AY (os:Os) (started:os.Started) (H:Type) (enc:TypeId×Value→H) (F:Stop.Interp):
  ReturnsInHanded {} Tryz.checked os 5 .any ((Rows.OpenSpec.upto Rows.deskBeginsSpec).preRow enc Tryz.prog Tryz.f5 Rows.deskBeginsUptoRow.domain false Rows.deskBeginsUptoRow.laid)
   (((Rows.OpenSpec.upto Rows.deskBeginsSpec).at F).post enc Tryz.prog Tryz.f5 false true false false):=by
 obtain⟨places,hx⟩:=Cs os enc;refine returnsInHanded_of_row (C:=Tryz.checked) (s:=Rows.OpenSpec.upto Rows.deskBeginsSpec) Tryz.own started (by kernel_rfl) Tryz.func5
  (witness_row_atRef (enc:=enc) (C:=Tryz.checked) false (rU os) #[.string ⟨#[]⟩, .int .i64 0] rfl (by kernel_rfl) (by kernel_rfl) (by kernel_rfl)
   (OpenSpec.preRow_of_cond 8 hx (by kernel_rfl) (fun k hk=>by cases hk;kernel_rfl) (by kernel_rfl) (yj os _))) ?_
 intro W base args ds gs before Dh hW _ hcond NW Qh _ _;have hL:laidMet Tryz.prog zm W:=Qh;have hsmall:Rows.uptoSmall H (ds++gs)=true:=hcond _ rfl;clear NW hcond Qh;have hval: ∀(j:Nat) t v,Tryz.f5.params[j]? =some t→args[j]? =some v→Value.okWide Tryz.prog W .any base t v:=Dh;have hW':=hW;obtain⟨p,q,Qj,hV,rfl,_,_⟩:=hW;have hA:DataW.TrodAll enc Tryz.prog W 0 (fun _=>true) true Tryz.f5.params.toList args.toList ds p:=Qj;rw[Tryz.params5] at hA hval;obtain⟨rfl,rfl⟩:=trodVars_none hV;obtain⟨v0,vs0,d0,ds0,p0,q0,hargs,rfl,rfl,h0,r0⟩:=trodAll_cons hA;obtain⟨v1,vs1,d1,ds1,p1,q1,rfl,rfl,rfl,h1,r1⟩:=trodAll_cons r0;obtain⟨rfl,rfl,rfl⟩:=trodAll_nil r1;obtain rfl:args= #[v0,v1]:=by cases args;simp_all
 obtain⟨s,rfl,rfl,rfl,hs⟩:=open_string Tryz.underlying9 (hval 0 9 v0 rfl rfl) h0;obtain⟨k,rfl,rfl,rfl,hk⟩:=open_int Tryz.underlying3 (hval 1 3 v1 rfl rfl) h1;clear Qj Dh;have hlim:s.size≤1048576:=Mq hsmall;simp only[List.append_nil] at hW';refine(Ej s k W (Dr hL) hlim).mono fun e W' ⟨he,hnx⟩=> ?_;subst he;refine⟨_,rfl,_,_,_,[],[],[],hW', ?_, ?_,rfl,hnx.frame _,fun h=>by cases h⟩
 ·exact trodAll_mk1 (shut_bool Tryz.underlying4 _)
 ·exact trodAll_cons_mk (shut_string Tryz.underlying9 hs) (trodAll_mk1 (shut_int Tryz.underlying3 hk))
theorem Fa:Rows.DeskBeginsUptoSaid:=
 OpenClaim.holds_of_cond 5 Tryz.f5 rfl rfl rfl rfl rfl rfl rfl ⟨rfl,rfl,rfl,rfl,rfl⟩ rfl rfl rfl rfl rfl (by kernel_rfl) Tryz.func5 (by kernel_rfl)
  (of_decide_eq_true (by kernel_rfl)) (by unfold Func.isWrapper;first | (rw[if_pos (by decide+kernel)];kernel_rfl) | (rw[if_neg (by decide+kernel)];exact ⟨rfl,rfl⟩))
  (fun os started H enc _ F=>by rw[OpenClaim.pre_eq_preRow];exact AY os started H enc F)
theorem deskBegins_proved:Rows.DeskBeginsUptoCardSaid:=
 Claim7.holds_tied_plain_at .later [] [.data, .data, .data, .data, .sentinel, .sentinel, .pinned] true (true, "aa9b9ac25a4db324acd3488f6d0aada1f7b9ae82fa8fa321b78ca9d5feb2b5f8") true
  Fa (fun _ h=>by cases h) (by kernel_rfl) (fun _ h=>by cases h) deskBeginsUpto_row_tie rfl ⟨rfl,rfl⟩ (by kernel_rfl) rfl
  (fun f fn hf hfn=>by
   obtain rfl : f = 5 := Option.some.inj ((show Tryz.prog.funcNamed "reedmace/reedkeep.DeskBegins" = some 5 by kernel_rfl).symm.trans hf) |>.symm;obtain rfl:fn=Tryz.f5:=(Option.some.inj (Tryz.func5.symm.trans hfn)).symm;exact⟨by kernel_rfl,fun j t ht=>by
    rw[Tryz.params5] at ht;have h3:t=9∨t=3:=by
     rcases j with _ | _ | j
     ·left;simpa using ht.symm
     ·right;simpa using ht.symm
     ·simp at ht
    rcases h3 with rfl | rfl
    ·exact(show Tryz.prog.wantsStandIn 9=false by kernel_rfl)
    ·exact(show Tryz.prog.wantsStandIn 3=false by kernel_rfl)⟩)
  (by kernel_rfl)
#print axioms deskBegins_proved
end Go.Proofs.YtajgndoiddmbmaaGreatDoor
