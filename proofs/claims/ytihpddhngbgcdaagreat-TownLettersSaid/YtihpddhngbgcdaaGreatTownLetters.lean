/- TownLetters returns true for every slice of slices of boxes, slice of slices of integers and all two integers, on every machine state in which its arguments can be read; no condition. -/
import Derived.Test.YtihpddhngbgcdaaGreatMFrame
import Derived.Test.YtihpddhngbgcdaaGreatMOpen
import Derived.Test.YtihpddhngbgcdaaGreatTownLettersWalk
namespace Go.Proofs.YtihpddhngbgcdaaGreat
open Go.ChangeShapes Go.WideShapes Go.ChangeAt Go.RowKit Go.ChangeMaps
set_option maxRecDepth 100000 in
theorem townLetters_lifted (os:Os) (started:os.Started) (H:Type) (enc:TypeId×Value→H):
  ReturnsInHanded {} Tryz.checked os 11 .any (Rows.townLettersSpec.pre6 enc Tryz.prog Tryz.f11 Rows.townLettersRow.domain false) (Rows.townLettersSpec.post enc Tryz.prog Tryz.f11 false true false false):=by
 refine law_of_walk started (by kernel_rfl) Tryz.func11
  (ChangeSpec.witness6 (enc:=enc) (C:=Tryz.checked) false ⟨#[], #[.slice none 0 0, .slice none 0 0, .int .i64 0, .int .i64 0],[]⟩ 8 (by kernel_rfl) (by kernel_rfl) (by kernel_rfl) (by kernel_rfl)) rfl
  (fun ds h=>by match ds,h with | [_,_,_,_],_=>rfl) (by kernel_rfl) rfl ?_
 intro W base args ds p hR
 obtain⟨hval,hA,hlt,hsz⟩:=hR
 rw[Tryz.params11] at hA hval hsz
 obtain⟨v0,vs0,d0,ds0,p0,q0,hargs,rfl,rfl,h0,r0⟩:=trodAll_cons hA
 obtain⟨v1,vs1,d1,ds1,p1,q1,rfl,rfl,rfl,h1,r1⟩:=trodAll_cons r0
 obtain⟨v2,vs2,d2,ds2,p2,q2,rfl,rfl,rfl,h2,r2⟩:=trodAll_cons r1
 obtain⟨v3,vs3,d3,ds3,p3,q3,rfl,rfl,rfl,h3,r3⟩:=trodAll_cons r2
 obtain⟨rfl,rfl,rfl⟩:=trodAll_nil r3
 obtain rfl:args= #[v0,v1,v2,v3]:=by cases args;simp_all
 obtain⟨l0,hl0⟩:=Rdo.boxess (H:=H) (enc:=enc) (v:=v0) (by have h:=Rdo.of_arg (j:=0) hsz rfl rfl h0 (fun x hx=>hlt x (by simp[hx]));rwa [okWide_slice_cells Tryz.underlying22 (hval 0 22 v0 rfl rfl)] at h)
 obtain⟨l1,hl1⟩:=Rdo.vecs (H:=H) (enc:=enc) (v:=v1) (by have h:=Rdo.of_arg (j:=1) hsz rfl rfl h1 (fun x hx=>hlt x (by simp[hx]));rwa [okWide_slice_cells Tryz.underlying23 (hval 1 23 v1 rfl rfl)] at h)
 obtain⟨a2,rfl,rfl,rfl,wf2⟩:=open_int Tryz.underlying3 (hval 2 3 v2 rfl rfl) h2
 obtain⟨a3,rfl,rfl,rfl,wf3⟩:=open_int Tryz.underlying3 (hval 3 3 v3 rfl rfl) h3
 exact TownLetters_walk v0 v1 l0 l1 a2 a3 W hl0 hl1
set_option maxRecDepth 100000 in
theorem townLetters_place:(Rows.townLettersRow.inPlace==Tryz.pinned.checked.prog.inPlace 11)=true:=by kernel_rfl
set_option maxRecDepth 100000 in
theorem townLetters_unfollowed:(Rows.townLettersRow.unfollowed==Tryz.pinned.checked.prog.unfollowed 11)=true:=by kernel_rfl
set_option maxRecDepth 100000 in
theorem townLetters_recurses:(Rows.townLettersRow.recurses==Tryz.pinned.checked.prog.recurses 11)=true:=by kernel_rfl
set_option maxRecDepth 100000 in
theorem townLetters_named:(Rows.townLettersRow.named==Tryz.pinned.checked.prog.varsNamed 11)=true:=by kernel_rfl
set_option maxRecDepth 100000 in
theorem townLetters_joined:joinedFacts Tryz.pinned.checked.prog 11 Tryz.f11 Rows.townLettersSpec Rows.townLettersRow=true:=
 joined_of (by kernel_rfl) shut_laid shut_rowed (by kernel_rfl) (by kernel_rfl) (by kernel_rfl) shut_stops (by kernel_rfl) shut_knobs townLetters_place townLetters_unfollowed townLetters_recurses townLetters_named (by kernel_rfl) (by kernel_rfl) (by kernel_rfl) (by kernel_rfl) (by kernel_rfl) (by kernel_rfl) (by kernel_rfl) (by kernel_rfl) (by kernel_rfl) shut_keys (by kernel_rfl) shut_heard shut_enter shut_lifts shut_make (by kernel_rfl) (by kernel_rfl) (by kernel_rfl) (by kernel_rfl)
set_option maxRecDepth 100000 in
theorem townLetters_proved:Rows.TownLettersSaid:=
 OpenClaim.holds_of_wide 11 Tryz.f11 rfl rfl rfl rfl rfl rfl rfl ⟨rfl,rfl,rfl,rfl,rfl⟩ rfl rfl rfl rfl rfl (by kernel_rfl) Tryz.func11 townLetters_joined
  (of_decide_eq_true (by kernel_rfl)) (by unfold Func.isWrapper;first | (rw[if_pos (by decide+kernel)];kernel_rfl) | (rw[if_neg (by decide+kernel)];exact ⟨rfl,rfl⟩))
  (fun os started H enc _=>townLetters_lifted os started H enc)
#print axioms townLetters_proved
end Go.Proofs.YtihpddhngbgcdaaGreat
