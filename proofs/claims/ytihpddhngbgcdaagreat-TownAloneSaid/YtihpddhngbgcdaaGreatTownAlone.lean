/- TownAlone returns true for every slice of slices of integers, on every machine state in which its arguments can be read; no condition. -/
import Derived.Test.YtihpddhngbgcdaaGreatMFrame
import Derived.Test.YtihpddhngbgcdaaGreatChecked
import Derived.Test.YtihpddhngbgcdaaGreatMOpen
import Derived.Test.YtihpddhngbgcdaaGreatMFilterP
import Derived.Test.YtihpddhngbgcdaaGreatBase2
import Derived.Test.YtihpddhngbgcdaaGreatMPartO
import Derived.Test.YtihpddhngbgcdaaGreatTownAloneWalk
namespace Go.Proofs.YtihpddhngbgcdaaGreat
open Go.ChangeShapes Go.WideShapes Go.ChangeAt Go.RowKit Go.ChangeMaps
set_option maxRecDepth 100000 in
theorem townAlone_lifted (os:Os) (started:os.Started) (H:Type) (enc:TypeId×Value→H):
  ReturnsInHanded {} Tryz.checked os 8 .any (Rows.townAloneSpec.pre6 enc Tryz.prog Tryz.f8 Rows.townAloneRow.domain false) (Rows.townAloneSpec.post enc Tryz.prog Tryz.f8 false true false false):=by
 refine law_of_walk started (by kernel_rfl) Tryz.func8
  (ChangeSpec.witness6 (enc:=enc) (C:=Tryz.checked) false ⟨#[], #[.slice none 0 0],[]⟩ 8 (by kernel_rfl) (by kernel_rfl) (by kernel_rfl) (by kernel_rfl)) rfl
  (fun ds h=>by match ds,h with | [_],_=>rfl) (by kernel_rfl) rfl ?_
 intro W base args ds p hR
 obtain⟨hval,hA,hlt,hsz⟩:=hR
 rw[Tryz.params8] at hA hval hsz
 obtain⟨v0,vs0,d0,ds0,p0,q0,hargs,rfl,rfl,h0,r0⟩:=trodAll_cons hA
 obtain⟨rfl,rfl,rfl⟩:=trodAll_nil r0
 obtain rfl:args= #[v0]:=by cases args;simp_all
 obtain⟨l0,hl0⟩:=Rdo.vecs (H:=H) (enc:=enc) (v:=v0) (by have h:=Rdo.of_arg (j:=0) hsz rfl rfl h0 (fun x hx=>hlt x (by simp[hx]));rwa [okWide_slice_cells Tryz.underlying23 (hval 0 23 v0 rfl rfl)] at h)
 exact TownAlone_walk v0 l0 W hl0
set_option maxRecDepth 100000 in
theorem townAlone_place:(Rows.townAloneRow.inPlace==Tryz.pinned.checked.prog.inPlace 8)=true:=by kernel_rfl
set_option maxRecDepth 100000 in
theorem townAlone_unfollowed:(Rows.townAloneRow.unfollowed==Tryz.pinned.checked.prog.unfollowed 8)=true:=by kernel_rfl
set_option maxRecDepth 100000 in
theorem townAlone_recurses:(Rows.townAloneRow.recurses==Tryz.pinned.checked.prog.recurses 8)=true:=by kernel_rfl
set_option maxRecDepth 100000 in
theorem townAlone_named:(Rows.townAloneRow.named==Tryz.pinned.checked.prog.varsNamed 8)=true:=by kernel_rfl
set_option maxRecDepth 100000 in
theorem townAlone_joined:joinedFacts Tryz.pinned.checked.prog 8 Tryz.f8 Rows.townAloneSpec Rows.townAloneRow=true:=
 joined_of (by kernel_rfl) shut_laid shut_rowed (by kernel_rfl) (by kernel_rfl) (by kernel_rfl) shut_stops (by kernel_rfl) shut_knobs townAlone_place townAlone_unfollowed townAlone_recurses townAlone_named (by kernel_rfl) (by kernel_rfl) (by kernel_rfl) (by kernel_rfl) (by kernel_rfl) (by kernel_rfl) (by kernel_rfl) (by kernel_rfl) (by kernel_rfl) shut_keys (by kernel_rfl) shut_heard shut_enter shut_lifts shut_make (by kernel_rfl) (by kernel_rfl) (by kernel_rfl) (by kernel_rfl)
set_option maxRecDepth 100000 in
theorem townAlone_proved:Rows.TownAloneSaid:=
 OpenClaim.holds_of_wide 8 Tryz.f8 rfl rfl rfl rfl rfl rfl rfl ⟨rfl,rfl,rfl,rfl,rfl⟩ rfl rfl rfl rfl rfl (by kernel_rfl) Tryz.func8 townAlone_joined
  (of_decide_eq_true (by kernel_rfl)) (by unfold Func.isWrapper;first | (rw[if_pos (by decide+kernel)];kernel_rfl) | (rw[if_neg (by decide+kernel)];exact ⟨rfl,rfl⟩))
  (fun os started H enc _=>townAlone_lifted os started H enc)
#print axioms townAlone_proved
end Go.Proofs.YtihpddhngbgcdaaGreat
