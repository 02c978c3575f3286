/- TopKnown returns true for every slice of slices of boxes and every slice of slices of integers, on every machine state in which its arguments can be read; no condition. -/
import Derived.Test.YtgkgdedhicnohaaGreatMFrame
import Derived.Test.YtgkgdedhicnohaaGreatMOpen
import Derived.Test.YtgkgdedhicnohaaGreatMTopW
namespace Go.Proofs.YtgkgdedhicnohaaGreat
set_option maxRecDepth 100000
set_option maxHeartbeats 40000000
open Go.ChangeShapes Go.WideShapes Go.ChangeAt Go.RowKit Go.ChangeMaps
theorem topKnown_lifted (os:Os) (started:os.Started) (H:Type) (enc:TypeId×Value→H):
  ReturnsInHanded {} Tryz.checked os 9 .any (Rows.topKnownSpec.pre6 enc Tryz.prog Tryz.f9 Rows.topKnownRow.domain false) (Rows.topKnownSpec.post enc Tryz.prog Tryz.f9 false true false false):=by
 refine law_of_walk started (by kernel_rfl) Tryz.func9
  (ChangeSpec.witness6 (enc:=enc) (C:=Tryz.checked) false ⟨#[], #[.slice none 0 0, .slice none 0 0],[]⟩ 8 (by kernel_rfl) (by kernel_rfl) (by kernel_rfl) (by kernel_rfl)) rfl
  (fun ds h=>by match ds,h with | [_,_],_=>rfl) (by kernel_rfl) rfl ?_
 intro W base args ds p hR
 obtain⟨hval,hA,hlt,hsz⟩:=hR
 rw[Tryz.params9] at hA hval hsz
 obtain⟨v0,vs0,d0,ds0,p0,q0,hargs,rfl,rfl,h0,r0⟩:=trodAll_cons hA
 obtain⟨v1,vs1,d1,ds1,p1,q1,rfl,rfl,rfl,h1,r1⟩:=trodAll_cons r0
 obtain⟨rfl,rfl,rfl⟩:=trodAll_nil r1
 obtain rfl:args= #[v0,v1]:=by cases args;simp_all
 obtain⟨l0,hl0⟩:=Rdo.boxess (H:=H) (enc:=enc) (v:=v0) (by have h:=Rdo.of_arg (j:=0) hsz rfl rfl h0 (fun x hx=>hlt x (by simp[hx]));rwa [okWide_slice_cells Tryz.underlying22 (hval 0 22 v0 rfl rfl)] at h)
 obtain⟨l1,hl1⟩:=Rdo.vecs (H:=H) (enc:=enc) (v:=v1) (by have h:=Rdo.of_arg (j:=1) hsz rfl rfl h1 (fun x hx=>hlt x (by simp[hx]));rwa [okWide_slice_cells Tryz.underlying23 (hval 1 23 v1 rfl rfl)] at h)
 exact TopKnown_walk v0 v1 l0 l1 W hl0 hl1
theorem topKnown_place:(Rows.topKnownRow.inPlace==Tryz.pinned.checked.prog.inPlace 9)=true:=by kernel_rfl
theorem topKnown_unfollowed:(Rows.topKnownRow.unfollowed==Tryz.pinned.checked.prog.unfollowed 9)=true:=by kernel_rfl
theorem topKnown_recurses:(Rows.topKnownRow.recurses==Tryz.pinned.checked.prog.recurses 9)=true:=by kernel_rfl
theorem topKnown_named:(Rows.topKnownRow.named==Tryz.pinned.checked.prog.varsNamed 9)=true:=by kernel_rfl
theorem topKnown_joined:joinedFacts Tryz.pinned.checked.prog 9 Tryz.f9 Rows.topKnownSpec Rows.topKnownRow=true:=
 joined_of (by kernel_rfl) shut_laid shut_rowed (by kernel_rfl) (by kernel_rfl) (by kernel_rfl) shut_stops (by kernel_rfl) shut_knobs topKnown_place topKnown_unfollowed topKnown_recurses topKnown_named (by kernel_rfl) (by kernel_rfl) (by kernel_rfl) (by kernel_rfl) (by kernel_rfl) (by kernel_rfl) (by kernel_rfl) (by kernel_rfl) (by kernel_rfl) shut_keys (by kernel_rfl) shut_heard shut_enter shut_lifts shut_make (by kernel_rfl) (by kernel_rfl) (by kernel_rfl) (by kernel_rfl)
theorem topKnown_proved:Rows.TopKnownSaid:=
 OpenClaim.holds_of_wide 9 Tryz.f9 rfl rfl rfl rfl rfl rfl rfl ⟨rfl,rfl,rfl,rfl,rfl⟩ rfl rfl rfl rfl rfl (by kernel_rfl) Tryz.func9 topKnown_joined
  (of_decide_eq_true (by kernel_rfl)) (by unfold Func.isWrapper;first | (rw[if_pos (by decide+kernel)];kernel_rfl) | (rw[if_neg (by decide+kernel)];exact ⟨rfl,rfl⟩))
  (fun os started H enc _=>topKnown_lifted os started H enc)
#print axioms topKnown_proved
end Go.Proofs.YtgkgdedhicnohaaGreat
