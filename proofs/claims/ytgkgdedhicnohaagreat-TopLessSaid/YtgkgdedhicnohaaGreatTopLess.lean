/- TopLess returns true for every slice of boxes and every slice of slices of integers, on every machine state in which its arguments can be read; no condition. -/
import Derived.Test.YtgkgdedhicnohaaGreatMFrame
import Derived.Test.YtgkgdedhicnohaaGreatMOpen
import Derived.Test.YtgkgdedhicnohaaGreatMLess
namespace Go.Proofs.YtgkgdedhicnohaaGreat
set_option maxRecDepth 100000
set_option maxHeartbeats 40000000
open Go.ChangeShapes Go.WideShapes Go.ChangeAt Go.RowKit Go.ChangeMaps
theorem topLess_lifted (os:Os) (started:os.Started) (H:Type) (enc:TypeId×Value→H):
  ReturnsInHanded {} Tryz.checked os 4 .any (Rows.topLessSpec.pre6 enc Tryz.prog Tryz.f4 Rows.topLessRow.domain false) (Rows.topLessSpec.post enc Tryz.prog Tryz.f4 false true false false):=by
 refine law_of_walk started (by kernel_rfl) Tryz.func4
  (ChangeSpec.witness6 (enc:=enc) (C:=Tryz.checked) false ⟨#[], #[.slice none 0 0, .slice none 0 0],[]⟩ 8 (by kernel_rfl) (by kernel_rfl) (by kernel_rfl) (by kernel_rfl)) rfl
  (fun ds h=>by match ds,h with | [_,_],_=>rfl) (by kernel_rfl) rfl ?_
 intro W base args ds p hR
 obtain⟨hval,hA,hlt,hsz⟩:=hR
 rw[Tryz.params4] at hA hval hsz
 obtain⟨v0,vs0,d0,ds0,p0,q0,hargs,rfl,rfl,h0,r0⟩:=trodAll_cons hA
 obtain⟨v1,vs1,d1,ds1,p1,q1,rfl,rfl,rfl,h1,r1⟩:=trodAll_cons r0
 obtain⟨rfl,rfl,rfl⟩:=trodAll_nil r1
 obtain rfl:args= #[v0,v1]:=by cases args;simp_all
 obtain⟨l0,hl0,hb0⟩:=Rdo.boxes (H:=H) (enc:=enc) (v:=v0) (by have h:=Rdo.of_arg (j:=0) hsz rfl rfl h0 (fun x hx=>hlt x (by simp[hx]));rwa [okWide_slice_cells Tryz.underlying33 (hval 0 33 v0 rfl rfl)] at h)
 obtain⟨l1,hl1⟩:=Rdo.vecs (H:=H) (enc:=enc) (v:=v1) (by have h:=Rdo.of_arg (j:=1) hsz rfl rfl h1 (fun x hx=>hlt x (by simp[hx]));rwa [okWide_slice_cells Tryz.underlying23 (hval 1 23 v1 rfl rfl)] at h)
 exact TopLess_walk v0 v1 l0 l1 W hl0 hl1
theorem topLess_place:(Rows.topLessRow.inPlace==Tryz.pinned.checked.prog.inPlace 4)=true:=by kernel_rfl
theorem topLess_unfollowed:(Rows.topLessRow.unfollowed==Tryz.pinned.checked.prog.unfollowed 4)=true:=by kernel_rfl
theorem topLess_recurses:(Rows.topLessRow.recurses==Tryz.pinned.checked.prog.recurses 4)=true:=by kernel_rfl
theorem topLess_named:(Rows.topLessRow.named==Tryz.pinned.checked.prog.varsNamed 4)=true:=by kernel_rfl
theorem topLess_joined:joinedFacts Tryz.pinned.checked.prog 4 Tryz.f4 Rows.topLessSpec Rows.topLessRow=true:=
 joined_of (by kernel_rfl) shut_laid shut_rowed (by kernel_rfl) (by kernel_rfl) (by kernel_rfl) shut_stops (by kernel_rfl) shut_knobs topLess_place topLess_unfollowed topLess_recurses topLess_named (by kernel_rfl) (by kernel_rfl) (by kernel_rfl) (by kernel_rfl) (by kernel_rfl) (by kernel_rfl) (by kernel_rfl) (by kernel_rfl) (by kernel_rfl) shut_keys (by kernel_rfl) shut_heard shut_enter shut_lifts shut_make (by kernel_rfl) (by kernel_rfl) (by kernel_rfl) (by kernel_rfl)
theorem topLess_proved:Rows.TopLessSaid:=
 OpenClaim.holds_of_wide 4 Tryz.f4 rfl rfl rfl rfl rfl rfl rfl ⟨rfl,rfl,rfl,rfl,rfl⟩ rfl rfl rfl rfl rfl (by kernel_rfl) Tryz.func4 topLess_joined
  (of_decide_eq_true (by kernel_rfl)) (by unfold Func.isWrapper;first | (rw[if_pos (by decide+kernel)];kernel_rfl) | (rw[if_neg (by decide+kernel)];exact ⟨rfl,rfl⟩))
  (fun os started H enc _=>topLess_lifted os started H enc)
#print axioms topLess_proved
end Go.Proofs.YtgkgdedhicnohaaGreat
