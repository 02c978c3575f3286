/- SiteOwn returns true for every slice of boxes and all two slices of slices of integers, on every machine state in which its arguments can be read; no condition. -/
import Derived.Test.YtgkgdedhicnohaaGreatMFrame
import Derived.Test.YtgkgdedhicnohaaGreatMOpen
import Derived.Test.YtgkgdedhicnohaaGreatChecked
import Derived.Test.YtgkgdedhicnohaaGreatSiteOwnWalk
namespace Go.Proofs.YtgkgdedhicnohaaGreat
set_option maxRecDepth 100000
set_option maxHeartbeats 40000000
open Go.ChangeShapes Go.WideShapes Go.ChangeAt Go.RowKit Go.ChangeMaps
theorem siteOwn_lifted (os:Os) (started:os.Started) (H:Type) (enc:TypeId×Value→H):
  ReturnsInHanded {} Tryz.checked os 8 .any (Rows.siteOwnSpec.pre6 enc Tryz.prog Tryz.f8 Rows.siteOwnRow.domain false) (Rows.siteOwnSpec.post enc Tryz.prog Tryz.f8 false true false false):=by
 refine law_of_walk started (by kernel_rfl) Tryz.func8
  (ChangeSpec.witness6 (enc:=enc) (C:=Tryz.checked) false ⟨#[], #[.slice none 0 0, .slice none 0 0, .slice none 0 0],[]⟩ 8 (by kernel_rfl) (by kernel_rfl) (by kernel_rfl) (by kernel_rfl)) rfl
  (fun ds h=>by match ds,h with | [_,_,_],_=>rfl) (by kernel_rfl) rfl ?_
 intro W base args ds p hR
 obtain⟨hval,hA,hlt,hsz⟩:=hR
 rw[Tryz.params8] at hA hval hsz
 obtain⟨v0,vs0,d0,ds0,p0,q0,hargs,rfl,rfl,h0,r0⟩:=trodAll_cons hA
 obtain⟨v1,vs1,d1,ds1,p1,q1,rfl,rfl,rfl,h1,r1⟩:=trodAll_cons r0
 obtain⟨v2,vs2,d2,ds2,p2,q2,rfl,rfl,rfl,h2,r2⟩:=trodAll_cons r1
 obtain⟨rfl,rfl,rfl⟩:=trodAll_nil r2
 obtain rfl:args= #[v0,v1,v2]:=by cases args;simp_all
 obtain⟨l0,hl0,hb0⟩:=Rdo.boxes (H:=H) (enc:=enc) (v:=v0) (by have h:=Rdo.of_arg (j:=0) hsz rfl rfl h0 (fun x hx=>hlt x (by simp[hx]));rwa [okWide_slice_cells Tryz.underlying33 (hval 0 33 v0 rfl rfl)] at h)
 obtain⟨l1,hl1⟩:=Rdo.vecs (H:=H) (enc:=enc) (v:=v1) (by have h:=Rdo.of_arg (j:=1) hsz rfl rfl h1 (fun x hx=>hlt x (by simp[hx]));rwa [okWide_slice_cells Tryz.underlying23 (hval 1 23 v1 rfl rfl)] at h)
 obtain⟨l2,hl2⟩:=Rdo.vecs (H:=H) (enc:=enc) (v:=v2) (by have h:=Rdo.of_arg (j:=2) hsz rfl rfl h2 (fun x hx=>hlt x (by simp[hx]));rwa [okWide_slice_cells Tryz.underlying23 (hval 2 23 v2 rfl rfl)] at h)
 exact SiteOwn_walk v0 v1 v2 l0 l1 l2 W hl0 hl1 hl2
theorem siteOwn_place:(Rows.siteOwnRow.inPlace==Tryz.pinned.checked.prog.inPlace 8)=true:=by kernel_rfl
theorem siteOwn_unfollowed:(Rows.siteOwnRow.unfollowed==Tryz.pinned.checked.prog.unfollowed 8)=true:=by kernel_rfl
theorem siteOwn_recurses:(Rows.siteOwnRow.recurses==Tryz.pinned.checked.prog.recurses 8)=true:=by kernel_rfl
theorem siteOwn_named:(Rows.siteOwnRow.named==Tryz.pinned.checked.prog.varsNamed 8)=true:=by kernel_rfl
theorem siteOwn_joined:joinedFacts Tryz.pinned.checked.prog 8 Tryz.f8 Rows.siteOwnSpec Rows.siteOwnRow=true:=
 joined_of (by kernel_rfl) shut_laid shut_rowed (by kernel_rfl) (by kernel_rfl) (by kernel_rfl) shut_stops (by kernel_rfl) shut_knobs siteOwn_place siteOwn_unfollowed siteOwn_recurses siteOwn_named (by kernel_rfl) (by kernel_rfl) (by kernel_rfl) (by kernel_rfl) (by kernel_rfl) (by kernel_rfl) (by kernel_rfl) (by kernel_rfl) (by kernel_rfl) shut_keys (by kernel_rfl) shut_heard shut_enter shut_lifts shut_make (by kernel_rfl) (by kernel_rfl) (by kernel_rfl) (by kernel_rfl)
theorem siteOwn_proved:Rows.SiteOwnSaid:=
 OpenClaim.holds_of_wide 8 Tryz.f8 rfl rfl rfl rfl rfl rfl rfl ⟨rfl,rfl,rfl,rfl,rfl⟩ rfl rfl rfl rfl rfl (by kernel_rfl) Tryz.func8 siteOwn_joined
  (of_decide_eq_true (by kernel_rfl)) (by unfold Func.isWrapper;first | (rw[if_pos (by decide+kernel)];kernel_rfl) | (rw[if_neg (by decide+kernel)];exact ⟨rfl,rfl⟩))
  (fun os started H enc _=>siteOwn_lifted os started H enc)
#print axioms siteOwn_proved
end Go.Proofs.YtgkgdedhicnohaaGreat
