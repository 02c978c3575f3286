/- SiteKnows returns true for every slice of boxes, all two slices of slices of integers and every point, on every machine state in which its arguments can be read; no condition. -/
import Derived.Test.YtgkgdedhicnohaaGreatMFrame
import Derived.Test.YtgkgdedhicnohaaGreatMOpen
import Derived.Test.YtgkgdedhicnohaaGreatSiteKnowsWalk
namespace Go.Proofs.YtgkgdedhicnohaaGreat
set_option maxRecDepth 100000
set_option maxHeartbeats 40000000
open Go.ChangeShapes Go.WideShapes Go.ChangeAt Go.RowKit Go.ChangeMaps
theorem siteKnows_lifted (os:Os) (started:os.Started) (H:Type) (enc:TypeId×Value→H):
  ReturnsInHanded {} Tryz.checked os 6 .any (Rows.siteKnowsSpec.pre6 enc Tryz.prog Tryz.f6 Rows.siteKnowsRow.domain false) (Rows.siteKnowsSpec.post enc Tryz.prog Tryz.f6 false true false false):=by
 refine law_of_walk started (by kernel_rfl) Tryz.func6
  (ChangeSpec.witness6 (enc:=enc) (C:=Tryz.checked) false ⟨#[], #[.slice none 0 0, .slice none 0 0, .slice none 0 0, .agg #[.int .i64 0, .int .i64 0]],[]⟩ 8 (by kernel_rfl) (by kernel_rfl) (by kernel_rfl) (by kernel_rfl)) rfl
  (fun ds h=>by match ds,h with | [_,_,_,_],_=>rfl) (by kernel_rfl) rfl ?_
 intro W base args ds p hR
 obtain⟨hval,hA,hlt,hsz⟩:=hR
 rw[Tryz.params6] at hA hval hsz
 obtain⟨v0,vs0,d0,ds0,p0,q0,hargs,rfl,rfl,h0,r0⟩:=trodAll_cons hA
 obtain⟨v1,vs1,d1,ds1,p1,q1,rfl,rfl,rfl,h1,r1⟩:=trodAll_cons r0
 obtain⟨v2,vs2,d2,ds2,p2,q2,rfl,rfl,rfl,h2,r2⟩:=trodAll_cons r1
 obtain⟨v3,vs3,d3,ds3,p3,q3,rfl,rfl,rfl,h3,r3⟩:=trodAll_cons r2
 obtain⟨rfl,rfl,rfl⟩:=trodAll_nil r3
 obtain rfl:args= #[v0,v1,v2,v3]:=by cases args;simp_all
 obtain⟨l0,hl0,hb0⟩:=Rdo.boxes (H:=H) (enc:=enc) (v:=v0) (by have h:=Rdo.of_arg (j:=0) hsz rfl rfl h0 (fun x hx=>hlt x (by simp[hx]));rwa [okWide_slice_cells Tryz.underlying33 (hval 0 33 v0 rfl rfl)] at h)
 obtain⟨l1,hl1⟩:=Rdo.vecs (H:=H) (enc:=enc) (v:=v1) (by have h:=Rdo.of_arg (j:=1) hsz rfl rfl h1 (fun x hx=>hlt x (by simp[hx]));rwa [okWide_slice_cells Tryz.underlying23 (hval 1 23 v1 rfl rfl)] at h)
 obtain⟨l2,hl2⟩:=Rdo.vecs (H:=H) (enc:=enc) (v:=v2) (by have h:=Rdo.of_arg (j:=2) hsz rfl rfl h2 (fun x hx=>hlt x (by simp[hx]));rwa [okWide_slice_cells Tryz.underlying23 (hval 2 23 v2 rfl rfl)] at h)
 obtain⟨pt3,pn3,hp3⟩:=Rdo.point (H:=H) (enc:=enc) (Rdo.of_arg (j:=3) hsz rfl rfl h3 (fun x hx=>hlt x (by simp[hx])))
 have hv3:=okWide_struct_cells Tryz.underlying39 (hval 3 39 v3 rfl rfl)
 rw[hp3] at hv3
 subst hv3
 exact SiteKnows_walk v0 v1 v2 l0 l1 l2 pt3 pn3 W hl0 hl1 hl2
theorem siteKnows_place:(Rows.siteKnowsRow.inPlace==Tryz.pinned.checked.prog.inPlace 6)=true:=by kernel_rfl
theorem siteKnows_unfollowed:(Rows.siteKnowsRow.unfollowed==Tryz.pinned.checked.prog.unfollowed 6)=true:=by kernel_rfl
theorem siteKnows_recurses:(Rows.siteKnowsRow.recurses==Tryz.pinned.checked.prog.recurses 6)=true:=by kernel_rfl
theorem siteKnows_named:(Rows.siteKnowsRow.named==Tryz.pinned.checked.prog.varsNamed 6)=true:=by kernel_rfl
theorem siteKnows_joined:joinedFacts Tryz.pinned.checked.prog 6 Tryz.f6 Rows.siteKnowsSpec Rows.siteKnowsRow=true:=
 joined_of (by kernel_rfl) shut_laid shut_rowed (by kernel_rfl) (by kernel_rfl) (by kernel_rfl) shut_stops (by kernel_rfl) shut_knobs siteKnows_place siteKnows_unfollowed siteKnows_recurses siteKnows_named (by kernel_rfl) (by kernel_rfl) (by kernel_rfl) (by kernel_rfl) (by kernel_rfl) (by kernel_rfl) (by kernel_rfl) (by kernel_rfl) (by kernel_rfl) shut_keys (by kernel_rfl) shut_heard shut_enter shut_lifts shut_make (by kernel_rfl) (by kernel_rfl) (by kernel_rfl) (by kernel_rfl)
theorem siteKnows_proved:Rows.SiteKnowsSaid:=
 OpenClaim.holds_of_wide 6 Tryz.f6 rfl rfl rfl rfl rfl rfl rfl ⟨rfl,rfl,rfl,rfl,rfl⟩ rfl rfl rfl rfl rfl (by kernel_rfl) Tryz.func6 siteKnows_joined
  (of_decide_eq_true (by kernel_rfl)) (by unfold Func.isWrapper;first | (rw[if_pos (by decide+kernel)];kernel_rfl) | (rw[if_neg (by decide+kernel)];exact ⟨rfl,rfl⟩))
  (fun os started H enc _=>siteKnows_lifted os started H enc)
#print axioms siteKnows_proved
end Go.Proofs.YtgkgdedhicnohaaGreat
