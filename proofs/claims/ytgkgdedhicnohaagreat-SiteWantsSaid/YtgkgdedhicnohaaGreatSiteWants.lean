/- SiteWants returns true for all two slices of boxes, all two slices of slices of integers and every point, on every machine state in which its arguments can be read; no condition. -/
import Derived.Test.YtgkgdedhicnohaaGreatMFrame
import Derived.Test.YtgkgdedhicnohaaGreatMOpen
import Derived.Test.YtgkgdedhicnohaaGreatSiteWantsWalk
namespace Go.Proofs.YtgkgdedhicnohaaGreat
set_option maxRecDepth 100000
set_option maxHeartbeats 40000000
open Go.ChangeShapes Go.WideShapes Go.ChangeAt Go.RowKit Go.ChangeMaps
theorem siteWants_lifted (os:Os) (started:os.Started) (H:Type) (enc:TypeId×Value→H):
  ReturnsInHanded {} Tryz.checked os 7 .any (Rows.siteWantsSpec.pre6 enc Tryz.prog Tryz.f7 Rows.siteWantsRow.domain false) (Rows.siteWantsSpec.post enc Tryz.prog Tryz.f7 false true false false):=by
 refine law_of_walk started (by kernel_rfl) Tryz.func7
  (ChangeSpec.witness6 (enc:=enc) (C:=Tryz.checked) false ⟨#[], #[.slice none 0 0, .slice none 0 0, .slice none 0 0, .slice none 0 0, .agg #[.int .i64 0, .int .i64 0]],[]⟩ 8 (by kernel_rfl) (by kernel_rfl) (by kernel_rfl) (by kernel_rfl)) rfl
  (fun ds h=>by match ds,h with | [_,_,_,_,_],_=>rfl) (by kernel_rfl) rfl ?_
 intro W base args ds p hR
 obtain⟨hval,hA,hlt,hsz⟩:=hR
 rw[Tryz.params7] at hA hval hsz
 obtain⟨v0,vs0,d0,ds0,p0,q0,hargs,rfl,rfl,h0,r0⟩:=trodAll_cons hA
 obtain⟨v1,vs1,d1,ds1,p1,q1,rfl,rfl,rfl,h1,r1⟩:=trodAll_cons r0
 obtain⟨v2,vs2,d2,ds2,p2,q2,rfl,rfl,rfl,h2,r2⟩:=trodAll_cons r1
 obtain⟨v3,vs3,d3,ds3,p3,q3,rfl,rfl,rfl,h3,r3⟩:=trodAll_cons r2
 obtain⟨v4,vs4,d4,ds4,p4,q4,rfl,rfl,rfl,h4,r4⟩:=trodAll_cons r3
 obtain⟨rfl,rfl,rfl⟩:=trodAll_nil r4
 obtain rfl:args= #[v0,v1,v2,v3,v4]:=by cases args;simp_all
 obtain⟨l0,hl0,hb0⟩:=Rdo.boxes (H:=H) (enc:=enc) (v:=v0) (by have h:=Rdo.of_arg (j:=0) hsz rfl rfl h0 (fun x hx=>hlt x (by simp[hx]));rwa [okWide_slice_cells Tryz.underlying33 (hval 0 33 v0 rfl rfl)] at h)
 obtain⟨l1,hl1,hb1⟩:=Rdo.boxes (H:=H) (enc:=enc) (v:=v1) (by have h:=Rdo.of_arg (j:=1) hsz rfl rfl h1 (fun x hx=>hlt x (by simp[hx]));rwa [okWide_slice_cells Tryz.underlying33 (hval 1 33 v1 rfl rfl)] at h)
 obtain⟨l2,hl2⟩:=Rdo.vecs (H:=H) (enc:=enc) (v:=v2) (by have h:=Rdo.of_arg (j:=2) hsz rfl rfl h2 (fun x hx=>hlt x (by simp[hx]));rwa [okWide_slice_cells Tryz.underlying23 (hval 2 23 v2 rfl rfl)] at h)
 obtain⟨l3,hl3⟩:=Rdo.vecs (H:=H) (enc:=enc) (v:=v3) (by have h:=Rdo.of_arg (j:=3) hsz rfl rfl h3 (fun x hx=>hlt x (by simp[hx]));rwa [okWide_slice_cells Tryz.underlying23 (hval 3 23 v3 rfl rfl)] at h)
 obtain⟨pt4,pn4,hp4⟩:=Rdo.point (H:=H) (enc:=enc) (Rdo.of_arg (j:=4) hsz rfl rfl h4 (fun x hx=>hlt x (by simp[hx])))
 have hv4:=okWide_struct_cells Tryz.underlying39 (hval 4 39 v4 rfl rfl)
 rw[hp4] at hv4
 subst hv4
 exact SiteWants_walk v0 v1 v2 v3 l0 l1 l2 l3 pt4 pn4 W hl0 hl1 hl2 hl3
theorem siteWants_place:(Rows.siteWantsRow.inPlace==Tryz.pinned.checked.prog.inPlace 7)=true:=by kernel_rfl
theorem siteWants_unfollowed:(Rows.siteWantsRow.unfollowed==Tryz.pinned.checked.prog.unfollowed 7)=true:=by kernel_rfl
theorem siteWants_recurses:(Rows.siteWantsRow.recurses==Tryz.pinned.checked.prog.recurses 7)=true:=by kernel_rfl
theorem siteWants_named:(Rows.siteWantsRow.named==Tryz.pinned.checked.prog.varsNamed 7)=true:=by kernel_rfl
theorem siteWants_joined:joinedFacts Tryz.pinned.checked.prog 7 Tryz.f7 Rows.siteWantsSpec Rows.siteWantsRow=true:=
 joined_of (by kernel_rfl) shut_laid shut_rowed (by kernel_rfl) (by kernel_rfl) (by kernel_rfl) shut_stops (by kernel_rfl) shut_knobs siteWants_place siteWants_unfollowed siteWants_recurses siteWants_named (by kernel_rfl) (by kernel_rfl) (by kernel_rfl) (by kernel_rfl) (by kernel_rfl) (by kernel_rfl) (by kernel_rfl) (by kernel_rfl) (by kernel_rfl) shut_keys (by kernel_rfl) shut_heard shut_enter shut_lifts shut_make (by kernel_rfl) (by kernel_rfl) (by kernel_rfl) (by kernel_rfl)
theorem siteWants_proved:Rows.SiteWantsSaid:=
 OpenClaim.holds_of_wide 7 Tryz.f7 rfl rfl rfl rfl rfl rfl rfl ⟨rfl,rfl,rfl,rfl,rfl⟩ rfl rfl rfl rfl rfl (by kernel_rfl) Tryz.func7 siteWants_joined
  (of_decide_eq_true (by kernel_rfl)) (by unfold Func.isWrapper;first | (rw[if_pos (by decide+kernel)];kernel_rfl) | (rw[if_neg (by decide+kernel)];exact ⟨rfl,rfl⟩))
  (fun os started H enc _=>siteWants_lifted os started H enc)
#print axioms siteWants_proved
end Go.Proofs.YtgkgdedhicnohaaGreat
