/- The town of SiteOwn: what its second site keeps. No walk here. -/
import Derived.Test.YtgkgdedhicnohaaGreatSo0
import Derived.Test.YtgkgdedhicnohaaGreatTownB
namespace Go.Proofs.YtgkgdedhicnohaaGreat
set_option maxRecDepth 100000
set_option maxHeartbeats 40000000
open Go.RowKit
theorem newT_one (F:Bxs):1 < (newT [F,everyB]).sites.length:=by show 1 < (newL [F,everyB]).length;rw [newL_len];show 1 < 2;decide
def townM (F:Bxs):TownS:=makeT (newT [F,everyB]) 1 (newT_one F) ⟨#[97]⟩ 0 0 3
theorem townM_len (F:Bxs):(townM F).sites.length=2:=by
 show((newL [F,everyB]).set 1 _).length=2
 rw[List.length_set,newL_len];rfl
theorem townM_L (F:Bxs) (h:1 < (townM F).sites.length): ∃v:Ver,v.id=⟨#[97]⟩∧(townM F).sites[1].L=[v]:=by
 have hok:SiteOk (newS 1 (ptsOf everyB)):=newS_ok ⟨by decide,by decide⟩ _
 have hM:Made [] (newS 1 (ptsOf everyB)):=⟨Hx.nil,by simp[newS],by simp⟩
 have hz:madeE (newS 1 (ptsOf everyB)) ⟨#[97]⟩ 0 0 3=0:=madeE_ok hM hok (by decide) (by decide) (by decide) (by decide)
 have e:(townM F).sites[1]=madeS (newS 1 (ptsOf everyB)) ⟨#[97]⟩ 0 0 3:=by
  have e0: ∀(l:List SiteS) (s:SiteS) (h:1 < (l.set 1 s).length),(l.set 1 s)[1]=s:=fun l s h=>List.getElem_set_self h
  exact(e0 _ _ _).trans (congrArg (fun s=>madeS s ⟨#[97]⟩ 0 0 3) (rfl:(newT [F,everyB]).sites[1]'(newT_one F)=newS 1 (ptsOf everyB)))
 refine⟨madeV (newS 1 (ptsOf everyB)) ⟨#[97]⟩ 0 0 3,rfl, ?_⟩
 rw[e]
 have e2:(madeS (newS 1 (ptsOf everyB)) ⟨#[97]⟩ 0 0 3).L=putL [] (madeV (newS 1 (ptsOf everyB)) ⟨#[97]⟩ 0 0 3):=by unfold madeS;rw [if_pos hz];rfl
 rw[e2]
 have hv:=(madeV_hx hM hok (by decide) (by decide) (id:=⟨#[97]⟩) (t:=0) (n:=0) (bd:=3) (by decide) (by decide)).ok _ (List.mem_append_right _ (List.mem_singleton.2 rfl))
 unfold putL putB insL
 simp[over_self hv]
theorem own_first {w:World} {base:Nat} {v:Value} {x:Ver} (h:VOwn w base v [x]): ∃q c,v= .slice (some ⟨q,0,none⟩) 1 c∧q < w.heap.size∧w.cell? ⟨q,0,none⟩=some (.string x.id):=by
 obtain⟨css,h1,h2⟩:=h
 match css,h1 with
 | [c],⟨⟨a,n,d,b,m,e,k1,_⟩,_⟩=>
  subst k1
  rcases h2.2 with⟨-,h0⟩ | ⟨g,cap,cur,rfl, -,h4, -⟩
  ·exact absurd h0 (by simp)
  ·refine⟨g,cap,rfl,hlt_of h4, ?_⟩
   have:=h2.cells (g:=g) rfl 0 (.string x.id) (by simp[verC])
   rw[Addr.add_lit,Nat.zero_add] at this;exact this
theorem townM_0 (F:Bxs):0 < (townM F).sites.length:=by rw[townM_len];decide
theorem townM_1 (F:Bxs):1 < (townM F).sites.length:=by rw[townM_len];decide
theorem tmakeM_c (g b:Nat) (T:Nat→Prop) (F:Bxs) (w:World) (h:TownAt w b T g (newT [F,everyB])):
  Calls Tryz.prog 18 #[.pointer (some ⟨g,0,none⟩), .int .i64 1, .string ⟨#[97]⟩, .agg #[.int .i64 0, .int .i64 0], .int .i64 3] w fun e w'=>(∃v,e= .returned v)∧TownAt w' b T g (townM F)∧Stp T w w':=
 (tmake_c g b T (newT [F,everyB]) 1 (newT_one F) ⟨#[97]⟩ 0 0 3 w h).mono fun _ _ h=>⟨⟨_,h.1⟩,h.2.1,h.2.2⟩
def townS (F:Bxs):TownS:=sendT (townM F) 0 (townM_0 F) 1
theorem tsendM_c (g b:Nat) (T:Nat→Prop) (F:Bxs) (w:World) (h:TownAt w b T g (townM F)) (hTn: ∀q,w.heap.size≤q→T q):
  Calls Tryz.prog 19 #[.pointer (some ⟨g,0,none⟩), .int .i64 0, .int .i64 1] w fun e w'=>e= .returned (.int .i64 0)∧TownAt w' b T g (townS F)∧Stp T w w':=by
 have he:sendE (townM F) 0 1=0:=by unfold sendE;rw [if_neg (by decide),if_neg (by show ¬60≤0;decide)]
 have hr:sendR (townM F) 0 (townM_0 F) 1=townS F:=by unfold sendR;rw [if_pos he];rfl
 refine(tsend_c g b T (townM F) 0 1 (townM_0 F) (townM_1 F) w h hTn).mono ?_
 rintro e w' ⟨h1,h2,h3⟩
 rw[he] at h1
 rw[hr] at h2
 exact⟨h1,h2,h3⟩
theorem townS_1 (F:Bxs):1 < (townS F).sites.length:=townM_1 F
theorem tbringM_c (g b:Nat) (T:Nat→Prop) (F:Bxs) (w:World) (h:TownAt w b T g (townS F)) (hTn: ∀q,w.heap.size≤q→T q):
  Calls Tryz.prog 20 #[.pointer (some ⟨g,0,none⟩), .int .i64 0] w fun e w'=>e= .returned (.int .i64 0)∧(∃t,TownAt w' b T g t∧wayC t.way=[.bool false, .bool true]∧t.way.length=2∧ ∃(h:1 < t.sites.length) (v:Ver),v.id=⟨#[97]⟩∧t.sites[1].L=[v]∧VerOk v)∧Stp T w w':=by
 refine(tbring_ask g b T (townS F) 0 1 (askS ((townM F).sites[0]'(townM_0 F))) rfl w h hTn (townS_1 F) (by show 1 < 60;decide)).mono ?_
 rintro e w' ⟨h1,h2,h3⟩
 obtain⟨v,hv1,hv2⟩:=townM_L F (townM_1 F)
 refine⟨h1,⟨_,h2,rfl,rfl,townS_1 F,v,hv1,hv2, ?_⟩,h3⟩
 obtain⟨_,_,gi,_,_,_,_,hsa, -⟩:=h2.use (i:=1) (townS_1 F)
 have hm:v∈((townM F).sites[1]'(townM_1 F)).L:=by rw[hv2];exact List.mem_singleton.2 rfl
 exact hsa.ok.L.ok v hm
end Go.Proofs.YtgkgdedhicnohaaGreat
