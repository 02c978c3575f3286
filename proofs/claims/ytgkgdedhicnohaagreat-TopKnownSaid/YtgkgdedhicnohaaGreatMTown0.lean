/- A town: what it holds, and where it lies in memory. No walk here. Sites that make, want, ask and take, by letters that may be late, lost and doubled: what stays true. No program in sight. A town: what stays true of it, whatever its sites do and its letters tell. No program in sight. append, and what becomes of the row's old block: it keeps its size and its first cells; what lies behind a row is zero. No program in sight. A letter more, a letter less: what that does to a town's memory. No walk here. -/
import Derived.Test.YtgkgdedhicnohaaGreatMSiteD
namespace Go.Proofs.YtgkgdedhicnohaaGreat
open Go.RowKit
structure AskS where
 site:Int
 stamp:Int
 P:Nat→Nat→Bool
 S:List SP
structure AskSOk (a:AskS):Prop where
 site:0≤a.site∧a.site < 5
 stamp:0≤a.stamp∧a.stamp≤1000000
 S: ∀x∈a.S,SPOk x
 ls:a.S.length≤30
def askS (s:SiteS):AskS:=⟨s.me,s.stamp,s.P,knownS s⟩
theorem askS_ok {s:SiteS} (h:SiteOk s):AskSOk (askS s):=⟨h.me,h.stamp,h.known,h.klen⟩
inductive LetS where
 | ask (to:Nat) (a:AskS)
 | bat (to:Nat) (b:BtS)
def LetS.to:LetS→Nat
 | .ask t _=>t
 | .bat t _=>t
def LetOk (n:Nat):LetS→Prop
 | .ask t a=>t < n∧AskSOk a∧a.site < n
 | .bat t b=>t < n∧BtSOk b
structure TownS where
 sites:List SiteS
 way:List LetS
structure TownOk (t:TownS):Prop where
 me: ∀i (h:i < t.sites.length),t.sites[i].me=i
 len:t.sites.length≤5
 way: ∀l∈t.way,LetOk t.sites.length l
 lw:t.way.length≤60
def ptrs (gs:List Nat):List Value:=gs.map fun g=> .pointer (some ⟨g,0,none⟩)
structure SitesAt (w:World) (b:Nat) (gs:List Nat) (l:List SiteS):Prop where
 len:gs.length=l.length
 nd:gs.Nodup
 each: ∀i (h:i < gs.length) (h2:i < l.length),SiteAt w b gs[i] l[i]
theorem SitesAt.stp {G:Nat→Prop} {w w':World} {b:Nat} {gs:List Nat} {l:List SiteS} (h:SitesAt w b gs l) (hs:Stp G w w') (hG: ∀g∈gs,¬G g):SitesAt w' b gs l:=
 ⟨h.len,h.nd,fun i h1 h2=>(h.each i h1 h2).stp hs (hG _ (List.getElem_mem h1))⟩
theorem SitesAt.below {w w':World} {b:Nat} {gs:List Nat} {l:List SiteS} (h:SitesAt w b gs l) (hb:Below w.heap.size w w'):SitesAt w' b gs l:=h.stp (G:=fun _=>False) (Stp.of_below hb) fun _ _ h=>h
theorem SitesAt.set {w w':World} {b i:Nat} {gs:List Nat} {l:List SiteS} {s:SiteS} (h:SitesAt w b gs l) (hi:i < gs.length) (hs:Stp (fun q=>q=gs[i]) w w') (hn:SiteAt w' b gs[i] s):SitesAt w' b gs (l.set i s):=by
 refine⟨by rw[List.length_set];exact h.len,h.nd,fun j h1 h2=> ?_⟩
 by_cases hj:j=i
 ·subst hj;rw [List.getElem_set_self];exact hn
 ·rw[List.getElem_set_ne (by omega)]
  refine(h.each j h1 (by simpa using h2)).stp hs fun e=>hj ?_
  have hnd:=List.pairwise_iff_getElem.1 h.nd
  rcases Nat.lt_trichotomy j i with hl | hl | hl
  ·exact absurd e (hnd j i h1 hi hl)
  ·exact hl
  ·exact absurd e.symm (hnd i j hi h1 hl)
theorem heap_ty {w:World} {q:Nat} {c d:Array Value} {t u:TypeId} {x y:Nat×Nat} (h1:w.heap[q]? =some (Obj.cells c t x)) (h2:w.heap[q]? =some (Obj.cells d u y)):t=u:=by
 rw[h1] at h2;injection h2 with h2;injection h2
theorem SiteAt.ty {w:World} {b g:Nat} {s:SiteS} (h:SiteAt w b g s): ∃cs,w.heap[g]? =some (Obj.cells cs 128 (0,0)):=by
 obtain⟨f,l,p,h1, -⟩:=h.cells;exact ⟨_,h1⟩
theorem row_one {w:World} {base e n i:Nat} {v x:Value} {xs:List Value} (h:w.ownsRow base e 1 v n xs) (hx:xs[i]? =some x): ∃q cap,v= .slice (some ⟨q,0,none⟩) n cap∧q < w.heap.size∧w.cell? ⟨q,i,none⟩=some x:=by
 have hi:i < xs.length:=(List.getElem?_eq_some_iff.1 hx).1
 have hn:0 < n:=by
  have:=h.1
  simp only[Nat.mul_one] at this
  omega
 rcases h.2 with⟨rfl,rfl⟩ | ⟨g,cap,cur,rfl,h2,h3,h4⟩
 ·exact absurd hn (by decide)
 ·refine⟨g,cap,rfl,hlt_of h3, ?_⟩
  have:=h.cells (g:=g) rfl i x hx
  rw[Addr.add_lit,Nat.zero_add] at this;exact this
def Sup (H:List Ver) (v:Ver):Prop:= ∃w∈H,verOver w v=true
def Dk (H:List Ver) (S:List SP):Prop:= ∀(t n:Nat) (a c:Int),t < 16→n < 32→0≤a→a < 5→1≤c→c≤1000→knowsS S t n a c=true→ ∃v∈H,v.ds=a∧v.dc=c
def Kle (H:List Ver) (A S:List SP):Prop:= ∀v∈H,knV A v=true→knV S v=true
theorem Sup.mono {H H':List Ver} {v:Ver} (h:Sup H v) (hs: ∀x∈H,x∈H'):Sup H' v:=by
 obtain⟨w,h1,h2⟩:=h;exact ⟨w,hs w h1,h2⟩
theorem Dk.mono {H H':List Ver} {S:List SP} (h:Dk H S) (hs: ∀x∈H,x∈H'):Dk H' S:=fun t n a c h1 h2 h3 h4 h5 h6 h7=>by
 obtain⟨v,hv,h8⟩:=h t n a c h1 h2 h3 h4 h5 h6 h7;exact ⟨v,hs v hv,h8⟩
theorem Dk.ver {H:List Ver} {S:List SP} (h:Dk H S) {v:Ver} (hv:VerOk v) (hk:knV S v=true): ∃w∈H,w.ds=v.ds∧w.dc=v.dc:=by
 obtain⟨p1,p2,p3,p4⟩:=pt_rng hv.pt
 obtain⟨d1,d2,d3,d4⟩:=dot_rng hv.dot
 exact h _ _ _ _ (by omega) (by omega) d1 d2 d3 d4 hk
theorem knV_few {l:List SP} (h: ∀x∈l,SPOk x) {v:Ver} (hv:VerOk v):knV (fewS l) v=knV l v:=by
 obtain⟨p1,p2,p3,p4⟩:=pt_rng hv.pt
 obtain⟨d1,d2,d3,d4⟩:=dot_rng hv.dot
 exact few_knows l _ _ _ _ (by omega) (by omega) d1 d2 d3 d4 h
theorem knV_append (l m:List SP) (v:Ver):knV (l++m) v=(knV l v || knV m v):=knowsS_append l m _ _ _ _
theorem knV_narrow {l:List SP} {q:Nat→Nat→Bool} (h: ∀x∈l,SPOk x) {v:Ver} (hv:VerOk v):knV (narrowS l q) v=(knV l v&&inP q v):=by
 obtain⟨p1,p2,p3,p4⟩:=pt_rng hv.pt
 obtain⟨d1,d2,d3,d4⟩:=dot_rng hv.dot
 exact narrow_knows h _ _ _ _ (by omega) (by omega) d1 d2 d3 d4
theorem Dk.few {H:List Ver} {l:List SP} (h:Dk H l) (hl: ∀x∈l,SPOk x):Dk H (fewS l):=fun t n a c h1 h2 h3 h4 h5 h6 h7=>
 h t n a c h1 h2 h3 h4 h5 h6 (by rw[←few_knows l t n a c h1 h2 h3 h4 h5 h6 hl];exact h7)
theorem Dk.append {H:List Ver} {l m:List SP} (h:Dk H l) (h':Dk H m):Dk H (l++m):=fun t n a c h1 h2 h3 h4 h5 h6 h7=>by
 rw[knowsS_append,Bool.or_eq_true] at h7
 exact h7.elim (h t n a c h1 h2 h3 h4 h5 h6) (h' t n a c h1 h2 h3 h4 h5 h6)
theorem Dk.narrow {H:List Ver} {l:List SP} (h:Dk H l) (hl: ∀x∈l,SPOk x) (q:Nat→Nat→Bool):Dk H (narrowS l q):=fun t n a c h1 h2 h3 h4 h5 h6 h7=>by
 rw[narrow_knows hl t n a c h1 h2 h3 h4 h5 h6,Bool.and_eq_true] at h7
 exact h t n a c h1 h2 h3 h4 h5 h6 h7.1
structure SiteI (H:List Ver) (s:SiteS):Prop where
 ok:SiteOk s
 sub: ∀x∈s.L,x∈H
 low: ∀w∈H,w.ds=s.me→w.dc≤s.made
 own: ∀c:Int,1≤c→c≤s.made→ ∃v∈H,v.ds=s.me∧v.dc=c
 dk:Dk H s.S
 snd: ∀v∈H,knV (knownS s) v=true→v∈s.L∨Sup H v
 kn: ∀v∈s.L,knV (knownS s) v=true
theorem SiteI.made {H:List Ver} {s:SiteS} (h:SiteI H s) (hx:Hx H):Made H s:=⟨hx,h.sub,h.low⟩
theorem SiteI.dkn {H:List Ver} {s:SiteS} (h:SiteI H s):Dk H (knownS s):=fun t n a c h1 h2 h3 h4 h5 h6 h7=>by
 rw[knows_known h.ok h1 h2 h3 h4 h5 h6,Bool.or_eq_true,Bool.and_eq_true,decide_eq_true_eq,decide_eq_true_eq] at h7
 rcases h7 with⟨rfl,h8⟩ | h7
 ·exact h.own c h5 h8
 ·exact h.dk t n a c h1 h2 h3 h4 h5 h6 h7
theorem siteI_new (me:Int) (hm:0≤me∧me < 5) (p:Nat→Nat→Bool):SiteI [] (newS me p):=
 ⟨newS_ok hm p,by simp[newS],by simp,fun c h1 h2=>by have:c≤0:=h2;omega,fun t n a c _ _ _ _ _ _ h=>by simp[newS,knowsS] at h,by simp,by simp[newS]⟩
structure BatI (H:List Ver) (b:BtS):Prop where
 V: ∀x∈b.V,x∈H
 G: ∃W:List Ver,(∀x∈W,x∈H)∧b.G=W.map fun v=>⟨v.id,v.past⟩
 dk:Dk H b.S
 kn: ∀v∈b.V,knV b.S v=true
def BatFit (H:List Ver) (b:BtS) (s:SiteS):Prop:= ∀v∈H,knV b.S v=true→v∈b.V∨knV (knownS s) v=true∨Sup H v
theorem stay {H L V W R:List Ver} (h:Taken L V W R) (hL: ∀x∈L,x∈H) (hV: ∀x∈V,x∈H) (hW: ∀x∈W,x∈H) {x:Ver} (hx:x∈L∨x∈V):x∈R∨Sup H x:=by
 by_cases h1: ∃b,(b∈L∨b∈V∨b∈W)∧verOver b x=true
 ·obtain⟨b,hb,ho⟩:=h1
  refine .inr ⟨b, ?_,ho⟩
  rcases hb with hb | hb | hb
  ·exact hL b hb
  ·exact hV b hb
  ·exact hW b hb
 ·refine .inl ((h.mem x).2 ⟨hx,fun b hb=> ?_,fun b hb=> ?_,fun b hb=> ?_⟩)
  ·cases ho:verOver b x
   ·rfl
   ·exact absurd ⟨b, .inl hb,ho⟩ h1
  ·cases ho:verOver b x
   ·rfl
   ·exact absurd ⟨b, .inr (.inl hb),ho⟩ h1
  ·cases ho:verOver b x
   ·rfl
   ·exact absurd ⟨b, .inr (.inr hb),ho⟩ h1
theorem took_eq {s:SiteS} {b:BtS} (h:tookE s b=0):tookS s b= { s with L:=dropsL (laidOn s.L b.V) b.G,S:=fewS (s.S++b.S) } :=by unfold tookS;rw [if_pos h]
theorem took_kn {H:List Ver} {s:SiteS} {b:BtS} (hx:Hx H) (hs:SiteOk s) (hb:BtSOk b) (h:tookE s b=0) {v:Ver} (hv:v∈H):knV (knownS (tookS s b)) v=(knV (knownS s) v || knV b.S v):=by
 have hv:=hx.ok v hv
 rw[knV_eq (tookS_ok hs hb) hv,knV_eq hs hv,took_eq h]
 show((decide (v.ds=s.me)&&decide (v.dc≤s.made)) || knV (fewS (s.S++b.S)) v)=_
 rw[knV_few (fun x hx=>(List.mem_append.1 hx).elim (hs.S x) (hb.S x)) hv,knV_append,Bool.or_assoc]
theorem SiteI.took {H:List Ver} {s:SiteS} {b:BtS} (hx:Hx H) (hl:H.length≤60) (h:SiteI H s) (hb:BtSOk b) (hi:BatI H b) (hf:tookE s b=0→BatFit H b s):SiteI H (tookS s b)∧Kle H (knownS s) (knownS (tookS s b)):=by
 by_cases he:tookE s b=0
 rotate_left
 ·have e:tookS s b=s:=by unfold tookS;rw [if_neg he]
  rw[e];exact ⟨h,fun v _ hk=>hk⟩
 obtain⟨W,hW,hG⟩:=hi.G
 have ht:=(taken (W:=W) (hx.uni hl) h.ok.L h.sub hi.V).2
 rw[←hG] at ht
 have hk:=fun v hv=>took_kn hx h.ok hb he (v:=v) hv
 have hok:=tookS_ok h.ok hb
 have eL:(tookS s b).L=dropsL (laidOn s.L b.V) b.G:=by rw[took_eq he]
 have eme:(tookS s b).me=s.me:=by rw[took_eq he]
 have emd:(tookS s b).made=s.made:=by rw[took_eq he]
 have eS:(tookS s b).S=fewS (s.S++b.S):=by rw[took_eq he]
 rw[←eL] at ht
 have hst:=fun x hx=>stay ht h.sub hi.V hW (x:=x) hx
 refine⟨⟨hok,fun x hx=> ?_,fun w hw e=> ?_,fun c h1 h2=> ?_, ?_,fun v hv hk1=> ?_,fun v hv=> ?_⟩,fun v hv hk1=> ?_⟩
 ·exact((ht.mem x).1 hx).1.elim (h.sub x) (hi.V x)
 ·rw[emd];exact h.low w hw (e.trans eme)
 ·rw[eme];exact h.own c h1 (by rw[←emd];exact h2)
 ·rw[eS];exact (h.dk.append hi.dk).few fun x hx=>(List.mem_append.1 hx).elim (h.ok.S x) (hb.S x)
 ·rw[hk v hv,Bool.or_eq_true] at hk1
  have key:knV (knownS s) v=true→v∈(tookS s b).L∨Sup H v:=fun hk2=>(h.snd v hv hk2).elim (fun h3=>hst v (.inl h3)) .inr
  rcases hk1 with hk1 | hk1
  ·exact key hk1
  ·rcases hf he v hv hk1 with h3 | h3 | h3
   ·exact hst v (.inr h3)
   ·exact key h3
   ·exact .inr h3
 ·have h1:=((ht.mem v).1 hv).1
  have hvH:v∈H:=h1.elim (h.sub v) (hi.V v)
  rw[hk v hvH,Bool.or_eq_true]
  exact h1.imp (h.kn v) (hi.kn v)
 ·rw[hk v hv,hk1,Bool.true_or]
theorem SiteI.want {H:List Ver} {s:SiteS} (hx:Hx H) (h:SiteI H s) (hst:s.stamp < 1000000) (p:Nat→Nat→Bool):SiteI H (wantS s p):=by
 have hok:=wantS_ok h.ok p hst
 have hk: ∀v∈H,knV (knownS (wantS s p)) v=((decide (v.ds=s.me)&&decide (v.dc≤s.made)) || (knV s.S v&&inP p v)):=fun v hv=>by
  rw[knV_eq hok (hx.ok v hv)]
  show(_ || knV (narrowS s.S p) v)=_
  rw[knV_narrow h.ok.S (hx.ok v hv)];rfl
 have hL: ∀x,x∈(wantS s p).L↔x∈s.L∧(x.ds=s.me∨inP p x=true):=fun x=>by
  show x∈s.L.filter (keepB s p)↔_
  rw[List.mem_filter];unfold keepB;rw [Bool.or_eq_true,decide_eq_true_eq]
 refine⟨hok,fun x hx=>h.sub x ((hL x).1 hx).1,h.low,h.own,h.dk.narrow h.ok.S p,fun v hv hk1=> ?_,fun v hv=> ?_⟩
 ·rw[hk v hv,Bool.or_eq_true,Bool.and_eq_true,Bool.and_eq_true,decide_eq_true_eq,decide_eq_true_eq] at hk1
  have h0:knV (knownS s) v=true:=by
   rw[knV_eq h.ok (hx.ok v hv)]
   rcases hk1 with hk1 | hk1
   ·rw[decide_eq_true hk1.1,decide_eq_true hk1.2];rfl
   ·rw[hk1.1,Bool.or_true]
  refine(h.snd v hv h0).imp (fun h3=>(hL v).2 ⟨h3, ?_⟩) fun h3=>h3
  exact hk1.imp (fun h4=>h4.1) fun h4=>h4.2
 ·obtain⟨h1,h2⟩:=(hL v).1 hv
  have hvH:=h.sub v h1
  rw[hk v hvH,Bool.or_eq_true,Bool.and_eq_true,Bool.and_eq_true,decide_eq_true_eq,decide_eq_true_eq]
  rcases h2 with h2 | h2
  ·exact .inl ⟨h2,h.low v hvH h2⟩
  ·have h3:=h.kn v h1
   rw[knV_eq h.ok (hx.ok v hvH),Bool.or_eq_true,Bool.and_eq_true,decide_eq_true_eq,decide_eq_true_eq] at h3
   exact h3.imp (fun h4=>h4) fun h4=>⟨h4,h2⟩
theorem made_eq {s:SiteS} {id:ByteArray} {t n bd:Int} (h:madeE s id t n bd=0):madeS s id t n bd= { s with L:=putL s.L (madeV s id t n bd),made:=s.made+1 } :=by unfold madeS;rw [if_pos h]
theorem madeE_rng {s:SiteS} (hs:SiteOk s) {id:ByteArray} {t n bd:Int} (h:madeE s id t n bd=0):idOk id=true∧madeB t n bd=false∧s.made < 1000:=by
 obtain⟨h1,h2,h3, -⟩:=madeE_zero.1 h
 have:=hs.made
 exact⟨h1,h2,by omega⟩
theorem unknown {H:List Ver} {s:SiteS} (hx:Hx H) (h:SiteI H s) (hl:H.length≤60) {id:ByteArray} {t n bd:Int} (he:madeE s id t n bd=0) {S:List SP} (hS:Dk H S):knV S (madeV s id t n bd)=false:=by
 obtain⟨h1,h2,h3⟩:=madeE_rng h.ok he
 have hx2:=madeV_hx (h.made hx) h.ok hl h3 h1 h2
 cases hk:knV S (madeV s id t n bd)
 ·rfl
 ·obtain⟨w,hw,e1,e2⟩:=hS.ver (hx2.ok _ (List.mem_append_right _ (List.mem_singleton.2 rfl))) hk
  have:=h.low w hw e1
  have e2:w.dc=s.made+1:=e2
  omega
theorem SiteI.makes {H:List Ver} {s:SiteS} (hx:Hx H) (hl:H.length≤60) (h:SiteI H s) {id:ByteArray} {t n bd:Int} (he:madeE s id t n bd=0):
  Hx (H++[madeV s id t n bd])∧SiteI (H++[madeV s id t n bd]) (madeS s id t n bd)∧madeV s id t n bd∈(madeS s id t n bd).L∧Kle (H++[madeV s id t n bd]) (knownS s) (knownS (madeS s id t n bd)):=by
 obtain⟨h1,h2,h3⟩:=madeE_rng h.ok he
 have hM:=h.made hx
 have hx2:=madeV_hx hM h.ok hl h3 h1 h2
 have hmem:=made_mem hM h.ok hl h3 h1 h2
 have hun:=fun {S:List SP} (hS:Dk H S)=>unknown hx h hl he hS
 have hover:=fun {x:Ver} (hx:x∈s.L)=>over_made hM (id:=id) (t:=t) (n:=n) (bd:=bd) hx
 have hok:=madeS_ok h.ok id t n bd
 have eS:=made_eq he
 obtain⟨v0,hv0⟩: ∃v0,v0=madeV s id t n bd:=⟨_,rfl⟩
 have hds:v0.ds=s.me:=by rw[hv0];rfl
 have hdc:v0.dc=s.made+1:=by rw[hv0];rfl
 obtain⟨s',hs'⟩: ∃s',s'=madeS s id t n bd:=⟨_,rfl⟩
 rw[←hs'] at hok eS ⊢
 rw[←hv0] at hmem hun hover hx2 eS ⊢
 have eL:s'.L=putL s.L v0:=by rw[eS]
 have eme:s'.me=s.me:=by rw[eS]
 have emd:s'.made=s.made+1:=by rw[eS]
 have eSS:s'.S=s.S:=by rw[eS]
 rw[←eL] at hmem
 have hk: ∀v∈H++[v0],knV (knownS s') v=((decide (v.ds=s.me)&&decide (v.dc≤s.made+1)) || knV s.S v):=fun v hv=>by
  rw[knV_eq hok (hx2.ok v hv),eme,emd,eSS]
 have hkv:knV (knownS s') v0=true:=by
  rw[hk v0 (by simp),decide_eq_true hds,decide_eq_true (by omega)];rfl
 have hmono: ∀x∈H,x∈H++[v0]:=fun x hx=>List.mem_append_left _ hx
 have hkl: ∀v∈H,knV (knownS s') v=knV (knownS s) v:=fun v hv=>by
  rw[hk v (hmono v hv),knV_eq h.ok (hx.ok v hv)]
  by_cases e:v.ds=s.me
  ·have:=h.low v hv e
   rw[decide_eq_true (show v.dc≤s.made+1 by omega),decide_eq_true this]
  ·rw[decide_eq_false e];rfl
 refine⟨hx2,⟨hok,fun x hxx=> ?_,fun w hw e=> ?_,fun c k1 k2=> ?_, ?_,fun v hv hk1=> ?_,fun v hv=> ?_⟩, ?_,fun v hv hk1=> ?_⟩
 ·rcases(hmem x).1 hxx with rfl | ⟨h6, -⟩
  ·simp
  ·exact hmono x (h.sub x h6)
 ·rw[emd]
  rcases List.mem_append.1 hw with hw | hw
  ·have:=h.low w hw (e.trans eme);omega
  ·obtain rfl:=List.mem_singleton.1 hw;omega
 ·rw[eme]
  by_cases hc:c≤s.made
  ·obtain⟨v,hv,e⟩:=h.own c k1 hc;exact ⟨v,hmono v hv,e⟩
  ·exact⟨v0,by simp,hds,by rw[emd] at k2;omega⟩
 ·rw[eSS];exact h.dk.mono hmono
 ·rcases List.mem_append.1 hv with hv | hv
  ·rw[hkl v hv] at hk1
   rcases h.snd v hv hk1 with h6 | h6
   ·by_cases hid:v.id=id
    ·exact .inr ⟨v0,by simp,by rw[hover h6];exact decide_eq_true hid⟩
    ·exact .inl ((hmem v).2 (.inr ⟨h6,hid⟩))
   ·exact .inr (h6.mono hmono)
  ·obtain rfl:=List.mem_singleton.1 hv
   exact .inl ((hmem v).2 (.inl rfl))
 ·rcases(hmem v).1 hv with rfl | ⟨h6, -⟩
  ·exact hkv
  ·rw[hkl v (h.sub v h6)];exact h.kn v h6
 ·exact(hmem v0).2 (.inl rfl)
 ·rcases List.mem_append.1 hv with hv | hv
  ·rw[hkl v hv];exact hk1
  ·obtain rfl:=List.mem_singleton.1 hv;exact hkv
theorem SiteI.other {H:List Ver} {s r:SiteS} (hx:Hx H) (hl:H.length≤60) (h:SiteI H s) {id:ByteArray} {t n bd:Int} (he:madeE s id t n bd=0) (hr:SiteI H r) (hne:r.me≠s.me):SiteI (H++[madeV s id t n bd]) r:=by
 have hun:=unknown hx h hl he hr.dkn
 have hmono: ∀x∈H,x∈H++[madeV s id t n bd]:=fun x hx=>List.mem_append_left _ hx
 refine⟨hr.ok,fun x hx=>hmono x (hr.sub x hx),fun w hw e=> ?_,fun c k1 k2=> ?_,hr.dk.mono hmono,fun v hv hk1=> ?_,hr.kn⟩
 ·rcases List.mem_append.1 hw with hw | hw
  ·exact hr.low w hw e
  ·obtain rfl:=List.mem_singleton.1 hw;exact absurd e.symm hne
 ·obtain⟨v,hv,e⟩:=hr.own c k1 k2;exact ⟨v,hmono v hv,e⟩
 ·rcases List.mem_append.1 hv with hv | hv
  ·exact(hr.snd v hv hk1).imp (fun h=>h) fun h=>h.mono hmono
  ·obtain rfl:=List.mem_singleton.1 hv
   rw[hun] at hk1;exact absurd hk1 (by decide)
theorem give_batI {H:List Ver} {r:SiteS} (hx:Hx H) (h:SiteI H r) (st sm:Int) (p:Nat→Nat→Bool) (A:List SP):BatI H (giveB r st sm p A):=by
 have hV: ∀x∈giveV r.L p A,x∈r.L∧inP p x=true:=fun x hx=>by
  obtain⟨h1,h2⟩:=List.mem_filter.1 hx
  exact⟨h1,(Bool.and_eq_true _ _ ▸ h2).1⟩
 refine⟨fun x hx=>h.sub x (hV x hx).1,⟨r.L.filter fun v=> !inP p v,fun x hx=>h.sub x (List.mem_filter.1 hx).1,rfl⟩,h.dkn.narrow h.ok.known p,fun v hv=> ?_⟩
 obtain⟨h1,h2⟩:=hV v hv
 show knV (narrowS (knownS r) p) v=true
 rw[knV_narrow h.ok.known (hx.ok v (h.sub v h1)),h.kn v h1,h2];rfl
theorem give_fit {H:List Ver} {r s:SiteS} (hx:Hx H) (h:SiteI H r) (st sm:Int) (p:Nat→Nat→Bool) {A:List SP} (hA:Kle H A (knownS s)):BatFit H (giveB r st sm p A) s:=fun v hv hk=>by
 have hk:knV (narrowS (knownS r) p) v=true:=hk
 rw[knV_narrow h.ok.known (hx.ok v hv),Bool.and_eq_true] at hk
 rcases h.snd v hv hk.1 with h1 | h1
 ·cases hAv:knV A v
  ·exact .inl (List.mem_filter.2 ⟨h1,by rw[hk.2,hAv];rfl⟩)
  ·exact .inr (.inl (hA v hv hAv))
 ·exact .inr (.inr h1)
theorem BatFit.mono {H:List Ver} {b:BtS} {s s':SiteS} (h:BatFit H b s) (hk:Kle H (knownS s) (knownS s')):BatFit H b s':=fun v hv h1=>
 (h v hv h1).imp (fun h=>h) fun h=>h.imp (hk v hv) fun h=>h
def LetI (H:List Ver) (l:List SiteS):LetS→Prop
 | .ask _ a=>Dk H a.S∧ ∃(j:Nat) (h:j < l.length),a.site=j∧a.stamp≤l[j].stamp∧(a.stamp=l[j].stamp→Kle H a.S (knownS l[j]))
 | .bat t b=>BatI H b∧ ∃h:t < l.length,b.site=t∧b.stamp≤l[t].stamp∧(b.stamp=l[t].stamp→BatFit H b l[t])
theorem BatI.mono {H H':List Ver} {b:BtS} (h:BatI H b) (hm: ∀x∈H,x∈H'):BatI H' b:=by
 obtain⟨W,hW,hG⟩:=h.G
 exact⟨fun x hx=>hm x (h.V x hx),⟨W,fun x hx=>hm x (hW x hx),hG⟩,h.dk.mono hm,h.kn⟩
theorem LetI.set {H H':List Ver} {l:List SiteS} {i:Nat} {s':SiteS} (hi:i < l.length) (hm: ∀x∈H,x∈H') (hnew: ∀v∈H',v∉H→ ∀S,Dk H S→knV S v=false)
  (hst:l[i].stamp≤s'.stamp) (hk:s'.stamp=l[i].stamp→Kle H (knownS l[i]) (knownS s')) {x:LetS} (h:LetI H l x):LetI H' (l.set i s') x:=by
 cases x with
 | ask t a=>
  obtain⟨h1,j,hj,h2,h3,h4⟩:=h
  refine⟨h1.mono hm,j,by rw[List.length_set];exact hj,h2, ?_⟩
  by_cases e:j=i
  ·subst e
   rw[List.getElem_set_self]
   refine⟨by omega,fun e v hv hkv=> ?_⟩
   by_cases hvH:v∈H
   ·exact hk (by omega) v hvH (h4 (by omega) v hvH hkv)
   ·rw[hnew v hv hvH _ h1] at hkv;exact absurd hkv (by decide)
  ·rw[List.getElem_set_ne (by omega)]
   refine⟨h3,fun e v hv hkv=> ?_⟩
   by_cases hvH:v∈H
   ·exact h4 e v hvH hkv
   ·rw[hnew v hv hvH _ h1] at hkv;exact absurd hkv (by decide)
 | bat t b=>
  obtain⟨h1,ht,h2,h3,h4⟩:=h
  refine⟨h1.mono hm,by rw[List.length_set];exact ht,h2, ?_⟩
  have old: ∀ {s:SiteS},BatFit H b s→BatFit H' b s:=fun {s} hf v hv hkv=>by
   by_cases hvH:v∈H
   ·exact(hf v hvH hkv).imp (fun h=>h) fun h=>h.imp (fun h=>h) fun h=>h.mono hm
   ·rw[hnew v hv hvH _ h1.dk] at hkv;exact absurd hkv (by decide)
  by_cases e:t=i
  ·subst e
   rw[List.getElem_set_self]
   exact⟨by omega,fun e=>old ((h4 (by omega)).mono (hk (by omega)))⟩
  ·rw[List.getElem_set_ne (by omega)]
   exact⟨h3,fun e=>old (h4 e)⟩
structure TownI (H:List Ver) (t:TownS) (k:Nat):Prop where
 ok:TownOk t
 hx:Hx H
 len:H.length≤k
 ds: ∀v∈H,∃i:Nat,i < t.sites.length∧v.ds=i
 sites: ∀i (h:i < t.sites.length),SiteI H t.sites[i]
 st: ∀i (h:i < t.sites.length),t.sites[i].stamp≤k
 way: ∀l∈t.way,LetI H t.sites l
theorem TownI.up {H:List Ver} {t:TownS} {k k':Nat} (h:TownI H t k) (hk:k≤k'):TownI H t k':=
 ⟨h.ok,h.hx,by have:=h.len;omega,h.ds,h.sites,fun i hi=>by have:=h.st i hi;omega,h.way⟩
theorem TownOk.set {t:TownS} (h:TownOk t) {i:Nat} (hi:i < t.sites.length) {s:SiteS} (hs:s.me=t.sites[i].me):TownOk { t with sites:=t.sites.set i s } :=by
 refine⟨fun j hj=> ?_,by show(t.sites.set i s).length≤5;rw [List.length_set];exact h.len,fun l hl=>by show LetOk (t.sites.set i s).length l;rw [List.length_set];exact h.way l hl,h.lw⟩
 show(t.sites.set i s)[j].me=j
 by_cases e:j=i
 ·subst e;rw [List.getElem_set_self,hs];exact h.me j hi
 ·rw[List.getElem_set_ne (by omega)];exact h.me j (by simpa using hj)
theorem get_set {P:SiteS→Prop} {l:List SiteS} {i j:Nat} {s:SiteS} (h1:j=i→P s) (h2: ∀hj:j < l.length,j≠i→P l[j]) (hj:j < (l.set i s).length):P (l.set i s)[j]:=by
 by_cases e:j=i
 ·subst e;rw [List.getElem_set_self];exact h1 rfl
 ·rw[List.getElem_set_ne (by omega)];exact h2 (by simpa using hj) e
def makeT (t:TownS) (i:Nat) (h:i < t.sites.length) (id:ByteArray) (a n bd:Int):TownS:= { t with sites:=t.sites.set i (madeS t.sites[i] id a n bd) }
theorem madeS_me (s:SiteS) (id:ByteArray) (a n bd:Int):(madeS s id a n bd).me=s.me∧(madeS s id a n bd).stamp=s.stamp∧(madeS s id a n bd).P=s.P:=by
 unfold madeS;split <;> exact⟨rfl,rfl,rfl⟩
theorem tookS_me (s:SiteS) (b:BtS):(tookS s b).me=s.me∧(tookS s b).stamp=s.stamp∧(tookS s b).P=s.P:=by
 unfold tookS;split <;> exact⟨rfl,rfl,rfl⟩
theorem set_same {l:List SiteS} {i:Nat} (h:i < l.length) {s:SiteS} (e:s=l[i]):l.set i s=l:=by
 subst e;exact List.set_getElem_self h
theorem TownI.make {H:List Ver} {t:TownS} {k:Nat} (h:TownI H t k) (hk:k≤60) {i:Nat} (hi:i < t.sites.length) (id:ByteArray) (a n bd:Int):
  ∃H',TownI H' (makeT t i hi id a n bd) (k+1)∧(∀x∈H,x∈H')∧ ∀x∈H',x∈H∨x∈(madeS t.sites[i] id a n bd).L:=by
 have hs:=h.sites i hi
 have hl:H.length≤60:=by have:=h.len;omega
 by_cases he:madeE t.sites[i] id a n bd=0
 ·obtain⟨h1,h2,h3,h4⟩:=hs.makes h.hx hl he
  have hm: ∀x∈H,x∈H++[madeV t.sites[i] id a n bd]:=fun x hx=>List.mem_append_left _ hx
  obtain⟨e1,e2, -⟩:=madeS_me t.sites[i] id a n bd
  refine⟨H++[madeV t.sites[i] id a n bd],⟨h.ok.set hi e1,h1,by rw[List.length_append,List.length_singleton];have:=h.len;omega,fun v hv=> ?_,fun j hj=> ?_,fun j hj=> ?_,fun l hl2=> ?_⟩,hm,fun x hx=> ?_⟩
  ·show ∃j:Nat,j < (t.sites.set i _).length∧_
   rw[List.length_set]
   rcases List.mem_append.1 hv with hv | hv
   ·exact h.ds v hv
   ·obtain rfl:=List.mem_singleton.1 hv
    exact⟨i,hi,h.ok.me i hi⟩
  ·refine get_set (P:=fun s=>SiteI _ s) (fun _=>h2) (fun hj' e=> ?_) hj
   refine hs.other h.hx hl he (h.sites j hj') ?_
   rw[h.ok.me j hj',h.ok.me i hi];omega
  ·refine get_set (P:=fun s=>s.stamp≤((k+1:Nat):Int)) (fun _=> ?_) (fun hj' e=> ?_) hj
   ·show _≤_
    rw[e2];have:=h.st i hi;omega
   ·have:=h.st j hj';show _≤_;omega
  ·refine(h.way l hl2).set hi hm (fun v hv hvH S hS=> ?_) (by rw[e2];exact Int.le_refl _) fun _ v hv=>h4 v (hm v hv)
   rcases List.mem_append.1 hv with hv | hv
   ·exact absurd hv hvH
   ·obtain rfl:=List.mem_singleton.1 hv
    exact unknown h.hx hs hl he hS
  ·rcases List.mem_append.1 hx with hx | hx
   ·exact .inl hx
   ·obtain rfl:=List.mem_singleton.1 hx;exact .inr h3
 ·have e:makeT t i hi id a n bd=t:=by
   unfold makeT
   rw[set_same hi (by unfold madeS;rw [if_neg he])]
  rw[e]
  exact⟨H,h.up (by omega),fun x hx=>hx,fun x hx=> .inl hx⟩
def wantT (t:TownS) (i:Nat) (h:i < t.sites.length) (p:Nat→Nat→Bool):TownS:= { t with sites:=t.sites.set i (wantS t.sites[i] p) }
theorem TownI.want {H:List Ver} {t:TownS} {k:Nat} (h:TownI H t k) (hk:k≤60) {i:Nat} (hi:i < t.sites.length) (p:Nat→Nat→Bool):TownI H (wantT t i hi p) (k+1):=by
 have hs:=(h.sites i hi).want h.hx (by have:=h.st i hi;omega) p
 refine⟨h.ok.set hi rfl,h.hx,by have:=h.len;omega,fun v hv=> ?_,fun j hj=> ?_,fun j hj=> ?_,fun l hl=> ?_⟩
 ·show ∃j:Nat,j < (t.sites.set i _).length∧_
  rw[List.length_set];exact h.ds v hv
 ·exact get_set (P:=fun s=>SiteI _ s) (fun _=>hs) (fun hj' e=>h.sites j hj') hj
 ·refine get_set (P:=fun s=>s.stamp≤((k+1:Nat):Int)) (fun _=> ?_) (fun hj' e=> ?_) hj
  ·have:=h.st i hi;show t.sites[i].stamp+1≤_;omega
  ·have:=h.st j hj';show _≤_;omega
 ·refine(h.way l hl).set hi (fun x hx=>hx) (fun v hv hvH=>absurd hv hvH) (by show _≤t.sites[i].stamp+1;omega) fun e=> ?_
  have e:t.sites[i].stamp+1=t.sites[i].stamp:=e
  omega
def sendT (t:TownS) (i:Nat) (h:i < t.sites.length) (to:Nat):TownS:= { t with way:=t.way++[.ask to (askS t.sites[i])] }
theorem TownOk.snoc {t:TownS} (h:TownOk t) {l:LetS} (hl:LetOk t.sites.length l) (hw:t.way.length < 60):TownOk { t with way:=t.way++[l] } :=
 ⟨h.me,h.len,fun x hx=>(List.mem_append.1 hx).elim (h.way x) fun hx=>by rw[List.mem_singleton.1 hx];exact hl,by show(t.way++[l]).length≤60;rw [List.length_append,List.length_singleton];omega⟩
theorem TownI.snoc {H:List Ver} {t:TownS} {k:Nat} (h:TownI H t k) {l:LetS} (hl:LetOk t.sites.length l) (hw:t.way.length < 60) (hi:LetI H t.sites l):TownI H { t with way:=t.way++[l] } k:=
 ⟨h.ok.snoc hl hw,h.hx,h.len,h.ds,h.sites,h.st,fun x hx=>(List.mem_append.1 hx).elim (h.way x) fun hx=>by rw[List.mem_singleton.1 hx];exact hi⟩
theorem ask_letOk {t:TownS} (h:TownOk t) {i to:Nat} (hi:i < t.sites.length) (hto:to < t.sites.length) (hok:SiteOk t.sites[i]):LetOk t.sites.length (.ask to (askS t.sites[i])):=
 ⟨hto,askS_ok hok,by show t.sites[i].me < _;rw [h.me i hi];omega⟩
theorem TownI.send {H:List Ver} {t:TownS} {k:Nat} (h:TownI H t k) {i to:Nat} (hi:i < t.sites.length) (hto:to < t.sites.length) (hw:t.way.length < 60):TownI H (sendT t i hi to) k:=
 h.snoc (ask_letOk h.ok hi hto (h.sites i hi).ok) hw ⟨(h.sites i hi).dkn,i,hi,h.ok.me i hi,Int.le_refl _,fun _ v _ h=>h⟩
def ansT (r:SiteS) (a:AskS):LetS:= .bat a.site.toNat (giveB r a.site a.stamp a.P a.S)
def loseT (t:TownS) (k:Nat):TownS:= { t with way:=t.way.eraseIdx k }
theorem mem_eraseIdx' {α: Type} {l:List α} {k:Nat} {x:α} (h:x∈l.eraseIdx k):x∈l:=List.mem_of_mem_eraseIdx h
theorem TownI.lose {H:List Ver} {t:TownS} {k:Nat} (h:TownI H t k) (j:Nat):TownI H (loseT t j) k:=
 ⟨⟨h.ok.me,h.ok.len,fun l hl=>h.ok.way l (mem_eraseIdx' hl),Nat.le_trans (List.length_eraseIdx_le _ _) h.ok.lw⟩,h.hx,h.len,h.ds,h.sites,h.st,fun l hl=>h.way l (mem_eraseIdx' hl)⟩
theorem TownI.ask {H:List Ver} {t:TownS} {k:Nat} (h:TownI H t k) {to:Nat} {a:AskS} (hto:to < t.sites.length) (hm:LetS.ask to a∈t.way) (hw:t.way.length < 60):TownI H { t with way:=t.way++[ansT t.sites[to] a] } k:=by
 have ha:=h.ok.way _ hm
 obtain⟨h1,j,hj,h2,h3,h4⟩:=h.way _ hm
 have hr:=h.sites to hto
 have hsite:=ha.2.1.site
 refine h.snoc ⟨by have:=ha.2.2;omega,giveB_ok hr.ok ha.2.1.site ha.2.1.stamp _ _⟩ hw ?_
 have ej:a.site.toNat=j:=by omega
 refine⟨give_batI h.hx hr _ _ _ _,by rw[ej];exact hj,by show a.site=(a.site.toNat:Int);omega, ?_⟩
 subst ej
 exact⟨h3,fun e=>give_fit h.hx hr _ _ _ (h4 e)⟩
def takeT (t:TownS) (i:Nat) (h:i < t.sites.length) (b:BtS):TownS:= { t with sites:=t.sites.set i (tookS t.sites[i] b) }
theorem TownI.bat {H:List Ver} {t:TownS} {k:Nat} (h:TownI H t k) (hk:k≤60) {to:Nat} {b:BtS} (hto:to < t.sites.length) (hm:LetS.bat to b∈t.way):TownI H (takeT t to hto b) k:=by
 have hl:H.length≤60:=by have:=h.len;omega
 have hb:=(h.ok.way _ hm).2
 obtain⟨h1,h2,h3,h4,h5⟩:=h.way _ hm
 obtain⟨e1,e2, -⟩:=tookS_me t.sites[to] b
 obtain⟨hs,hkl⟩:=(h.sites to hto).took h.hx hl hb h1 fun he=>h5 (tookE_zero.1 he).2.1
 refine⟨h.ok.set hto e1,h.hx,h.len,fun v hv=> ?_,fun j hj=> ?_,fun j hj=> ?_,fun l hl=> ?_⟩
 ·show ∃j:Nat,j < (t.sites.set to _).length∧_
  rw[List.length_set];exact h.ds v hv
 ·exact get_set (P:=fun s=>SiteI _ s) (fun _=>hs) (fun hj' e=>h.sites j hj') hj
 ·refine get_set (P:=fun s=>s.stamp≤(k:Int)) (fun _=> ?_) (fun hj' e=>h.st j hj') hj
  show _≤_
  rw[e2];exact h.st to hto
 ·exact(h.way l hl).set hto (fun x hx=>hx) (fun v hv hvH=>absurd hv hvH) (by rw[e2];exact Int.le_refl _) fun _=>hkl
def ZTail (w:World) (e size:Nat) (zc:Array Value) (v:Value) (n:Nat):Prop:= ∀g cur,v.ownBlock=some g→w.heap[g]? =some (Obj.cells cur e (0,0))→ ∀j,n*size≤j→j < cur.size→cur[j]? =some zc[j%size]!
theorem ZTail.nil (w:World) (e size:Nat) (zc:Array Value) (n:Nat):ZTail w e size zc (.slice none 0 0) n:=fun g cur h=>by simp[Value.ownBlock] at h
structure AppO (w w':World) (base e size:Nat) (zc:Array Value) (v v':Value) (n m:Nat) (xs news:List Value):Prop where
 own:w'.ownsRow base e size v' (n+m) (xs++news)
 grown:w.grownBy w' v.ownBlock
 loc:v'.ownBlock=v.ownBlock∨v'.ownBlock=some w.heap.size
 sp:Sp (fun q=>v.ownBlock=some q) w w'
 zt:ZTail w e size zc v n→ZTail w' e size zc v' (n+m)
 pre: ∀g cur,v.ownBlock=some g→w.heap[g]? =some (Obj.cells cur e (0,0))→ ∃cur',w'.heap[g]? =some (Obj.cells cur' e (0,0))∧cur'.size=cur.size∧cur'.toList.take (n*size)=cur.toList.take (n*size)
theorem zero_tail {A B:Array Value} {zc:Array Value} {k size q:Nat} (hz:zc.size=size) (hs:0 < size) (ha:A.size=k*size) (hb:B=Builtin.zeroCells zc q): ∀j,k*size≤j→j < (A++B).size→(A++B)[j]? =some zc[j%size]! :=by
 intro j h1 h2
 subst hb
 rw[Array.size_append,ha,size_zeroCells,hz] at h2
 rw[Array.getElem?_append_right (by omega),ha]
 unfold Builtin.zeroCells
 rw[Array.getElem?_map,Array.getElem?_range,if_pos (by rw[hz];omega),Option.map_some,hz]
 congr 2
 have:j=(j - k*size)+k*size:=by omega
 conv=>rhs;rw [this]
 rw[Nat.add_mul_mod_self_right]
theorem run_append_ownS {P:Program} (w:World) (base:Nat) (t ty e:TypeId) (i:TypeInfo) (z:Value) (size bytes:Nat) (ht:P.underlying t=some (.slice e)) (hi:P.info? e=some i) (hz:i.zero=some z)
  (hsize:i.size=size) (hby:i.bytes=bytes) (hzs:z.cells.size=size) (hsz:0 < size)
  (v:Value) (n:Nat) (xs:List Value) (hown:w.ownsRow base e size v n xs)
  (a:Addr) (m c:Nat) (news:List Value) (hl:news.length=m*size) (hnews: ∀j u,news[j]? =some u→w.cell? (a.add j)=some u) (h1: ∀u∈news,u.oneCell'=true)
  (h63:n+m≤maxLen) (hbytes:(n+m)*bytes≤140737488355328) (hbase:base≤w.heap.size):
  ∃v' w',(Builtin.append_ #[t,t] ty #[v, .slice (some a) m c]).run P w= .ok v' w'∧AppO w w' base e size z.cells v v' n m xs news:=by
 obtain⟨v',w',hr,h2,h3,h4⟩:=run_append_own' (P:=P) w base t ty e i z size bytes ht hi hz hsize hby hzs hsz v n xs hown a m c news hl hnews h1 h63 hbytes hbase
 refine⟨v',w',hr, ?_⟩
 subst hsize
 subst hby
 have h63i:n+m≤9223372036854775807:=by simp only[maxLen] at h63;omega
 have new: ∀(cs:Array Value),w'=w.drew.alloc (.cells cs e)→Sp (fun q=>v.ownBlock=some q) w w':=fun cs e=>by
  subst e
  exact Sp.of_below ((Below.refl _ _).drew.alloc (Nat.le_refl _) _)
 have keep: ∀(cs:Array Value),w'=w.drew.alloc (.cells cs e)→ ∀g,g < w.heap.size→w'.heap[g]? =w.heap[g]? :=fun cs e g hg=>by
  subst e
  exact heap_alloc_old w.drew _ hg
 rcases hown.2 with⟨rfl,rfl⟩ | ⟨g,cap,cur,rfl,hbg,hg,hnc,hcm,hcs,htake⟩
 ·by_cases hm:m=0
  ·subst hm
   have hn:news=[]:=List.eq_nil_of_length_eq_zero (by simpa using hl)
   subst hn
   have hr2:(Builtin.append_ #[t,t] ty #[.slice none 0 0, .slice (some a) 0 c]).run P w= .ok (.slice none 0 0) w:=by
    simp[Builtin.append_,run_underlying ht,sizeOf,typeInfo,hi,Builtin.lenOf,Builtin.firstCells,loadCells,loadCellsFrom]
   rw[hr2] at hr
   injection hr with e1 e2
   subst e1 e2
   exact⟨h2,h3,h4,Sp.refl _ _,fun _=>ZTail.nil _ _ _ _ _,fun g cur h=>by simp[Value.ownBlock] at h⟩
  ·have hr2:=run_append_nil (P:=P) w t ty e i z ht hi hz a m c news hl hnews (by omega) (by omega) (by have hb:=hbytes;simp only[Nat.zero_add] at hb;omega)
   rw[hr2] at hr
   injection hr with e1 e2
   refine⟨h2,h3,h4,new _ e2.symm,fun _=> ?_,fun g cur h=>by simp[Value.ownBlock] at h⟩
   subst e1 e2
   intro g cur hv hg
   simp only[Value.ownBlock,Option.some.injEq] at hv
   subst hv
   have hq:(w.drew.alloc (.cells (news.toArray++Builtin.zeroCells z.cells (grownCap w m 0 e - m)) e)).heap[w.heap.size]? =some _:=heap_alloc_new w.drew _
   rw[hq] at hg
   simp only[Option.some.injEq,Obj.cells.injEq,and_true] at hg
   obtain⟨rfl⟩:=hg
   rw[Nat.zero_add]
   exact zero_tail hzs hsz (by rw[List.size_toArray];exact hl) rfl
 ·by_cases hroom:n+m≤cap
  ·have hfit:n*i.size+news.length≤cur.size:=by rw[hl,hcs,←Nat.add_mul];exact Nat.mul_le_mul_right _ hroom
   have hr2:=run_append_room (P:=P) w t ty e i ht hi g n cap cur hg a m c news hl hnews h1 hroom hfit
   rw[hr2] at hr
   injection hr with e1 e2
   obtain⟨cur',hc'⟩: ∃cur':Array Value,cur'=(cur.toList.take (n*i.size)++news++cur.toList.drop (n*i.size+news.length)).toArray:=⟨_,rfl⟩
   rw[←hc'] at e2
   have hsz':cur'.size=cur.size:=by
    rw[hc',List.size_toArray,List.length_append,List.length_append,List.length_take,List.length_drop,Array.length_toList]
    omega
   have hg':w'.heap[g]? =some (Obj.cells cur' e (0,0)):=by rw[←e2];exact setRow_heap w g cur _ e _ hg
   have hoth: ∀k,k≠g→w'.heap[k]? =w.heap[k]? :=fun k hk=>by rw[←e2];exact Go.setRow_other w g k _ hk
   refine⟨h2,h3,h4,⟨h3.os,h3.tape,h3.output,h3.size,fun k _ hk=>hoth k fun e=>hk (by rw[e];rfl),fun k cs e3 hc=> ?_⟩,fun hzt=> ?_,fun g2 cur2 hv hg2=> ?_⟩
   ·by_cases hk:k=g
    ·subst hk
     rw[hg] at hc
     simp only[Option.some.injEq,Obj.cells.injEq,and_true] at hc
     obtain⟨rfl,rfl⟩:=hc
     exact⟨cur',hg',hsz'⟩
    ·exact⟨cs,(hoth k hk).trans hc,rfl⟩
   ·subst e1
    intro g2 cur2 hv hg2 j hj1 hj2
    simp only[Value.ownBlock,Option.some.injEq] at hv
    subst hv
    rw[hg'] at hg2
    simp only[Option.some.injEq,Obj.cells.injEq,and_true] at hg2
    obtain⟨rfl⟩:=hg2
    have hj3:n*i.size+m*i.size≤j:=by rw[←Nat.add_mul];exact hj1
    have:=hzt g cur rfl hg j (by omega) (by rw[←hsz'];exact hj2)
    rw[←this,hc',List.getElem?_toArray,List.getElem?_append_right (by simp only[List.length_append,List.length_take,Array.length_toList,List.size_toArray];omega),List.getElem?_drop]
    have e4:n*i.size+news.length+(j - (List.take (n*i.size) cur.toList++news).length)=j:=by
     simp only[List.length_append,List.length_take,Array.length_toList,List.size_toArray];omega
    rw[e4,Array.getElem?_toList]
   ·simp only[Value.ownBlock,Option.some.injEq] at hv
    subst hv
    rw[hg] at hg2
    simp only[Option.some.injEq,Obj.cells.injEq,and_true] at hg2
    obtain⟨rfl⟩:=hg2
    refine⟨cur',hg',hsz', ?_⟩
    rw[hc',List.toList_toArray,List.append_assoc,List.take_append_of_le_length (by rw[List.length_take,Array.length_toList];omega),List.take_take,Nat.min_self]
  ·have holds: ∀j u,xs[j]? =some u→w.cell? ((⟨g,0,none⟩:Addr).add j)=some u:=hown.cells (g:=g) rfl
   have hr2:=run_append_grow (P:=P) w t ty e i z ht hi hz ⟨g,0,none⟩ n cap xs hown.1 holds a m c news hl hnews (by omega) (by omega) (growslice_fits (by omega) hbytes)
   rw[hr2] at hr
   injection hr with e1 e2
   refine⟨h2,h3,h4,new _ e2.symm,fun _=> ?_,fun g2 cur2 hv hg2=> ?_⟩
   ·subst e1 e2
    intro g2 cur2 hv hg2
    simp only[Value.ownBlock,Option.some.injEq] at hv
    subst hv
    have hq:(w.drew.alloc (.cells (xs.toArray++news.toArray++Builtin.zeroCells z.cells (grownCap w (n+m) cap e - (n+m))) e)).heap[w.heap.size]? =some _:=heap_alloc_new w.drew _
    rw[hq] at hg2
    simp only[Option.some.injEq,Obj.cells.injEq,and_true] at hg2
    obtain⟨rfl⟩:=hg2
    refine zero_tail hzs hsz ?_ rfl
    rw[Array.size_append,List.size_toArray,List.size_toArray,hown.1,hl,Nat.add_mul]
   ·refine⟨cur2,(keep _ e2.symm g2 (hlt_of hg2)).trans hg2,rfl,rfl⟩
theorem wpList_append_ownS {P:Program} {w:World} {ops:Array Oper} {rest:List Oper} {o:Oper} {a:Act} {Q:Exit→Act→World→Prop} (hgd:o.guard=none) (s x:Operand) (t:TypeId)
  (ho:o.op= .call { callee:= .builtin .append,args:= #[s,x],argTypes:= #[t,t] })
  (base:Nat) (e:TypeId) (z:Value) (size bytes:Nat) (ht:P.underlying t=some (.slice e)) (hinfo:(P.info? e).map (fun i=>(i.zero,i.size,i.bytes))=some (some z,size,bytes)) (hzs:z.cells.size=size) (hsz:0 < size)
  (v:Value) (n:Nat) (xs:List Value) (hs:a.eval s=v) (hown:w.ownsRow base e size v n xs)
  (ad:Addr) (m c:Nat) (news:List Value) (hx:a.eval x= .slice (some ad) m c) (hl:news.length=m*size) (hnews: ∀j u,news[j]? =some u→w.cell? (ad.add j)=some u) (h1: ∀u∈news,u.oneCell'=true)
  (h63:n+m≤maxLen) (hbytes:(n+m)*bytes≤140737488355328) (hbase:base≤w.heap.size)
  (h: ∀v' w',AppO w w' base e size z.cells v v' n m xs news→wpList P ops Q rest (a.put o.dst v') w'):wpList P ops Q (o::rest) a w:=by
 obtain⟨i,hi,hz,hsize,hby⟩:=info_parts hinfo
 obtain⟨v',w',hr,h2⟩:=run_append_ownS (P:=P) w base t o.type e i z size bytes ht hi hz hsize hby hzs hsz v n xs hown ad m c news hl hnews h1 h63 hbytes hbase
 refine wpList_plain hgd fun K hK=> ?_
 unfold Oper.wp execOp
 simp only[ho,resolve,invoke,builtin,Sem.run_bind,Sem.run_pure,Result.andThen_ok,List.map_toArray,List.map_cons,List.map_nil,hs,hx,hr]
 exact hK _ _ (h v' w' h2)
theorem AppO.stp {w w':World} {base e size n m:Nat} {zc:Array Value} {v v':Value} {xs news:List Value} (h:AppO w w' base e size zc v v' n m xs news) (ho:w.ownsRow base e size v n xs) (ht:dataT e=false):Stp (fun q=>v.ownBlock=some q) w w':=⟨h.sp,TKeep.of_app ho h.grown ht⟩
end Go.Proofs.YtgkgdedhicnohaaGreat
