/- Towards what desk.Run answers. -/
import Derived.Test.YtajgndoiddmbmaaGreatDoorMPart1
namespace Go.Proofs.YtajgndoiddmbmaaGreatDoor
open Go.RowKit
abbrev cR (w:World) (base:Nat) (v:Value) (l:bB):Prop:=cB w base 177 179 v l
theorem cR.other {w w':World} {base b2 e2 s2 k:Nat} {v f:Value} {l:bB} {ys:List Value} (h:cR w base f l) (h2:w.ownsRow b2 e2 s2 v k ys) (n1:177≠e2) (n2:179≠e2) (hg:w.grownBy w' v.ownBlock):cR w' base f l:=by
 obtain⟨us,h3,h4,h5⟩:=h;exact⟨us,h3,fE h4 h2 n1 hg,fun i hi hi'=>fE (h5 i hi hi') h2 n2 hg⟩
theorem cR.set {w:World} {base g j:Nat} {f u:Value} {l:bB} {cs:Array Value} {t:TypeId} {r:Nat×Nat} (h:cR w base f l) (hg:w.heap[g]? =some (Obj.cells cs t r)) (n1:t≠177) (n2:t≠179):cR (w.setCell ⟨g,j,none⟩ u) base f l:=by
 obtain⟨us,h3,h4,h5⟩:=h;exact⟨us,h3,cG h4 hg n1,fun i hi hi'=>cG (h5 i hi hi') hg n2⟩
theorem cR.mono {w:World} {base base':Nat} {f:Value} {l:bB} (h:cR w base f l) (hb:base'≤base):cR w base' f l:=cB.mono h hb
theorem cR.vJ {w:World} {base:Nat} {f:Value} {l:bB} (h:cR w base f l) (hc:bP l=0):bZ w f l:=by
 obtain⟨h1,h2⟩:=gj.1 hc;exact h.at_ (by omega) h2
def PE (w:World) (base:Nat):List Pt→List (List Value)→Prop
 | [],[]=>True
 | p::l,c::cs=>(∃f u x:Value,c=[f,u,x]∧cR w base f p.f∧bI w base u x p.k)∧PE w base l cs
 | _,_=>False
theorem PE.map {w w':World} {base base':Nat} (h: ∀f u x (p:Pt),cR w base f p.f→bI w base u x p.k→cR w' base' f p.f∧bI w' base' u x p.k): ∀ {l:List Pt} {cs:List (List Value)},PE w base l cs→PE w' base' l cs
 | [],[],_=>trivial
 | p::_,_::_,⟨⟨f,u,x,h1,h2,h3⟩,h4⟩=>⟨⟨f,u,x,h1,h f u x p h2 h3⟩,PE.map h h4⟩
 | [],_::_,h3=>h3.elim
 | _::_,[],h3=>h3.elim
theorem PE.snoc {w:World} {base:Nat} : ∀ {l:List Pt} {cs:List (List Value)} {p:Pt} {c:List Value},PE w base l cs→PE w base [p] [c]→PE w base (l++[p]) (cs++[c])
 | [],[],_,_,_,k=>k
 | _::_,_::_,_,_,h,k=>⟨h.1,PE.snoc h.2 k⟩
 | [],_::_,_,_,h,_=>h.elim
 | _::_,[],_,_,h,_=>h.elim
theorem PE.els {w:World} {base:Nat} : ∀ {l:List Pt} {cs:List (List Value)},PE w base l cs→(∀p∈l,eG p)→Els cU w l cs
 | [],[],_,_=>trivial
 | p::_,_::_,⟨⟨f,u,x,h1,h2,h3⟩,h4⟩,hb=>⟨⟨f,u,x,h1,h2.vJ (hb p (by simp)).f,h3.at_ ((di.1 (hb p (by simp)).k).1.len) (by have:=(di.1 (hb p (by simp)).k).2;omega)⟩,PE.els h4 fun x hx=>hb x (by simp[hx])⟩
 | [],_::_,h,_=>h.elim
 | _::_,[],h,_=>h.elim
theorem PE.get {w:World} {base:Nat} : ∀ {l:List Pt} {cs:List (List Value)} (_:PE w base l cs) (i:Nat) (hi:i < l.length),∃f u x:Value,cs[i]? =some [f,u,x]∧cR w base f l[i].f∧bI w base u x l[i].k
 | [],_,_,i,hi=>by simp at hi
 | _::_,_::_,⟨⟨f,u,x,h1,h2,h3⟩,_⟩,0,_=>⟨f,u,x,by simp[h1],h2,h3⟩
 | _::_,_::_,⟨_,h4⟩,i+1,hi=>by
  obtain⟨f,u,x,h1,h2,h3⟩:=PE.get h4 i (by simpa using hi);exact⟨f,u,x,by simpa using h1,h2,h3⟩
 | _::_,[],h,_,_=>h.elim
theorem PE.set {w:World} {base:Nat} : ∀ {l:List Pt} {cs:List (List Value)} (_:PE w base l cs) (i:Nat) (p:Pt) (f u x:Value),cR w base f p.f→bI w base u x p.k→PE w base (l.set i p) (cs.set i [f,u,x])
 | [],[],_,_,_,_,_,_,_,_=>trivial
 | _::_,_::_,h,0,_,f,u,x,k1,k2=>⟨⟨f,u,x,rfl,k1,k2⟩,h.2⟩
 | _::_,_::_,h,i+1,p,f,u,x,k1,k2=>⟨h.1,PE.set h.2 i p f u x k1 k2⟩
 | [],_::_,h,_,_,_,_,_,_,_=>h.elim
 | _::_,[],h,_,_,_,_,_,_,_=>h.elim
def fV (w:World) (base:Nat) (v:Value) (l:List Pt):Prop:= ∃css,PE w base l css∧w.ownsRow base 238 3 v l.length css.flatten
theorem fV.nil (w:World) (base:Nat):fV w base (.slice none 0 0) []:=⟨[],trivial,World.ownsRow_nil _ _ _ _⟩
theorem fV.below {w w':World} {base:Nat} {v:Value} {l:List Pt} (h:fV w base v l) (hb:Below w.heap.size w w'):fV w' base v l:=by
 obtain⟨css,h1,h2⟩:=h;exact ⟨css,h1.map fun _ _ _ _ h k=>⟨h.below hb,k.below hb⟩,aI h2 hb⟩
theorem fV.mono {w:World} {base base':Nat} {v:Value} {l:List Pt} (h:fV w base v l) (hb:base'≤base):fV w base' v l:=by
 obtain⟨css,h1,h2⟩:=h;exact ⟨css,h1.map fun _ _ _ _ h k=>⟨h.mono hb,k.mono hb⟩,bV h2 hb⟩
theorem fV.shape {w:World} {base:Nat} {v:Value} {l:List Pt} (h:fV w base v l): ∃a c,v= .slice a l.length c:=by
 obtain⟨css, -,h2⟩:=h;exact ay h2
theorem fV.at_ {w:World} {base:Nat} {v:Value} {l:List Pt} (h:fV w base v l) (hok: ∀p∈l,eG p) (hl:l.length≤1000):bK cU w v l:=by
 obtain⟨css,h1,h2⟩:=h;exact⟨css,h1.els hok,aF.fZ h2 (by omega)⟩
theorem fV.push {w w':World} {base:Nat} {v v' f u x:Value} {l:List Pt} {css:List (List Value)} {p:Pt} (h1:PE w base l css) (h2:w.ownsRow base 238 3 v l.length css.flatten) (hf:cR w base f p.f) (hk:bI w base u x p.k)
  (ho:w'.ownsRow base 238 3 v' (l.length+1) (css.flatten++[f,u,x])) (hg:w.grownBy w' v.ownBlock):fV w' base v' (l++[p]):=by
 have hF: ∀f (l:bB),cR w base f l→cR w' base f l:=fun f l h=>h.other h2 (by decide) (by decide) hg;have hK: ∀u x (k:Kn),bI w base u x k→bI w' base u x k:=fun u x k h=>⟨fE h.vec h2 (by decide) hg,fE h.more h2 (by decide) hg⟩
 refine⟨css++[[f,u,x]],PE.snoc (h1.map fun f u x p h k=>⟨hF _ _ h,hK _ _ _ k⟩) ⟨⟨f,u,x,rfl,hF _ _ hf,hK _ _ _ hk⟩,trivial⟩, ?_⟩;rw[List.flatten_append,List.length_append];simpa using ho
theorem uz: ∀ {css:List (List Value)} (_: ∀c∈css,c.length=3) (i:Nat) (f f' u x:Value),css[i]? =some [f,u,x]→(css.set i [f',u,x]).flatten=css.flatten.set (i*3) f'
 | [],_,i,_,_,_,_,h=>by simp at h
 | c::css,hl,0,f,f',u,x,h=>by
  simp only[List.getElem?_cons_zero,Option.some.injEq] at h;subst h;rfl
 | c::css,hl,i+1,f,f',u,x,h=>by
  have hc:=hl c (by simp);have ih:=uz (css:=css) (fun d hd=>hl d (by simp[hd])) i f f' u x (by simpa using h);rw[List.set_cons_succ,List.flatten_cons,ih,List.flatten_cons,List.set_append_right _ _ (by omega),hc];congr 2;omega
theorem zA: ∀ {css:List (List Value)} (_: ∀c∈css,c.length=3) (q:Nat) (f u x:Value),css[q]? =some [f,u,x]→css.flatten[q*3]? =some f
 | [],_,q,f,u,x,h=>by simp at h
 | c::css,hl,0,f,u,x,h=>by
  simp only[List.getElem?_cons_zero,Option.some.injEq] at h;subst h;simp
 | c::css,hl,q+1,f,u,x,h=>by
  have hc:=hl c (by simp);rw[List.flatten_cons,List.getElem?_append_right (by omega),hc,show(q+1)*3 - 3=q*3 by omega];exact zA (fun d hd=>hl d (by simp[hd])) q f u x (by simpa using h)
theorem PE.lens {w:World} {base:Nat} : ∀ {l:List Pt} {cs:List (List Value)},PE w base l cs→ ∀c∈cs,c.length=3
 | [],[],_=>by simp
 | _::_,_::_,⟨⟨f,u,x,h1,_⟩,h4⟩=>by
  intro d hd;rcases List.mem_cons.1 hd with rfl | hd
  ·rw[h1];rfl
  ·exact PE.lens h4 d hd
 | [],_::_,h=>h.elim
 | _::_,[],h=>h.elim
theorem fV.SF {w:World} {base g n cap:Nat} {f':Value} {l:List Pt} {fs:bB} (h:fV w base (.slice (some ⟨g,0,none⟩) n cap) l) (i:Nat) (hi:i < l.length) (hf:cR w base f' fs):
  fV (w.setCell ⟨g,i*3,none⟩ f') base (.slice (some ⟨g,0,none⟩) n cap) (l.set i ⟨fs,l[i].k⟩)∧ ∃cs,w.heap[g]? =some (Obj.cells cs 238 (0,0))∧base≤g:=by
 obtain⟨css,h1,h2⟩:=h;obtain⟨f,u,x,e1, -,e3⟩:=h1.get i hi;obtain⟨hlen,h3⟩:=h2;rcases h3 with⟨h3, -⟩ | ⟨g',cap',cur,hv,hbg,hg,hnc,hcm,hcs,htake⟩
 ·simp at h3
 simp only[Value.slice.injEq,Option.some.injEq,Addr.mk.injEq,and_true] at hv;obtain⟨rfl,rfl,rfl⟩:=hv;refine⟨⟨css.set i [f',u,x], ?_, ?_⟩,_,hg,hbg⟩
 ·refine PE.set (h1.map fun _ _ _ _ h k=>⟨h.set hg (by decide) (by decide),cG k.vec hg (by decide),cG k.more hg (by decide)⟩) i ⟨fs,l[i].k⟩ f' u x (hf.set hg (by decide) (by decide)) ⟨cG e3.vec hg (by decide),cG e3.more hg (by decide)⟩
 ·rw[List.length_set,uz h1.lens i f f' u x e1];refine⟨by rw[List.length_set];exact hlen, .inr ⟨g,cap,cur.setIfInBounds (i*3) f',rfl,hbg,ax hg,hnc,hcm,by rw[Array.size_setIfInBounds];exact hcs, ?_⟩⟩;rw[Array.toList_setIfInBounds,List.take_set,htake]
theorem fV.Ij {w:World} {base n cap:Nat} {a:Option Addr} {l:List Pt} (h:fV w base (.slice a n cap) l) (i:Nat) (hi:i < l.length): ∃g f,a=some ⟨g,0,none⟩∧w.cell? ⟨g,i*3,none⟩=some f∧cR w base f l[i].f:=by
 obtain⟨css,hpe,hrow⟩:=h;obtain⟨f1,u1,x1,hcs,hfo,hko⟩:=hpe.get i hi;rcases hrow.2 with⟨h3,h4⟩ | ⟨g,cap2,cur,hv,hbg,hg, -⟩
 ·omega
 ·simp only[Value.slice.injEq] at hv;obtain⟨rfl,rfl,rfl⟩:=hv;refine⟨g,f1,rfl, ?_,hfo⟩;have:=hrow.cells (g:=g) rfl (i*3) f1 (zA hpe.lens i f1 u1 x1 hcs);rwa[Addr.add_lit,Nat.zero_add] at this
def DU (w:World) (v:Value) (S:List SP):Prop:= ∃l:List Pt,bK cU w v l∧(∀p∈l,eG p)∧l.map sem=S
def OC:BC bB where
 size:=1
 El w f cs:= ∃v,cs=[v]∧bZ w v f
 len:=by rintro w f cs ⟨v,rfl, -⟩;rfl
 one:=by
  rintro w f cs ⟨v,rfl,h⟩ z hz;obtain⟨a,c,rfl⟩:=h.shape;simp only[List.mem_singleton] at hz;subst hz;rfl
 sub:=by rintro w w' f cs ⟨v,rfl,h⟩ hs;exact ⟨v,rfl,h.sub hs⟩
 pos:=by decide
end Go.Proofs.YtajgndoiddmbmaaGreatDoor
