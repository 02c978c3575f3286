/- Towards what desk.Run answers. -/
import Derived.Test.YtajgndoiddmbmaaGreatDoorMPart5
namespace Go.Proofs.YtajgndoiddmbmaaGreatDoor
set_option maxRecDepth 100000
set_option maxHeartbeats 40000000
open Go.RowKit
def VW (S:Nat→Prop) (v:Value):Prop:= ∀q,v.ownBlock=some q→S q
def uI (w:World) (base:Nat) (S:Nat→Prop) (c:List Value) (p:Pt):Prop:=
 ∃(f u x:Value) (us:List Value),c=[f,u,x]∧us.length=p.f.length∧w.ownsRow base 177 3 f p.f.length (bxCells p.f us)∧(∀i (h:i < p.f.length) (h':i < us.length),w.ownsRow base 179 2 us[i] p.f[i].sp.length (az p.f[i].sp))∧bI w base u x p.k∧VW S f∧(∀y∈us,VW S y)∧VW S u∧VW S x
theorem uI.map {w w':World} {base:Nat} {S T:Nat→Prop} {c:List Value} {p:Pt} (h:uI w base S c p) (Mf: ∀q,S q→T q) (hr: ∀(e size n:Nat) (v:Value) (xs:List Value),(e=177∨e=179∨e=3∨e=103)→w.ownsRow base e size v n xs→w'.ownsRow base e size v n xs):uI w' base T c p:=by
 obtain⟨f,u,x,us,h1,h2,h3,h4,h5,h6,h7,h8,h9⟩:=h;exact⟨f,u,x,us,h1,h2,hr _ _ _ _ _ (.inl rfl) h3,fun i hi hi'=>hr _ _ _ _ _ (.inr (.inl rfl)) (h4 i hi hi'),⟨hr _ _ _ _ _ (.inr (.inr (.inl rfl))) h5.vec,hr _ _ _ _ _ (.inr (.inr (.inr rfl))) h5.more⟩,fun q hq=>Mf q (h6 q hq),fun y hy q hq=>Mf q (h7 y hy q hq),fun q hq=>Mf q (h8 q hq),fun q hq=>Mf q (h9 q hq)⟩
structure xX (w:World) (base t:Nat) (css:List (List Value)) (Ss:List (Nat→Prop)) (v:Value) (l:List Pt):Prop where
 lc:css.length=l.length
 ls:Ss.length=l.length
 row:w.ownsRow base 238 3 v l.length css.flatten
 each: ∀i (h:i < l.length) (h':i < css.length) (h2:i < Ss.length),uI w base Ss[i] css[i] l[i]
 apart: ∀i j (hi:i < Ss.length) (hj:j < Ss.length),i≠j→ ∀q,Ss[i] q→Ss[j] q→False
 low: ∀i (h:i < Ss.length) q,Ss[i] q→q < t
def l8 (w:World) (base t:Nat) (v:Value) (l:List Pt):Prop:= ∃css Ss,xX w base t css Ss v l
def eW (w:World) (base:Nat) (v:Value) (l:List Pt):Prop:=l8 w base w.heap.size v l
theorem xX.below {w w':World} {base t:Nat} {css:List (List Value)} {Ss:List (Nat→Prop)} {v:Value} {l:List Pt} (h:xX w base t css Ss v l) (hb:Below w.heap.size w w'):xX w' base t css Ss v l:=
 ⟨h.lc,h.ls,aI h.row hb,fun i h1 h2 h3=>(h.each i h1 h2 h3).map (fun _ hq=>hq) (fun _ _ _ _ _ _ hr=>aI hr hb),h.apart,h.low⟩
theorem xX.top {w:World} {base t t':Nat} {css:List (List Value)} {Ss:List (Nat→Prop)} {v:Value} {l:List Pt} (h:xX w base t css Ss v l) (ht:t≤t'):xX w base t' css Ss v l:=
 ⟨h.lc,h.ls,h.row,h.each,h.apart,fun i hi q hq=>Nat.lt_of_lt_of_le (h.low i hi q hq) ht⟩
theorem l8.below {w w':World} {base t:Nat} {v:Value} {l:List Pt} (h:l8 w base t v l) (hb:Below w.heap.size w w'):l8 w' base t v l:=by
 obtain⟨css,Ss,h1⟩:=h;exact ⟨css,Ss,h1.below hb⟩
theorem eW.below {w w':World} {base:Nat} {v:Value} {l:List Pt} (h:eW w base v l) (hb:Below w.heap.size w w'):eW w' base v l:=by
 obtain⟨css,Ss,h1⟩:=h;exact ⟨css,Ss,(h1.below hb).top hb.size⟩
theorem eW.nil (w:World) (base:Nat):eW w base (.slice none 0 0) []:=⟨[],[],rfl,rfl,World.ownsRow_nil _ _ _ _,fun i h=>by simp at h,fun i _ h=>by simp at h,fun i h=>by simp at h⟩
theorem l8.shape {w:World} {base t:Nat} {v:Value} {l:List Pt} (h:l8 w base t v l): ∃a c,v= .slice a l.length c:=by
 obtain⟨css,Ss,h1⟩:=h;exact ay h1.row
theorem eW.shape {w:World} {base:Nat} {v:Value} {l:List Pt} (h:eW w base v l): ∃a c,v= .slice a l.length c:=l8.shape h
theorem uI.mono {w:World} {base base':Nat} {S:Nat→Prop} {c:List Value} {p:Pt} (h:uI w base S c p) (hb:base'≤base):uI w base' S c p:=by
 obtain⟨f,u,x,us,h1,h2,h3,h4,h5,h6⟩:=h;exact⟨f,u,x,us,h1,h2,bV h3 hb,fun i hi hi'=>bV (h4 i hi hi') hb,h5.mono hb,h6⟩
theorem eW.mono {w:World} {base base':Nat} {v:Value} {l:List Pt} (h:eW w base v l) (hb:base'≤base):eW w base' v l:=by
 obtain⟨css,Ss,h1⟩:=h;exact⟨css,Ss,h1.lc,h1.ls,bV h1.row hb,fun i a b c=>(h1.each i a b c).mono hb,h1.apart,h1.low⟩
theorem Va {w:World} {base:Nat} : ∀ {l:List Pt} {css:List (List Value)} {Ss:List (Nat→Prop)},css.length=l.length→Ss.length=l.length→(∀i (h:i < l.length) (h':i < css.length) (h2:i < Ss.length),uI w base Ss[i] css[i] l[i])→PE w base l css
 | [],[],_,_,_,_=>trivial
 | p::l,c::css,S::Ss,h1,h2,h=>by
  obtain⟨f,u,x,us,k1,k2,k3,k4,k5, -⟩:=h 0 (by simp) (by simp) (by simp);refine⟨⟨f,u,x,k1,⟨us,k2,k3,k4⟩,k5⟩,Va (Ss:=Ss) (by simpa using h1) (by simpa using h2) fun i a b c=> ?_⟩;have:=h (i+1) (by simpa using a) (by simpa using b) (by simpa using c);simpa using this
 | p::l,c::css,[],_,h2,_=>by simp at h2
 | [],_::_,_,h1,_,_=>by simp at h1
 | _::_,[],_,h1,_,_=>by simp at h1
theorem l8.own {w:World} {base t:Nat} {v:Value} {l:List Pt} (h:l8 w base t v l):fV w base v l:=by
 obtain⟨css,Ss,h1⟩:=h;exact⟨css,Va h1.lc h1.ls h1.each,h1.row⟩
theorem eW.own {w:World} {base:Nat} {v:Value} {l:List Pt} (h:eW w base v l):fV w base v l:=l8.own h
theorem eW.at_ {w:World} {base:Nat} {v:Value} {l:List Pt} (h:eW w base v l) (hok: ∀p∈l,eG p) (hl:l.length≤1000):bK cU w v l:=h.own.at_ hok hl
theorem uI.YC {w:World} {base t:Nat} {f u x:Value} {p:Pt} (hf:cR w t f p.f) (hk:bI w t u x p.k) (hb:base≤t):uI w base (fun q=>t≤q∧q < w.heap.size) [f,u,x] p:=by
 obtain⟨us,h1,h2,h3⟩:=hf;refine⟨f,u,x,us,rfl,h1,bV h2 hb,fun i hi hi'=>bV (h3 i hi hi') hb,hk.mono hb,fun q hq=>h2.lt q hq,fun y hy q hq=> ?_,fun q hq=>hk.vec.lt q hq,fun q hq=>hk.more.lt q hq⟩;obtain⟨i,hi,rfl⟩:=List.mem_iff_getElem.1 hy;exact(h3 i (by omega) hi).lt q hq
theorem xX.push {w w':World} {base t:Nat} {css:List (List Value)} {Ss:List (Nat→Prop)} {v v' f u x:Value} {l:List Pt} {p:Pt} (h:xX w base t css Ss v l) (hf:cR w t f p.f) (hk:bI w t u x p.k) (lF:base≤t) (cF:t≤w.heap.size)
  (ho:w'.ownsRow base 238 3 v' (l.length+1) (css.flatten++[f,u,x])) (hg:w.grownBy w' v.ownBlock):eW w' base v' (l++[p]):=by
 have hsz:w.heap.size≤w'.heap.size:=hg.size;have keep: ∀(e size n:Nat) (y:Value) (xs:List Value),(e=177∨e=179∨e=3∨e=103)→w.ownsRow base e size y n xs→w'.ownsRow base e size y n xs:=by
  intro e size n y xs he hr;refine fE hr h.row ?_ hg;rcases he with rfl | rfl | rfl | rfl <;> decide
 have hnew:=(uI.YC hf hk lF).map (T:=fun q=>t≤q∧q < w'.heap.size) (fun q hq=>⟨hq.1,Nat.lt_of_lt_of_le hq.2 hsz⟩) keep;refine⟨css++[[f,u,x]],Ss++[fun q=>t≤q∧q < w'.heap.size],by simp[h.lc],by simp[h.ls], ?_,fun i h1 h2 h3=> ?_,fun i j hi hj hij q q1 q2=> ?_,fun i hi q hq=> ?_⟩
 ·rw[List.flatten_append,List.length_append];simpa using ho
 ·have hlc:=h.lc;have hls:=h.ls;by_cases hil:i < l.length
  ·rw[List.getElem_append_left (by omega),List.getElem_append_left (by omega),List.getElem_append_left hil];exact(h.each i hil (by omega) (by omega)).map (fun _ hq=>hq) keep
  ·have hie:i=l.length:=by simp at h1;omega
   subst hie;rw[List.getElem_append_right (by omega),List.getElem_append_right (by omega),List.getElem_append_right (by omega)];simp only[hlc,hls,Nat.sub_self,List.getElem_cons_zero];exact hnew
 ·have hls:=h.ls;rw[List.length_append] at hi hj;simp only[List.length_cons,List.length_nil] at hi hj;by_cases hil:i < Ss.length <;> by_cases hjl:j < Ss.length
  ·rw[List.getElem_append_left hil] at q1;rw[List.getElem_append_left hjl] at q2;exact h.apart i j hil hjl hij q q1 q2
  ·rw[List.getElem_append_left hil] at q1;have:=h.low i hil q q1;have wO:j=Ss.length:=by omega
   subst wO;have q3:t≤q∧q < w'.heap.size:=by simpa using q2
   omega
  ·rw[List.getElem_append_left hjl] at q2;have:=h.low j hjl q q2;have hie:i=Ss.length:=by omega
   subst hie;have q3:t≤q∧q < w'.heap.size:=by simpa using q1
   omega
  ·omega
 ·rw[List.length_append] at hi;simp only[List.length_cons,List.length_nil] at hi;by_cases hil:i < Ss.length
  ·rw[List.getElem_append_left hil] at hq;have:=h.low i hil q hq;omega
  ·have hie:i=Ss.length:=by omega
   subst hie;have q3:t≤q∧q < w'.heap.size:=by simpa using hq
   exact q3.2
theorem l8.SF {w:World} {base t g n cap:Nat} {f':Value} {l:List Pt} {fs:bB} (h:l8 w base t (.slice (some ⟨g,0,none⟩) n cap) l) (i:Nat) (hi:i < l.length) (hf:cR w t f' fs) (lF:base≤t) (cF:t≤w.heap.size):
  eW (w.setCell ⟨g,i*3,none⟩ f') base (.slice (some ⟨g,0,none⟩) n cap) (l.set i ⟨fs,l[i].k⟩)∧ ∃cs,w.heap[g]? =some (Obj.cells cs 238 (0,0))∧base≤g:=by
 obtain⟨css,Ss,h⟩:=h;have hlc:=h.lc;have hls:=h.ls;obtain⟨f,u,x,us,e1,e2,e3,e4,e5,e6,e7,e8,e9⟩:=h.each i hi (by omega) (by omega);have hrow:=h.row;obtain⟨hlen,h3⟩:=h.row;rcases h3 with⟨h3, -⟩ | ⟨g',cap',cur,hv,hbg,hg,hnc,hcm,hcs,htake⟩
 ·simp at h3
 simp only[Value.slice.injEq,Option.some.injEq,Addr.mk.injEq,and_true] at hv;obtain⟨rfl,rfl,rfl⟩:=hv;have hsw:(w.setCell ⟨g,i*3,none⟩ f').heap.size=w.heap.size:=by simp
 have keep: ∀(b e size n:Nat) (y:Value) (xs:List Value),(e=177∨e=179∨e=3∨e=103)→w.ownsRow b e size y n xs→(w.setCell ⟨g,i*3,none⟩ f').ownsRow b e size y n xs:=by
  intro b e size n y xs he hr;refine cG hr hg ?_;rcases he with rfl | rfl | rfl | rfl <;> decide
 have h8: ∀c∈css,c.length=3:=fun c hc=>by
  obtain⟨j,hj,rfl⟩:=List.mem_iff_getElem.1 hc;obtain⟨_,_,_,_,q, -⟩:=h.each j (by omega) hj (by omega);rw[q];rfl
 obtain⟨us2,f1,f2,f3⟩:=hf;refine⟨⟨css.set i [f',u,x],Ss.set i (fun q=>Ss[i] q∨(t≤q∧q < w.heap.size)),by simp[hlc],by simp[hls], ?_,fun j h1 h2 h3=> ?_,fun a b ha hb hab q q1 q2=> ?_,fun j hj q hq=> ?_⟩,_,hg,hbg⟩
 ·rw[List.length_set,uz h8 i f f' u x (by rw[List.getElem?_eq_getElem (by omega),e1])];refine⟨by rw[List.length_set];exact hlen, .inr ⟨g,cap,cur.setIfInBounds (i*3) f',rfl,hbg,ax hg,hnc,hcm,by rw[Array.size_setIfInBounds];exact hcs, ?_⟩⟩;rw[Array.toList_setIfInBounds,List.take_set,htake]
 ·rw[List.length_set] at h1 h2 h3;by_cases hij:j=i
  ·subst hij;simp only[List.getElem_set_self];refine⟨f',u,x,us2,rfl,f1,keep _ _ _ _ _ _ (.inl rfl) (bV f2 lF),fun k a b=>keep _ _ _ _ _ _ (.inr (.inl rfl)) (bV (f3 k a b) lF),⟨keep _ _ _ _ _ _ (.inr (.inr (.inl rfl))) e5.vec,keep _ _ _ _ _ _ (.inr (.inr (.inr rfl))) e5.more⟩,fun q hq=> .inr (f2.lt q hq),fun y hy q hq=> ?_,fun q hq=> .inl (e8 q hq),fun q hq=> .inl (e9 q hq)⟩;obtain⟨k,hk,rfl⟩:=List.mem_iff_getElem.1 hy;exact .inr ((f3 k (by omega) hk).lt q hq)
  ·rw[List.getElem_set_ne (by omega),List.getElem_set_ne (by omega),List.getElem_set_ne (by omega)];exact(h.each j h1 h2 h3).map (fun _ hq=>hq) (keep _)
 ·have ha':a < Ss.length:=by rwa[List.length_set] at ha
  have hb':b < Ss.length:=by rwa[List.length_set] at hb
  by_cases hai:a=i
  ·subst hai;rw[List.getElem_set_ne (by omega)] at q2;simp only[List.getElem_set_self] at q1;rcases q1 with q1 | q1
   ·exact h.apart a b ha' hb' hab q q1 q2
   ·have:=h.low b hb' q q2;omega
  ·rw[List.getElem_set_ne (by omega)] at q1;by_cases hbi:b=i
   ·subst hbi;simp only[List.getElem_set_self] at q2;rcases q2 with q2 | q2
    ·exact h.apart a b ha' hb' hab q q1 q2
    ·have:=h.low a ha' q q1;omega
   ·rw[List.getElem_set_ne (by omega)] at q2;exact h.apart a b ha' hb' hab q q1 q2
 ·have hj':j < Ss.length:=by rwa[List.length_set] at hj
  rw[hsw];by_cases hij:j=i
  ·subst hij;simp only[List.getElem_set_self] at hq;rcases hq with hq | hq
   ·have:=h.low j hj' q hq;omega
   ·exact hq.2
  ·rw[List.getElem_set_ne (by omega)] at hq;have:=h.low j hj' q hq;omega
theorem eW.Ij {w:World} {base n cap:Nat} {a:Option Addr} {l:List Pt} (h:eW w base (.slice a n cap) l) (i:Nat) (hi:i < l.length): ∃g f,a=some ⟨g,0,none⟩∧w.cell? ⟨g,i*3,none⟩=some f∧cR w base f l[i].f:=h.own.Ij i hi
def aY (w:World) (base:Nat) (v:Value) (S:List SP):Prop:= ∃l:List Pt,eW w base v l∧(∀p∈l,eG p∧p.f.length≤16)∧l.map sem=S
theorem aY.below {w w':World} {base:Nat} {v:Value} {S:List SP} (h:aY w base v S) (hb:Below w.heap.size w w'):aY w' base v S:=by
 obtain⟨l,h1,h2⟩:=h;exact ⟨l,h1.below hb,h2⟩
theorem aY.mono {w:World} {base base':Nat} {v:Value} {S:List SP} (h:aY w base v S) (hb:base'≤base):aY w base' v S:=by
 obtain⟨l,h1,h2⟩:=h;exact ⟨l,h1.mono hb,h2⟩
theorem aY.shape {w:World} {base:Nat} {v:Value} {S:List SP} (h:aY w base v S): ∃a c,v= .slice a S.length c:=by
 obtain⟨l,h1, -,rfl⟩:=h;obtain ⟨a,c,hv⟩:=h1.shape;exact ⟨a,c,by rw[List.length_map];exact hv⟩
def x8 (w:World) (base:Nat) (v:Value) (l:List Pt):Prop:= ∃(a:Option Addr) (c:Nat),v= .slice a l.length c∧eW w base (.slice a l.length c) l
theorem x8.below {w w':World} {base:Nat} {v:Value} {l:List Pt} (h:x8 w base v l) (hb:Below w.heap.size w w'):x8 w' base v l:=by
 obtain⟨a,c,h1,h2⟩:=h;exact ⟨a,c,h1,h2.below hb⟩
structure vL (w:World) (BK:Nat) (ce:Array Value) (ov:Value) (lk:List Pt) (wr:World):Prop where
 blk:wr.heap[BK]? =some (Obj.cells ce 238 (0,0))
 own:l8 wr w.heap.size BK ov lk
 aW:Below w.heap.size w wr
 le:w.heap.size≤BK
theorem vL.below {w:World} {BK:Nat} {ce:Array Value} {ov:Value} {lk:List Pt} {wr wr':World} (h:vL w BK ce ov lk wr) (hb:Below wr.heap.size wr wr'):vL w BK ce ov lk wr':=
 ⟨ag hb h.blk,h.own.below hb,aj h.aW hb,h.le⟩
theorem vL.drew {w:World} {BK:Nat} {ce:Array Value} {ov:Value} {lk:List Pt} {wr:World} (h:vL w BK ce ov lk wr):vL w BK ce ov lk wr.drew:=h.below ((br).drew)
theorem pcopied_a (v:Value) (l:List Pt) (w:World) (hv:bK cU w v l) (hok: ∀x∈l,eG x) (hl:l.length≤1000):
  Calls Tryz.prog 172 #[v] w fun e w'=> ∃ov,e= .returned ov∧eW w' w.heap.size ov l∧Below w.heap.size w w':=by
 obtain⟨a,cap,rfl,hcap,hlen, -,hvl⟩:=hv.open_;have jN:=jD hvl;have cz:=jD hok;clear hv hvl hok;go_enter Tryz.func172,Tryz.ntmps172;go_wp2;go_loopw [3,8] (fun ov i wr=> ∃k:Nat,k≤l.length∧i= .int .i64 k∧eW wr w.heap.size ov (l.take k)∧Below w.heap.size w wr) (fun _ i _=>l.length - (intOf i).toNat)
 case atStart=>exact ⟨0,Nat.zero_le _,rfl,eW.nil _ _,br⟩
 case round=>
  obtain⟨k,hk,rfl,hown,hbl⟩:=hrel;have HOW:=jD hown;have aP:=jD hbl;clear hown hbl;by_cases hlt:k < l.length
  ·rcases jN.o with hnil | ⟨b,off,rfl,hb,hc⟩
   ·rw[hnil] at hlt;simp at hlt
   obtain⟨c,hE,hcc⟩:=hc k hlt;obtain⟨FF,UU,XX,rfl,hfw,nB⟩:=hE;have hcl:=fun (j:Nat) (y:Value) (hy:[FF,UU,XX][j]? =some y)=>IU (w:=wr) (b:=b) (off:=off) (i:=k) (fun j y hy=>(aP.o.cell (p:=⟨b,off+(k*cU.size+j),none⟩) hb).trans (hcc j y hy)) hy;have d0:=hcl 0 _ rfl;have d1:=hcl 1 _ rfl;have d2:=hcl 2 _ rfl;rw[Nat.add_zero] at d0;obtain⟨fa,fc,rfl⟩:=hfw.shape;obtain⟨ua,uc,rfl⟩:=nB.vec.shape;obtain⟨xa,xc,rfl⟩:=nB.more.shape;have HT:=jD (show l.take (k+1)=l.take k++[l[k]] from List.take_succ_eq_append_getElem hlt);have htl:(l.take k).length=k:=by rw[List.length_take];omega
   have hpk:=cz.o _ (List.getElem_mem hlt);have KH:=jD hpk.f;obtain⟨hko,NZ⟩:=di.1 hpk.k;have Qb:=hko.len;obtain⟨BK,kD⟩: ∃BK,BK=wr.heap.size:=⟨_,rfl⟩
   obtain⟨w1,hw1⟩: ∃w1,w1=wr.alloc (.cells #[.slice fa l[k].f.length fc, .slice ua l[k].k.vec.length uc, .slice xa l[k].k.more.length xc] 238):=⟨_,rfl⟩
   have hb1:Below wr.heap.size wr w1:=by rw[hw1];exact aG _
   have HS:=jD (show vL w BK #[.slice fa l[k].f.length fc, .slice ua l[k].k.vec.length uc, .slice xa l[k].k.more.length xc] _ (l.take k) w1 from⟨by rw[hw1];exact au _ _ _ _ kD,by rw[kD];exact l8.below HOW.o hb1,aj aP.o hb1,by rw[kD];exact aP.o.size⟩);have yB:=jD hfw;have Ae:=jD nB;obtain⟨oa,oc,uo⟩:=HOW.o.shape;rw[htl] at uo;subst uo;clear hc hcc hcl hfw nB hb1 HOW aP hpk hko;generalize l[k]=pp at*;generalize l.take k=lk at*;subst htl;obtain⟨ff,kk⟩:=pp;simp only at*;go_wp2_with fail
   rw[←kD,←hw1];clear kD hw1 d0 d1 d2;refine Cl.aV 24 rfl [9] (fun ww=>vL w BK #[.slice fa ff.length fc, .slice ua kk.vec.length uc, .slice xa kk.more.length xc] (.slice oa lk.length oc) lk ww) (fun jq=>match jq with | 3=>[9] | 6=>[9] | 7=>[9] | 8=>[9] | _=>[]) (fun jq v ww=>match jq with | 0=>v= .slice oa lk.length oc | 1=>v= .pointer (some ⟨BK,0,none⟩) | 2=>v= .slice fa ff.length fc | 3=>En ww BK v ff | 4=>v= .pointer (some ⟨BK,1,none⟩) | 5=>v= .agg #[.slice ua kk.vec.length uc, .slice xa kk.more.length xc] | 6=>yD ww BK v kk | 7=>Em ww BK v ⟨ff,kk⟩ | 8=>Eo ww BK v ⟨ff,kk⟩ | 9=>x8 ww w.heap.size v (lk++[⟨ff,kk⟩]) | 10=>x8 ww w.heap.size v (lk++[⟨ff,kk⟩]) | _=>True) (fun ww=>Below w.heap.size w ww) (fun jq ww aR=>jq≠9→Below ww.heap.size ww aR) Tryz.mixed (by decide+kernel) HS.o.drew.aW HS.o.drew ?_ (fun jq ww aR hk h hR=>h.below (hR (by simpa using hk))) ?_ ?_
   ·intro q r v w w' hne hk hlt h hR;match r,hk,hlt,h,hne with
    | 0,_,_,h,_=>exact h
    | 1,_,_,h,_=>exact h
    | 2,_,_,h,_=>exact h
    | 3,hk,_,h,_=>exact En.below h (hR (by simpa using hk))
    | 4,_,_,h,_=>exact h
    | 5,_,_,h,_=>exact h
    | 6,hk,_,h,_=>exact yD.below h (hR (by simpa using hk))
    | 7,hk,_,h,_=>exact Em.below h (hR (by simpa using hk))
    | 8,hk,_,h,_=>exact Eo.below h (hR (by simpa using hk))
    | 9,_,_,h,hne=>exact x8.below h (hR (by exact hne))
    | 10,_,hlt,h,_=>exact x8.below h (hR (by intro e;subst e;exact absurd hlt (by decide+kernel)))
    | _+11,_,_,_,_=>trivial
   ·refine⟨?_, ?_, ?_, ?_, ?_, ?_, ?_, ?_, ?_, ?_, ?_,trivial⟩
    ·intro x wx hG;have f3:=hG.o 3;have hp:=hG.p 0;replace hG:=hG.g;go_wp2;exact⟨_,rfl,rfl,hG,fun _=>br⟩
    ·intro x wx hG;have f5:=hG.o 5;have hp:=hG.p 0;replace hG:=hG.g;go_wp2;exact⟨_,rfl,rfl,hG,fun _=>br⟩
    ·intro x wx hG;have g1:=gr 13 (hG.c 1 _ rfl);have hp:=hG.p 0;replace hG:=hG.g;have hbk:=hp.blk;have c0:=cq 0 hbk rfl;have TP:=ai hbk;clear hbk hp;go_wp2;exact⟨_,rfl,rfl,hG,fun _=>br⟩
    ·intro x wx hG;have g2:=gr 14 (hG.c 2 _ rfl);have hp:=hG.p 0;replace hG:=hG.g;have HX:=jD (xP (.slice fa ff.length fc) ff wx (yB.o.below hp.aW) KH.o);have uL:=jD (Nat.le_of_lt (ai hp.blk));clear hp;go_wp2_with fail
     (with_reducible refine(HX.o).mono ?_);rintro e wq ⟨v9,rfl,h9,hb⟩;obtain⟨za,zc,hz⟩:=h9.shape;subst hz;have H9:=jD (cB.mono h9 uL.o);clear h9;go_wp2;exact⟨_,rfl,⟨_,_,rfl,H9.o⟩,aj hG hb,fun _=>hb⟩
    ·intro x wx hG;have f5:=hG.o 5;have hp:=hG.p 0;replace hG:=hG.g;go_wp2;exact⟨_,rfl,rfl,hG,fun _=>br⟩
    ·intro x wx hG;have g4:=gr 16 (hG.c 4 _ rfl);have hp:=hG.p 0;replace hG:=hG.g;have hbk:=hp.blk;have c1:=cq 1 hbk rfl;have c2:=cq 2 hbk rfl;have TP:=ai hbk;clear hbk hp;go_wp2;exact⟨_,rfl,rfl,hG,fun _=>br⟩
    ·intro x wx hG;have g5:=gr 17 (hG.c 5 _ rfl);have hp:=hG.p 0;replace hG:=hG.g;have HX:=jD (kcopied_c (.slice ua kk.vec.length uc) (.slice xa kk.more.length xc) kk wx (Ae.o.below hp.aW) Qb NZ);have uL:=jD (Nat.le_of_lt (ai hp.blk));clear hp;go_wp2_with fail
     (with_reducible refine(HX.o).mono ?_);rintro e wq ⟨qa,qc,qb,qd,rfl,h9,hb⟩;have H9:=jD (h9.mono uL.o);clear h9;go_wp2;exact⟨_,rfl,⟨_,_,_,_,rfl,H9.o⟩,aj hG hb,fun _=>hb⟩
    ·intro x wx hG;have g3:En wx BK (x.tmps.getD 15 undef) ff:=hG.c 3 _ rfl;have g6:yD wx BK (x.tmps.getD 18 undef) kk:=hG.c 6 _ rfl;have hp:=hG.p 0;replace hG:=hG.g;obtain⟨za,zc,hz1,hz2⟩:=g3;obtain⟨ya,yc,yb,yd,hy1,hy2⟩:=g6;have qP:=hz1;rw[Array.getD_eq_getD_getElem?] at qP;have Jm:=hy1;rw[Array.getD_eq_getD_getElem?] at Jm;have HZ:=jD hz2;have HY:=jD hy2;clear hz2 hy2 hp;go_wp2;exact⟨_,rfl,⟨_,_,_,_,_,_,rfl,HZ.o,HY.o⟩,hG,fun _=>br⟩
    ·intro x wx hG;have g7:Em wx BK (x.tmps.getD 19 undef) ⟨ff,kk⟩:=hG.c 7 _ rfl;have hp:=hG.p 0;replace hG:=hG.g;obtain⟨a1,a2,a3,a4,a5,a6,hz1,hz2,hz3⟩:=g7;have qP:=hz1;rw[Array.getD_eq_getD_getElem?] at qP;have HZ:=jD hz2;have HY:=jD hz3;clear hz2 hz3 hp;go_wp2;exact⟨_,rfl,⟨_,_,_,_,rfl,au _ _ _ _ rfl,rfl,rfl,rfl,HZ.o.below (aG _),HY.o.below (aG _)⟩,hG.alloc hG.size _,fun _=>aG _⟩
    ·intro x wx hG;have g0:=gr 12 (hG.c 0 _ rfl);have g8:Eo wx BK (x.tmps.getD 20 undef) ⟨ff,kk⟩:=hG.c 8 _ rfl;have hp:=hG.p 0;replace hG:=hG.g;obtain⟨g9,f9,u9,x9,hz1,hz2,o1,o2,o3,hz3,wM⟩:=g8;obtain⟨css,Ss,hpo⟩:=hp.own;have hz:=g0;have hzb:=hz;rw[Array.getD_eq_getD_getElem?] at hzb;have qP:=hz1;rw[Array.getD_eq_getD_getElem?] at qP;have H9:=jD hpo.row;have HE:=jD hpo;have HLE:=jD hp.le;have Ad:=jD (Nat.le_of_lt (ai hp.blk));have HF:=jD hz3;have HK:=jD wM;have vR:=jD (show ∀u∈[f9,u9,x9],u.oneCell'=true by intro u hu;simp only[List.mem_cons,List.not_mem_nil,or_false] at hu;rcases hu with rfl | rfl | rfl;exact o1;exact o2;exact o3);have HC:=jD (show aF wx (.slice (some ⟨g9,0,none⟩) 1 1) 1 [f9,u9,x9] from aF.mk (Nat.le_refl _) (by decide) (ai hz2) (fun j z hj=>by rw[Nat.zero_add];exact aD hz2 (by simpa using hj)));have uL:=jD hp.aW;have hbs:=hp.aW.size;have hkl:lk.length≤1000:=by omega
     clear hpo hz2 hz3 wM hp;go_wp2_with (at_builtin;refine bM rfl (.tmp 12) (.tmp 20) 147 rfl w.heap.size 238 _ 3 72 Tryz.underlying147 zU.info rfl (by decide) (.slice oa lk.length oc) lk.length _ hz H9.o (.slice (some ⟨g9,0,none⟩) 1 1) 1 _ hz1 HC.o rfl vR.o hbs (by unfold maxLen;omega) (by omega) ?_)
     intro v' wq ho hgr;obtain⟨qa,qc,hq⟩:=ay ho;subst hq;have HO:=jD ho;have kY:=jD hgr;clear ho hgr;go_wp2;exact⟨_,rfl,⟨_,_,by rw[List.length_append];rfl,by rw[List.length_append];exact HE.o.push HF.o HK.o HLE.o Ad.o HO.o kY.o⟩,hG.grown kY.o hbs (fun k hk=>(H9.o.lt k hk).1),fun h=>absurd rfl h⟩
    ·intro x wx hG;have g9:x8 wx w.heap.size (x.tmps.getD 21 undef) (lk++[⟨ff,kk⟩]):=hG.c 9 _ rfl;replace hG:=hG.g;obtain⟨za,zc,hz,h9⟩:=g9;have H9:=jD h9;clear h9;go_wp2;exact⟨_,rfl,⟨_,_,by simp,H9.o⟩,hG,fun _=>br⟩
   ·intro af w3 hg hF;obtain⟨g0,g1,g2,g3,g4,g5,g6,g7,g8,g9,g10, -⟩:=hF;replace g10:x8 w3 w.heap.size (af 10) (lk++[⟨ff,kk⟩]):=g10 rfl;simp only[Cl3.puts,gq (af 0) g0,gq (af 1) g1,gq (af 2) g2,gq (af 4) g4,gq (af 5) g5];clear g0 g1 g2 g3 g4 g5 g6 g7 g8 g9;go_simp
    generalize af 10=ov2 at*;obtain⟨a8,c8,rfl,h8⟩:=g10;have H8:=jD h8;have yC:=jD hg;have hll:(lk++[(⟨ff,kk⟩:Pt)]).length=lk.length+1:=by rw[List.length_append];rfl
    rw[hll] at H8 ⊢;clear h8 hg;go_wp2;go_roundw
    case rel=>exact ⟨lk.length+1,by omega,by go_num,by rw[HT.o];exact H8.o,yC.o⟩
    case measure=>simp [intOf] <;> omega
  ·obtain rfl:k=l.length:=by omega
   rw[List.take_length] at HOW;obtain⟨oa,oc,uo⟩:=HOW.o.shape;subst uo;go_wp2;go_ret;exact⟨_,rfl,HOW.o,aP.o⟩
theorem Oe (v:Value) (l:List Pt) (w:World) (hv:bK cU w v l) (hok: ∀x∈l,eG x) (hl:l.length≤1000):
  Calls Tryz.prog 173 #[v] w fun e w'=> ∃v',e= .returned v'∧aY w' w.heap.size v' (dP (l.map sem))∧Below w.heap.size w w':=by
 obtain⟨a,cap,rfl,hcap,hlen, -,hvl⟩:=hv.open_;have jN:=jD hvl;have cz:=jD hok;clear hv hvl hok;go_enter Tryz.func173,Tryz.ntmps173;go_wp2;go_loopw [3,9] (fun ov i wr=> ∃k:Nat,k≤l.length∧i= .int .i64 k∧b9 cU w wr w.heap.size 238 ov (ku (l.take k))∧Below w.heap.size w wr) (fun _ i _=>l.length - (intOf i).toNat)
 case atStart=>exact ⟨0,Nat.zero_le _,rfl,b9.nil _ _ _ _,br⟩
 case round=>
  obtain⟨k,hk,rfl,hown,hbl⟩:=hrel;have HOW:=jD hown;have aP:=jD hbl;clear hown hbl;by_cases hlt:k < l.length
  ·rcases jN.o with hnil | ⟨b,off,rfl,hb,hc⟩
   ·rw[hnil] at hlt;simp at hlt
   obtain⟨c,hE,hcc⟩:=hc k hlt;obtain⟨FF,UU,XX,rfl,hfw,nB⟩:=hE;have hcl:=fun (j:Nat) (y:Value) (hy:[FF,UU,XX][j]? =some y)=>IU (w:=wr) (b:=b) (off:=off) (i:=k) (fun j y hy=>(aP.o.cell (p:=⟨b,off+(k*cU.size+j),none⟩) hb).trans (hcc j y hy)) hy;have d0:=hcl 0 _ rfl;have d1:=hcl 1 _ rfl;have d2:=hcl 2 _ rfl;rw[Nat.add_zero] at d0;obtain⟨fa,fc,rfl⟩:=hfw.shape;obtain⟨ua,uc,rfl⟩:=nB.vec.shape;obtain⟨xa,xc,rfl⟩:=nB.more.shape;have HT:=jD (show ku (l.take (k+1))=kr (ku (l.take k)) l[k] by rw[List.take_succ_eq_append_getElem hlt,zD]);have hpk:=cz.o _ (List.getElem_mem hlt);have HPK:=jD hpk;have Wi:=jD (show(ku (l.take k)).length≤k by have:=JQ (l.take k);rw [List.length_take] at this;omega);have jO:=jD (Mj (l:=l.take k) fun x hx=>cz.o x (List.mem_of_mem_take hx));obtain⟨BK,kD⟩: ∃BK,BK=wr.heap.size:=⟨_,rfl⟩
   obtain⟨w1,hw1⟩: ∃w1,w1=wr.alloc (.cells #[.slice fa l[k].f.length fc, .slice ua l[k].k.vec.length uc, .slice xa l[k].k.more.length xc] 238):=⟨_,rfl⟩
   have hb1:Below wr.heap.size wr w1:=by rw[hw1];exact aG _
   have bh:=jD (show w1.heap[BK]? =some (Obj.cells #[.slice fa l[k].f.length fc, .slice ua l[k].k.vec.length uc, .slice xa l[k].k.more.length xc] 238 (0,0)) by rw[hw1];exact au _ _ _ _ kD);have yB:=jD hfw;have Ae:=jD nB;have Zh: ∀g,(∃x,b9 cU w wr w.heap.size 238 x (ku (l.take k))∧x.ownBlock=some g)→w.heap.size≤g∧g < BK:=fun g ⟨x,hx,hg⟩=>by rw[kD];exact hx.lt g hg
   have UK:=jD (fun g (hg:_=some g)=>Zh g ⟨_,HOW.o,hg⟩);replace HOW:=jD (HOW.o.below hb1);replace aP:=jD (aj aP.o hb1);obtain⟨oa,oc,uo⟩:=HOW.o.shape;subst uo;clear hc hcc hcl hfw nB hb1 hpk Zh;generalize l[k]=pp at*;generalize ku (l.take k)=lk at*;obtain⟨ff,kk⟩:=pp;simp only at*;have c0:=cq 0 bh.o rfl;have c1:=cq 1 bh.o rfl;have c2:=cq 2 bh.o rfl;have hBl:=ai bh.o;have RA:=jD (YI ⟨ff,kk⟩ _ _ _ w1 HPK.o (yB.o.below aP.o) (Ae.o.below aP.o));go_wp2_with fail
   rw[←kD,←hw1];clear kD hw1 d0 d1 d2;go_wp2_with fail
   (with_reducible refine(RA.o).mono ?_);rintro e w2 ⟨rfl,hb2⟩;replace bh:=jD (ag hb2 bh.o);replace HOW:=jD (HOW.o.below hb2);replace aP:=jD (aj aP.o hb2);clear hb2 RA c0 c1 c2 hBl;cases hno:AH (sem ⟨ff,kk⟩)
   rotate_left
   ·have HN:=jD (show ku (l.take (k+1))=lk by rw[HT.o];unfold kr;rw [hno];rfl);clear hno;go_wp2;go_roundw
    case rel=>exact ⟨k+1,by omega,by go_num,by rw[HN.o];exact HOW.o,aP.o⟩
    case measure=>simp [intOf] <;> omega
   have HCN:=jD (Bi eG _ lk 199 #[.pointer (some ⟨BK,0,none⟩)] (fun q=>gY (sem ⟨ff,kk⟩) (sem q)) w2 (HOW.o.at_ (Sub.of_below aP.o) (by have:=Wi.o;omega)) jO.o
    (ZQ BK ⟨ff,kk⟩ _ _ _ w2 bh.o HPK.o (yB.o.below aP.o) (Ae.o.below aP.o)))
   have HST:=jD (show kr lk ⟨ff,kk⟩=if lk.any (fun q=>gY (sem ⟨ff,kk⟩) (sem q))=true then lk else(lk.filter fun q=> !gY (sem q) (sem ⟨ff,kk⟩))++[⟨ff,kk⟩] by unfold kr;rw [hno,Bool.false_or]);clear hno;generalize lk.any (fun q=>gY (sem ⟨ff,kk⟩) (sem q))=an at*;go_wp2_with fail
   (with_reducible refine(HCN.o).mono ?_);rintro e w3 ⟨rfl,hb3⟩;replace bh:=jD (ag hb3 bh.o);replace HOW:=jD (HOW.o.below hb3);replace aP:=jD (aj aP.o hb3);clear hb3 HCN;cases an
   rotate_left
   ·have HN:=jD (show ku (l.take (k+1))=lk by rw[HT.o,HST.o];rfl);go_wp2;go_roundw
    case rel=>exact ⟨k+1,by omega,by go_num,by rw[HN.o];exact HOW.o,aP.o⟩
    case measure=>simp [intOf] <;> omega
   have HN:=jD (show ku (l.take (k+1))=(lk.filter fun q=> !gY (sem q) (sem ⟨ff,kk⟩))++[⟨ff,kk⟩] by rw[HT.o,HST.o];rfl);have mX:=jD (Yy eG w w3 _ lk 202 #[.pointer (some ⟨BK,0,none⟩)] (fun q=>gY (sem q) (sem ⟨ff,kk⟩)) aP.o HOW.o (by have:=Wi.o;omega) jO.o
    (fun W=>Below w.heap.size w W∧W.heap[BK]? =some (Obj.cells #[.slice fa ff.length fc, .slice ua kk.vec.length uc, .slice xa kk.more.length xc] 238 (0,0)))
    ⟨enters_of Tryz.func202 (by kernel_rfl) rfl,fun a f u x W hD hI hf hk=>(ZP BK ⟨ff,kk⟩ _ _ _ W hI.2 HPK.o (yB.o.below hI.1) (Ae.o.below hI.1)).2 a f u x W hD (br) hf hk⟩
    ⟨aP.o,bh.o⟩ (fun W W' hI hb=>⟨aj hI.1 hb,ag hb hI.2⟩) (fun W W' g hg hr hI=>⟨hr.below hI.1 (UK.o g hg).1,by rw[hr.other BK (by have:=(UK.o g hg).2;omega)];exact hI.2⟩))
   have hfl:(lk.filter fun q=> !gY (sem q) (sem ⟨ff,kk⟩)).length≤k:=Nat.le_trans (List.length_filter_le _ _) Wi.o;clear HST HT jO Wi HOW;generalize (lk.filter fun q=> !gY (sem q) (sem ⟨ff,kk⟩))=lf at*;have gN:=jD (ai bh.o);go_wp2_with fail
   (with_reducible refine(mX.o).mono ?_);rintro e w4 ⟨s4,rfl,h4,hb4,hi4⟩;obtain⟨sa,sc,rfl⟩:=h4.shape;have hB4:=hi4.2;have e0:=cq 0 hB4 rfl;have e1:=cq 1 hB4 rfl;have e2:=cq 2 hB4 rfl;have hBl:=ai hB4;obtain⟨css,h41,h42⟩:=h4;have dm:=aG (W:=w4) (.cells #[.slice fa ff.length fc, .slice ua kk.vec.length uc, .slice xa kk.more.length xc] 238);have H41:=jD h41;have H42:=jD (show(w4.alloc (.cells #[.slice fa ff.length fc, .slice ua kk.vec.length uc, .slice xa kk.more.length xc] 238)).ownsRow w.heap.size 238 3 (.slice sa lf.length sc) lf.length css.flatten from h42.alloc _);have HC:=jD (aF.mk (w:=w4.alloc (.cells #[.slice fa ff.length fc, .slice ua kk.vec.length uc, .slice xa kk.more.length xc] 238)) (b:=w4.heap.size) (off:=0) (n:=1) (cap:=1) (xs:=[.slice fa ff.length fc, .slice ua kk.vec.length uc, .slice xa kk.more.length xc]) (Nat.le_refl _) (by decide) (by simp) (fun j x hj=>by
    rw[Nat.zero_add,World.cell?_alloc_at _ _ _ _ (by simp)];simpa using hj))
   have gp:=jD (aj hb4 dm);have hsz:=gp.o.size;clear h41 h42 hi4 hb4 hB4 dm mX bh aP UK;go_wp2_with (at_builtin;refine bM rfl (.tmp 23) (.tmp 25) 147 rfl w.heap.size 238 _ 3 72 Tryz.underlying147 zU.info rfl (by decide) _ lf.length _ rfl H42.o _ 1 _ rfl HC.o rfl (by intro z hz;simp at hz;rcases hz with rfl | rfl | rfl <;> rfl) hsz (by unfold maxLen;omega) (by omega) ?_)
   intro v' w5 ho hgr;obtain⟨qa,qc,hq⟩:=ay ho;subst hq;have HR:=jD (show b9 cU w w5 w.heap.size 238 (.slice qa (lf.length+1) qc) (lf++[⟨ff,kk⟩]) from⟨css++[[.slice fa ff.length fc, .slice ua kk.vec.length uc, .slice xa kk.more.length xc]],H41.o.append (Els.single ⟨_,_,_,rfl,yB.o,Ae.o⟩),by rw[List.length_append,List.flatten_append];exact ho⟩);have Bw:=jD (gp.o.grown hgr hsz fun k hk=>(H42.o.lt k hk).1);clear ho hgr e0 e1 e2;go_wp2;go_roundw
   case rel=>exact ⟨k+1,by omega,by go_num,by rw[HN.o];exact HR.o,Bw.o⟩
   case measure=>simp [intOf] <;> omega
  ·obtain rfl:k=l.length:=by omega
   rw[List.take_length] at HOW;have hfl:=JQ l;have jO:=jD (Mj cz.o);have OV:=jD (JP l);obtain⟨oa,oc,uo⟩:=HOW.o.shape;subst uo;have qy:=jD (pcopied_a _ (ku l) wr (HOW.o.at_ (Sub.of_below aP.o) (by omega)) jO.o (by omega));clear jN cz HOW;generalize ku l=m at*;go_wp2_with fail
   (with_reducible refine(qy.o).mono ?_);rintro e w2 ⟨ov,rfl,ho,hb2⟩;have HO:=jD (ho.mono aP.o.size);obtain⟨pa,pc,rfl⟩:=ho.shape;have cw:=jD (aj aP.o hb2);clear ho hb2 qy aP;obtain⟨w3,hw3⟩: ∃w3,w3=w2:=⟨_,rfl⟩
   rw[←hw3] at HO cw ⊢;clear hw3 w2;go_wp2;go_loopw [32] (fun i wr=> ∃q:Nat,q≤m.length∧i= .int .i64 q∧(∃l1,eW wr w.heap.size (.slice pa m.length pc) l1∧kV q m l1)∧Below w.heap.size w wr) (fun i _=>m.length - (intOf i).toNat)
   case atStart=>exact ⟨0,Nat.zero_le _,rfl,⟨m,HO.o,kV.zero m⟩,cw.o⟩
   case round=>
    obtain⟨q,hq,rfl,⟨l1,od,hp1⟩,hbl⟩:=hrel;have Ab:=jD od;have nN:=jD hp1;have aP:=jD hbl;clear od hp1 hbl HO cw;by_cases Di:q < m.length
    ·have hq1:q < l1.length:=by rw[nN.o.len];exact Di
     have hrest:=nN.o.rest q Di hq1 (Nat.le_refl _);obtain⟨g,f1,Vm,hcell,hfo⟩:=Ab.o.Ij q hq1;subst Vm;have hfz:bP l1[q].f=0:=by rw[hrest];exact (jO.o _ (List.getElem_mem Di)).f
     have MD:=jD (Ey f1 l1[q].f wr (hfo.vJ hfz) hfz);obtain⟨fa,fc,rX⟩:=hfo.shape;subst rX;have GU:=jD (fun (f:bB) (h:ng f (fun t n=>cE l1[q].f t n))=>nN.o.step Di (f:=f) (by rw[hrest] at h;exact h));have hqm:decide ((q:Int) < (m.length:Int))=true:=by simp;omega
     clear hfo hrest hfz;go_wp2_with fail
     (with_reducible refine(MD.o).mono ?_);rintro e w5 ⟨f2,fl,rfl,hf2,hg2,bR⟩;have oh:=jD hf2;obtain⟨ZT,ZR,TG⟩:=hf2.shape;subst TG;obtain⟨eD,cs,hgb,hbase⟩:=(l8.below Ab.o bR).SF q hq1 (fs:=fl) oh.o aP.o.size bR.size;have o5:=jD eD;have yz:=jD (GU.o fl hg2);have RY:=jD ((aj aP.o bR).setCell (p:=⟨g,q*3,none⟩) hbase (.slice ZT fl.length ZR));have c5:=ah bR hcell;have ff5:=dS (j:=q*3) hgb;have hgl:=ai hgb;clear hcell bR hf2 hg2 MD eD hgb GU;go_wp2;go_roundw
     case rel=>exact ⟨q+1,by omega,by go_num,⟨_,o5.o,yz.o⟩,RY.o⟩
     case measure=>simp [intOf] <;> omega
    ·obtain rfl:q=m.length:=by omega
     have ot:=jD (show aY wr w.heap.size (.slice pa m.length pc) (dP (l.map sem)) from⟨l1,Ab.o,nN.o.ok jO.o,by rw[nN.o.sem,OV.o]⟩);clear Ab nN jO OV;go_wp2;go_ret;exact⟨_,rfl,ot.o,aP.o⟩
def mS (w:World) (base:Nat) (v:Value) (E:Int) (S:List SP):Prop:=(E=0→aY w base v S)∧(E≠0→v= .slice none 0 0)
theorem W8 (va vb:Value) (a b:List Pt) (w:World) (ha:bK cU w va a) (hb:bK cU w vb b):
  Calls Tryz.prog 139 #[va,vb] w fun e w'=> ∃v,e= .returned (.tuple #[v, .int .i64 (mO a b)])∧mS w' w.heap.size v (mO a b) (dP ((a++b).map sem))∧Below w.heap.size w w':=by
 obtain⟨xa,ca,rfl⟩:=ha.shape;obtain⟨xb,cb,rfl⟩:=hb.shape;have HA:=jD ha;have HB:=jD hb;have HC:=jD (qN _ a w ha);have oJ:=jD (show bE a≠0→mO a b=bE a from fun h=>by unfold mO;rw [if_pos h]);have jH:=jD (show bE a=0→bE b≠0→mO a b=bE b from fun h k=>by unfold mO;rw [if_neg (by omega),if_pos k]);have KI:=jD (show bE a=0→bE b=0→mO a b=if 30 < (dP ((a++b).map sem)).length then 2 else 0 from fun h k=>by unfold mO;rw [if_neg (by omega),if_neg (by omega)]);have Rc:=jD (fo (l:=a));have HZB:=jD (fo (l:=b));clear ha hb;go_enter Tryz.func139,Tryz.ntmps139;go_wp2_with fail
 (with_reducible refine(HC.o).mono ?_);rintro e w1 ⟨rfl,hb1⟩;replace HA:=jD (HA.o.below hb1);replace HB:=jD (HB.o.below hb1);have aP:=jD hb1;clear hb1 HC;by_cases h0:bE a=0;rotate_left
 ·have H:=jD (oJ.o h0);have H0:=jD h0;have hne:decide (bE a=0)=false:=by simpa using h0
  have hnb:(bE a != 0)=true:=bne_iff_ne.2 h0;generalize bE a=sc at*;clear h0;go_wp2;go_ret2;exact⟨_,fW H.o.symm,⟨fun h=>absurd (H.o.symm.trans h) H0.o,fun _=>rfl⟩,aP.o⟩
 have HZ:=jD (Rc.o.1 h0);replace jH:=jD (jH.o h0);replace KI:=jD (KI.o h0);have HC:=jD (qN _ b w1 HB.o);rw[h0];clear h0 oJ Rc;go_wp2_with fail
 (with_reducible refine(HC.o).mono ?_);rintro e w2 ⟨rfl,hb1⟩;replace HA:=jD (HA.o.below hb1);replace HB:=jD (HB.o.below hb1);replace aP:=jD (aj aP.o hb1);clear hb1 HC;by_cases h0:bE b=0;rotate_left
 ·have H:=jD (jH.o h0);have H0:=jD h0;have hne:decide (bE b=0)=false:=by simpa using h0
  have hnb:(bE b != 0)=true:=bne_iff_ne.2 h0;generalize bE b=sc at*;clear h0;go_wp2;go_ret2;exact⟨_,fW H.o.symm,⟨fun h=>absurd (H.o.symm.trans h) H0.o,fun _=>rfl⟩,aP.o⟩
 have HY:=jD (HZB.o.1 h0);have HE:=jD (KI.o h0);have hla:=HZ.o.1;have hlb:=HY.o.1;have cz:=jD (show ∀x∈a++b,eG x from fun x hx=>(List.mem_append.1 hx).elim (HZ.o.2 x) (HY.o.2 x));have iU:=jD (show(a++b).length≤60 by rw[List.length_append];omega);have MP:=jD (PF w2 HA.o HB.o 147 (by have:=iU.o;omega));rw[h0];clear h0 jH KI HZB HZ HY;have dm:=aG (W:=w2) (.cells #[.slice xa a.length ca, .slice xb b.length cb] 147);have gM:=jD dm;clear dm;go_wp2_with fail
 (with_reducible refine(MP.o).mono ?_);rintro e w3 ⟨v3,rfl,h3,hb3⟩;generalize hab:a++b=ab at*;have HAB:=jD hab;clear hab;have HF:=jD (Oe _ ab w3 h3 cz.o (by have:=iU.o;omega));replace aP:=jD (aj (aj aP.o gM.o) hb3);obtain⟨x3,c3,rfl⟩:=h3.shape;clear h3 hb3 MP gM;generalize hS:dP (ab.map sem)=S at*;have z7:=jD hS;clear hS;go_wp2_with fail
 (with_reducible refine(HF.o).mono ?_);rintro e w4 ⟨v4,rfl,h4,hb4⟩;have H4:=jD (h4.mono aP.o.size);replace aP:=jD (aj aP.o hb4);obtain⟨x4,c4,hv4⟩:=h4.shape;subst hv4;clear h4 hb4 HF;by_cases se:30 < S.length
 ·have H:=jD (show mO a b=2 by rw[HE.o,if_pos se]);have afj:decide ((30:Int) < (S.length:Int))=true:=by rw[decide_eq_true_eq];omega
  clear HE se;go_wp2;go_ret2;exact⟨_,fW H.o.symm,⟨fun h=>absurd (H.o.symm.trans h) (by decide),fun _=>rfl⟩,aP.o⟩
 ·have H:=jD (show mO a b=0 by rw[HE.o,if_neg se]);have afj:decide ((30:Int) < (S.length:Int))=false:=by rw[decide_eq_false_iff_not];omega
  clear HE se;go_wp2;go_ret2;exact⟨.slice x4 S.length c4,fW H.o.symm,⟨fun _=>by rw[HAB.o,z7.o];exact H4.o,fun h=>absurd H.o h⟩,aP.o⟩
theorem FY (v fv:Value) (l:List Pt) (f:bB) (w:World) (hl:bK cU w v l) (hf:bZ w fv f):
  Calls Tryz.prog 132 #[v,fv] w fun e w'=> ∃v',e= .returned (.tuple #[v', .int .i64 (A5 l f)])∧mS w' w.heap.size v' (A5 l f) (cN (l.map sem) (aX f))∧Below w.heap.size w w':=by
 obtain⟨xa,ca,rfl⟩:=hl.shape;obtain⟨xf,cf,rfl⟩:=hf.shape;have HA:=jD hl;have HF:=jD hf;have aa8:=jD hf;have HC:=jD (qN _ l w hl);have oJ:=jD (show bE l≠0→A5 l f=bE l from fun h=>by unfold A5;rw [if_pos h]);have jH:=jD (show bE l=0→A5 l f=bP f from fun h=>by unfold A5;rw [if_neg (by omega)]);have Rc:=jD (fo (l:=l));clear hl hf;go_enter Tryz.func132,Tryz.ntmps132;go_wp2_with fail
 (with_reducible refine(HC.o).mono ?_);rintro e w1 ⟨rfl,hb1⟩;replace HA:=jD (HA.o.below hb1);replace HF:=jD (HF.o.below hb1);have aP:=jD hb1;clear hb1 HC;by_cases h0:bE l=0;rotate_left
 ·have H:=jD (oJ.o h0);have H0:=jD h0;have hne:decide (bE l=0)=false:=by simpa using h0
  have hnb:(bE l != 0)=true:=bne_iff_ne.2 h0;generalize bE l=sc at*;clear h0;go_wp2;go_ret2;exact⟨_,fW H.o.symm,⟨fun h=>absurd (H.o.symm.trans h) H0.o,fun _=>rfl⟩,aP.o⟩
 have HZ:=jD (Rc.o.1 h0);have HE:=jD (jH.o h0);have HC:=jD (qg _ f w1 HF.o);rw[h0];clear h0 oJ jH Rc;go_wp2_with fail
 (with_reducible refine(HC.o).mono ?_);rintro e w2 ⟨rfl,hb1⟩;replace HA:=jD (HA.o.below hb1);replace HF:=jD (HF.o.below hb1);replace aP:=jD (aj aP.o hb1);clear hb1 HC;by_cases h0:bP f=0;rotate_left
 ·have H0:=jD h0;have hne:decide (bP f=0)=false:=by simpa using h0
  have hnb:(bP f != 0)=true:=bne_iff_ne.2 h0;generalize bP f=sc at*;clear h0;go_wp2;go_ret2;exact⟨_,fW HE.o.symm,⟨fun h=>absurd (HE.o.symm.trans h) H0.o,fun _=>rfl⟩,aP.o⟩
 have HF0:=jD h0;rw[h0] at HE ⊢;clear h0;have hla:=HZ.o.1;have cz:=jD HZ.o.2;have qy:=jD (pcopied_c _ l w2 HA.o cz.o (by omega));clear HZ HA;go_wp2_with fail
 (with_reducible refine(qy.o).mono ?_);rintro e w3 ⟨ov,rfl,ho,hb3⟩;have HO:=jD (ho.mono aP.o.size);obtain⟨pa,pc,rfl⟩:=ho.shape;have eH:=jD (aj aP.o hb3);clear ho hb3 qy aP HF;obtain⟨w4,hw4⟩: ∃w4,w4=w3:=⟨_,rfl⟩
 rw[←hw4] at HO eH ⊢;clear hw4 w3;go_wp2;go_loopw [24] (fun i wr=> ∃q:Nat,q≤l.length∧i= .int .i64 q∧(∃l1,fV wr w.heap.size (.slice pa l.length pc) l1∧nL f q l l1)∧Below w.heap.size w wr) (fun i _=>l.length - (intOf i).toNat)
 case atStart=>exact ⟨0,Nat.zero_le _,rfl,⟨l,HO.o,nL.zero f l⟩,eH.o⟩
 case round=>
  obtain⟨q,hq,rfl,⟨l1,od,hp1⟩,hbl⟩:=hrel;have Ab:=jD od;have nN:=jD hp1;have aP:=jD hbl;have HFR:=jD (aa8.o.below hbl);clear od hp1 hbl HO eH;by_cases Di:q < l.length
  ·have hq1:q < l1.length:=by rw[nN.o.len];exact Di
   have hrest:=nN.o.rest q Di hq1 (Nat.le_refl _);obtain⟨g,f1,Vm,hcell,hfo⟩:=Ab.o.Ij q hq1;subst Vm;have hfz:bP l1[q].f=0:=by rw[hrest];exact (cz.o _ (List.getElem_mem Di)).f
   have MD:=jD (L4 f1 _ l1[q].f f wr (hfo.vJ hfz) HFR.o);have ht0:dI l1[q].f f=0:=by unfold dI;rw [if_pos hfz,HF0.o]
   rw[ht0] at MD;obtain⟨fa,fc,rX⟩:=hfo.shape;subst rX;have GU:=jD (fun (f2:bB) (h:ng f2 (fun t n=>cE l1[q].f t n&&cE f t n))=>nN.o.step Di (f:=f2) (by rw[hrest] at h;exact h));have hqm:decide ((q:Int) < (l.length:Int))=true:=by simp;omega
   clear hfo hrest hfz ht0;go_wp2_with fail
   (with_reducible refine(MD.o).mono ?_);rintro e w5 ⟨f2,rfl,Vu,bR⟩;obtain⟨fl,hf2,hg2⟩:=Vu.1 rfl;have oh:=jD (cB.mono hf2 aP.o.size);obtain⟨ZT,ZR,TG⟩:=hf2.shape;subst TG;obtain⟨eD,cs,hgb,hbase⟩:=(Ab.o.below bR).SF q hq1 (fs:=fl) oh.o;have o5:=jD eD;have yz:=jD (GU.o fl hg2);have RY:=jD ((aj aP.o bR).setCell (p:=⟨g,q*3,none⟩) hbase (.slice ZT fl.length ZR));have c5:=ah bR hcell;have ff5:=dS (j:=q*3) hgb;have hgl:=ai hgb;clear hcell bR hf2 hg2 MD eD hgb GU Vu;go_wp2;go_roundw
   case rel=>exact ⟨q+1,by omega,by go_num,⟨_,o5.o,yz.o⟩,RY.o⟩
   case measure=>simp [intOf] <;> omega
  ·obtain rfl:q=l.length:=by omega
   have hat:=Ab.o.at_ (nN.o.ok cz.o) (by rw[nN.o.len];omega);have yB:=jD (Oe _ l1 wr hat (nN.o.ok cz.o) (by rw[nN.o.len];omega));have V2:=jD (show dP (l1.map sem)=cN (l.map sem) (aX f) by rw[nN.o.sem];rfl);rw[V2.o] at yB;clear hat Ab nN cz HFR V2 aa8;go_wp2_with fail
   (with_reducible refine(yB.o).mono ?_);rintro e w5 ⟨v5,rfl,h5,bR⟩;have H5:=jD (h5.mono aP.o.size);have oo:=jD (aj aP.o bR);obtain⟨x5,c5,hv5⟩:=h5.shape;subst hv5;clear h5 bR yB;go_wp2;go_ret2;exact⟨_,fW HE.o.symm,⟨fun _=>H5.o,fun h=>absurd HE.o h⟩,oo.o⟩
end Go.Proofs.YtajgndoiddmbmaaGreatDoor
