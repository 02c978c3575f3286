/- Parts of the call's own whose memory is apart from each other's. No walk here. What part.Copied does: each part's copy lies apart from the others'. Written by a small program (gen/parta.py). What part.Few does: each part lies apart from the others. Written by a small program (gen/parta.py). What part.Join and part.Narrow do: each part lies apart from the others. Written by a small program (gen/parta.py). -/
import Derived.Test.YtgkgdedhicnohaaGreatMPart5
namespace Go.Proofs.YtgkgdedhicnohaaGreat
set_option maxRecDepth 100000
set_option maxHeartbeats 40000000
open Go.RowKit
def InS (S:Nat→Prop) (v:Value):Prop:= ∀q,v.ownBlock=some q→S q
def PtIn (w:World) (base:Nat) (S:Nat→Prop) (c:List Value) (p:Pt):Prop:=
 ∃(f u x:Value) (us:List Value),c=[f,u,x]∧us.length=p.f.length∧w.ownsRow base 124 3 f p.f.length (bxCells p.f us)∧(∀i (h:i < p.f.length) (h':i < us.length),w.ownsRow base 119 2 us[i] p.f[i].sp.length (spansCells p.f[i].sp))∧KnOwn w base u x p.k∧InS S f∧(∀y∈us,InS S y)∧InS S u∧InS S x
theorem PtIn.map {w w':World} {base:Nat} {S T:Nat→Prop} {c:List Value} {p:Pt} (h:PtIn w base S c p) (hST: ∀q,S q→T q) (hr: ∀(e size n:Nat) (v:Value) (xs:List Value),(e=124∨e=119∨e=3∨e=41)→w.ownsRow base e size v n xs→w'.ownsRow base e size v n xs):PtIn w' base T c p:=by
 obtain⟨f,u,x,us,h1,h2,h3,h4,h5,h6,h7,h8,h9⟩:=h
 exact⟨f,u,x,us,h1,h2,hr _ _ _ _ _ (.inl rfl) h3,fun i hi hi'=>hr _ _ _ _ _ (.inr (.inl rfl)) (h4 i hi hi'),⟨hr _ _ _ _ _ (.inr (.inr (.inl rfl))) h5.vec,hr _ _ _ _ _ (.inr (.inr (.inr rfl))) h5.more⟩,fun q hq=>hST q (h6 q hq),fun y hy q hq=>hST q (h7 y hy q hq),fun q hq=>hST q (h8 q hq),fun q hq=>hST q (h9 q hq)⟩
structure PTok (w:World) (base t:Nat) (css:List (List Value)) (Ss:List (Nat→Prop)) (v:Value) (l:List Pt):Prop where
 lc:css.length=l.length
 ls:Ss.length=l.length
 row:w.ownsRow base 105 3 v l.length css.flatten
 each: ∀i (h:i < l.length) (h':i < css.length) (h2:i < Ss.length),PtIn w base Ss[i] css[i] l[i]
 apart: ∀i j (hi:i < Ss.length) (hj:j < Ss.length),i≠j→ ∀q,Ss[i] q→Ss[j] q→False
 low: ∀i (h:i < Ss.length) q,Ss[i] q→q < t
def POwnT (w:World) (base t:Nat) (v:Value) (l:List Pt):Prop:= ∃css Ss,PTok w base t css Ss v l
def POwnA (w:World) (base:Nat) (v:Value) (l:List Pt):Prop:=POwnT w base w.heap.size v l
theorem PTok.below {w w':World} {base t:Nat} {css:List (List Value)} {Ss:List (Nat→Prop)} {v:Value} {l:List Pt} (h:PTok w base t css Ss v l) (hb:Below w.heap.size w w'):PTok w' base t css Ss v l:=
 ⟨h.lc,h.ls,owns_below h.row hb,fun i h1 h2 h3=>(h.each i h1 h2 h3).map (fun _ hq=>hq) (fun _ _ _ _ _ _ hr=>owns_below hr hb),h.apart,h.low⟩
theorem PTok.top {w:World} {base t t':Nat} {css:List (List Value)} {Ss:List (Nat→Prop)} {v:Value} {l:List Pt} (h:PTok w base t css Ss v l) (ht:t≤t'):PTok w base t' css Ss v l:=
 ⟨h.lc,h.ls,h.row,h.each,h.apart,fun i hi q hq=>Nat.lt_of_lt_of_le (h.low i hi q hq) ht⟩
theorem POwnT.below {w w':World} {base t:Nat} {v:Value} {l:List Pt} (h:POwnT w base t v l) (hb:Below w.heap.size w w'):POwnT w' base t v l:=by
 obtain⟨css,Ss,h1⟩:=h;exact ⟨css,Ss,h1.below hb⟩
theorem POwnA.below {w w':World} {base:Nat} {v:Value} {l:List Pt} (h:POwnA w base v l) (hb:Below w.heap.size w w'):POwnA w' base v l:=by
 obtain⟨css,Ss,h1⟩:=h;exact ⟨css,Ss,(h1.below hb).top hb.size⟩
theorem POwnA.nil (w:World) (base:Nat):POwnA w base (.slice none 0 0) []:=⟨[],[],rfl,rfl,World.ownsRow_nil _ _ _ _,fun i h=>by simp at h,fun i _ h=>by simp at h,fun i h=>by simp at h⟩
theorem POwnT.shape {w:World} {base t:Nat} {v:Value} {l:List Pt} (h:POwnT w base t v l): ∃a c,v= .slice a l.length c:=by
 obtain⟨css,Ss,h1⟩:=h;exact owns_slice h1.row
theorem POwnA.shape {w:World} {base:Nat} {v:Value} {l:List Pt} (h:POwnA w base v l): ∃a c,v= .slice a l.length c:=POwnT.shape h
theorem PtIn.mono {w:World} {base base':Nat} {S:Nat→Prop} {c:List Value} {p:Pt} (h:PtIn w base S c p) (hb:base'≤base):PtIn w base' S c p:=by
 obtain⟨f,u,x,us,h1,h2,h3,h4,h5,h6⟩:=h
 exact⟨f,u,x,us,h1,h2,owns_mono h3 hb,fun i hi hi'=>owns_mono (h4 i hi hi') hb,h5.mono hb,h6⟩
theorem POwnA.mono {w:World} {base base':Nat} {v:Value} {l:List Pt} (h:POwnA w base v l) (hb:base'≤base):POwnA w base' v l:=by
 obtain⟨css,Ss,h1⟩:=h
 exact⟨css,Ss,h1.lc,h1.ls,owns_mono h1.row hb,fun i a b c=>(h1.each i a b c).mono hb,h1.apart,h1.low⟩
theorem pe_of {w:World} {base:Nat} : ∀ {l:List Pt} {css:List (List Value)} {Ss:List (Nat→Prop)},css.length=l.length→Ss.length=l.length→(∀i (h:i < l.length) (h':i < css.length) (h2:i < Ss.length),PtIn w base Ss[i] css[i] l[i])→PE w base l css
 | [],[],_,_,_,_=>trivial
 | p::l,c::css,S::Ss,h1,h2,h=>by
  obtain⟨f,u,x,us,k1,k2,k3,k4,k5, -⟩:=h 0 (by simp) (by simp) (by simp)
  refine⟨⟨f,u,x,k1,⟨us,k2,k3,k4⟩,k5⟩,pe_of (Ss:=Ss) (by simpa using h1) (by simpa using h2) fun i a b c=> ?_⟩
  have:=h (i+1) (by simpa using a) (by simpa using b) (by simpa using c)
  simpa using this
 | p::l,c::css,[],_,h2,_=>by simp at h2
 | [],_::_,_,h1,_,_=>by simp at h1
 | _::_,[],_,h1,_,_=>by simp at h1
theorem POwnT.own {w:World} {base t:Nat} {v:Value} {l:List Pt} (h:POwnT w base t v l):POwn w base v l:=by
 obtain⟨css,Ss,h1⟩:=h
 exact⟨css,pe_of h1.lc h1.ls h1.each,h1.row⟩
theorem POwnA.own {w:World} {base:Nat} {v:Value} {l:List Pt} (h:POwnA w base v l):POwn w base v l:=POwnT.own h
theorem POwnA.at_ {w:World} {base:Nat} {v:Value} {l:List Pt} (h:POwnA w base v l) (hok: ∀p∈l,PtOk p) (hl:l.length≤1000):RowAt partE w v l:=h.own.at_ hok hl
theorem PtIn.of_new {w:World} {base t:Nat} {f u x:Value} {p:Pt} (hf:FOwn w t f p.f) (hk:KnOwn w t u x p.k) (hb:base≤t):PtIn w base (fun q=>t≤q∧q < w.heap.size) [f,u,x] p:=by
 obtain⟨us,h1,h2,h3⟩:=hf
 refine⟨f,u,x,us,rfl,h1,owns_mono h2 hb,fun i hi hi'=>owns_mono (h3 i hi hi') hb,hk.mono hb,fun q hq=>h2.lt q hq,fun y hy q hq=> ?_,fun q hq=>hk.vec.lt q hq,fun q hq=>hk.more.lt q hq⟩
 obtain⟨i,hi,rfl⟩:=List.mem_iff_getElem.1 hy
 exact(h3 i (by omega) hi).lt q hq
theorem PTok.push {w w':World} {base t:Nat} {css:List (List Value)} {Ss:List (Nat→Prop)} {v v' f u x:Value} {l:List Pt} {p:Pt} (h:PTok w base t css Ss v l) (hf:FOwn w t f p.f) (hk:KnOwn w t u x p.k) (hbt:base≤t) (htw:t≤w.heap.size)
  (ho:w'.ownsRow base 105 3 v' (l.length+1) (css.flatten++[f,u,x])) (hg:w.grownBy w' v.ownBlock):POwnA w' base v' (l++[p]):=by
 have hsz:w.heap.size≤w'.heap.size:=hg.size
 have keep: ∀(e size n:Nat) (y:Value) (xs:List Value),(e=124∨e=119∨e=3∨e=41)→w.ownsRow base e size y n xs→w'.ownsRow base e size y n xs:=by
  intro e size n y xs he hr
  refine own_kept2 hr h.row ?_ hg
  rcases he with rfl | rfl | rfl | rfl <;> decide
 have hnew:=(PtIn.of_new hf hk hbt).map (T:=fun q=>t≤q∧q < w'.heap.size) (fun q hq=>⟨hq.1,Nat.lt_of_lt_of_le hq.2 hsz⟩) keep
 refine⟨css++[[f,u,x]],Ss++[fun q=>t≤q∧q < w'.heap.size],by simp[h.lc],by simp[h.ls], ?_,fun i h1 h2 h3=> ?_,fun i j hi hj hij q q1 q2=> ?_,fun i hi q hq=> ?_⟩
 ·rw[List.flatten_append,List.length_append]
  simpa using ho
 ·have hlc:=h.lc
  have hls:=h.ls
  by_cases hil:i < l.length
  ·rw[List.getElem_append_left (by omega),List.getElem_append_left (by omega),List.getElem_append_left hil]
   exact(h.each i hil (by omega) (by omega)).map (fun _ hq=>hq) keep
  ·have hie:i=l.length:=by simp at h1;omega
   subst hie
   rw[List.getElem_append_right (by omega),List.getElem_append_right (by omega),List.getElem_append_right (by omega)]
   simp only[hlc,hls,Nat.sub_self,List.getElem_cons_zero]
   exact hnew
 ·have hls:=h.ls
  rw[List.length_append] at hi hj
  simp only[List.length_cons,List.length_nil] at hi hj
  by_cases hil:i < Ss.length <;> by_cases hjl:j < Ss.length
  ·rw[List.getElem_append_left hil] at q1
   rw[List.getElem_append_left hjl] at q2
   exact h.apart i j hil hjl hij q q1 q2
  ·rw[List.getElem_append_left hil] at q1
   have:=h.low i hil q q1
   have hje:j=Ss.length:=by omega
   subst hje
   have q3:t≤q∧q < w'.heap.size:=by simpa using q2
   omega
  ·rw[List.getElem_append_left hjl] at q2
   have:=h.low j hjl q q2
   have hie:i=Ss.length:=by omega
   subst hie
   have q3:t≤q∧q < w'.heap.size:=by simpa using q1
   omega
  ·omega
 ·rw[List.length_append] at hi
  simp only[List.length_cons,List.length_nil] at hi
  by_cases hil:i < Ss.length
  ·rw[List.getElem_append_left hil] at hq
   have:=h.low i hil q hq
   omega
  ·have hie:i=Ss.length:=by omega
   subst hie
   have q3:t≤q∧q < w'.heap.size:=by simpa using hq
   exact q3.2
theorem POwnT.setF {w:World} {base t g n cap:Nat} {f':Value} {l:List Pt} {fs:Bxs} (h:POwnT w base t (.slice (some ⟨g,0,none⟩) n cap) l) (i:Nat) (hi:i < l.length) (hf:FOwn w t f' fs) (hbt:base≤t) (htw:t≤w.heap.size):
  POwnA (w.setCell ⟨g,i*3,none⟩ f') base (.slice (some ⟨g,0,none⟩) n cap) (l.set i ⟨fs,l[i].k⟩)∧ ∃cs,w.heap[g]? =some (Obj.cells cs 105 (0,0))∧base≤g:=by
 obtain⟨css,Ss,h⟩:=h
 have hlc:=h.lc
 have hls:=h.ls
 obtain⟨f,u,x,us,e1,e2,e3,e4,e5,e6,e7,e8,e9⟩:=h.each i hi (by omega) (by omega)
 have hrow:=h.row
 obtain⟨hlen,h3⟩:=h.row
 rcases h3 with⟨h3, -⟩ | ⟨g',cap',cur,hv,hbg,hg,hnc,hcm,hcs,htake⟩
 ·simp at h3
 simp only[Value.slice.injEq,Option.some.injEq,Addr.mk.injEq,and_true] at hv
 obtain⟨rfl,rfl,rfl⟩:=hv
 have hsw:(w.setCell ⟨g,i*3,none⟩ f').heap.size=w.heap.size:=by simp
 have keep: ∀(b e size n:Nat) (y:Value) (xs:List Value),(e=124∨e=119∨e=3∨e=41)→w.ownsRow b e size y n xs→(w.setCell ⟨g,i*3,none⟩ f').ownsRow b e size y n xs:=by
  intro b e size n y xs he hr
  refine own_set hr hg ?_
  rcases he with rfl | rfl | rfl | rfl <;> decide
 have h8: ∀c∈css,c.length=3:=fun c hc=>by
  obtain⟨j,hj,rfl⟩:=List.mem_iff_getElem.1 hc
  obtain⟨_,_,_,_,q, -⟩:=h.each j (by omega) hj (by omega)
  rw[q];rfl
 obtain⟨us2,f1,f2,f3⟩:=hf
 refine⟨⟨css.set i [f',u,x],Ss.set i (fun q=>Ss[i] q∨(t≤q∧q < w.heap.size)),by simp[hlc],by simp[hls], ?_,fun j h1 h2 h3=> ?_,fun a b ha hb hab q q1 q2=> ?_,fun j hj q hq=> ?_⟩,_,hg,hbg⟩
 ·rw[List.length_set,flatten_set3 h8 i f f' u x (by rw[List.getElem?_eq_getElem (by omega),e1])]
  refine⟨by rw[List.length_set];exact hlen, .inr ⟨g,cap,cur.setIfInBounds (i*3) f',rfl,hbg,heap_set_same hg,hnc,hcm,by rw[Array.size_setIfInBounds];exact hcs, ?_⟩⟩
  rw[Array.toList_setIfInBounds,List.take_set,htake]
 ·rw[List.length_set] at h1 h2 h3
  by_cases hij:j=i
  ·subst hij
   simp only[List.getElem_set_self]
   refine⟨f',u,x,us2,rfl,f1,keep _ _ _ _ _ _ (.inl rfl) (owns_mono f2 hbt),fun k a b=>keep _ _ _ _ _ _ (.inr (.inl rfl)) (owns_mono (f3 k a b) hbt),⟨keep _ _ _ _ _ _ (.inr (.inr (.inl rfl))) e5.vec,keep _ _ _ _ _ _ (.inr (.inr (.inr rfl))) e5.more⟩,fun q hq=> .inr (f2.lt q hq),fun y hy q hq=> ?_,fun q hq=> .inl (e8 q hq),fun q hq=> .inl (e9 q hq)⟩
   obtain⟨k,hk,rfl⟩:=List.mem_iff_getElem.1 hy
   exact .inr ((f3 k (by omega) hk).lt q hq)
  ·rw[List.getElem_set_ne (by omega),List.getElem_set_ne (by omega),List.getElem_set_ne (by omega)]
   exact(h.each j h1 h2 h3).map (fun _ hq=>hq) (keep _)
 ·have ha':a < Ss.length:=by rwa[List.length_set] at ha
  have hb':b < Ss.length:=by rwa[List.length_set] at hb
  by_cases hai:a=i
  ·subst hai
   rw[List.getElem_set_ne (by omega)] at q2
   simp only[List.getElem_set_self] at q1
   rcases q1 with q1 | q1
   ·exact h.apart a b ha' hb' hab q q1 q2
   ·have:=h.low b hb' q q2;omega
  ·rw[List.getElem_set_ne (by omega)] at q1
   by_cases hbi:b=i
   ·subst hbi
    simp only[List.getElem_set_self] at q2
    rcases q2 with q2 | q2
    ·exact h.apart a b ha' hb' hab q q1 q2
    ·have:=h.low a ha' q q1;omega
   ·rw[List.getElem_set_ne (by omega)] at q2
    exact h.apart a b ha' hb' hab q q1 q2
 ·have hj':j < Ss.length:=by rwa[List.length_set] at hj
  rw[hsw]
  by_cases hij:j=i
  ·subst hij
   simp only[List.getElem_set_self] at hq
   rcases hq with hq | hq
   ·have:=h.low j hj' q hq;omega
   ·exact hq.2
  ·rw[List.getElem_set_ne (by omega)] at hq
   have:=h.low j hj' q hq;omega
theorem POwnA.cellF {w:World} {base n cap:Nat} {a:Option Addr} {l:List Pt} (h:POwnA w base (.slice a n cap) l) (i:Nat) (hi:i < l.length): ∃g f,a=some ⟨g,0,none⟩∧w.cell? ⟨g,i*3,none⟩=some f∧FOwn w base f l[i].f:=h.own.cellF i hi
def PtsOwnA (w:World) (base:Nat) (v:Value) (S:List SP):Prop:= ∃l:List Pt,POwnA w base v l∧(∀p∈l,PtOk p∧p.f.length≤16)∧l.map sem=S
theorem PtsOwnA.below {w w':World} {base:Nat} {v:Value} {S:List SP} (h:PtsOwnA w base v S) (hb:Below w.heap.size w w'):PtsOwnA w' base v S:=by
 obtain⟨l,h1,h2⟩:=h;exact ⟨l,h1.below hb,h2⟩
theorem PtsOwnA.mono {w:World} {base base':Nat} {v:Value} {S:List SP} (h:PtsOwnA w base v S) (hb:base'≤base):PtsOwnA w base' v S:=by
 obtain⟨l,h1,h2⟩:=h;exact ⟨l,h1.mono hb,h2⟩
theorem PtsOwnA.shape {w:World} {base:Nat} {v:Value} {S:List SP} (h:PtsOwnA w base v S): ∃a c,v= .slice a S.length c:=by
 obtain⟨l,h1, -,rfl⟩:=h;obtain ⟨a,c,hv⟩:=h1.shape;exact ⟨a,c,by rw[List.length_map];exact hv⟩
def CpRA (w:World) (base:Nat) (v:Value) (l:List Pt):Prop:= ∃(a:Option Addr) (c:Nat),v= .slice a l.length c∧POwnA w base (.slice a l.length c) l
theorem CpRA.below {w w':World} {base:Nat} {v:Value} {l:List Pt} (h:CpRA w base v l) (hb:Below w.heap.size w w'):CpRA w' base v l:=by
 obtain⟨a,c,h1,h2⟩:=h;exact ⟨a,c,h1,h2.below hb⟩
structure PcStA (w:World) (BK:Nat) (ce:Array Value) (ov:Value) (lk:List Pt) (wr:World):Prop where
 blk:wr.heap[BK]? =some (Obj.cells ce 105 (0,0))
 own:POwnT wr w.heap.size BK ov lk
 bel:Below w.heap.size w wr
 le:w.heap.size≤BK
theorem PcStA.below {w:World} {BK:Nat} {ce:Array Value} {ov:Value} {lk:List Pt} {wr wr':World} (h:PcStA w BK ce ov lk wr) (hb:Below wr.heap.size wr wr'):PcStA w BK ce ov lk wr':=
 ⟨below_keep hb h.blk,h.own.below hb,bstep h.bel hb,h.le⟩
theorem PcStA.drew {w:World} {BK:Nat} {ce:Array Value} {ov:Value} {lk:List Pt} {wr:World} (h:PcStA w BK ce ov lk wr):PcStA w BK ce ov lk wr.drew:=h.below ((Below.refl _ _).drew)
theorem pcopied_a (v:Value) (l:List Pt) (w:World) (hv:RowAt partE w v l) (hok: ∀x∈l,PtOk x) (hl:l.length≤1000):
  Calls Tryz.prog 128 #[v] w fun e w'=> ∃ov,e= .returned ov∧POwnA w' w.heap.size ov l∧Below w.heap.size w w':=by
 obtain⟨a,cap,rfl,hcap,hlen, -,hvl⟩:=hv.open_
 have HVL:=jD hvl
 have HOK:=jD hok
 clear hv hvl hok
 go_enter Tryz.func128,Tryz.ntmps128
 go_wp2
 go_loopw [3,8] (fun ov i wr=> ∃k:Nat,k≤l.length∧i= .int .i64 k∧POwnA wr w.heap.size ov (l.take k)∧Below w.heap.size w wr) (fun _ i _=>l.length - (intOf i).toNat)
 case atStart=>exact ⟨0,Nat.zero_le _,rfl,POwnA.nil _ _,Below.refl _ _⟩
 case round=>
  obtain⟨k,hk,rfl,hown,hbl⟩:=hrel
  have HOW:=jD hown
  have HBL:=jD hbl
  clear hown hbl
  by_cases hlt:k < l.length
  ·rcases HVL.out with hnil | ⟨b,off,rfl,hb,hc⟩
   ·rw[hnil] at hlt;simp at hlt
   obtain⟨c,hE,hcc⟩:=hc k hlt
   obtain⟨FF,UU,XX,rfl,hfw,hkw⟩:=hE
   have hcl:=fun (j:Nat) (y:Value) (hy:[FF,UU,XX][j]? =some y)=>row3 (w:=wr) (b:=b) (off:=off) (i:=k) (fun j y hy=>(HBL.out.cell (p:=⟨b,off+(k*partE.size+j),none⟩) hb).trans (hcc j y hy)) hy
   have d0:=hcl 0 _ rfl
   have d1:=hcl 1 _ rfl
   have d2:=hcl 2 _ rfl
   rw[Nat.add_zero] at d0
   obtain⟨fa,fc,rfl⟩:=hfw.shape
   obtain⟨ua,uc,rfl⟩:=hkw.vec.shape
   obtain⟨xa,xc,rfl⟩:=hkw.more.shape
   have HT:=jD (show l.take (k+1)=l.take k++[l[k]] from List.take_succ_eq_append_getElem hlt)
   have htl:(l.take k).length=k:=by rw[List.length_take];omega
   have hpk:=HOK.out _ (List.getElem_mem hlt)
   have HFC:=jD hpk.f
   obtain⟨hko,hk60⟩:=knChk_zero.1 hpk.k
   have hk5:=hko.len
   obtain⟨BK,hBK⟩: ∃BK,BK=wr.heap.size:=⟨_,rfl⟩
   obtain⟨w1,hw1⟩: ∃w1,w1=wr.alloc (.cells #[.slice fa l[k].f.length fc, .slice ua l[k].k.vec.length uc, .slice xa l[k].k.more.length xc] 105):=⟨_,rfl⟩
   have hb1:Below wr.heap.size wr w1:=by rw[hw1];exact bal _
   have HS:=jD (show PcStA w BK #[.slice fa l[k].f.length fc, .slice ua l[k].k.vec.length uc, .slice xa l[k].k.more.length xc] _ (l.take k) w1 from⟨by rw[hw1];exact alloc_new _ _ _ _ hBK,by rw[hBK];exact POwnT.below HOW.out hb1,bstep HBL.out hb1,by rw[hBK];exact HBL.out.size⟩)
   have HFW:=jD hfw
   have HKW:=jD hkw
   obtain⟨oa,oc,hoo⟩:=HOW.out.shape
   rw[htl] at hoo
   subst hoo
   clear hc hcc hcl hfw hkw hb1 HOW HBL hpk hko
   generalize l[k]=pp at*
   generalize l.take k=lk at*
   subst htl
   obtain⟨ff,kk⟩:=pp
   simp only at*
   go_wp2_with fail
   rw[←hBK,←hw1]
   clear hBK hw1 d0 d1 d2
   refine Cl.region0 24 rfl [9] (fun ww=>PcStA w BK #[.slice fa ff.length fc, .slice ua kk.vec.length uc, .slice xa kk.more.length xc] (.slice oa lk.length oc) lk ww) (fun jq=>match jq with | 3=>[9] | 6=>[9] | 7=>[9] | 8=>[9] | _=>[]) (fun jq v ww=>match jq with | 0=>v= .slice oa lk.length oc | 1=>v= .pointer (some ⟨BK,0,none⟩) | 2=>v= .slice fa ff.length fc | 3=>CpF ww BK v ff | 4=>v= .pointer (some ⟨BK,1,none⟩) | 5=>v= .agg #[.slice ua kk.vec.length uc, .slice xa kk.more.length xc] | 6=>CpK ww BK v kk | 7=>CpP ww BK v ⟨ff,kk⟩ | 8=>CpB ww BK v ⟨ff,kk⟩ | 9=>CpRA ww w.heap.size v (lk++[⟨ff,kk⟩]) | 10=>CpRA ww w.heap.size v (lk++[⟨ff,kk⟩]) | _=>True) (fun ww=>Below w.heap.size w ww) (fun jq ww ww'=>jq≠9→Below ww.heap.size ww ww') Tryz.mixed (by decide+kernel) HS.out.drew.bel HS.out.drew ?_ (fun jq ww ww' hk h hR=>h.below (hR (by simpa using hk))) ?_ ?_
   ·intro q r v w w' hne hk hlt h hR
    match r,hk,hlt,h,hne with
    | 0,_,_,h,_=>exact h
    | 1,_,_,h,_=>exact h
    | 2,_,_,h,_=>exact h
    | 3,hk,_,h,_=>exact CpF.below h (hR (by simpa using hk))
    | 4,_,_,h,_=>exact h
    | 5,_,_,h,_=>exact h
    | 6,hk,_,h,_=>exact CpK.below h (hR (by simpa using hk))
    | 7,hk,_,h,_=>exact CpP.below h (hR (by simpa using hk))
    | 8,hk,_,h,_=>exact CpB.below h (hR (by simpa using hk))
    | 9,_,_,h,hne=>exact CpRA.below h (hR (by exact hne))
    | 10,_,hlt,h,_=>exact CpRA.below h (hR (by intro e;subst e;exact absurd hlt (by decide+kernel)))
    | _+11,_,_,_,_=>trivial
   ·refine⟨?_, ?_, ?_, ?_, ?_, ?_, ?_, ?_, ?_, ?_, ?_,trivial⟩
    ·intro x wx hG
     have f3:=hG.o 3
     have hp:=hG.p
     replace hG:=hG.good
     go_wp2
     exact⟨_,rfl,rfl,hG,fun _=>Below.refl _ _⟩
    ·intro x wx hG
     have f5:=hG.o 5
     have hp:=hG.p
     replace hG:=hG.good
     go_wp2
     exact⟨_,rfl,rfl,hG,fun _=>Below.refl _ _⟩
    ·intro x wx hG
     have g1:(x.tmps.getD 13 undef)= .pointer (some ⟨BK,0,none⟩):=hG.c 1 _ rfl
     have hp:=hG.p
     replace hG:=hG.good
     have hbk:=hp.blk
     have c0:=cell_of_block (j:=0) hbk rfl
     have hbkl:=hlt_of hbk
     clear hbk hp
     go_wp2
     exact⟨_,rfl,rfl,hG,fun _=>Below.refl _ _⟩
    ·intro x wx hG
     have g2:(x.tmps.getD 14 undef)= .slice fa ff.length fc:=hG.c 2 _ rfl
     have hp:=hG.p
     replace hG:=hG.good
     have HX:=jD (copied_c (.slice fa ff.length fc) ff wx (HFW.out.below hp.bel) HFC.out)
     have HPB:=jD (Nat.le_of_lt (hlt_of hp.blk))
     clear hp
     go_wp2_with fail
     (with_reducible refine(HX.out).mono ?_)
     rintro e wq ⟨v9,rfl,h9,hb⟩
     obtain⟨za,zc,hz⟩:=h9.shape
     subst hz
     have H9:=jD (BxsOwn.mono h9 HPB.out)
     clear h9
     go_wp2
     exact⟨_,rfl,⟨_,_,rfl,H9.out⟩,bstep hG hb,fun _=>hb⟩
    ·intro x wx hG
     have f5:=hG.o 5
     have hp:=hG.p
     replace hG:=hG.good
     go_wp2
     exact⟨_,rfl,rfl,hG,fun _=>Below.refl _ _⟩
    ·intro x wx hG
     have g4:(x.tmps.getD 16 undef)= .pointer (some ⟨BK,1,none⟩):=hG.c 4 _ rfl
     have hp:=hG.p
     replace hG:=hG.good
     have hbk:=hp.blk
     have c1:=cell_of_block (j:=1) hbk rfl
     have c2:=cell_of_block (j:=2) hbk rfl
     have hbkl:=hlt_of hbk
     clear hbk hp
     go_wp2
     exact⟨_,rfl,rfl,hG,fun _=>Below.refl _ _⟩
    ·intro x wx hG
     have g5:(x.tmps.getD 17 undef)= .agg #[.slice ua kk.vec.length uc, .slice xa kk.more.length xc]:=hG.c 5 _ rfl
     have hp:=hG.p
     replace hG:=hG.good
     have HX:=jD (kcopied_c (.slice ua kk.vec.length uc) (.slice xa kk.more.length xc) kk wx (HKW.out.below hp.bel) hk5 hk60)
     have HPB:=jD (Nat.le_of_lt (hlt_of hp.blk))
     clear hp
     go_wp2_with fail
     (with_reducible refine(HX.out).mono ?_)
     rintro e wq ⟨qa,qc,qb,qd,rfl,h9,hb⟩
     have H9:=jD (h9.mono HPB.out)
     clear h9
     go_wp2
     exact⟨_,rfl,⟨_,_,_,_,rfl,H9.out⟩,bstep hG hb,fun _=>hb⟩
    ·intro x wx hG
     have g3:CpF wx BK (x.tmps.getD 15 undef) ff:=hG.c 3 _ rfl
     have g6:CpK wx BK (x.tmps.getD 18 undef) kk:=hG.c 6 _ rfl
     have hp:=hG.p
     replace hG:=hG.good
     obtain⟨za,zc,hz1,hz2⟩:=g3
     obtain⟨ya,yc,yb,yd,hy1,hy2⟩:=g6
     have hz1b:=hz1
     rw[Array.getD_eq_getD_getElem?] at hz1b
     have hy1b:=hy1
     rw[Array.getD_eq_getD_getElem?] at hy1b
     have HZ:=jD hz2
     have HY:=jD hy2
     clear hz2 hy2 hp
     go_wp2
     exact⟨_,rfl,⟨_,_,_,_,_,_,rfl,HZ.out,HY.out⟩,hG,fun _=>Below.refl _ _⟩
    ·intro x wx hG
     have g7:CpP wx BK (x.tmps.getD 19 undef) ⟨ff,kk⟩:=hG.c 7 _ rfl
     have hp:=hG.p
     replace hG:=hG.good
     obtain⟨a1,a2,a3,a4,a5,a6,hz1,hz2,hz3⟩:=g7
     have hz1b:=hz1
     rw[Array.getD_eq_getD_getElem?] at hz1b
     have HZ:=jD hz2
     have HY:=jD hz3
     clear hz2 hz3 hp
     go_wp2
     exact⟨_,rfl,⟨_,_,_,_,rfl,alloc_new _ _ _ _ rfl,rfl,rfl,rfl,HZ.out.below (bal _),HY.out.below (bal _)⟩,hG.alloc hG.size _,fun _=>bal _⟩
    ·intro x wx hG
     have g0:(x.tmps.getD 12 undef)= .slice oa lk.length oc:=hG.c 0 _ rfl
     have g8:CpB wx BK (x.tmps.getD 20 undef) ⟨ff,kk⟩:=hG.c 8 _ rfl
     have hp:=hG.p
     replace hG:=hG.good
     obtain⟨g9,f9,u9,x9,hz1,hz2,o1,o2,o3,hz3,hz4⟩:=g8
     obtain⟨css,Ss,hpo⟩:=hp.own
     have hz:=g0
     have hzb:=hz
     rw[Array.getD_eq_getD_getElem?] at hzb
     have hz1b:=hz1
     rw[Array.getD_eq_getD_getElem?] at hz1b
     have H9:=jD hpo.row
     have HE:=jD hpo
     have HLE:=jD hp.le
     have HLT:=jD (Nat.le_of_lt (hlt_of hp.blk))
     have HF:=jD hz3
     have HK:=jD hz4
     have HON:=jD (show ∀u∈[f9,u9,x9],u.oneCell'=true by intro u hu;simp only[List.mem_cons,List.not_mem_nil,or_false] at hu;rcases hu with rfl | rfl | rfl;exact o1;exact o2;exact o3)
     have HC:=jD (show CellsAt wx (.slice (some ⟨g9,0,none⟩) 1 1) 1 [f9,u9,x9] from CellsAt.mk (Nat.le_refl _) (by decide) (hlt_of hz2) (fun j z hj=>by rw[Nat.zero_add];exact cell_of_block hz2 (by simpa using hj)))
     have HPB:=jD hp.bel
     have hbs:=hp.bel.size
     have hkl:lk.length≤1000:=by omega
     clear hpo hz2 hz3 hz4 hp
     go_wp2_with (at_builtin;refine wpList_append_cells2 rfl (.tmp 12) (.tmp 20) 50 rfl w.heap.size 105 _ 3 72 Tryz.underlying50 PartTy.info rfl (by decide) (.slice oa lk.length oc) lk.length _ hz H9.out (.slice (some ⟨g9,0,none⟩) 1 1) 1 _ hz1 HC.out rfl HON.out hbs (by unfold maxLen;omega) (by omega) ?_)
     intro v' wq ho hgr
     obtain⟨qa,qc,hq⟩:=owns_slice ho
     subst hq
     have HO:=jD ho
     have HGR:=jD hgr
     clear ho hgr
     go_wp2
     exact⟨_,rfl,⟨_,_,by rw[List.length_append];rfl,by rw[List.length_append];exact HE.out.push HF.out HK.out HLE.out HLT.out HO.out HGR.out⟩,hG.grown HGR.out hbs (fun k hk=>(H9.out.lt k hk).1),fun h=>absurd rfl h⟩
    ·intro x wx hG
     have g9:CpRA wx w.heap.size (x.tmps.getD 21 undef) (lk++[⟨ff,kk⟩]):=hG.c 9 _ rfl
     replace hG:=hG.good
     obtain⟨za,zc,hz,h9⟩:=g9
     have H9:=jD h9
     clear h9
     go_wp2
     exact⟨_,rfl,⟨_,_,by simp,H9.out⟩,hG,fun _=>Below.refl _ _⟩
   ·intro vals w3 hg hF
    obtain⟨g0,g1,g2,g3,g4,g5,g6,g7,g8,g9,g10, -⟩:=hF
    have e0:=gq (vals 0) g0
    have e1:=gq (vals 1) g1
    have e2:=gq (vals 2) g2
    have e4:=gq (vals 4) g4
    have e5:=gq (vals 5) g5
    replace g10:CpRA w3 w.heap.size (vals 10) (lk++[⟨ff,kk⟩]):=g10 rfl
    simp only[Cl.puts,e0,e1,e2,e4,e5]
    clear e0 e1 e2 e4 e5 g0 g1 g2 g3 g4 g5 g6 g7 g8 g9
    go_simp
    generalize vals 10=ov2 at*
    obtain⟨a8,c8,rfl,h8⟩:=g10
    have H8:=jD h8
    have HB8:=jD hg
    have hll:(lk++[(⟨ff,kk⟩:Pt)]).length=lk.length+1:=by rw[List.length_append];rfl
    rw[hll] at H8 ⊢
    clear h8 hg
    go_wp2
    go_roundw
    case rel=>exact ⟨lk.length+1,by omega,by go_num,by rw[HT.out];exact H8.out,HB8.out⟩
    case measure=>simp [intOf] <;> omega
  ·obtain rfl:k=l.length:=by omega
   rw[List.take_length] at HOW
   obtain⟨oa,oc,hoo⟩:=HOW.out.shape
   subst hoo
   go_wp2
   go_ret
   exact⟨_,rfl,HOW.out,HBL.out⟩
theorem few_a (v:Value) (l:List Pt) (w:World) (hv:RowAt partE w v l) (hok: ∀x∈l,PtOk x) (hl:l.length≤1000):
  Calls Tryz.prog 130 #[v] w fun e w'=> ∃v',e= .returned v'∧PtsOwnA w' w.heap.size v' (fewS (l.map sem))∧Below w.heap.size w w':=by
 obtain⟨a,cap,rfl,hcap,hlen, -,hvl⟩:=hv.open_
 have HVL:=jD hvl
 have HOK:=jD hok
 clear hv hvl hok
 go_enter Tryz.func130,Tryz.ntmps130
 go_wp2
 go_loopw [3,9] (fun ov i wr=> ∃k:Nat,k≤l.length∧i= .int .i64 k∧RowOwn partE w wr w.heap.size 105 ov (fewM (l.take k))∧Below w.heap.size w wr) (fun _ i _=>l.length - (intOf i).toNat)
 case atStart=>exact ⟨0,Nat.zero_le _,rfl,RowOwn.nil _ _ _ _,Below.refl _ _⟩
 case round=>
  obtain⟨k,hk,rfl,hown,hbl⟩:=hrel
  have HOW:=jD hown
  have HBL:=jD hbl
  clear hown hbl
  by_cases hlt:k < l.length
  ·rcases HVL.out with hnil | ⟨b,off,rfl,hb,hc⟩
   ·rw[hnil] at hlt;simp at hlt
   obtain⟨c,hE,hcc⟩:=hc k hlt
   obtain⟨FF,UU,XX,rfl,hfw,hkw⟩:=hE
   have hcl:=fun (j:Nat) (y:Value) (hy:[FF,UU,XX][j]? =some y)=>row3 (w:=wr) (b:=b) (off:=off) (i:=k) (fun j y hy=>(HBL.out.cell (p:=⟨b,off+(k*partE.size+j),none⟩) hb).trans (hcc j y hy)) hy
   have d0:=hcl 0 _ rfl
   have d1:=hcl 1 _ rfl
   have d2:=hcl 2 _ rfl
   rw[Nat.add_zero] at d0
   obtain⟨fa,fc,rfl⟩:=hfw.shape
   obtain⟨ua,uc,rfl⟩:=hkw.vec.shape
   obtain⟨xa,xc,rfl⟩:=hkw.more.shape
   have HT:=jD (show fewM (l.take (k+1))=fewMStep (fewM (l.take k)) l[k] by rw[List.take_succ_eq_append_getElem hlt,fewM_snoc])
   have hpk:=HOK.out _ (List.getElem_mem hlt)
   have HPK:=jD hpk
   have HFL:=jD (show(fewM (l.take k)).length≤k by have:=fewM_len (l.take k);rw [List.length_take] at this;omega)
   have HFO:=jD (fewM_ok (l:=l.take k) fun x hx=>HOK.out x (List.mem_of_mem_take hx))
   obtain⟨BK,hBK⟩: ∃BK,BK=wr.heap.size:=⟨_,rfl⟩
   obtain⟨w1,hw1⟩: ∃w1,w1=wr.alloc (.cells #[.slice fa l[k].f.length fc, .slice ua l[k].k.vec.length uc, .slice xa l[k].k.more.length xc] 105):=⟨_,rfl⟩
   have hb1:Below wr.heap.size wr w1:=by rw[hw1];exact bal _
   have HB1:=jD (show w1.heap[BK]? =some (Obj.cells #[.slice fa l[k].f.length fc, .slice ua l[k].k.vec.length uc, .slice xa l[k].k.more.length xc] 105 (0,0)) by rw[hw1];exact alloc_new _ _ _ _ hBK)
   have HFW:=jD hfw
   have HKW:=jD hkw
   have hlow: ∀g,(∃x,RowOwn partE w wr w.heap.size 105 x (fewM (l.take k))∧x.ownBlock=some g)→w.heap.size≤g∧g < BK:=fun g ⟨x,hx,hg⟩=>by rw[hBK];exact hx.lt g hg
   have HLOW:=jD (fun g (hg:_=some g)=>hlow g ⟨_,HOW.out,hg⟩)
   replace HOW:=jD (HOW.out.below hb1)
   replace HBL:=jD (bstep HBL.out hb1)
   obtain⟨oa,oc,hoo⟩:=HOW.out.shape
   subst hoo
   clear hc hcc hcl hfw hkw hb1 hpk hlow
   generalize l[k]=pp at*
   generalize fewM (l.take k)=lk at*
   obtain⟨ff,kk⟩:=pp
   simp only at*
   have c0:=cell_of_block (j:=0) HB1.out rfl
   have c1:=cell_of_block (j:=1) HB1.out rfl
   have c2:=cell_of_block (j:=2) HB1.out rfl
   have hBl:=hlt_of HB1.out
   have HNC:=jD (none_c ⟨ff,kk⟩ _ _ _ w1 HPK.out (HFW.out.below HBL.out) (HKW.out.below HBL.out))
   go_wp2_with fail
   rw[←hBK,←hw1]
   clear hBK hw1 d0 d1 d2
   go_wp2_with fail
   (with_reducible refine(HNC.out).mono ?_)
   rintro e w2 ⟨rfl,hb2⟩
   replace HB1:=jD (below_keep hb2 HB1.out)
   replace HOW:=jD (HOW.out.below hb2)
   replace HBL:=jD (bstep HBL.out hb2)
   clear hb2 HNC c0 c1 c2 hBl
   cases hno:noneS (sem ⟨ff,kk⟩)
   rotate_left
   ·have HN:=jD (show fewM (l.take (k+1))=lk by rw[HT.out];unfold fewMStep;rw [hno];rfl)
    clear hno
    go_wp2
    go_roundw
    case rel=>exact ⟨k+1,by omega,by go_num,by rw[HN.out];exact HOW.out,HBL.out⟩
    case measure=>simp [intOf] <;> omega
   have HCN:=jD (containsP_c PtOk _ lk 169 #[.pointer (some ⟨BK,0,none⟩)] (fun q=>underS (sem ⟨ff,kk⟩) (sem q)) w2 (HOW.out.at_ (Sub.of_below HBL.out) (by have:=HFL.out;omega)) HFO.out
    (few1_p BK ⟨ff,kk⟩ _ _ _ w2 HB1.out HPK.out (HFW.out.below HBL.out) (HKW.out.below HBL.out)))
   have HST:=jD (show fewMStep lk ⟨ff,kk⟩=if lk.any (fun q=>underS (sem ⟨ff,kk⟩) (sem q))=true then lk else(lk.filter fun q=> !underS (sem q) (sem ⟨ff,kk⟩))++[⟨ff,kk⟩] by unfold fewMStep;rw [hno,Bool.false_or])
   clear hno
   generalize lk.any (fun q=>underS (sem ⟨ff,kk⟩) (sem q))=an at*
   go_wp2_with fail
   (with_reducible refine(HCN.out).mono ?_)
   rintro e w3 ⟨rfl,hb3⟩
   replace HB1:=jD (below_keep hb3 HB1.out)
   replace HOW:=jD (HOW.out.below hb3)
   replace HBL:=jD (bstep HBL.out hb3)
   clear hb3 HCN
   cases an
   rotate_left
   ·have HN:=jD (show fewM (l.take (k+1))=lk by rw[HT.out,HST.out];rfl)
    go_wp2
    go_roundw
    case rel=>exact ⟨k+1,by omega,by go_num,by rw[HN.out];exact HOW.out,HBL.out⟩
    case measure=>simp [intOf] <;> omega
   have HN:=jD (show fewM (l.take (k+1))=(lk.filter fun q=> !underS (sem q) (sem ⟨ff,kk⟩))++[⟨ff,kk⟩] by rw[HT.out,HST.out];rfl)
   have HDL:=jD (pdel_c PtOk w w3 _ lk 172 #[.pointer (some ⟨BK,0,none⟩)] (fun q=>underS (sem q) (sem ⟨ff,kk⟩)) HBL.out HOW.out (by have:=HFL.out;omega) HFO.out
    (fun W=>Below w.heap.size w W∧W.heap[BK]? =some (Obj.cells #[.slice fa ff.length fc, .slice ua kk.vec.length uc, .slice xa kk.more.length xc] 105 (0,0)))
    ⟨enters_of Tryz.func172 (by kernel_rfl) rfl,fun a f u x W hD hI hf hk=>(few2_p BK ⟨ff,kk⟩ _ _ _ W hI.2 HPK.out (HFW.out.below hI.1) (HKW.out.below hI.1)).2 a f u x W hD (Below.refl _ _) hf hk⟩
    ⟨HBL.out,HB1.out⟩ (fun W W' hI hb=>⟨bstep hI.1 hb,below_keep hb hI.2⟩) (fun W W' g hg hr hI=>⟨hr.below hI.1 (HLOW.out g hg).1,by rw[hr.other BK (by have:=(HLOW.out g hg).2;omega)];exact hI.2⟩))
   have hfl:(lk.filter fun q=> !underS (sem q) (sem ⟨ff,kk⟩)).length≤k:=Nat.le_trans (List.length_filter_le _ _) HFL.out
   clear HST HT HFO HFL HOW
   generalize (lk.filter fun q=> !underS (sem q) (sem ⟨ff,kk⟩))=lf at*
   have HB0:=jD (hlt_of HB1.out)
   go_wp2_with fail
   (with_reducible refine(HDL.out).mono ?_)
   rintro e w4 ⟨s4,rfl,h4,hb4,hi4⟩
   obtain⟨sa,sc,rfl⟩:=h4.shape
   have hB4:=hi4.2
   have e0:=cell_of_block (j:=0) hB4 rfl
   have e1:=cell_of_block (j:=1) hB4 rfl
   have e2:=cell_of_block (j:=2) hB4 rfl
   have hBl:=hlt_of hB4
   obtain⟨css,h41,h42⟩:=h4
   have hbx:=bal (W:=w4) (.cells #[.slice fa ff.length fc, .slice ua kk.vec.length uc, .slice xa kk.more.length xc] 105)
   have H41:=jD h41
   have H42:=jD (show(w4.alloc (.cells #[.slice fa ff.length fc, .slice ua kk.vec.length uc, .slice xa kk.more.length xc] 105)).ownsRow w.heap.size 105 3 (.slice sa lf.length sc) lf.length css.flatten from h42.alloc _)
   have HC:=jD (CellsAt.mk (w:=w4.alloc (.cells #[.slice fa ff.length fc, .slice ua kk.vec.length uc, .slice xa kk.more.length xc] 105)) (b:=w4.heap.size) (off:=0) (n:=1) (cap:=1) (xs:=[.slice fa ff.length fc, .slice ua kk.vec.length uc, .slice xa kk.more.length xc]) (Nat.le_refl _) (by decide) (by simp) (fun j x hj=>by
    rw[Nat.zero_add,World.cell?_alloc_at _ _ _ _ (by simp)];simpa using hj))
   have HB4:=jD (bstep hb4 hbx)
   have hsz:=HB4.out.size
   clear h41 h42 hi4 hb4 hB4 hbx HDL HB1 HBL HLOW
   go_wp2_with (at_builtin;refine wpList_append_cells2 rfl (.tmp 23) (.tmp 25) 50 rfl w.heap.size 105 _ 3 72 Tryz.underlying50 PartTy.info rfl (by decide) _ lf.length _ rfl H42.out _ 1 _ rfl HC.out rfl (by intro z hz;simp at hz;rcases hz with rfl | rfl | rfl <;> rfl) hsz (by unfold maxLen;omega) (by omega) ?_)
   intro v' w5 ho hgr
   obtain⟨qa,qc,hq⟩:=owns_slice ho
   subst hq
   have HR:=jD (show RowOwn partE w w5 w.heap.size 105 (.slice qa (lf.length+1) qc) (lf++[⟨ff,kk⟩]) from⟨css++[[.slice fa ff.length fc, .slice ua kk.vec.length uc, .slice xa kk.more.length xc]],H41.out.append (Els.single ⟨_,_,_,rfl,HFW.out,HKW.out⟩),by rw[List.length_append,List.flatten_append];exact ho⟩)
   have HBE:=jD (HB4.out.grown hgr hsz fun k hk=>(H42.out.lt k hk).1)
   clear ho hgr e0 e1 e2
   go_wp2
   go_roundw
   case rel=>exact ⟨k+1,by omega,by go_num,by rw[HN.out];exact HR.out,HBE.out⟩
   case measure=>simp [intOf] <;> omega
  ·obtain rfl:k=l.length:=by omega
   rw[List.take_length] at HOW
   have hfl:=fewM_len l
   have HFO:=jD (fewM_ok HOK.out)
   have HSEM:=jD (fewM_sem l)
   obtain⟨oa,oc,hoo⟩:=HOW.out.shape
   subst hoo
   have HCP:=jD (pcopied_a _ (fewM l) wr (HOW.out.at_ (Sub.of_below HBL.out) (by omega)) HFO.out (by omega))
   clear HVL HOK HOW
   generalize fewM l=m at*
   go_wp2_with fail
   (with_reducible refine(HCP.out).mono ?_)
   rintro e w2 ⟨ov,rfl,ho,hb2⟩
   have HO:=jD (ho.mono HBL.out.size)
   obtain⟨pa,pc,rfl⟩:=ho.shape
   have HB2:=jD (bstep HBL.out hb2)
   clear ho hb2 HCP HBL
   obtain⟨w3,hw3⟩: ∃w3,w3=w2:=⟨_,rfl⟩
   rw[←hw3] at HO HB2 ⊢
   clear hw3 w2
   go_wp2
   go_loopw [32] (fun i wr=> ∃q:Nat,q≤m.length∧i= .int .i64 q∧(∃l1,POwnA wr w.heap.size (.slice pa m.length pc) l1∧PlainTo q m l1)∧Below w.heap.size w wr) (fun i _=>m.length - (intOf i).toNat)
   case atStart=>exact ⟨0,Nat.zero_le _,rfl,⟨m,HO.out,PlainTo.zero m⟩,HB2.out⟩
   case round=>
    obtain⟨q,hq,rfl,⟨l1,ho1,hp1⟩,hbl⟩:=hrel
    have HO1:=jD ho1
    have HP1:=jD hp1
    have HBL:=jD hbl
    clear ho1 hp1 hbl HO HB2
    by_cases hql:q < m.length
    ·have hq1:q < l1.length:=by rw[HP1.out.len];exact hql
     have hrest:=HP1.out.rest q hql hq1 (Nat.le_refl _)
     obtain⟨g,f1,hpg,hcell,hfo⟩:=HO1.out.cellF q hq1
     subst hpg
     have hfz:fChk l1[q].f=0:=by rw[hrest];exact (HFO.out _ (List.getElem_mem hql)).f
     have HPC:=jD (plain_c f1 l1[q].f wr (hfo.at_ok hfz) hfz)
     obtain⟨fa,fc,hf1⟩:=hfo.shape
     subst hf1
     have HPT:=jD (fun (f:Bxs) (h:FGood f (fun t n=>inF l1[q].f t n))=>HP1.out.step hql (f:=f) (by rw[hrest] at h;exact h))
     have hqm:decide ((q:Int) < (m.length:Int))=true:=by simp;omega
     clear hfo hrest hfz
     go_wp2_with fail
     (with_reducible refine(HPC.out).mono ?_)
     rintro e w5 ⟨f2,fl,rfl,hf2,hg2,hb5⟩
     have HF2:=jD hf2
     obtain⟨fa2,fc2,hf2v⟩:=hf2.shape
     subst hf2v
     obtain⟨hset,cs,hgb,hbase⟩:=(POwnT.below HO1.out hb5).setF q hq1 (fs:=fl) HF2.out HBL.out.size hb5.size
     have HSET:=jD hset
     have HPL:=jD (HPT.out fl hg2)
     have HBF:=jD ((bstep HBL.out hb5).setCell (p:=⟨g,q*3,none⟩) hbase (.slice fa2 fl.length fc2))
     have c5:=ckeep hb5 hcell
     have ff5:=free_of_block (j:=q*3) hgb
     have hgl:=hlt_of hgb
     clear hcell hb5 hf2 hg2 HPC hset hgb HPT
     go_wp2
     go_roundw
     case rel=>exact ⟨q+1,by omega,by go_num,⟨_,HSET.out,HPL.out⟩,HBF.out⟩
     case measure=>simp [intOf] <;> omega
    ·obtain rfl:q=m.length:=by omega
     have HRES:=jD (show PtsOwnA wr w.heap.size (.slice pa m.length pc) (fewS (l.map sem)) from⟨l1,HO1.out,HP1.out.ok HFO.out,by rw[HP1.out.sem,HSEM.out]⟩)
     clear HO1 HP1 HFO HSEM
     go_wp2
     go_ret
     exact⟨_,rfl,HRES.out,HBL.out⟩
def PResA (w:World) (base:Nat) (v:Value) (E:Int) (S:List SP):Prop:=(E=0→PtsOwnA w base v S)∧(E≠0→v= .slice none 0 0)
theorem pjoin_a (va vb:Value) (a b:List Pt) (w:World) (ha:RowAt partE w va a) (hb:RowAt partE w vb b):
  Calls Tryz.prog 76 #[va,vb] w fun e w'=> ∃v,e= .returned (.tuple #[v, .int .i64 (pjE a b)])∧PResA w' w.heap.size v (pjE a b) (fewS ((a++b).map sem))∧Below w.heap.size w w':=by
 obtain⟨xa,ca,rfl⟩:=ha.shape
 obtain⟨xb,cb,rfl⟩:=hb.shape
 have HA:=jD ha
 have HB:=jD hb
 have HC:=jD (ptsChk_c _ a w ha)
 have HE1:=jD (show ptsChk a≠0→pjE a b=ptsChk a from fun h=>by unfold pjE;rw [if_pos h])
 have HE2:=jD (show ptsChk a=0→ptsChk b≠0→pjE a b=ptsChk b from fun h k=>by unfold pjE;rw [if_neg (by omega),if_pos k])
 have HE3:=jD (show ptsChk a=0→ptsChk b=0→pjE a b=if 30 < (fewS ((a++b).map sem)).length then 2 else 0 from fun h k=>by unfold pjE;rw [if_neg (by omega),if_neg (by omega)])
 have HZA:=jD (ptsChk_zero (l:=a))
 have HZB:=jD (ptsChk_zero (l:=b))
 clear ha hb
 go_enter Tryz.func76,Tryz.ntmps76
 go_wp2_with fail
 (with_reducible refine(HC.out).mono ?_)
 rintro e w1 ⟨rfl,hb1⟩
 replace HA:=jD (HA.out.below hb1)
 replace HB:=jD (HB.out.below hb1)
 have HBL:=jD hb1
 clear hb1 HC
 by_cases h0:ptsChk a=0
 rotate_left
 ·have H:=jD (HE1.out h0)
  have H0:=jD h0
  have hne:decide (ptsChk a=0)=false:=by simpa using h0
  have hnb:(ptsChk a != 0)=true:=bne_iff_ne.2 h0
  generalize ptsChk a=sc at*
  clear h0
  go_wp2
  go_ret2
  exact⟨_,ret_ve H.out.symm,⟨fun h=>absurd (H.out.symm.trans h) H0.out,fun _=>rfl⟩,HBL.out⟩
 have HZ:=jD (HZA.out.1 h0)
 replace HE2:=jD (HE2.out h0)
 replace HE3:=jD (HE3.out h0)
 have HC:=jD (ptsChk_c _ b w1 HB.out)
 rw[h0]
 clear h0 HE1 HZA
 go_wp2_with fail
 (with_reducible refine(HC.out).mono ?_)
 rintro e w2 ⟨rfl,hb1⟩
 replace HA:=jD (HA.out.below hb1)
 replace HB:=jD (HB.out.below hb1)
 replace HBL:=jD (bstep HBL.out hb1)
 clear hb1 HC
 by_cases h0:ptsChk b=0
 rotate_left
 ·have H:=jD (HE2.out h0)
  have H0:=jD h0
  have hne:decide (ptsChk b=0)=false:=by simpa using h0
  have hnb:(ptsChk b != 0)=true:=bne_iff_ne.2 h0
  generalize ptsChk b=sc at*
  clear h0
  go_wp2
  go_ret2
  exact⟨_,ret_ve H.out.symm,⟨fun h=>absurd (H.out.symm.trans h) H0.out,fun _=>rfl⟩,HBL.out⟩
 have HY:=jD (HZB.out.1 h0)
 have HE:=jD (HE3.out h0)
 have hla:=HZ.out.1
 have hlb:=HY.out.1
 have HOK:=jD (show ∀x∈a++b,PtOk x from fun x hx=>(List.mem_append.1 hx).elim (HZ.out.2 x) (HY.out.2 x))
 have HLN:=jD (show(a++b).length≤60 by rw[List.length_append];omega)
 have HCC:=jD (pconcat_c w2 HA.out HB.out 50 (by have:=HLN.out;omega))
 rw[h0]
 clear h0 HE2 HE3 HZB HZ HY
 have hbx:=bal (W:=w2) (.cells #[.slice xa a.length ca, .slice xb b.length cb] 50)
 have HBX:=jD hbx
 clear hbx
 go_wp2_with fail
 (with_reducible refine(HCC.out).mono ?_)
 rintro e w3 ⟨v3,rfl,h3,hb3⟩
 generalize hab:a++b=ab at*
 have HAB:=jD hab
 clear hab
 have HF:=jD (few_a _ ab w3 h3 HOK.out (by have:=HLN.out;omega))
 replace HBL:=jD (bstep (bstep HBL.out HBX.out) hb3)
 obtain⟨x3,c3,rfl⟩:=h3.shape
 clear h3 hb3 HCC HBX
 generalize hS:fewS (ab.map sem)=S at*
 have HSS:=jD hS
 clear hS
 go_wp2_with fail
 (with_reducible refine(HF.out).mono ?_)
 rintro e w4 ⟨v4,rfl,h4,hb4⟩
 have H4:=jD (h4.mono HBL.out.size)
 replace HBL:=jD (bstep HBL.out hb4)
 obtain⟨x4,c4,hv4⟩:=h4.shape
 subst hv4
 clear h4 hb4 HF
 by_cases h30:30 < S.length
 ·have H:=jD (show pjE a b=2 by rw[HE.out,if_pos h30])
  have hb30:decide ((30:Int) < (S.length:Int))=true:=by rw[decide_eq_true_eq];omega
  clear HE h30
  go_wp2
  go_ret2
  exact⟨_,ret_ve H.out.symm,⟨fun h=>absurd (H.out.symm.trans h) (by decide),fun _=>rfl⟩,HBL.out⟩
 ·have H:=jD (show pjE a b=0 by rw[HE.out,if_neg h30])
  have hb30:decide ((30:Int) < (S.length:Int))=false:=by rw[decide_eq_false_iff_not];omega
  clear HE h30
  go_wp2
  go_ret2
  exact⟨.slice x4 S.length c4,ret_ve H.out.symm,⟨fun _=>by rw[HAB.out,HSS.out];exact H4.out,fun h=>absurd H.out h⟩,HBL.out⟩
theorem pnarrow_a (v fv:Value) (l:List Pt) (f:Bxs) (w:World) (hl:RowAt partE w v l) (hf:BxsAt w fv f):
  Calls Tryz.prog 71 #[v,fv] w fun e w'=> ∃v',e= .returned (.tuple #[v', .int .i64 (pnE l f)])∧PResA w' w.heap.size v' (pnE l f) (narrowS (l.map sem) (ptsOf f))∧Below w.heap.size w w':=by
 obtain⟨xa,ca,rfl⟩:=hl.shape
 obtain⟨xf,cf,rfl⟩:=hf.shape
 have HA:=jD hl
 have HF:=jD hf
 have HFW0:=jD hf
 have HC:=jD (ptsChk_c _ l w hl)
 have HE1:=jD (show ptsChk l≠0→pnE l f=ptsChk l from fun h=>by unfold pnE;rw [if_pos h])
 have HE2:=jD (show ptsChk l=0→pnE l f=fChk f from fun h=>by unfold pnE;rw [if_neg (by omega)])
 have HZA:=jD (ptsChk_zero (l:=l))
 clear hl hf
 go_enter Tryz.func71,Tryz.ntmps71
 go_wp2_with fail
 (with_reducible refine(HC.out).mono ?_)
 rintro e w1 ⟨rfl,hb1⟩
 replace HA:=jD (HA.out.below hb1)
 replace HF:=jD (HF.out.below hb1)
 have HBL:=jD hb1
 clear hb1 HC
 by_cases h0:ptsChk l=0
 rotate_left
 ·have H:=jD (HE1.out h0)
  have H0:=jD h0
  have hne:decide (ptsChk l=0)=false:=by simpa using h0
  have hnb:(ptsChk l != 0)=true:=bne_iff_ne.2 h0
  generalize ptsChk l=sc at*
  clear h0
  go_wp2
  go_ret2
  exact⟨_,ret_ve H.out.symm,⟨fun h=>absurd (H.out.symm.trans h) H0.out,fun _=>rfl⟩,HBL.out⟩
 have HZ:=jD (HZA.out.1 h0)
 have HE:=jD (HE2.out h0)
 have HC:=jD (fChk_c _ f w1 HF.out)
 rw[h0]
 clear h0 HE1 HE2 HZA
 go_wp2_with fail
 (with_reducible refine(HC.out).mono ?_)
 rintro e w2 ⟨rfl,hb1⟩
 replace HA:=jD (HA.out.below hb1)
 replace HF:=jD (HF.out.below hb1)
 replace HBL:=jD (bstep HBL.out hb1)
 clear hb1 HC
 by_cases h0:fChk f=0
 rotate_left
 ·have H0:=jD h0
  have hne:decide (fChk f=0)=false:=by simpa using h0
  have hnb:(fChk f != 0)=true:=bne_iff_ne.2 h0
  generalize fChk f=sc at*
  clear h0
  go_wp2
  go_ret2
  exact⟨_,ret_ve HE.out.symm,⟨fun h=>absurd (HE.out.symm.trans h) H0.out,fun _=>rfl⟩,HBL.out⟩
 have HF0:=jD h0
 rw[h0] at HE ⊢
 clear h0
 have hla:=HZ.out.1
 have HOK:=jD HZ.out.2
 have HCP:=jD (pcopied_c _ l w2 HA.out HOK.out (by omega))
 clear HZ HA
 go_wp2_with fail
 (with_reducible refine(HCP.out).mono ?_)
 rintro e w3 ⟨ov,rfl,ho,hb3⟩
 have HO:=jD (ho.mono HBL.out.size)
 obtain⟨pa,pc,rfl⟩:=ho.shape
 have HB3:=jD (bstep HBL.out hb3)
 clear ho hb3 HCP HBL HF
 obtain⟨w4,hw4⟩: ∃w4,w4=w3:=⟨_,rfl⟩
 rw[←hw4] at HO HB3 ⊢
 clear hw4 w3
 go_wp2
 go_loopw [24] (fun i wr=> ∃q:Nat,q≤l.length∧i= .int .i64 q∧(∃l1,POwn wr w.heap.size (.slice pa l.length pc) l1∧MeetTo f q l l1)∧Below w.heap.size w wr) (fun i _=>l.length - (intOf i).toNat)
 case atStart=>exact ⟨0,Nat.zero_le _,rfl,⟨l,HO.out,MeetTo.zero f l⟩,HB3.out⟩
 case round=>
  obtain⟨q,hq,rfl,⟨l1,ho1,hp1⟩,hbl⟩:=hrel
  have HO1:=jD ho1
  have HP1:=jD hp1
  have HBL:=jD hbl
  have HFR:=jD (HFW0.out.below hbl)
  clear ho1 hp1 hbl HO HB3
  by_cases hql:q < l.length
  ·have hq1:q < l1.length:=by rw[HP1.out.len];exact hql
   have hrest:=HP1.out.rest q hql hq1 (Nat.le_refl _)
   obtain⟨g,f1,hpg,hcell,hfo⟩:=HO1.out.cellF q hq1
   subst hpg
   have hfz:fChk l1[q].f=0:=by rw[hrest];exact (HOK.out _ (List.getElem_mem hql)).f
   have HPC:=jD (meetf_c f1 _ l1[q].f f wr (hfo.at_ok hfz) HFR.out)
   have ht0:fTwo l1[q].f f=0:=by unfold fTwo;rw [if_pos hfz,HF0.out]
   rw[ht0] at HPC
   obtain⟨fa,fc,hf1⟩:=hfo.shape
   subst hf1
   have HPT:=jD (fun (f2:Bxs) (h:FGood f2 (fun t n=>inF l1[q].f t n&&inF f t n))=>HP1.out.step hql (f:=f2) (by rw[hrest] at h;exact h))
   have hqm:decide ((q:Int) < (l.length:Int))=true:=by simp;omega
   clear hfo hrest hfz ht0
   go_wp2_with fail
   (with_reducible refine(HPC.out).mono ?_)
   rintro e w5 ⟨f2,rfl,hfout,hb5⟩
   obtain⟨fl,hf2,hg2⟩:=hfout.1 rfl
   have HF2:=jD (BxsOwn.mono hf2 HBL.out.size)
   obtain⟨fa2,fc2,hf2v⟩:=hf2.shape
   subst hf2v
   obtain⟨hset,cs,hgb,hbase⟩:=(HO1.out.below hb5).setF q hq1 (fs:=fl) HF2.out
   have HSET:=jD hset
   have HPL:=jD (HPT.out fl hg2)
   have HBF:=jD ((bstep HBL.out hb5).setCell (p:=⟨g,q*3,none⟩) hbase (.slice fa2 fl.length fc2))
   have c5:=ckeep hb5 hcell
   have ff5:=free_of_block (j:=q*3) hgb
   have hgl:=hlt_of hgb
   clear hcell hb5 hf2 hg2 HPC hset hgb HPT hfout
   go_wp2
   go_roundw
   case rel=>exact ⟨q+1,by omega,by go_num,⟨_,HSET.out,HPL.out⟩,HBF.out⟩
   case measure=>simp [intOf] <;> omega
  ·obtain rfl:q=l.length:=by omega
   have hat:=HO1.out.at_ (HP1.out.ok HOK.out) (by rw[HP1.out.len];omega)
   have HFW:=jD (few_a _ l1 wr hat (HP1.out.ok HOK.out) (by rw[HP1.out.len];omega))
   have HSM:=jD (show fewS (l1.map sem)=narrowS (l.map sem) (ptsOf f) by rw[HP1.out.sem];rfl)
   rw[HSM.out] at HFW
   clear hat HO1 HP1 HOK HFR HSM HFW0
   go_wp2_with fail
   (with_reducible refine(HFW.out).mono ?_)
   rintro e w5 ⟨v5,rfl,h5,hb5⟩
   have H5:=jD (h5.mono HBL.out.size)
   have HB5:=jD (bstep HBL.out hb5)
   obtain⟨x5,c5,hv5⟩:=h5.shape
   subst hv5
   clear h5 hb5 HFW
   go_wp2
   go_ret2
   exact⟨_,ret_ve HE.out.symm,⟨fun _=>H5.out,fun h=>absurd HE.out h⟩,HB5.out⟩
end Go.Proofs.YtgkgdedhicnohaaGreat
