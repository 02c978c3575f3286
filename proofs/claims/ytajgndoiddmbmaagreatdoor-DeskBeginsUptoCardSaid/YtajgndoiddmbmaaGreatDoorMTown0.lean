/- Towards what desk.Run answers. -/
import Derived.Test.YtajgndoiddmbmaaGreatDoorMSiteD
namespace Go.Proofs.YtajgndoiddmbmaaGreatDoor
set_option maxRecDepth 100000
set_option maxHeartbeats 40000000
open Go.RowKit
structure Ar where
 site:Int
 stamp:Int
 P:Nat→Nat→Bool
 S:List SP
structure Sa (a:Ar):Prop where
 site:0≤a.site∧a.site < 5
 stamp:0≤a.stamp∧a.stamp≤1000000
 S: ∀x∈a.S,ql x
 ls:a.S.length≤30
def Kc (s:aL):Ar:=⟨s.me,s.stamp,s.P,bT s⟩
theorem X5 {s:aL} (h:dV s):Sa (Kc s):=⟨h.me,h.stamp,h.known,h.NP⟩
inductive iy where
 | ask (to:Nat) (a:Ar)
 | sA (to:Nat) (b:jP)
def iy.to:iy→Nat
 | .ask t _=>t
 | .sA t _=>t
def iy.P5:iy→Bool
 | .ask _ _=>false
 | .sA _ _=>true
def vM (n:Nat):iy→Prop
 | .ask t a=>t < n∧Sa a∧a.site < n
 | .sA t b=>t < n∧vV b
def Er (w:World) (b q:Nat) (a:Ar):Prop:= ∃f p,w.heap[q]? =some (.cells #[.int .i64 a.site, .int .i64 a.stamp,f,p] 149 (0,0))∧FO w b f a.P∧aY w b p a.S
def Ep (w:World) (b q:Nat) (t:jP):Prop:= ∃vv gv pv,w.heap[q]? =some (.cells #[.int .i64 t.site, .int .i64 t.stamp,vv,gv,pv] 158 (0,0))∧mh w b vv gv pv t
theorem Er.bD {G:Nat→Prop} {w w':World} {b q:Nat} {a:Ar} (h:Er w b q a) (hs:aB G w w') (hG: ¬G q):Er w' b q a:=by
 obtain⟨f,p,h1,h2,h3⟩:=h;exact ⟨f,p,hs.block h1 hG,h2.bD hs,h3.bD hs⟩
theorem Ep.bD {G:Nat→Prop} {w w':World} {b q:Nat} {t:jP} (h:Ep w b q t) (hs:aB G w w') (hG: ¬G q):Ep w' b q t:=by
 obtain⟨v,g,p,h1,h2⟩:=h;exact ⟨v,g,p,hs.block h1 hG,h2.bD hs⟩
def fO (w:World) (b:Nat):iy→List Value→Prop
 | .ask t a,c=> ∃q,c=[.int .i64 t, .pointer (some ⟨q,0,none⟩), .pointer none]∧Er w b q a
 | .sA t bt,c=> ∃q,c=[.int .i64 t, .pointer none, .pointer (some ⟨q,0,none⟩)]∧Ep w b q bt
def OP (G:Nat→Prop) (w:World):Prop:= ∀q cs t,G q→w.heap[q]? =some (Obj.cells cs t (0,0))→t≠149∧t≠158
theorem fO.bD {G:Nat→Prop} {w w':World} {b:Nat} {l:iy} {c:List Value} (h:fO w b l c) (hs:aB G w w') (hG:OP G w):fO w' b l c:=by
 cases l with
 | ask t a=>
  obtain⟨q,h1,h2⟩:=h;refine⟨q,h1,h2.bD hs fun hq=> ?_⟩;obtain⟨f,p,h3, -⟩:=h2;exact(hG q _ _ hq h3).1 rfl
 | sA t bt=>
  obtain⟨q,h1,h2⟩:=h;refine⟨q,h1,h2.bD hs fun hq=> ?_⟩;obtain⟨v,g,p,h3, -⟩:=h2;exact(hG q _ _ hq h3).2 rfl
theorem fO.len {w:World} {b:Nat} {l:iy} {c:List Value} (h:fO w b l c):c.length=3:=by
 cases l with
 | ask t a=>obtain ⟨q,rfl, -⟩:=h;rfl
 | sA t bt=>obtain ⟨q,rfl, -⟩:=h;rfl
theorem fO.one {w:World} {b:Nat} {l:iy} {c:List Value} (h:fO w b l c): ∀u∈c,u.oneCell'=true:=by
 cases l with
 | ask t a=>obtain ⟨q,rfl, -⟩:=h;intro u hu;simp only[List.mem_cons,List.not_mem_nil,or_false] at hu;rcases hu with rfl | rfl | rfl <;> rfl
 | sA t bt=>obtain ⟨q,rfl, -⟩:=h;intro u hu;simp only[List.mem_cons,List.not_mem_nil,or_false] at hu;rcases hu with rfl | rfl | rfl <;> rfl
structure eY (w:World) (b:Nat) (l:List iy) (css:List (List Value)):Prop where
 len:css.length=l.length
 each: ∀i (h:i < l.length) (h2:i < css.length),fO w b l[i] css[i]
theorem eY.nil (w:World) (b:Nat):eY w b [] []:=⟨rfl,fun i h=>absurd h (by simp)⟩
theorem eY.bD {G:Nat→Prop} {w w':World} {b:Nat} {l:List iy} {css:List (List Value)} (h:eY w b l css) (hs:aB G w w') (hG:OP G w):eY w' b l css:=
 ⟨h.len,fun i h1 h2=>(h.each i h1 h2).bD hs hG⟩
theorem eY.below {w w':World} {b:Nat} {l:List iy} {css:List (List Value)} (h:eY w b l css) (hb:Below w.heap.size w w'):eY w' b l css:=h.bD (G:=fun _=>False) (aB.of_below hb) fun _ _ _ h=>h.elim
theorem eY.snoc {w:World} {b:Nat} {l:List iy} {css:List (List Value)} (h:eY w b l css) {x:iy} {c:List Value} (hx:fO w b x c):eY w b (l++[x]) (css++[c]):=by
 refine⟨by simp[h.len],fun i h1 h2=> ?_⟩;by_cases hi:i < l.length
 ·rw[List.getElem_append_left hi,List.getElem_append_left (by have:=h.len;omega)];exact h.each i hi _
 ·have hi2:i=l.length:=by simp at h1;omega
  subst hi2;rw[List.getElem_append_right (by omega),List.getElem_append_right (by have:=h.len;omega)];simp only[Nat.sub_self,h.len,List.getElem_singleton];exact hx
theorem eY.erase {w:World} {b:Nat} {l:List iy} {css:List (List Value)} (h:eY w b l css) (k:Nat):eY w b (l.eraseIdx k) (css.eraseIdx k):=by
 refine⟨by rw[List.length_eraseIdx,List.length_eraseIdx,h.len],fun i h1 h2=> ?_⟩;rw[List.getElem_eraseIdx,List.getElem_eraseIdx];split
 ·exact h.each i _ _
 ·exact h.each (i+1) _ _
theorem eY.flat {w:World} {b:Nat} {l:List iy} {css:List (List Value)} (h:eY w b l css): ∀c∈css,c.length=3:=fun c hc=>by
 obtain⟨i,hi,rfl⟩:=List.getElem_of_mem hc;exact(h.each i (by have:=h.len;omega) hi).len
structure aK where
 sites:List aL
 way:List iy
structure Kg (t:aK):Prop where
 me: ∀i (h:i < t.sites.length),t.sites[i].me=i
 len:t.sites.length≤5
 way: ∀l∈t.way,vM t.sites.length l
 lw:t.way.length≤60
def BW (gs:List Nat):List Value:=gs.map fun g=> .pointer (some ⟨g,0,none⟩)
structure gm (w:World) (b:Nat) (gs:List Nat) (l:List aL):Prop where
 len:gs.length=l.length
 nd:gs.Nodup
 each: ∀i (h:i < gs.length) (h2:i < l.length),bz w b gs[i] l[i]
theorem gm.bD {G:Nat→Prop} {w w':World} {b:Nat} {gs:List Nat} {l:List aL} (h:gm w b gs l) (hs:aB G w w') (hG: ∀g∈gs,¬G g):gm w' b gs l:=
 ⟨h.len,h.nd,fun i h1 h2=>(h.each i h1 h2).bD hs (hG _ (List.getElem_mem h1))⟩
theorem gm.below {w w':World} {b:Nat} {gs:List Nat} {l:List aL} (h:gm w b gs l) (hb:Below w.heap.size w w'):gm w' b gs l:=h.bD (G:=fun _=>False) (aB.of_below hb) fun _ _ h=>h
theorem gm.set {w w':World} {b i:Nat} {gs:List Nat} {l:List aL} {s:aL} (h:gm w b gs l) (hi:i < gs.length) (hs:aB (fun q=>q=gs[i]) w w') (hn:bz w' b gs[i] s):gm w' b gs (l.set i s):=by
 refine⟨by rw[List.length_set];exact h.len,h.nd,fun j h1 h2=> ?_⟩;by_cases hj:j=i
 ·subst hj;rw [List.getElem_set_self];exact hn
 ·rw[List.getElem_set_ne (by omega)];refine(h.each j h1 (by simpa using h2)).bD hs fun e=>hj ?_;have hnd:=List.pairwise_iff_getElem.1 h.nd;rcases Nat.lt_trichotomy j i with hl | hl | hl
  ·exact absurd e (hnd j i h1 hi hl)
  ·exact hl
  ·exact absurd e.symm (hnd i j hi h1 hl)
structure AV (w:World) (b:Nat) (T:Nat→Prop) (g:Nat) (t:aK) (sv wv:Value) (gs:List Nat) (css:List (List Value)):Prop where
 blk:w.heap[g]? =some (.cells #[sv,wv] 141 (0,0))
 qL:w.ownsRow b 142 1 sv gs.length (BW gs)
 sites:gm w b gs t.sites
 gT: ∀q∈gs,T q
 lets:eY w b t.way css
 oV:w.ownsRow b 154 3 wv t.way.length css.flatten
 wT: ∀q,wv.ownBlock=some q→T q
structure aJ (w:World) (b:Nat) (T:Nat→Prop) (g:Nat) (t:aK):Prop where
 ok:Kg t
 ge:b≤g∧T g
 at_: ∃sv wv gs css,AV w b T g t sv wv gs css
theorem AV.lt {w:World} {b:Nat} {T:Nat→Prop} {g:Nat} {t:aK} {sv wv:Value} {gs:List Nat} {css:List (List Value)} (h:AV w b T g t sv wv gs css):g < w.heap.size:=ai h.blk
theorem aJ.lt {w:World} {b:Nat} {T:Nat→Prop} {g:Nat} {t:aK} (h:aJ w b T g t):g < w.heap.size:=by
 obtain⟨sv,wv,gs,css,V⟩:=h.at_;exact V.lt
theorem BZ {G:Nat→Prop} {w w':World} {base e size n:Nat} {v:Value} {xs:List Value} (h:w.ownsRow base e size v n xs) (hs:aB G w w') (hG: ∀q cs,G q→w.heap[q]? =some (Obj.cells cs e (0,0))→False):w'.ownsRow base e size v n xs:=by
 refine⟨h.1, ?_⟩;rcases h.2 with h0 | ⟨g,cap,cur,h1,h2,h3,h4⟩
 ·exact .inl h0
 ·exact .inr ⟨g,cap,cur,h1,h2,hs.block h3 fun hg=>hG g cur hg h3,h4⟩
theorem kQ {w:World} {q:Nat} {c d:Array Value} {t u:TypeId} {x y:Nat×Nat} (h1:w.heap[q]? =some (Obj.cells c t x)) (h2:w.heap[q]? =some (Obj.cells d u y)):t=u:=by
 rw[h1] at h2;injection h2 with h2;injection h2
theorem bz.ty {w:World} {b g:Nat} {s:aL} (h:bz w b g s): ∃cs,w.heap[g]? =some (Obj.cells cs 191 (0,0)):=by
 obtain⟨f,l,p,h1, -⟩:=h.cells;exact ⟨_,h1⟩
theorem AV.below {w w':World} {b:Nat} {T:Nat→Prop} {g:Nat} {t:aK} {sv wv:Value} {gs:List Nat} {css:List (List Value)} (h:AV w b T g t sv wv gs css) (hb:Below w.heap.size w w'):AV w' b T g t sv wv gs css:=
 ⟨ag hb h.blk,aI h.qL hb,h.sites.below hb,h.gT,h.lets.below hb,aI h.oV hb,h.wT⟩
theorem aJ.below {w w':World} {b:Nat} {T:Nat→Prop} {g:Nat} {t:aK} (h:aJ w b T g t) (hb:Below w.heap.size w w'):aJ w' b T g t:=by
 obtain⟨sv,wv,gs,css,V⟩:=h.at_;exact ⟨h.ok,h.ge,sv,wv,gs,css,V.below hb⟩
theorem row_one {w:World} {base e n i:Nat} {v x:Value} {xs:List Value} (h:w.ownsRow base e 1 v n xs) (hx:xs[i]? =some x): ∃q cap,v= .slice (some ⟨q,0,none⟩) n cap∧q < w.heap.size∧w.cell? ⟨q,i,none⟩=some x:=by
 have hi:i < xs.length:=(List.getElem?_eq_some_iff.1 hx).1;have hn:0 < n:=by
  have:=h.1;simp only[Nat.mul_one] at this;omega
 rcases h.2 with⟨rfl,rfl⟩ | ⟨g,cap,cur,rfl,h2,h3,h4⟩
 ·exact absurd hn (by decide)
 ·refine⟨g,cap,rfl,ai h3, ?_⟩;have:=h.cells (g:=g) rfl i x hx;rw[Addr.add_lit,Nat.zero_add] at this;exact this
theorem aJ.use {w:World} {b:Nat} {T:Nat→Prop} {g:Nat} {t:aK} (h:aJ w b T g t) {i:Nat} (hi:i < t.sites.length): ∃qs cap gi wv,w.heap[g]? =some (.cells #[.slice (some ⟨qs,0,none⟩) t.sites.length cap,wv] 141 (0,0))∧qs < w.heap.size∧w.cell? ⟨qs,i,none⟩=some (.pointer (some ⟨gi,0,none⟩))∧bz w b gi t.sites[i]∧T gi∧gi≠g∧qs≠gi∧
  ∀w' s',aB (fun q=>q=gi) w w'→bz w' b gi s'→s'.me=t.sites[i].me→aJ w' b T g { t with sites:=t.sites.set i s' } :=by
 obtain⟨sv,wv,gs,css,V⟩:=h.at_;have hlen:=V.sites.len;have Vs:i < gs.length:=by omega
 obtain⟨qs,cap,rfl,hq,hqc⟩:=row_one (i:=i) V.qL (x:= .pointer (some ⟨gs[i],0,none⟩)) (by unfold BW;rw [List.getElem?_map,List.getElem?_eq_getElem Vs];rfl);have hS:=V.sites.each i Vs hi;obtain⟨cs,hcs⟩:=hS.ty;have hty: ∀ {q:Nat} {c2:Array Value} {t2:TypeId},w.heap[q]? =some (Obj.cells c2 t2 (0,0))→t2≠191→ ¬q=gs[i]:=fun {q c2 t2} h1 h2 e=>by
  subst e;exact h2 (kQ h1 hcs)
 refine⟨qs,cap,gs[i],wv,by rw[←hlen];exact V.blk,hq,hqc,hS,V.gT _ (List.getElem_mem Vs),fun e=>hty V.blk (by decide) e.symm,fun e=> ?_,fun w' s' hs hn hme=> ?_⟩
 ·rcases V.qL.2 with⟨h0, -⟩ | ⟨g2,cap2,cur,h1,h2,h3,h4⟩
  ·exact absurd h0 (by simp)
  ·simp only[Value.slice.injEq,Option.some.injEq,Addr.mk.injEq,and_true] at h1;rw[←h1.1] at h3;exact hty h3 (by decide) e
 ·refine⟨⟨fun j hj=> ?_,by show(t.sites.set i s').length≤5;rw [List.length_set];exact h.ok.len,fun l hl=>by show vM (t.sites.set i s').length l;rw [List.length_set];exact h.ok.way l hl,h.ok.lw⟩,h.ge,_,wv,gs,css,hs.block V.blk (hty V.blk (by decide)),BZ V.qL hs fun q cs2 hq2 hc2=>hty hc2 (by decide) hq2,V.sites.set Vs hs hn,V.gT,V.lets.bD hs fun q cs2 ty hq2 hc2=> ?_,BZ V.oV hs fun q cs2 hq2 hc2=>hty hc2 (by decide) hq2,V.wT⟩
  ·show(t.sites.set i s')[j].me=j;by_cases e:j=i
   ·subst e;rw [List.getElem_set_self,hme];exact h.ok.me j hi
   ·rw[List.getElem_set_ne (by omega)];exact h.ok.me j (by simpa using hj)
  ·refine⟨fun e=> ?_,fun e=> ?_⟩
   ·rw[e] at hc2;exact hty hc2 (by decide) hq2
   ·rw[e] at hc2;exact hty hc2 (by decide) hq2
theorem aJ.letters {w:World} {b:Nat} {T:Nat→Prop} {g:Nat} {t:aK} (h:aJ w b T g t): ∃sv wv css,w.heap[g]? =some (.cells #[sv,wv] 141 (0,0))∧eY w b t.way css∧w.ownsRow b 154 3 wv t.way.length css.flatten∧(∀q,wv.ownBlock=some q→T q)∧
  ∀w' CC Ct sO,aB (fun q=>q=g∨wv.ownBlock=some q) w w'→w'.heap[g]? =some (.cells #[sv,CC] 141 (0,0))→eY w' b sO Ct→w'.ownsRow b 154 3 CC sO.length Ct.flatten→(∀q,CC.ownBlock=some q→T q)→(∀l∈sO,vM t.sites.length l)→sO.length≤60→aJ w' b T g { t with way:=sO } :=by
 obtain⟨sv,wv,gs,css,V⟩:=h.at_;refine⟨sv,wv,css,V.blk,V.lets,V.oV,V.wT,fun w' CC Ct sO hs hblk hl hr hT hok fP=>⟨⟨h.ok.me,h.ok.len,hok,fP⟩,h.ge,sv,CC,gs,Ct,hblk, ?_,V.sites.bD hs fun q hq hG=> ?_,V.gT,hl,hr,hT⟩⟩
 ·have hty: ∀q cs,(q=g∨wv.ownBlock=some q)→w.heap[q]? =some (Obj.cells cs 142 (0,0))→False:=fun q cs hq hc=>by
   rcases hq with rfl | hq
   ·exact absurd (kQ V.blk hc) (by decide)
   ·obtain⟨g2,cap,cur,rfl,h3,h4, -⟩:=V.oV.2.resolve_left (by rintro⟨rfl, -⟩;simp [Value.ownBlock] at hq);simp only[Value.ownBlock,Option.some.injEq] at hq;subst hq;exact absurd (kQ h4 hc) (by decide)
  exact BZ V.qL hs hty
 ·obtain⟨i,hi,rfl⟩:=List.getElem_of_mem hq;obtain⟨cs,hcs⟩:=(V.sites.each i hi (by have:=V.sites.len;omega)).ty;rcases hG with e | hq
  ·rw[e] at hcs;exact absurd (kQ V.blk hcs) (by decide)
  ·obtain⟨g2,cap,cur,rfl,h3,h4, -⟩:=V.oV.2.resolve_left (by rintro⟨rfl, -⟩;simp [Value.ownBlock] at hq);simp only[Value.ownBlock,Option.some.injEq] at hq;rw[←hq] at hcs;exact absurd (kQ h4 hcs) (by decide)
theorem aJ.Vg {w:World} {b:Nat} {T:Nat→Prop} {g:Nat} {t:aK} (h:aJ w b T g t) {sv wv:Value} {css:List (List Value)} (hb:w.heap[g]? =some (.cells #[sv,wv] 141 (0,0))) (hr:w.ownsRow b 154 3 wv t.way.length css.flatten):OP (fun q=>q=g∨wv.ownBlock=some q) w:=fun q cs ty hq hc=>by
 rcases hq with rfl | hq
 ·have:=kQ hb hc;subst this;exact ⟨by decide,by decide⟩
 ·obtain⟨g2,cap,cur,rfl,h3,h4, -⟩:=hr.2.resolve_left (by rintro⟨rfl, -⟩;simp [Value.ownBlock] at hq);simp only[Value.ownBlock,Option.some.injEq] at hq;subst hq;have:=kQ h4 hc;subst this;exact ⟨by decide,by decide⟩
def Ie (t:aK) (i:Nat) (h:i < t.sites.length) (id:ByteArray) (a n bd:Int):aK:= { t with sites:=t.sites.set i (mP t.sites[i] id a n bd) }
theorem Jc (s:aL) (id:ByteArray) (a n bd:Int):(mP s id a n bd).me=s.me∧(mP s id a n bd).stamp=s.stamp∧(mP s id a n bd).P=s.P:=by
 unfold mP;split <;> exact⟨rfl,rfl,rfl⟩
theorem IE (s:aL) (b:jP):(mM s b).me=s.me∧(mM s b).stamp=s.stamp∧(mM s b).P=s.P:=by
 unfold mM;split <;> exact⟨rfl,rfl,rfl⟩
def abK (t:aK) (i:Nat) (h:i < t.sites.length) (p:Nat→Nat→Bool):aK:= { t with sites:=t.sites.set i (Hx t.sites[i] p) }
def U8 (t:aK) (i:Nat) (h:i < t.sites.length) (to:Nat):aK:= { t with way:=t.way++[.ask to (Kc t.sites[i])] }
theorem Q4 {t:aK} (h:Kg t) {i to:Nat} (hi:i < t.sites.length) (hto:to < t.sites.length) (hok:dV t.sites[i]):vM t.sites.length (.ask to (Kc t.sites[i])):=
 ⟨hto,X5 hok,by show t.sites[i].me < _;rw [h.me i hi];omega⟩
def Fk (r:aL) (a:Ar):iy:= .sA a.site.toNat (oO r a.site a.stamp a.P a.S)
def Vh (t:aK) (k:Nat):aK:= { t with way:=t.way.eraseIdx k }
theorem Hq {α: Type} {l:List α} {k:Nat} {x:α} (h:x∈l.eraseIdx k):x∈l:=List.mem_of_mem_eraseIdx h
def Ib (t:aK) (i:Nat) (h:i < t.sites.length) (b:jP):aK:= { t with sites:=t.sites.set i (mM t.sites[i] b) }
def DR (w:World) (e size:Nat) (zc:Array Value) (v:Value) (n:Nat):Prop:= ∀g cur,v.ownBlock=some g→w.heap[g]? =some (Obj.cells cur e (0,0))→ ∀j,n*size≤j→j < cur.size→cur[j]? =some zc[j%size]!
theorem DR.nil (w:World) (e size:Nat) (zc:Array Value) (n:Nat):DR w e size zc (.slice none 0 0) n:=fun g cur h=>by simp[Value.ownBlock] at h
structure ye (w w':World) (base e size:Nat) (zc:Array Value) (v v':Value) (n m:Nat) (xs news:List Value):Prop where
 own:w'.ownsRow base e size v' (n+m) (xs++news)
 grown:w.grownBy w' v.ownBlock
 loc:v'.ownBlock=v.ownBlock∨v'.ownBlock=some w.heap.size
 sp:Sp (fun q=>v.ownBlock=some q) w w'
 zt:DR w e size zc v n→DR w' e size zc v' (n+m)
 pre: ∀g cur,v.ownBlock=some g→w.heap[g]? =some (Obj.cells cur e (0,0))→ ∃cur',w'.heap[g]? =some (Obj.cells cur' e (0,0))∧cur'.size=cur.size∧cur'.toList.take (n*size)=cur.toList.take (n*size)
theorem Fv {A B:Array Value} {zc:Array Value} {k size q:Nat} (hz:zc.size=size) (_hs:0 < size) (ha:A.size=k*size) (hb:B=Builtin.zeroCells zc q): ∀j,k*size≤j→j < (A++B).size→(A++B)[j]? =some zc[j%size]! :=by
 intro j h1 h2;subst hb;rw[Array.size_append,ha,size_zeroCells,hz] at h2;rw[Array.getElem?_append_right (by omega),ha];unfold Builtin.zeroCells;rw[Array.getElem?_map,Array.getElem?_range,if_pos (by rw[hz];omega),Option.map_some,hz];congr 2;have:j=(j - k*size)+k*size:=by omega
 conv=>rhs;rw [this]
 rw[Nat.add_mul_mod_self_right]
theorem CQ {P:Program} (w:World) (base:Nat) (t ty e:TypeId) (i:TypeInfo) (z:Value) (size bytes:Nat) (ht:P.underlying t=some (.slice e)) (hi:P.info? e=some i) (hz:i.zero=some z)
  (hsize:i.size=size) (hby:i.bytes=bytes) (hzs:z.cells.size=size) (hsz:0 < size)
  (v:Value) (n:Nat) (xs:List Value) (hown:w.ownsRow base e size v n xs)
  (a:Addr) (m c:Nat) (news:List Value) (hl:news.length=m*size) (hnews: ∀j u,news[j]? =some u→w.cell? (a.add j)=some u) (h1: ∀u∈news,u.oneCell'=true)
  (h63:n+m≤maxLen) (hbytes:(n+m)*bytes≤140737488355328) (hbase:base≤w.heap.size):
  ∃v' w',(Builtin.append_ #[t,t] ty #[v, .slice (some a) m c]).run P w= .ok v' w'∧ye w w' base e size z.cells v v' n m xs news:=by
 obtain⟨v',w',hr,h2,h3,h4⟩:=run_append_own' (P:=P) w base t ty e i z size bytes ht hi hz hsize hby hzs hsz v n xs hown a m c news hl hnews h1 h63 hbytes hbase;refine⟨v',w',hr, ?_⟩;subst hsize;subst hby;have afn:n+m≤9223372036854775807:=by simp only[maxLen] at h63;omega
 have new: ∀(cs:Array Value),w'=w.drew.alloc (.cells cs e)→Sp (fun q=>v.ownBlock=some q) w w':=fun cs e=>by
  subst e;exact Sp.of_below ((br).drew.alloc (Nat.le_refl _) _)
 have keep: ∀(cs:Array Value),w'=w.drew.alloc (.cells cs e)→ ∀g,g < w.heap.size→w'.heap[g]? =w.heap[g]? :=fun cs e g hg=>by
  subst e;exact heap_alloc_old w.drew _ hg
 rcases hown.2 with⟨rfl,rfl⟩ | ⟨g,cap,cur,rfl,hbg,hg,hnc,hcm,hcs,htake⟩
 ·by_cases hm:m=0
  ·subst hm;have hn:news=[]:=List.eq_nil_of_length_eq_zero (by simpa using hl);subst hn;have hr2:(Builtin.append_ #[t,t] ty #[.slice none 0 0, .slice (some a) 0 c]).run P w= .ok (.slice none 0 0) w:=by
    simp[Builtin.append_,run_underlying ht,sizeOf,typeInfo,hi,Builtin.lenOf,Builtin.firstCells,loadCells,loadCellsFrom]
   rw[hr2] at hr;injection hr with e1 e2
   subst e1 e2;exact⟨h2,h3,h4,Sp.refl _ _,fun _=>DR.nil _ _ _ _ _,fun g cur h=>by simp[Value.ownBlock] at h⟩
  ·have hr2:=run_append_nil (P:=P) w t ty e i z ht hi hz a m c news hl hnews (by omega) (by omega) (by have hb:=hbytes;simp only[Nat.zero_add] at hb;omega);rw[hr2] at hr;injection hr with e1 e2
   refine⟨h2,h3,h4,new _ e2.symm,fun _=> ?_,fun g cur h=>by simp[Value.ownBlock] at h⟩;subst e1 e2;intro g cur hv hg;simp only[Value.ownBlock,Option.some.injEq] at hv;subst hv;have hq:(w.drew.alloc (.cells (news.toArray++Builtin.zeroCells z.cells (grownCap w m 0 e - m)) e)).heap[w.heap.size]? =some _:=heap_alloc_new w.drew _;rw[hq] at hg;simp only[Option.some.injEq,Obj.cells.injEq,and_true] at hg;obtain⟨rfl⟩:=hg;rw[Nat.zero_add];exact Fv hzs hsz (by rw[List.size_toArray];exact hl) rfl
 ·by_cases hroom:n+m≤cap
  ·have hfit:n*i.size+news.length≤cur.size:=by rw[hl,hcs,←Nat.add_mul];exact Nat.mul_le_mul_right _ hroom
   have hr2:=run_append_room (P:=P) w t ty e i ht hi g n cap cur hg a m c news hl hnews h1 hroom hfit;rw[hr2] at hr;injection hr with e1 e2
   obtain⟨cur',hc'⟩: ∃cur':Array Value,cur'=(cur.toList.take (n*i.size)++news++cur.toList.drop (n*i.size+news.length)).toArray:=⟨_,rfl⟩
   rw[←hc'] at e2;have hsz':cur'.size=cur.size:=by
    rw[hc',List.size_toArray,List.length_append,List.length_append,List.length_take,List.length_drop,Array.length_toList];omega
   have hg':w'.heap[g]? =some (Obj.cells cur' e (0,0)):=by rw[←e2];exact setRow_heap w g cur _ e _ hg
   have hoth: ∀k,k≠g→w'.heap[k]? =w.heap[k]? :=fun k hk=>by rw[←e2];exact Go.setRow_other w g k _ hk
   refine⟨h2,h3,h4,⟨h3.os,h3.tape,h3.output,h3.size,fun k _ hk=>hoth k fun e=>hk (by rw[e];rfl),fun k cs e3 hc=> ?_⟩,fun hzt=> ?_,fun g2 J1 hv hg2=> ?_⟩
   ·by_cases hk:k=g
    ·subst hk;rw[hg] at hc;simp only[Option.some.injEq,Obj.cells.injEq,and_true] at hc;obtain⟨rfl,rfl⟩:=hc;exact⟨cur',hg',hsz'⟩
    ·exact⟨cs,(hoth k hk).trans hc,rfl⟩
   ·subst e1;intro g2 J1 hv hg2 j hj1 hj2;simp only[Value.ownBlock,Option.some.injEq] at hv;subst hv;rw[hg'] at hg2;simp only[Option.some.injEq,Obj.cells.injEq,and_true] at hg2;obtain⟨rfl⟩:=hg2;have hj3:n*i.size+m*i.size≤j:=by rw[←Nat.add_mul];exact hj1
    have:=hzt g cur rfl hg j (by omega) (by rw[←hsz'];exact hj2);rw[←this,hc',List.getElem?_toArray,List.getElem?_append_right (by simp only[List.length_append,List.length_take,Array.length_toList];omega),List.getElem?_drop];have e4:n*i.size+news.length+(j - (List.take (n*i.size) cur.toList++news).length)=j:=by
     simp only[List.length_append,List.length_take,Array.length_toList];omega
    rw[e4,Array.getElem?_toList]
   ·simp only[Value.ownBlock,Option.some.injEq] at hv;subst hv;rw[hg] at hg2;simp only[Option.some.injEq,Obj.cells.injEq,and_true] at hg2;obtain⟨rfl⟩:=hg2;refine⟨cur',hg',hsz', ?_⟩;rw[hc',List.toList_toArray,List.append_assoc,List.take_append_of_le_length (by rw[List.length_take,Array.length_toList];omega),List.take_take,Nat.min_self]
  ·have holds: ∀j u,xs[j]? =some u→w.cell? ((⟨g,0,none⟩:Addr).add j)=some u:=hown.cells (g:=g) rfl;have hr2:=run_append_grow (P:=P) w t ty e i z ht hi hz ⟨g,0,none⟩ n cap xs hown.1 holds a m c news hl hnews (by omega) (by omega) (growslice_fits (by omega) hbytes);rw[hr2] at hr;injection hr with e1 e2
   refine⟨h2,h3,h4,new _ e2.symm,fun _=> ?_,fun g2 J1 hv hg2=> ?_⟩
   ·subst e1 e2;intro g2 J1 hv hg2;simp only[Value.ownBlock,Option.some.injEq] at hv;subst hv;have hq:(w.drew.alloc (.cells (xs.toArray++news.toArray++Builtin.zeroCells z.cells (grownCap w (n+m) cap e - (n+m))) e)).heap[w.heap.size]? =some _:=heap_alloc_new w.drew _;rw[hq] at hg2;simp only[Option.some.injEq,Obj.cells.injEq,and_true] at hg2;obtain⟨rfl⟩:=hg2;refine Fv hzs hsz ?_ rfl;rw[Array.size_append,List.size_toArray,List.size_toArray,hown.1,hl,Nat.add_mul]
   ·refine⟨J1,(keep _ e2.symm g2 (ai hg2)).trans hg2,rfl,rfl⟩
theorem ni {P:Program} {w:World} {ops:Array Oper} {rest:List Oper} {o:Oper} {a:Act} {Q:Exit→Act→World→Prop} (hgd:o.guard=none) (s x:Operand) (t:TypeId)
  (ho:o.op= .call { callee:= .builtin .append,args:= #[s,x],argTypes:= #[t,t] })
  (base:Nat) (e:TypeId) (z:Value) (size bytes:Nat) (ht:P.underlying t=some (.slice e)) (hinfo:(P.info? e).map (fun i=>(i.zero,i.size,i.bytes))=some (some z,size,bytes)) (hzs:z.cells.size=size) (hsz:0 < size)
  (v:Value) (n:Nat) (xs:List Value) (hs:a.eval s=v) (hown:w.ownsRow base e size v n xs)
  (ad:Addr) (m c:Nat) (news:List Value) (hx:a.eval x= .slice (some ad) m c) (hl:news.length=m*size) (hnews: ∀j u,news[j]? =some u→w.cell? (ad.add j)=some u) (h1: ∀u∈news,u.oneCell'=true)
  (h63:n+m≤maxLen) (hbytes:(n+m)*bytes≤140737488355328) (hbase:base≤w.heap.size)
  (h: ∀v' w',ye w w' base e size z.cells v v' n m xs news→wpList P ops Q rest (a.put o.dst v') w'):wpList P ops Q (o::rest) a w:=by
 obtain⟨i,hi,hz,hsize,hby⟩:=info_parts hinfo;obtain⟨v',w',hr,h2⟩:=CQ (P:=P) w base t o.type e i z size bytes ht hi hz hsize hby hzs hsz v n xs hown ad m c news hl hnews h1 h63 hbytes hbase;refine wpList_plain hgd fun K hK=> ?_;unfold Oper.wp execOp;simp only[ho,resolve,invoke,builtin,Sem.run_bind,Sem.run_pure,Result.andThen_ok,List.map_toArray,List.map_cons,List.map_nil,hs,hx,hr];exact hK _ _ (h v' w' h2)
theorem Im.info:(Tryz.prog.info? 154).map (fun i=>(i.zero,i.size,i.bytes))=some (some (.agg #[.int .i64 0, .pointer none, .pointer none]),3,24):=rfl
theorem ye.bD {w w':World} {base e size n m:Nat} {zc:Array Value} {v v':Value} {xs news:List Value} (h:ye w w' base e size zc v v' n m xs news) (ho:w.ownsRow base e size v n xs) (ht:kJ e=false):aB (fun q=>v.ownBlock=some q) w w':=⟨h.sp,aM.ze ho h.grown ht⟩
theorem FJ {W3 w5:World} {b g:Nat} {T:Nat→Prop} {t:aK} {sv wv v':Value} {css:List (List Value)} {x:iy} {c:List Value} {zc:Array Value}
  (h:aJ W3 b T g t) (hblk:W3.heap[g]? =some (.cells #[sv,wv] 141 (0,0))) (hl:eY W3 b t.way css) (hr:W3.ownsRow b 154 3 wv t.way.length css.flatten) (hT: ∀q,wv.ownBlock=some q→T q)
  (eD: ∀w' CC Ct sO,aB (fun q=>q=g∨wv.ownBlock=some q) W3 w'→w'.heap[g]? =some (.cells #[sv,CC] 141 (0,0))→eY w' b sO Ct→w'.ownsRow b 154 3 CC sO.length Ct.flatten→(∀q,CC.ownBlock=some q→T q)→(∀l∈sO,vM t.sites.length l)→sO.length≤60→aJ w' b T g { t with way:=sO })
  (hx:fO W3 b x c) (hok:vM t.sites.length x) (hw:t.way.length < 60) (p8: ∀q,W3.heap.size≤q→T q)
  {W4:World} (hb4:Below W3.heap.size W3 W4) (A:ye W4 w5 b 154 3 zc wv v' t.way.length 1 css.flatten c):
  aJ (w5.setCell ⟨g,1,none⟩ v') b T g { t with way:=t.way++[x] } ∧aB T W3 (w5.setCell ⟨g,1,none⟩ v'):=by
 have hr4:W4.ownsRow b 154 3 wv t.way.length css.flatten:=aI hr hb4;have hg4:=ag hb4 hblk;have yt:w5.heap[g]? =some (.cells #[sv,wv] 141 (0,0)):=fB hr4 A.grown hg4 (by decide);have S5:aB (fun q=>q=g∨wv.ownBlock=some q) W3 w5:=(aB.of_below hb4).trans ((A.bD hr4 (by decide)).mono fun q hq=> .inr hq);have S6:aB (fun q=>q=g∨wv.ownBlock=some q) W3 (w5.setCell ⟨g,1,none⟩ v'):=S5.trans ((aB.set yt (by decide)).mono fun q hq=> .inl hq);have hno:=h.Vg hblk hr;refine⟨eD _ v' (css++[c]) (t.way++[x]) S6 (by rw[ax yt];rfl) ((hl.bD S6 hno).snoc (hx.bD S6 hno)) ?_ (fun q hq=> ?_) (fun l hl2=> ?_) ?_,S6.mono fun q hq=> ?_⟩
 ·rw[List.length_append,List.length_singleton,List.flatten_append,List.flatten_singleton];exact cG A.own yt (by decide)
 ·rcases A.loc with e | e
  ·exact hT q (by rw[←e];exact hq)
  ·rw[e] at hq;simp only[Option.some.injEq] at hq;exact p8 q (by have:=hb4.size;omega)
 ·rcases List.mem_append.1 hl2 with hl2 | hl2
  ·exact h.ok.way l hl2
  ·rw[List.mem_singleton.1 hl2];exact hok
 ·rw[List.length_append,List.length_singleton];omega
 ·rcases hq with rfl | hq
  ·exact h.ge.2
  ·exact hT q hq
end Go.Proofs.YtajgndoiddmbmaaGreatDoor
