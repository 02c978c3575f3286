/- What SiteOwn needs of memory: what stays while other blocks are written over. No walk here. -/
import Derived.Test.YtgkgdedhicnohaaGreatSite7D
import Derived.Test.YtgkgdedhicnohaaGreatSoSpoil
namespace Go.Proofs.YtgkgdedhicnohaaGreat
set_option maxRecDepth 100000
set_option maxHeartbeats 40000000
open Go.RowKit
def NS (S:Nat→Prop) (w:World) (base:Nat):Prop:= ∀(q:Nat) (cs:Array Value) (t:TypeId),dataT t=true→base≤q→w.heap[q]? =some (Obj.cells cs t (0,0))→ ¬S q
theorem owns_ns {S:Nat→Prop} {w w':World} {base e size n:Nat} {v:Value} {xs:List Value} (h:w.ownsRow base e size v n xs) (hs:Sp S w w') (hn:NS S w base) (he:dataT e=true):w'.ownsRow base e size v n xs:=
 owns_sp h hs fun k hk=>by
  obtain⟨cs,hc⟩:=owns_type h hk
  exact hn k cs e he (h.lt k hk).1 hc
theorem KnOwn.ns {S:Nat→Prop} {w w':World} {base:Nat} {u x:Value} {k:Kn} (h:KnOwn w base u x k) (hs:Sp S w w') (hn:NS S w base):KnOwn w' base u x k:=⟨owns_ns h.vec hs hn dataT_int,owns_ns h.more hs hn dataT_dot⟩
theorem FOwn.ns {S:Nat→Prop} {w w':World} {base:Nat} {v:Value} {l:Bxs} (h:FOwn w base v l) (hs:Sp S w w') (hn:NS S w base):FOwn w' base v l:=by
 obtain⟨us,a,b,c⟩:=h
 exact⟨us,a,owns_ns b hs hn dataT_box,fun i hi hi'=>owns_ns (c i hi hi') hs hn dataT_span⟩
theorem FO.ns {S:Nat→Prop} {w w':World} {base:Nat} {v:Value} {p:Nat→Nat→Bool} (h:FO w base v p) (hs:Sp S w w') (hn:NS S w base):FO w' base v p:=by
 obtain⟨l,h1,h2,h3⟩:=h;exact ⟨l,FOwn.ns h1 hs hn,h2,h3⟩
theorem VOwn.ns {S:Nat→Prop} {w w':World} {base:Nat} {v:Value} {l:List Ver} (h:VOwn w base v l) (hs:Sp S w w') (hn:NS S w base):VOwn w' base v l:=by
 obtain⟨css,a,b⟩:=h
 exact⟨css,a.map fun _ _ _ h=>h.ns hs hn,owns_ns b hs hn dataT_ver⟩
theorem POwnA.ns {S:Nat→Prop} {w w':World} {base:Nat} {v:Value} {l:List Pt} (h:POwnA w base v l) (hs:Sp S w w') (hn:NS S w base):POwnA w' base v l:=by
 obtain⟨css,Ss,h⟩:=h
 refine⟨css,Ss,h.lc,h.ls,owns_ns h.row hs hn dataT_part,fun i a b c=>(h.each i a b c).map (fun _ hq=>hq) (fun e size n y xs he hr=>owns_ns hr hs hn ?_),h.apart,fun i hi q hq=>Nat.lt_of_lt_of_le (h.low i hi q hq) hs.size⟩
 rcases he with rfl | rfl | rfl | rfl <;> decide
theorem PtsOwnA.ns {S:Nat→Prop} {w w':World} {base:Nat} {v:Value} {L:List SP} (h:PtsOwnA w base v L) (hs:Sp S w w') (hn:NS S w base):PtsOwnA w' base v L:=by
 obtain⟨l,h1,h2⟩:=h;exact ⟨l,h1.ns hs hn,h2⟩
theorem SiteV.ns {S:Nat→Prop} {w w':World} {b g:Nat} {s:SiteS} {f l p:Value} (h:SiteV w b g s f l p) (hs:Sp S w w') (hg: ¬S g) (hn:NS S w b):SiteV w' b g s f l p:=⟨hs.block h.blk hg,h.f.ns hs hn,h.l.ns hs hn,h.p.ns hs hn⟩
theorem SiteAt.open_ {w:World} {b g:Nat} {s:SiteS} (h:SiteAt w b g s): ∃f l p,SiteV w b g s f l p:=by
 obtain⟨f,l,p,h1,h2,h3,h4⟩:=h.cells;exact ⟨f,l,p,h1,h2,h3,h4⟩
theorem SiteV.close {w:World} {b g:Nat} {s:SiteS} {f l p:Value} (h:SiteV w b g s f l p) (hok:SiteOk s) (hge:b≤g):SiteAt w b g s:=⟨hok,hge,f,l,p,h.blk,h.f,h.l,h.p⟩
theorem SiteAt.ns {S:Nat→Prop} {w w':World} {b g:Nat} {s:SiteS} (h:SiteAt w b g s) (hs:Sp S w w') (hg: ¬S g) (hn:NS S w b):SiteAt w' b g s:=by
 obtain⟨f,l,p,hv⟩:=h.open_;exact (hv.ns hs hg hn).close h.ok h.ge
theorem ns_base {S:Nat→Prop} {w:World} {base:Nat} (h: ∀q,S q→q < base):NS S w base:=fun q _ _ _ hb _ hS=>by have:=h q hS;omega
def NotD (w:World) (q:Nat):Prop:= ∃cs t,w.heap[q]? =some (Obj.cells cs t (0,0))∧dataT t=false
theorem SiteV.notD {w:World} {b g:Nat} {s:SiteS} {f l p:Value} (h:SiteV w b g s f l p):NotD w g:=⟨_,_,h.blk,by decide⟩
theorem ns_of {S:Nat→Prop} {w:World} {base:Nat} (h: ∀q,S q→NotD w q∨w.heap.size≤q∨q < base):NS S w base:=fun q cs t ht hb hc hS=>by
 rcases h q hS with⟨cs',t',h1,h2⟩ | h1 | h1
 ·rw[hc] at h1
  simp only[Option.some.injEq,Obj.cells.injEq] at h1
  rw[h1.2.1,h2] at ht;exact absurd ht (by decide)
 ·have:=hlt_of hc;omega
 ·omega
theorem Lw.spx {S:Nat→Prop} {W w w':World} (h:Lw W w) (hs:Sp S w w') (hS: ∀q,S q→W.heap.size≤q):Lw W w':=by
 have h1:Below W.heap.size W w':=((h.sp).trans (hs.mono hS)).toBelow (fun _ hq=>hq) (Nat.le_refl _)
 exact Stp.of_below h1
theorem SzF.of_ok' {l:Bxs} (h:fChk l=0):SzF l:=by
 obtain⟨h1,h2⟩:=fChk_zero.1 h
 refine⟨by omega,fun b hb=> ?_⟩
 have:=(spansChk_bounds (bxChk_zero.1 (h2 b hb)).2).1
 omega
theorem SzV.of_ok' {l:List Ver} (h: ∀v∈l,VerOk v) (hl:l.length≤1000):SzV l:=⟨by omega,fun v hv=>SzK.of_ok (h v hv).past.len (h v hv).len⟩
theorem site_far {w5 w6 w7 w9:World} {b g:Nat} {s s':SiteS} {f l p l' p':Value} (h5:SiteV w5 b g s f l p) (h7:SiteV w7 b g s' f l' p') (hok:SiteOk s') (hge:b≤g) (hP:s'.P=s.P)
  (hl:(l'=l∧s'.L=s.L)∨VOwn w7 w6.heap.size l' s'.L) (hp:(p'=p∧s'.S=s.S)∨PtsOwnA w7 w6.heap.size p' s'.S)
  (hb:b≤w6.heap.size) {S5 S7:Nat→Prop} (k5:Sp S5 w5 w9) (n5:NS S5 w5 b) (k7:Sp S7 w7 w9) (n7:NS S7 w7 w6.heap.size) (hg: ¬S7 g):SiteAt w9 b g s':=by
 refine⟨hok,hge,f,l',p',k7.block h7.blk hg, ?_, ?_, ?_⟩
 ·rw[hP];exact h5.f.ns k5 n5
 ·rcases hl with⟨rfl,e⟩ | hl
  ·rw[e];exact h5.l.ns k5 n5
  ·exact VOwn.mono (hl.ns k7 n7) hb
 ·rcases hp with⟨rfl,e⟩ | hp
  ·rw[e];exact h5.p.ns k5 n5
  ·exact PtsOwnA.mono (hp.ns k7 n7) hb
theorem tookS_P (s:SiteS) (bt:BtS):(tookS s bt).P=s.P:=by unfold tookS;split <;> rfl
theorem ShF.fo {U:Nat→Prop} {w:World} {base:Nat} {v:Value} {p:Nat→Nat→Bool} (h:FO w base v p) (hU: ∀q,base≤q→q < w.heap.size→U q):ShF U w v:=by
 obtain⟨l,h1, -⟩:=h;exact ShF.of_own h1 hU
theorem ShF.mono {U V:Nat→Prop} {w:World} {v:Value} (h:ShF U w v) (hUV: ∀q,U q→V q):ShF V w v:=by
 rcases h with h | ⟨g,n,cap,cur,h1,h2,h3,hU,h4,h5,h6⟩
 ·exact .inl h
 ·refine .inr ⟨g,n,cap,cur,h1,h2,h3,hUV _ hU,h4,h5,fun j hj=> ?_⟩
  obtain⟨y,z,u,k1,k2,k3,k4,k5⟩:=h6 j hj
  exact⟨y,z,u,k1,k2,k3,k4,fun q hq=>hUV q (k5 q hq)⟩
theorem ShRow.ty {w:World} {e size q:Nat} {v:Value} (h:ShRow w e size v) (hq:v.ownBlock=some q): ∃cs,w.heap[q]? =some (Obj.cells cs e (0,0)):=by
 rcases h with rfl | ⟨g,n,cap,cur,rfl, -, -,h4, -⟩
 ·simp[Value.ownBlock] at hq
 ·simp only[Value.ownBlock,Option.some.injEq] at hq
  subst hq;exact ⟨cur,h4⟩
def TS (w:World) (T:Nat→Bool) (R:Nat→Prop) (q:Nat):Prop:=R q∧TyIn T w q
theorem ShF.typed {R:Nat→Prop} {w:World} {v:Value} (h:ShF R w v):ShF (TS w TF R) w v:=by
 rcases h with h | ⟨g,n,cap,cur,h1,h2,h3,hU,h4,h5,h6⟩
 ·exact .inl h
 ·refine .inr ⟨g,n,cap,cur,h1,h2,h3,⟨hU,cur,_,h4,by decide⟩,h4,h5,fun j hj=> ?_⟩
  obtain⟨y,z,u,k1,k2,k3,k4,k5⟩:=h6 j hj
  exact⟨y,z,u,k1,k2,k3,k4,fun q hq=>⟨k5 q hq,TyIn.of (k4.ty hq) (by decide)⟩⟩
theorem waste3_c (R:Nat→Prop) (v:Value) (w:World) (h:ShF R w v):
  Calls Tryz.prog 51 #[v] w fun e w'=>e= .returned (.tuple #[])∧Sp (TS w TF R) w w'∧ ∀v',ShF R w v'→ShF R w' v':=by
 refine(waste2_c (TS w TF R) v w h.typed).mono ?_
 rintro e w' ⟨h1,h2,h3⟩
 exact⟨h1,h2,fun v' h=>(h3 v' h.typed).mono fun q hq=>hq.1⟩
def ShK (U:Nat→Prop) (w:World) (u x:Value):Prop:=ShRow w 3 1 u∧ShRow w 41 2 x∧ ∀q,u.ownBlock=some q∨x.ownBlock=some q→U q
theorem ShK.sp {U S:Nat→Prop} {w w':World} {u x:Value} (h:ShK U w u x) (hs:Sp S w w'):ShK U w' u x:=⟨h.1.sp hs,h.2.1.sp hs,h.2.2⟩
theorem ShK.mono {U V:Nat→Prop} {w:World} {u x:Value} (h:ShK U w u x) (hUV: ∀q,U q→V q):ShK V w u x:=⟨h.1,h.2.1,fun q hq=>hUV q (h.2.2 q hq)⟩
theorem ShK.of_own {U:Nat→Prop} {w:World} {base:Nat} {u x:Value} {k:Kn} (h:KnOwn w base u x k) (hU: ∀q,base≤q→q < w.heap.size→U q):ShK U w u x:=
 ⟨ShRow.of_owns h.vec,ShRow.of_owns h.more,fun q hq=>hq.elim (fun h1=>hU q (h.vec.lt q h1).1 (h.vec.lt q h1).2) fun h1=>hU q (h.more.lt q h1).1 (h.more.lt q h1).2⟩
def GoneSh (R:Nat→Prop) (w:World) (v:Value) (n:Nat):Prop:= ∃css:List (List Value),css.length=n∧w.ownsRow 0 101 3 v n css.flatten∧ ∀c∈css,∃(i:ByteArray) (u x:Value),c=[.string i,u,x]∧ShK R w u x
theorem GE.sh {R:Nat→Prop} {w:World} {base:Nat} (hR: ∀q,base≤q→q < w.heap.size→R q): ∀ {l:List Gn} {css:List (List Value)},GE w base l css→css.length=l.length∧ ∀c∈css,∃(i:ByteArray) (u x:Value),c=[.string i,u,x]∧ShK R w u x
 | [],[],_=>⟨rfl,fun c hc=>by simp at hc⟩
 | g::l,c::css,⟨⟨u,x,h1,h2⟩,h3⟩=>by
  obtain⟨k1,k2⟩:=GE.sh hR h3
  refine⟨by simp[k1],fun d hd=> ?_⟩
  rcases List.mem_cons.1 hd with rfl | hd
  ·exact⟨g.id,u,x,h1,ShK.of_own h2 hR⟩
  ·exact k2 d hd
 | [],_::_,h=>h.elim
 | _::_,[],h=>h.elim
theorem GoneSh.of {R:Nat→Prop} {w:World} {base:Nat} {v:Value} {l:List Gn} (h:GOwn w base v l) (hR: ∀q,base≤q→q < w.heap.size→R q):GoneSh R w v l.length:=by
 obtain⟨css,h1,h2⟩:=h
 obtain⟨k1,k2⟩:=h1.sh hR
 exact⟨css,k1,owns_mono h2 (Nat.zero_le _),k2⟩
theorem GoneSh.sp {R S:Nat→Prop} {w w':World} {v:Value} {n:Nat} (h:GoneSh R w v n) (hs:Sp S w w') (hS: ∀q cs,S q→w.heap[q]? =some (Obj.cells cs 101 (0,0))→False):GoneSh R w' v n:=by
 obtain⟨css,h1,h2,h3⟩:=h
 refine⟨css,h1,owns_sp h2 hs fun q hq hSq=> ?_,fun c hc=> ?_⟩
 ·obtain⟨cs,hc⟩:=owns_type h2 hq;exact hS q cs hSq hc
 ·obtain⟨i,u,x,k1,k2⟩:=h3 c hc;exact ⟨i,u,x,k1,k2.sp hs⟩
theorem GoneSh.mono {R V:Nat→Prop} {w:World} {v:Value} {n:Nat} (h:GoneSh R w v n) (hRV: ∀q,R q→V q):GoneSh V w v n:=by
 obtain⟨css,h1,h2,h3⟩:=h
 exact⟨css,h1,h2,fun c hc=>by obtain⟨i,u,x,k1,k2⟩:=h3 c hc;exact ⟨i,u,x,k1,k2.mono hRV⟩⟩
def PtSh (R:Nat→Prop) (w:World) (c:List Value):Prop:= ∃f u x,c=[f,u,x]∧ShF R w f∧ShK R w u x
def PartSh (R:Nat→Prop) (w:World) (v:Value) (n:Nat):Prop:= ∃css:List (List Value),css.length=n∧w.ownsRow 0 105 3 v n css.flatten∧ ∀c∈css,PtSh R w c
theorem PartSh.of {R:Nat→Prop} {w:World} {base:Nat} {v:Value} {L:List SP} (h:PtsOwnA w base v L) (hR: ∀q,base≤q→q < w.heap.size→R q):PartSh R w v L.length:=by
 obtain⟨l,⟨css,Ss,h⟩, -,rfl⟩:=h
 rw[List.length_map]
 refine⟨css,h.lc,owns_mono h.row (Nat.zero_le _),fun c hc=> ?_⟩
 obtain⟨i,hi,rfl⟩:=List.mem_iff_getElem.1 hc
 have h1:=h.lc
 have h2:=h.ls
 obtain⟨f,u,x,us,k1,k2,k3,k4,k5, -⟩:=h.each i (by omega) hi (by omega)
 exact⟨f,u,x,k1,ShF.of_own ⟨us,k2,k3,k4⟩ hR,ShK.of_own k5 hR⟩
theorem PartSh.step {R S:Nat→Prop} {w w':World} {v:Value} {n:Nat} (h:PartSh R w v n) (hs:Sp S w w') (hS: ∀q cs,S q→w.heap[q]? =some (Obj.cells cs 105 (0,0))→False) (hF: ∀v',ShF R w v'→ShF R w' v'):PartSh R w' v n:=by
 obtain⟨css,h1,h2,h3⟩:=h
 refine⟨css,h1,owns_sp h2 hs fun q hq hSq=> ?_,fun c hc=> ?_⟩
 ·obtain⟨cs,hc⟩:=owns_type h2 hq;exact hS q cs hSq hc
 ·obtain⟨f,u,x,k1,k2,k3⟩:=h3 c hc;exact ⟨f,u,x,k1,hF f k2,k3.sp hs⟩
theorem PartSh.below {R:Nat→Prop} {w w':World} {v:Value} {n:Nat} (h:PartSh R w v n) (hb:Below w.heap.size w w'):PartSh R w' v n:=h.step (S:=fun _=>False) (Sp.of_below hb) (fun _ _ h=>h.elim) fun _ h=>h.below hb
theorem PartSh.mono {R V:Nat→Prop} {w:World} {v:Value} {n:Nat} (h:PartSh R w v n) (hRV: ∀q,R q→V q):PartSh V w v n:=by
 obtain⟨css,h1,h2,h3⟩:=h
 exact⟨css,h1,h2,fun c hc=>by obtain⟨f,u,x,k1,k2,k3⟩:=h3 c hc;exact ⟨f,u,x,k1,k2.mono hRV,k3.mono hRV⟩⟩
theorem PartSh.shape {R:Nat→Prop} {w:World} {v:Value} {n:Nat} (h:PartSh R w v n): ∃a c,v= .slice a n c:=by
 obtain⟨css, -,h2, -⟩:=h;exact owns_slice h2
theorem OwnV.ty {S:Nat→Prop} {w w':World} {lo hi:Nat} {v:Value} {l:List Ver} (h:OwnV w lo hi v l) (hs:Sp S w w') (hS: ∀q,S q→ ¬TyIn TV w q):OwnV w' lo hi v l:=by
 obtain⟨css,k1,k2,k3,k4⟩:=h
 refine⟨css,k1,owns_sp k2 hs fun q hq hSq=>hS q hSq (TyIn.of (owns_type k2 hq) (by decide)),k3,fun i hi hi'=> ?_⟩
 obtain⟨u,x,q1,q2⟩:=k4 i hi hi'
 exact⟨u,x,q1,⟨owns_sp q2.own.vec hs fun q hq hSq=>hS q hSq (TyIn.of (owns_type q2.own.vec hq) (by decide)),owns_sp q2.own.more hs fun q hq hSq=>hS q hSq (TyIn.of (owns_type q2.own.more hq) (by decide))⟩,q2.ru,q2.rx⟩
theorem flat3_one {R:Nat→Prop} {w:World} {css:List (List Value)} (h: ∀c∈css,PtSh R w c): ∀u∈css.flatten,u.oneCell'=true:=by
 intro u hu
 obtain⟨c,hc,hu⟩:=List.mem_flatten.1 hu
 obtain⟨f,y,x,rfl,h1,h2,h3, -⟩:=h c hc
 obtain⟨_,_,_,rfl⟩:=h1.row.shape
 obtain⟨_,_,_,rfl⟩:=h2.shape
 obtain⟨_,_,_,rfl⟩:=h3.shape
 simp only[List.mem_cons,List.not_mem_nil,or_false] at hu
 rcases hu with rfl | rfl | rfl <;> rfl
theorem pconcat3_c {R:Nat→Prop} {a b c:Value} {n1 n2 n3 q:Nat} (w:World) {t:TypeId} (hq:w.heap[q]? =some (Obj.cells #[a,b,c] t (0,0))) (h1:PartSh R w a n1) (h2:PartSh R w b n2) (h3:PartSh R w c n3) (hl:n1+n2+n3≤1000):
  Calls Tryz.prog 54 #[.slice (some ⟨q,0,none⟩) 3 3] w fun e w'=> ∃v',e= .returned v'∧PartSh R w' v' (n1+n2+n3)∧Below w.heap.size w w':=by
 obtain⟨c1,k1,m1,p1⟩:=h1
 obtain⟨c2,k2,m2,p2⟩:=h2
 obtain⟨c3,k3,m3,p3⟩:=h3
 have l1:n1≤140737488355328:=by omega
 have l2:n2≤140737488355328:=by omega
 have l3:n3≤140737488355328:=by omega
 have ht:tot [(a,n1,c1.flatten),(b,n2,c2.flatten),(c,n3,c3.flatten)]=n1+n2+n3:=by simp[tot];omega
 refine(PlConcat_c _ [(a,n1,c1.flatten),(b,n2,c2.flatten),(c,n3,c3.flatten)] w ⟨?_, ?_⟩ ?_ ?_ (by rw[ht];omega)).mono ?_
 ·exact CellsAt.mk (Nat.le_refl _) (by decide) (hlt_of hq) fun j x hj=>by rw[Nat.zero_add];exact cell_of_block (j:=j) hq (by simpa using hj)
 ·intro r hr
  simp only[List.mem_cons,List.not_mem_nil,or_false] at hr
  rcases hr with rfl | rfl | rfl
  ·exact CellsAt.of_owns m1 l1
  ·exact CellsAt.of_owns m2 l2
  ·exact CellsAt.of_owns m3 l3
 ·intro r hr
  simp only[List.mem_cons,List.not_mem_nil,or_false] at hr
  rcases hr with rfl | rfl | rfl
  ·exact m1.1
  ·exact m2.1
  ·exact m3.1
 ·intro r hr
  simp only[List.mem_cons,List.not_mem_nil,or_false] at hr
  rcases hr with rfl | rfl | rfl
  ·exact flat3_one p1
  ·exact flat3_one p2
  ·exact flat3_one p3
 ·rintro e w' ⟨v',rfl,ho,hb⟩
  refine⟨v',rfl,⟨c1++c2++c3,by simp[k1,k2,k3,Nat.add_assoc], ?_,fun d hd=> ?_⟩,hb⟩
  ·rw[ht] at ho
   have hfl:flat [(a,n1,c1.flatten),(b,n2,c2.flatten),(c,n3,c3.flatten)]=(c1++c2++c3).flatten:=by simp[flat]
   rw[hfl] at ho
   exact owns_mono ho (Nat.zero_le _)
  ·have hp:PtSh R w d:=by
    simp only[List.mem_append] at hd
    rcases hd with(hd | hd) | hd
    ·exact p1 d hd
    ·exact p2 d hd
    ·exact p3 d hd
   obtain⟨f,u,x,e1,e2,e3⟩:=hp
   exact⟨f,u,x,e1,e2.below hb,e3.sp (S:=fun _=>False) (Sp.of_below hb)⟩
theorem sameE_pts {f g:Bxs} {p:Nat→Nat→Bool} (hf:fChk f=0) (hg:fChk g=0) (h1: ∀t n:Nat,t < 16→n < 32→inF f t n=p t n) (h2: ∀t n:Nat,t < 16→n < 32→inF g t n=p t n):sameE f g=true:=by
 have h3:fTwo f g=0:=by unfold fTwo;rw [if_pos hf];exact hg
 unfold sameE
 rw[if_pos h3]
 refine(allPt_iff _).2 fun t n ht hn=> ?_
 rw[h1 t n ht hn,h2 t n ht hn];simp
theorem SiteV.ty {w:World} {b g:Nat} {s:SiteS} {f l p:Value} (h:SiteV w b g s f l p): ∃cs,w.heap[g]? =some (Obj.cells cs 128 (0,0)):=⟨_,h.blk⟩
theorem site_off {w:World} {g:Nat} (h: ∃cs,w.heap[g]? =some (Obj.cells cs 128 (0,0))) {q e:Nat} {cs:Array Value} (hq:q=g) (hc:w.heap[q]? =some (Obj.cells cs e (0,0))) (he:e≠128):False:=by
 obtain⟨c2,h⟩:=h
 subst hq
 rw[hc] at h
 simp only[Option.some.injEq,Obj.cells.injEq] at h
 exact he h.2.1
theorem site_tyin {T:Nat→Bool} {w:World} {g q:Nat} (h: ∃cs,w.heap[g]? =some (Obj.cells cs 128 (0,0))) (hT:T 128=false) (hq:q=g): ¬TyIn T w q:=by
 obtain⟨c2,h⟩:=h
 subst hq
 exact fun hn=>hn.not h hT
theorem flat3_get: ∀ {css:List (List Value)} {k:Nat} (_: ∀c∈css,c.length=3) (hk:k < css.length) (j:Nat) (_:j < 3),css.flatten[k*3+j]? =css[k][j]?
 | c::css,0,hl,_,j,hj=>by
  have h3:=hl c (by simp)
  simp only[Nat.zero_mul,Nat.zero_add,List.flatten_cons,List.getElem_cons_zero]
  rw[List.getElem?_append_left (by omega)]
 | c::css,k+1,hl,hk,j,hj=>by
  have h3:=hl c (by simp)
  have ih:=flat3_get (css:=css) (k:=k) (fun d hd=>hl d (by simp[hd])) (by simpa using hk) j hj
  simp only[List.flatten_cons,List.getElem_cons_succ]
  rw[List.getElem?_append_right (by omega),←ih]
  congr 1;omega
theorem rowT3 {w:World} {base e n k:Nat} {v:Value} {css:List (List Value)} (h:w.ownsRow base e 3 v n css.flatten) (hl:css.length=n) (h3: ∀c∈css,c.length=3) (hk:k < n): ∃g cap,v= .slice (some ⟨g,0,none⟩) n cap∧n≤cap∧cap≤maxLen∧g < w.heap.size∧ ∀j x,j < 3→(css[k]'(by omega))[j]? =some x→w.cell? ⟨g,k*3+j,none⟩=some x:=by
 rcases h.2 with⟨rfl,rfl⟩ | ⟨g,cap,cur,rfl,h2,h4,h5,h6,h7,h8⟩
 ·exact absurd hk (by omega)
 ·refine⟨g,cap,rfl,h5,h6,hlt_of h4,fun j x hj hx=> ?_⟩
  have:=h.cells (g:=g) rfl (k*3+j) x ((flat3_get h3 (by omega) j hj).trans hx)
  rw[Addr.add_lit,Nat.zero_add] at this;exact this
theorem GoneSh.three {css:List (List Value)} {P:ByteArray→Value→Value→Prop} (h: ∀c∈css,∃(i:ByteArray) (u x:Value),c=[.string i,u,x]∧P i u x): ∀c∈css,c.length=3:=fun c hc=>by
 obtain⟨i,u,x,rfl, -⟩:=h c hc;rfl
theorem PtSh.three {R:Nat→Prop} {w:World} {css:List (List Value)} (h: ∀c∈css,PtSh R w c): ∀c∈css,c.length=3:=fun c hc=>by
 obtain⟨i,u,x,rfl, -⟩:=h c hc;rfl
def Lit3 (w:World) (base:Nat) (a b:Value) (L:List SP) (v:Value):Prop:= ∃q c,v= .slice (some ⟨q,0,none⟩) 3 3∧w.heap[q]? =some (Obj.cells #[a,b,c] 50 (0,0))∧PtsOwnA w base c L
theorem Lit3.below {w w':World} {base:Nat} {a b:Value} {L:List SP} {v:Value} (h:Lit3 w base a b L v) (hb:Below w.heap.size w w'):Lit3 w' base a b L v:=by
 obtain⟨q,c,h1,h2,h3⟩:=h;exact ⟨q,c,h1,below_keep hb h2,PtsOwnA.below h3 hb⟩
theorem tf_tv {w:World} {q:Nat} (h:TyIn TF w q) (h2:TyIn TV w q):False:=by
 obtain⟨c1,t1,a1,a2⟩:=h
 refine h2.not a1 ?_
 unfold TF at a2
 simp only[Bool.or_eq_true,beq_iff_eq] at a2
 rcases a2 with rfl | rfl <;> decide
def TFK (t:Nat):Bool:=TF t || TK t
theorem TyIn.imp {T U:Nat→Bool} {w:World} {q:Nat} (h:TyIn T w q) (hTU: ∀t,T t=true→U t=true):TyIn U w q:=by
 obtain⟨c,t,a,b⟩:=h;exact ⟨c,t,a,hTU t b⟩
theorem TyIn.lt {T:Nat→Bool} {w:World} {q:Nat} (h:TyIn T w q):q < w.heap.size:=by
 obtain⟨c,t,a,b⟩:=h;exact hlt_of a
theorem tfk_f: ∀t,TF t=true→TFK t=true:=fun t h=>by unfold TFK;rw [h];rfl
theorem tfk_k: ∀t,TK t=true→TFK t=true:=fun t h=>by unfold TFK;rw [h,Bool.or_true]
theorem ShK.ts {R:Nat→Prop} {w:World} {u x:Value} (h:ShK R w u x): ∀q,u.ownBlock=some q∨x.ownBlock=some q→TS w TK R q:=fun q hq=>⟨h.2.2 q hq,hq.elim (fun h1=>TyIn.of (h.1.ty h1) (by decide)) fun h1=>TyIn.of (h.2.1.ty h1) (by decide)⟩
theorem sameS_self (va vb:Value) (l:List Ver) (w:World) (ha:RowAt verE w va l) (hb:RowAt verE w vb l):
  Calls Tryz.prog 26 #[va,vb] w fun e w'=>e= .returned (.bool true)∧Below w.heap.size w w':=by
 refine(sameS_c va vb l l w ha hb).mono ?_
 rintro e w' ⟨q,rfl,hq,hb⟩
 obtain rfl:q=true:=by simpa using hq
 exact⟨rfl,hb⟩
end Go.Proofs.YtgkgdedhicnohaaGreat
