/- Towards what desk.Run answers. -/
import Derived.Test.YtajgndoiddmbmaaGreatDoorMDkJ
namespace Go.Proofs.YtajgndoiddmbmaaGreatDoor
set_option maxRecDepth 100000
set_option maxHeartbeats 40000000
open Go.RowKit
theorem GE.dot {w:World} {base q:Nat} {x y:Value} (hq:w.heap[q]? =some (Obj.cells #[.int .i64 0, .int .i64 0] 103 (0,0))): ∀ {l:List Gn} {cs:List (List Value)},GE w base l cs→(∀g∈l,gz g.past)→GE ((w.setCell ⟨q,0,none⟩ x).setCell ⟨q,1,none⟩ y) base l cs
 | [],[],_,_=>trivial
 | v::l,c::cs,⟨⟨u,z,h1,h2⟩,h3⟩,hv=>⟨⟨u,z,h1,h2.dot hq (hv v (by simp))⟩,GE.dot hq h3 fun z hz=>hv z (by simp[hz])⟩
 | [],_::_,h,_=>h.elim
 | _::_,[],h,_=>h.elim
theorem fM.dot {w:World} {base q:Nat} {v x y:Value} {l:List Gn} (hq:w.heap[q]? =some (Obj.cells #[.int .i64 0, .int .i64 0] 103 (0,0))) (h:fM w base v l) (hv: ∀g∈l,gz g.past):fM ((w.setCell ⟨q,0,none⟩ x).setCell ⟨q,1,none⟩ y) base v l:=by
 obtain⟨css,h1,h2⟩:=h;exact⟨css,h1.dot hq hv,jr hq h2 (by decide)⟩
theorem zN {w:World} {q k:Nat} {x y:Value} {cs ds:Array Value} {t:TypeId} (hq:w.heap[q]? =some (Obj.cells cs 103 (0,0))) (hk:w.heap[k]? =some (Obj.cells ds t (0,0))) (ht:t≠103):((w.setCell ⟨q,0,none⟩ x).setCell ⟨q,1,none⟩ y).heap[k]? =some (Obj.cells ds t (0,0)):=by
 have hne:k≠q:=by
  rintro rfl;exact ht (kQ hk hq)
 rw[aC hne,aC hne];exact hk
theorem Xx {g:Gn} (h:cZ g=0):bF g.past=0:=by
 unfold cZ at h;split at h
 ·exact absurd h (by decide)
 ·exact h
theorem fO.dot {w:World} {b n q:Nat} {x y:Value} {l:iy} {c:List Value} (hq:w.heap[q]? =some (Obj.cells #[.int .i64 0, .int .i64 0] 103 (0,0))) (h:fO w b l c) (hl:vM n l):fO ((w.setCell ⟨q,0,none⟩ x).setCell ⟨q,1,none⟩ y) b l c:=by
 cases l with
 | ask t a=>
  obtain⟨k,h1,f,p,h2,⟨fl,h3,h4⟩,h5⟩:=h;exact⟨k,h1,f,p,zN hq h2 (by decide),⟨fl,cR.dot hq h3,h4⟩,h5.dot hq⟩
 | sA t bt=>
  obtain⟨k,h1,v,g,p,h2,h3⟩:=h;exact⟨k,h1,v,g,p,zN hq h2 (by decide),⟨h3.mK.dot hq hl.2.V,h3.gone.dot hq fun z hz=>(di.1 (Xx (hl.2.G z hz))).1,h3.parts.dot hq⟩⟩
theorem aJ.dot {lo:Nat} {w w':World} {b g:Nat} {T:Nat→Prop} {t:aK} (h:aJ w b T g t) (hT: ∀q,T q→q < lo) (hd:sL lo w w'):aJ w' b T g t:=by
 have hd':=hd;obtain⟨q,x,y,h1,h2,rfl⟩:=hd;obtain⟨sv,wv,gs,css,V⟩:=h.at_;exact⟨h.ok,h.ge,sv,wv,gs,css,zN h2 V.blk (by decide),jr h2 V.qL (by decide),⟨V.sites.len,V.sites.nd,fun i a c=>(V.sites.each i a c).dot hd' (hT _ (V.gT _ (List.getElem_mem a)))⟩,V.gT,⟨V.lets.len,fun i a c=>(V.lets.each i a c).dot h2 (h.ok.way _ (List.getElem_mem _))⟩,jr h2 V.oV (by decide),V.wT⟩
theorem aJ.ab5 {w:World} {b g:Nat} {T U:Nat→Prop} {t:aK} (h:aJ w b T g t) (hU: ∀q,T q→U q):aJ w b U g t:=by
 obtain⟨sv,wv,gs,css,V⟩:=h.at_;exact⟨h.ok,⟨h.ge.1,hU _ h.ge.2⟩,sv,wv,gs,css,V.blk,V.qL,V.sites,fun q hq=>hU _ (V.gT q hq),V.lets,V.oV,fun q hq=>hU _ (V.wT q hq)⟩
def DT (B:Nat) (w:World) (q:Nat):Prop:=Tw B w q∧q < w.heap.size
theorem aJ.reO {w:World} {B b:Nat} {T:Nat→Prop} {g:Nat} {t:aK} (h0:aJ w b T g t) (hB:B≤b):aJ w b (DT B w) g t:=by
 have h:=h0.re hB;obtain⟨sv,wv,gs,css,V⟩:=h.at_;refine⟨h.ok,⟨h.ge.1,h.ge.2,h.lt⟩,sv,wv,gs,css,V.blk,V.qL,V.sites,fun q hq=>⟨V.gT q hq, ?_⟩,V.lets,V.oV,fun q hq=>⟨V.wT q hq, ?_⟩⟩
 ·obtain⟨i,hi,rfl⟩:=List.getElem_of_mem hq;exact(V.sites.each i hi (by have:=V.sites.len;omega)).lt
 ·exact(V.oV.lt q hq).2
theorem sM.aeM {G:Nat→Prop} {w w':World} {lo:Nat} {v:Value} (h:sM w lo v) (hs:aB G w w') (hg: ∀q,G q→q < lo):sM w' lo v:=by
 obtain⟨q,h1,h2,h3⟩:=h;exact⟨q,h1,hs.block h2 (fun hq=>by have:=hg q hq;omega),h3⟩
theorem dmake_c (B d g0 g1 g2 g3 g4:Nat) (i a n bd:Nat) (id:ByteArray) (wo:World) (s:bn) (hA:eN B d wo s) (hgd:mY s) (hG:Gd B wo) (h0:wo.heap[g0]? =some (.cells #[.pointer (some ⟨d,0,none⟩)] 37 (0,0))) (h1:wo.heap[g1]? =some (.cells #[.int .i64 (i:Nat)] 3 (0,0))) (h2:wo.heap[g2]? =some (.cells #[.string id] 9 (0,0))) (h3:wo.heap[g3]? =some (.cells #[.int .i64 (a:Nat), .int .i64 (n:Nat)] 96 (0,0))) (h4:wo.heap[g4]? =some (.cells #[.int .i64 (bd:Nat)] 3 (0,0))):
  Calls Tryz.prog 60 #[.pointer (some ⟨g0,0,none⟩), .pointer (some ⟨g1,0,none⟩), .pointer (some ⟨g2,0,none⟩), .pointer (some ⟨g3,0,none⟩), .pointer (some ⟨g4,0,none⟩)] wo (dA B d wo (onTown (fun t=>(if Db t i id (a:Nat) (n:Nat) (bd:Nat)=0 then .ok (jf [(uh t i id (a:Nat) (n:Nat) (bd:Nat)).1,(uh t i id (a:Nat) (n:Nat) (bd:Nat)).2]) else .error (Db t i id (a:Nat) (n:Nat) (bd:Nat)),Jb t i id (a:Nat) (n:Nat) (bd:Nat))) s)):=by
 have fL:=jD (cq 0 h0 rfl);have dF:=jD (ai h0);have lM:=jD (cq 0 h1 rfl);have fe:=jD (ai h1);have sK:=jD (cq 0 h2 rfl);have mH:=jD (ai h2);have KM:=jD (cq 0 h3 rfl);have Ee:=jD (cq 1 h3 rfl);have Bp:=jD (ai h3);have Hi:=jD (cq 0 h4 rfl);have ML:=jD (ai h4);obtain⟨tv,fa,fc,us,hbk, -, -,cF⟩:=hA.open_;have HA:=jD hA;have HG:=jD hG;have pL:=jD hgd;cases htn:s.fQ with
 | none=>
  rw[htn] at cF;obtain rfl:tv= .pointer none:=cF;have eZ:=jD htn;have bU:=jD hbk;clear hA hgd hG hbk htn h0 h1 h2 h3 h4;go_enter Tryz.func60,Tryz.ntmps60;go_wp2;refine uS.aV 29 rfl [] (fun _=>True) (fun _=>[]) (fun jq v ww=>match jq with | 0=>v= .pointer (some ⟨d,0,none⟩) | 1=>False | 2=>False | 3=>False | 4=>False | 9=>False | 10=>False | 11=>False | 12=>False | 14=>False | 15=>False | _=>True) (fun ww=>Below wo.heap.size wo ww) (fun jq ww aR=>Below ww.heap.size ww aR) Tryz.mixed (by decide+kernel) (br).drew trivial (fun q r v w w' _ _ _ h _=>h) (fun _ _ _ _ _ _=>trivial) ?_ ?_
  ·refine⟨?_, ?_, ?_, ?_, ?_, ?_, ?_, ?_, ?_, ?_, ?_, ?_, ?_, ?_, ?_, ?_,trivial⟩
   ·intro x wx hG;have f0:=hG.o 0;replace hG:=hG.g;have c:=ah hG fL.o;have hl:=Nat.lt_of_lt_of_le dF.o hG.size;go_wp2;exact⟨_,rfl,rfl,hG,br⟩
   ·intro x wx hG;have⟨g0,og⟩:=gs 9 (hG.c 0 _ rfl);have hg:=hG.g;have nM:=jD hG.defers;clear hG;have HN:=jD (o8 d _ wx (ag hg bU.o));go_wp2_with fail
    (with_reducible refine(HN.o).mono ?_);rintro e wq ⟨rfl,rfl⟩;unfold bG;go_wp2;exact⟨nM.o,nu HA.o eZ.o hg _⟩
   ·intro x wx hG;exact False.elim (hG.c 1 _ rfl)
   ·intro x wx hG;exact False.elim (hG.c 2 _ rfl)
   ·intro x wx hG;exact False.elim (hG.c 3 _ rfl)
   ·intro x wx hG;have f1:=hG.o 1;replace hG:=hG.g;have c:=ah hG lM.o;have hl:=Nat.lt_of_lt_of_le fe.o hG.size;go_wp2;exact⟨_,rfl,trivial,hG,br⟩
   ·intro x wx hG;have f2:=hG.o 2;replace hG:=hG.g;have c:=ah hG sK.o;have hl:=Nat.lt_of_lt_of_le mH.o hG.size;go_wp2;exact⟨_,rfl,trivial,hG,br⟩
   ·intro x wx hG;have f3:=hG.o 3;replace hG:=hG.g;have c:=ah hG KM.o;have hl:=Nat.lt_of_lt_of_le Bp.o hG.size;have c1:=ah hG Ee.o;go_wp2;exact⟨_,rfl,trivial,hG,br⟩
   ·intro x wx hG;have f4:=hG.o 4;replace hG:=hG.g;have c:=ah hG Hi.o;have hl:=Nat.lt_of_lt_of_le ML.o hG.size;go_wp2;exact⟨_,rfl,trivial,hG,br⟩
   ·intro x wx hG;exact False.elim (hG.c 4 _ rfl)
   ·intro x wx hG;exact False.elim (hG.c 9 _ rfl)
   ·intro x wx hG;exact False.elim (hG.c 10 _ rfl)
   ·intro x wx hG;exact False.elim (hG.c 10 _ rfl)
   ·intro x wx hG;replace hG:=hG.g;go_wp2;exact⟨_,rfl,trivial,hG.alloc hG.size _,aG _⟩
   ·intro x wx hG;exact False.elim (hG.c 11 _ rfl)
   ·intro x wx hG;exact False.elim (hG.c 12 _ rfl)
  ·intro af wx hg hF;obtain⟨g0,g1,g2,g3,g4,g5,g6,g7,g8,g9,g10,g11,g12,g13,g14,g15, -⟩:=hF;exact(g1 rfl).elim
 | some t=>
  rw[htn] at cF;obtain⟨g,b,T,rfl,hBb,cF⟩:=cF;have HT:=jD (cF.re hBb);have eZ:=jD htn;have cK:=jD hBb;have bU:=jD hbk;have pM:=jD (cq 0 hbk rfl);have tD:=jD (ai hbk);have HST:=jD (show gL t (s.n:Nat) from fun i hi=>hA.st t htn i hi);have ek:=jD (show B≤wo.heap.size from Nat.le_trans hA.ge (Nat.le_of_lt hA.lt));clear hA hgd hG hbk htn cF hBb h0 h1 h2 h3 h4;obtain⟨E9,iH⟩: ∃E9,E9=Db t i id (a:Nat) (n:Nat) (bd:Nat):=⟨_,rfl⟩
  obtain⟨t9,mR⟩: ∃t9,t9=Jb t i id (a:Nat) (n:Nat) (bd:Nat):=⟨_,rfl⟩
  obtain⟨d0,hd0⟩: ∃d0,d0=(uh t i id (a:Nat) (n:Nat) (bd:Nat)).1:=⟨_,rfl⟩
  obtain⟨d1,hd1⟩: ∃d1,d1=(uh t i id (a:Nat) (n:Nat) (bd:Nat)).2:=⟨_,rfl⟩
  have HRG:=jD (Xk HT.o i id (a:Nat) (n:Nat) (bd:Nat));have vQ:=jD (show gL t9 ((s.n+1:Nat):Int) by rw[mR];exact (abP HST.o i id _ _ _).mono (by omega));have HS:=jD (HT.o.reO cK.o);have lI:=jD (fun (wx:World) (hx:aJ wx b (DT B wo) g t)=>YL g b (DT B wo) t i id (a:Nat) (n:Nat) (bd:Nat) wx hx);rw[←iH,←mR,←hd0,←hd1] at lI;rw[←hd0,←hd1] at HRG;have Ad:=jD (show ∀q,DT B wo q→q < wo.heap.size from fun q hq=>hq.2);have om:=jD iH;have vP:=jD mR;have HD0:=jD hd0;have MO:=jD hd1;clear iH mR hd0 hd1;go_enter Tryz.func60,Tryz.ntmps60;go_wp2;refine Cl2.aV 29 rfl [9,14] (fun w=>Below wo.heap.size wo w) (fun jq=>match jq with | 13=>[14] | _=>[]) (fun jq v ww=>match jq with | 0=>v= .pointer (some ⟨d,0,none⟩) | 1=>v= .pointer (some ⟨d,0,none⟩) | 2=>v= .pointer (some ⟨d,0,none⟩) | 3=>v= .pointer (some ⟨d,0,none⟩) | 4=>v= .pointer (some ⟨g,0,none⟩) | 5=>v= .int .i64 (i:Nat) | 6=>v= .string id | 7=>v= .agg #[.int .i64 (a:Nat), .int .i64 (n:Nat)] | 8=>v= .int .i64 (bd:Nat) | 9=>aJ ww b (DT B wo) g t9∧v= .tuple #[.agg #[.int .i64 d0, .int .i64 d1], .int .i64 E9] | 10=>v= .tuple #[.agg #[.int .i64 d0, .int .i64 d1], .int .i64 E9] | 11=>v= .agg #[.int .i64 d0, .int .i64 d1] | 12=>v= .int .i64 E9 | 13=>sM ww wo.heap.size v | 14=>Ip ww wo.heap.size d0 d1 v | 15=>v= .int .i64 E9 | _=>True) (fun ww=>aB (DT B wo) wo ww) (fun jq ww aR=>(jq≠9→jq≠14→Below ww.heap.size ww aR)∧(jq=9→aB (DT B wo) ww aR)∧(jq=14→sL wo.heap.size ww aR)) Tryz.mixed (by decide+kernel) (aB.refl _ _).drew ((br).drew) ?_ (fun q w w' hk h hR=>aj h (hR.1 (by intro e;subst e;exact absurd hk (by decide)) (by intro e;subst e;exact absurd hk (by decide)))) ?_ ?_
  ·intro q r v w w' hne hk hlt h hR;match r,hk,hlt,h,hne with
   | 0,_,_,h,_=>exact h
   | 1,_,_,h,_=>exact h
   | 2,_,_,h,_=>exact h
   | 3,_,_,h,_=>exact h
   | 4,_,_,h,_=>exact h
   | 5,_,_,h,_=>exact h
   | 6,_,_,h,_=>exact h
   | 7,_,_,h,_=>exact h
   | 8,_,_,h,_=>exact h
   | 9,hk,hlt,h,hne=>
    by_cases e:q=14
    ·exact⟨h.1.dot Ad.o (hR.2.2 e),h.2⟩
    ·exact⟨h.1.below (hR.1 (by exact hne) e),h.2⟩
   | 10,_,_,h,_=>exact h
   | 11,_,_,h,_=>exact h
   | 12,_,_,h,_=>exact h
   | 13,hk,hlt,h,hne=>
    by_cases e:q=9
    ·exact h.aeM (hR.2.1 e) Ad.o
    ·exact h.below (hR.1 e (by simpa using hk))
   | 14,hk,hlt,h,hne=>
    exact h.below (hR.1 (by intro e;subst e;first | exact absurd hlt (by decide+kernel) | exact absurd rfl hne | simp at hk) (by intro e;subst e;first | exact absurd hlt (by decide+kernel) | exact absurd rfl hne | simp at hk))
   | 15,_,_,h,_=>exact h
   | _+16,_,_,_,_=>trivial
  ·refine⟨?_, ?_, ?_, ?_, ?_, ?_, ?_, ?_, ?_, ?_, ?_, ?_, ?_, ?_, ?_, ?_,trivial⟩
   ·intro x wx hG;have f0:=hG.o 0;have hp:=hG.p 0;replace hG:=hG.g;have oP:=ah hp fL.o;have hl:=Nat.lt_of_lt_of_le dF.o hp.size;go_wp2;exact⟨_,rfl,rfl,hG,⟨fun _ _=>br,fun h=>zd h,fun h=>zd h⟩⟩
   ·intro x wx hG;have⟨g0,og⟩:=gs 9 (hG.c 0 _ rfl);have hp:=hG.p 0;replace hG:=hG.g;have HN:=jD (o9 d g _ wx (ag hp bU.o));go_wp2_with fail
    (with_reducible refine(HN.o).mono ?_);rintro e wq ⟨rfl,rfl⟩;go_wp2;exact⟨_,rfl,rfl,hG,⟨fun _ _=>br,fun h=>zd h,fun h=>zd h⟩⟩
   ·intro x wx hG;have⟨g1,tq⟩:=gs 10 (hG.c 1 _ rfl);replace hG:=hG.g;go_wp2;exact⟨_,rfl,rfl,hG,⟨fun _ _=>br,fun h=>zd h,fun h=>zd h⟩⟩
   ·intro x wx hG;have⟨g2,vD⟩:=gs 11 (hG.c 2 _ rfl);replace hG:=hG.g;go_wp2;exact⟨_,rfl,rfl,hG,⟨fun _ _=>br,fun h=>zd h,fun h=>zd h⟩⟩
   ·intro x wx hG;have⟨g3,qF⟩:=gs 12 (hG.c 3 _ rfl);have hp:=hG.p 0;replace hG:=hG.g;have AU:=ah hp pM.o;have hl:=Nat.lt_of_lt_of_le tD.o hp.size;go_wp2;exact⟨_,rfl,rfl,hG,⟨fun _ _=>br,fun h=>zd h,fun h=>zd h⟩⟩
   ·intro x wx hG;have f1:=hG.o 1;have hp:=hG.p 0;replace hG:=hG.g;have vH:=ah hp lM.o;have hl:=Nat.lt_of_lt_of_le fe.o hp.size;go_wp2;exact⟨_,rfl,rfl,hG,⟨fun _ _=>br,fun h=>zd h,fun h=>zd h⟩⟩
   ·intro x wx hG;have f2:=hG.o 2;have hp:=hG.p 0;replace hG:=hG.g;have DI:=ah hp sK.o;have hl:=Nat.lt_of_lt_of_le mH.o hp.size;go_wp2;exact⟨_,rfl,rfl,hG,⟨fun _ _=>br,fun h=>zd h,fun h=>zd h⟩⟩
   ·intro x wx hG;have f3:=hG.o 3;have hp:=hG.p 0;replace hG:=hG.g;have VO:=ah hp KM.o;have XW:=ah hp Ee.o;have hl:=Nat.lt_of_lt_of_le Bp.o hp.size;go_wp2;exact⟨_,rfl,rfl,hG,⟨fun _ _=>br,fun h=>zd h,fun h=>zd h⟩⟩
   ·intro x wx hG;have f4:=hG.o 4;have hp:=hG.p 0;replace hG:=hG.g;have acI:=ah hp Hi.o;have hl:=Nat.lt_of_lt_of_le ML.o hp.size;go_wp2;exact⟨_,rfl,rfl,hG,⟨fun _ _=>br,fun h=>zd h,fun h=>zd h⟩⟩
   ·intro x wx hG;have⟨g4,qE⟩:=gs 13 (hG.c 4 _ rfl);have⟨g5,sj⟩:=gs 14 (hG.c 5 _ rfl);have⟨g6,uy⟩:=gs 15 (hG.c 6 _ rfl);have⟨g7,Gt⟩:=gs 16 (hG.c 7 _ rfl);have⟨g8,Bb⟩:=gs 17 (hG.c 8 _ rfl);have hp:=hG.p 0;replace hG:=hG.g;have HN:=jD (lI.o wx (HS.o.below hp));go_wp2_with fail
    (with_reducible refine(HN.o).mono ?_);rintro e wq ⟨rfl,h1,h2⟩;have H1:=jD h1;have H2:=jD h2;clear h1 h2 HN;go_wp2;exact⟨_,rfl,⟨H1.o,rfl⟩,hG.trans H2.o,⟨fun h _=>absurd rfl h,fun _=>H2.o,fun h=>zd h⟩⟩
   ·intro x wx hG;have g9:aJ wx b (DT B wo) g t9∧(x.tmps.getD 18 undef)= .tuple #[.agg #[.int .i64 d0, .int .i64 d1], .int .i64 E9]:=hG.c 9 _ rfl;replace hG:=hG.g;have g9v:=g9.2;have afr:=g9v;rw[Array.getD_eq_getD_getElem?] at afr;go_wp2;exact⟨_,rfl,rfl,hG,⟨fun _ _=>br,fun h=>zd h,fun h=>zd h⟩⟩
   ·intro x wx hG;have⟨g10,xN⟩:=gs 8 (hG.c 10 _ rfl);replace hG:=hG.g;go_wp2;exact⟨_,rfl,rfl,hG,⟨fun _ _=>br,fun h=>zd h,fun h=>zd h⟩⟩
   ·intro x wx hG;have⟨g10,xN⟩:=gs 8 (hG.c 10 _ rfl);replace hG:=hG.g;go_wp2;exact⟨_,rfl,rfl,hG,⟨fun _ _=>br,fun h=>zd h,fun h=>zd h⟩⟩
   ·intro x wx hG;replace hG:=hG.g;go_wp2;exact⟨_,rfl,⟨_,rfl,au _ _ _ _ rfl,hG.size⟩,hG.below (aG _),⟨fun _ _=>aG _,fun h=>zd h,fun h=>zd h⟩⟩
   ·intro x wx hG;have g13:sM wx wo.heap.size (x.tmps.getD 6 undef):=hG.c 13 _ rfl;have⟨g11,EU⟩:=gs 19 (hG.c 11 _ rfl);replace hG:=hG.g;obtain⟨q,hv,hq,hlo⟩:=g13;have HV:=jD hv;have hvb:=hv;rw[Array.getD_eq_getD_getElem?] at hvb;have ZN:=g11;rw[Array.getD_eq_getD_getElem?] at ZN;have r0:=cq 0 hq rfl;have r1:=cq 1 hq rfl;have q0:=fq 0 hq;have q1:=fq 1 hq;have r8:=ai hq;have HQ:=jD hq;have mW:=jD hlo;clear hq hlo;go_wp2;exact⟨undef,rfl,⟨q,Eq.trans (by kernel_rfl) HV.o,by rw[ax (ax HQ.o)];rfl,mW.o⟩,sL.bD hG ⟨q,_,_,mW.o,HQ.o,rfl⟩,⟨fun _ h=>absurd rfl h,fun h=>zd h,fun _=>⟨q,_,_,mW.o,HQ.o,rfl⟩⟩⟩
   ·intro x wx hG;have⟨g12,ET⟩:=gs 20 (hG.c 12 _ rfl);replace hG:=hG.g;go_wp2;exact⟨_,rfl,rfl,hG,⟨fun _ _=>br,fun h=>zd h,fun h=>zd h⟩⟩
  ·intro af w9 hg hF;obtain⟨g0,g1,g2,g3,g4,g5,g6,g7,g8,g9,g10,g11,g12,g13,g14,g15, -⟩:=hF;replace g9:aJ w9 b (DT B wo) g t9∧(af 9)= .tuple #[.agg #[.int .i64 d0, .int .i64 d1], .int .i64 E9]:=g9 rfl;have g14:=g14 rfl;simp only[Cl3.puts,gq (af 0) g0,gq (af 1) g1,gq (af 2) g2,gq (af 3) g3,gq (af 4) g4,gq (af 5) g5,gq (af 6) g6,gq (af 7) g7,gq (af 8) g8,gq (af 10) g10,gq (af 11) g11,gq (af 12) g12,gq (af 15) g15];clear g0 g1 g2 g3 g4 g5 g6 g7 g8 g10 g11 g12 g13 g15;go_simp
   generalize af 9=mk9 at*;obtain⟨q9,vp,Js,ae8⟩:=g14;have P8:af 13= .pointer (some ⟨q9,0,none⟩):=Eq.trans (by kernel_rfl) vp;rw[P8];have H7:=jD (g9.1.ab5 fun q hq=>hq.1);have iV:=jD (hg.mono fun q hq=>hq.1);have HQ9:=jD Js;clear g9 hg vp ae8 Js P8;by_cases hz:E9=0;rotate_left
   ·go_wp2_with fail
    refine(qZ E9 hz _).mono ?_;rintro e wq ⟨rfl,rfl⟩;unfold bG;go_wp2;refine⟨rfl, ?_⟩;exact kg HA.o eZ.o bU.o cK.o H7.o iV.o vQ.o (br) (r:= .error E9) (by rw[←om.o,←vP.o,if_neg hz]) rfl
   subst hz;go_wp2_with fail
   refine(kS _).mono ?_;rintro e wq ⟨rfl,rfl⟩;have y0:=cq 0 HQ9.o rfl;have y1:=cq 1 HQ9.o rfl;have Dj:=ai HQ9.o;have Rl:=jD (E8 B (.slice (some ⟨wq.heap.size,0,none⟩) 2 2) [d0,d1] (wq.alloc (.cells #[.int .i64 d0, .int .i64 d1] 3)) ((HG.o.on (iV.o.aW ek.o)).below (aG _)) (Ce (l:=[d0,d1]) (au _ _ _ _ rfl) (show 2≤1000 by decide)) HRG.o (show 2≤100 by decide));go_wp2_with fail
   (with_reducible refine(Rl.o).mono ?_);rintro e w8 ⟨rfl,mz⟩;have yC:=jD (show Below wq.heap.size wq w8 from aj (aG _) mz);clear mz Rl y0 y1 Dj;go_wp2;go_ret;exact kg HA.o eZ.o bU.o cK.o H7.o iV.o vQ.o yC.o (r:= .ok (jf [d0,d1])) (by rw[←om.o,←vP.o,←HD0.o,←MO.o];rfl) rfl
def pR (p:iT) (s:bn):kU×bn:=if s.fQ.isSome=true then(.error 5,s) else if s.fs.length < 5 then(.ok ⟨#[111,107]⟩, { s with fs:=s.fs++[p] }) else(.error 2,s)
def pP (s:bn):kU×bn:=if s.fQ.isSome=true then(.error 5,s) else(.ok ⟨#[111,107]⟩, { s with fQ:=some (rF s.fs) })
def Sc:bn→kU×bn:=onTown fun t=>(.ok (jf [(t.way.length:Nat)]),t)
def DD (t:Nat):Bool:=t != 41
theorem bz.dd {w w':World} {b g:Nat} {s:aL} (h:bz w b g s) (hk:aM DD w w'):bz w' b g s:=by
 obtain⟨f,l,p,h1,h2,h3,h4⟩:=h.cells;exact⟨h.ok,h.ge,f,l,p,hk.blk _ _ _ h1 (by decide),h2.tk hk (by decide) (by decide),h3.tk hk (by decide) (by decide) (by decide),h4.tk hk (by decide) (by decide) (by decide) (by decide) (by decide)⟩
theorem fO.dd {w w':World} {b:Nat} {l:iy} {c:List Value} (h:fO w b l c) (hk:aM DD w w'):fO w' b l c:=by
 cases l with
 | ask t a=>
  obtain⟨q,h1,f,p,h2,h3,h4⟩:=h;exact⟨q,h1,f,p,hk.blk _ _ _ h2 (by decide),h3.tk hk (by decide) (by decide),h4.tk hk (by decide) (by decide) (by decide) (by decide) (by decide)⟩
 | sA t bt=>
  obtain⟨q,h1,v,g,p,h2,h3⟩:=h;exact⟨q,h1,v,g,p,hk.blk _ _ _ h2 (by decide),h3.mK.tk hk (by decide) (by decide) (by decide),h3.gone.tk hk (by decide) (by decide) (by decide),h3.parts.tk hk (by decide) (by decide) (by decide) (by decide) (by decide)⟩
theorem aJ.dd {w w':World} {b:Nat} {T:Nat→Prop} {g:Nat} {t:aK} (h:aJ w b T g t) (hk:aM DD w w'):aJ w' b T g t:=by
 obtain⟨sv,wv,gs,css,V⟩:=h.at_;exact⟨h.ok,h.ge,sv,wv,gs,css,hk.blk _ _ _ V.blk (by decide),hk.owns V.qL (by decide),⟨V.sites.len,V.sites.nd,fun i h1 h2=>(V.sites.each i h1 h2).dd hk⟩,V.gT,⟨V.lets.len,fun i h1 h2=>(V.lets.each i h1 h2).dd hk⟩,hk.owns V.oV (by decide),V.wT⟩
theorem KD.dd: ∀t,KD t=true→DD t=true:=fun t h=>by unfold KD at h;rw [Bool.and_eq_true] at h;exact h.2
theorem abE.row:(Tryz.prog.info? 89).map (fun i=>(i.zero,i.size,i.bytes))=some (some (.slice none 0 0),1,24):=by kernel_rfl
theorem Sw (a:Option Addr) (n c:Nat) (hn:5 < n) (w:World):Calls Tryz.prog 58 #[.slice a n c] w fun e w'=>e= .returned (.tuple #[.pointer none, .int .i64 2])∧w'=w:=by
 have d5:decide ((5:Int) < (n:Int))=true:=by rw[decide_eq_true_eq];omega
 go_enter Tryz.func58,Tryz.ntmps58;go_wp2;go_ret2;exact⟨rfl,rfl⟩
theorem eN.site {B d:Nat} {w w':World} {s:bn} {p:iT} {v u:Value} {us:List Value} (h:eN B d w s) (ht:s.fQ=none) (h5:s.fs.length < 5) {tv fv:Value} (hbk:w'.heap[d]? =some (.cells #[tv,fv] 41 (0,0))) (htv:tv= .pointer none) (oC:kI w' B (s.fs++[p]) (us++[u])) (hrow:w'.ownsRow B 89 1 v (s.fs.length+1) (us++[u])):eN B d (w'.setCell ⟨d,1,none⟩ v) (Go.Proofs.YtajgndoiddmbmaaGreatDoor.bump { s with fs:=s.fs++[p] }):=by
 have hk:aM DD w' (w'.setCell ⟨d,1,none⟩ v):=aM.iG hbk (by decide);refine⟨h.ge,by show(s.fs++[p]).length≤5;rw [List.length_append,List.length_singleton];omega,⟨tv,v,us++[u], ?_,oC.map fun _ _ hf=>hf.tk hk (by decide) (by decide), ?_, ?_⟩,fun t e=> ?_⟩
 ·rw[ax hbk];rfl
 ·show World.ownsRow _ B _ 1 v (s.fs++[p]).length _;rw[List.length_append,List.length_singleton];exact hk.owns hrow (by decide)
 ·show xU B _ tv s.fQ;rw[ht];exact htv
 ·have e2:s.fQ=some t:=e;rw[ht] at e2;cases e2
theorem eN.start {B d g b:Nat} {w w':World} {s:bn} {T:Nat→Prop} (h:eN B d w s) {tv fv:Value} {us:List Value} (hbk:w'.heap[d]? =some (.cells #[tv,fv] 41 (0,0))) (oC:kI w' B s.fs us) (hrow:w'.ownsRow B 89 1 fv s.fs.length us) (hb:B≤b) (ht:aJ w' b T g (rF s.fs)):eN B d (w'.setCell ⟨d,0,none⟩ (.pointer (some ⟨g,0,none⟩))) (Go.Proofs.YtajgndoiddmbmaaGreatDoor.bump { s with fQ:=some (rF s.fs) }):=by
 have hk:aM DD w' (w'.setCell ⟨d,0,none⟩ (.pointer (some ⟨g,0,none⟩))):=aM.iG hbk (by decide);refine⟨h.ge,h.l5,⟨_,fv,us, ?_,oC.map fun _ _ hf=>hf.tk hk (by decide) (by decide),hk.owns hrow (by decide),⟨g,b,T,rfl,hb,ht.dd hk⟩⟩,fun t e i hi=> ?_⟩
 ·rw[ax hbk];rfl
 ·have e2:some (rF s.fs)=some t:=e;injection e2 with e2
  subst e2;have h0:((rF s.fs).sites[i]).stamp=0:=by
   unfold rF at hi ⊢;simp only[List.getElem_mapIdx];rfl
  rw[h0];show(0:Int)≤((s.n+1:Nat):Int);omega
theorem dsite_c (B d g0 g1 un uc B2:Nat) (ua:Option Addr) (p:iT) (wo:World) (s:bn) (hA:eN B d wo s) (_hgd:mY s) (hG:Gd B wo) (h0:wo.heap[g0]? =some (.cells #[.pointer (some ⟨d,0,none⟩)] 37 (0,0))) (h1:wo.heap[g1]? =some (.cells #[.slice ua un uc] 89 (0,0))) (hf:FO wo B2 (.slice ua un uc) p) (bO:B≤B2):
  Calls Tryz.prog 56 #[.pointer (some ⟨g0,0,none⟩), .pointer (some ⟨g1,0,none⟩)] wo (dA B d wo (pR p s)):=by
 have fL:=jD (cq 0 h0 rfl);have dF:=jD (ai h0);have lM:=jD (cq 0 h1 rfl);have fe:=jD (ai h1);obtain⟨tv,fa,fc,us,hbk,oC,hrow,cF⟩:=hA.open_;have HA:=jD hA;have HG:=jD hG;have Ai:=jD oC;have kH:=jD hrow;have Eb:=jD hA.l5;have ek:=jD (show B≤wo.heap.size from Nat.le_trans hA.ge (Nat.le_of_lt hA.lt));have bU:=jD hbk;have aZ:=jD (show B≤d from hA.ge);have qA:=oC.len;have HUO:=jD (show ∀u∈us,u.oneCell'=true from oC.one);have hc0:=fL.o;have hl0:=dF.o;have hc1:=cq 0 hbk rfl;have hc2:=cq 1 hbk rfl;have Gg:=ai hbk;cases htn:s.fQ with
 | some t=>
  rw[htn] at cF;obtain⟨g,b,T,rfl, -, -⟩:=cF;have HE:=jD (show pR p s=(.error 5,s) by unfold pR;rw [if_pos (by rw[htn];rfl)]);clear hA _hgd hG oC hrow hbk htn h0 h1 hf;go_enter Tryz.func56,Tryz.ntmps56;go_wp2_with fail
  refine(mB 5 _).mono ?_;rintro e w1 ⟨rfl,rfl⟩;unfold bG;go_wp2;refine⟨rfl, ?_⟩;rw[HE.o];exact dA.look (r:= .error 5) HA.o (br)
 | none=>
  rw[htn] at cF;obtain rfl:tv= .pointer none:=cF;have eZ:=jD htn;have abt:=jD hc2;have jO:=jD hf;have HCA:=jD (aF.fZ hrow (by have:=Eb.o;omega));have HS5:=jD (show s.fs.length < 5→pR p s=(.ok ⟨#[111,107]⟩, { s with fs:=s.fs++[p] }) from fun h=>by unfold pR;rw [if_neg (by rw[htn];decide),if_pos h]);have HS6:=jD (show ¬s.fs.length < 5→pR p s=(.error 2,s) from fun h=>by unfold pR;rw [if_neg (by rw[htn];decide),if_neg h]);obtain⟨n,hn⟩: ∃n,n=s.fs.length:=⟨_,rfl⟩
  rw[←hn] at qA hc2 hbk abt bU kH Eb HCA HS5 HS6;have HN:=jD hn;have h6:n≤5:=Eb.o;clear hA _hgd hG oC hrow hbk htn h0 h1 hf hn;go_enter Tryz.func56,Tryz.ntmps56;go_wp2;clear hc0 hl0 hc1 hc2 Gg;refine Cl.aV 31 rfl [7] (fun w=>Below wo.heap.size wo w) (fun jq=>match jq with | 4=>[7] | 6=>[7] | _=>[]) (fun jq v ww=>match jq with | 0=>v= .pointer (some ⟨d,0,none⟩) | 1=>v= .pointer (some ⟨d,0,none⟩) | 2=>v= .pointer (some ⟨d,1,none⟩) | 3=>v= .slice fa n fc | 4=> ∃a c,v= .slice a n c∧ww.ownsRow wo.heap.size 89 1 (.slice a n c) n us | 5=>v= .slice ua un uc | 6=> ∃g7,v= .slice (some ⟨g7,0,none⟩) 1 1∧ww.heap[g7]? =some (Obj.cells #[.slice ua un uc] 89 (0,0)) | 7=> ∃a c,v= .slice a (n+1) c∧ww.ownsRow wo.heap.size 89 1 (.slice a (n+1) c) (n+1) (us++[.slice ua un uc]) | 8=> ∃a c,v= .slice a (n+1) c∧ww.ownsRow wo.heap.size 89 1 (.slice a (n+1) c) (n+1) (us++[.slice ua un uc]) | _=>True) (fun ww=>Below wo.heap.size wo ww) (fun jq ww aR=>jq≠7→Below ww.heap.size ww aR) Tryz.mixed (by decide+kernel) (br).drew ((br).drew) ?_ (fun q w w' hk h hR=>aj h (hR (by simpa using hk))) ?_ ?_
  ·intro q r v w w' hne hk hlt h hR;match r,hk,hlt,h,hne with
   | 0,_,_,h,_=>exact h
   | 1,_,_,h,_=>exact h
   | 2,_,_,h,_=>exact h
   | 3,_,_,h,_=>exact h
   | 4,hk,_,h,_=>exact (fun hb=>by obtain⟨a,c,e,k⟩:=h;exact ⟨a,c,e,aI k hb⟩) (hR (by simpa using hk))
   | 5,_,_,h,_=>exact h
   | 6,hk,_,h,_=>exact (fun hb=>by obtain⟨g7,e,k⟩:=h;exact ⟨g7,e,ag hb k⟩) (hR (by simpa using hk))
   | 7,_,_,h,hne=>exact (fun hb=>by obtain⟨a,c,e,k⟩:=h;exact ⟨a,c,e,aI k hb⟩) (hR (by exact hne))
   | 8,_,hlt,h,_=>exact (fun hb=>by obtain⟨a,c,e,k⟩:=h;exact ⟨a,c,e,aI k hb⟩) (hR (by intro e;subst e;exact absurd hlt (by decide+kernel)))
   | _+9,_,_,_,_=>trivial
  ·refine⟨?_, ?_, ?_, ?_, ?_, ?_, ?_, ?_, ?_,trivial⟩
   ·intro x wx hG;have f0:=hG.o 0;replace hG:=hG.g;have oP:=ah hG fL.o;have hl:=Nat.lt_of_lt_of_le dF.o hG.size;go_wp2;exact⟨_,rfl,rfl,hG,fun _=>br⟩
   ·intro x wx hG;have⟨g0,og⟩:=gs 12 (hG.c 0 _ rfl);replace hG:=hG.g;go_wp2;exact⟨_,rfl,rfl,hG,fun _=>br⟩
   ·intro x wx hG;have⟨g1,tq⟩:=gs 13 (hG.c 1 _ rfl);replace hG:=hG.g;go_wp2;exact⟨_,rfl,rfl,hG,fun _=>br⟩
   ·intro x wx hG;have⟨g2,vD⟩:=gs 14 (hG.c 2 _ rfl);replace hG:=hG.g;have c_HBC1:=ah hG abt.o;have hl:=Nat.lt_of_lt_of_le (ai bU.o) hG.size;go_wp2;exact⟨_,rfl,rfl,hG,fun _=>br⟩
   ·intro x wx hG;have⟨g3,qF⟩:=gs 15 (hG.c 3 _ rfl);replace hG:=hG.g;have hbs:=hG.size;have Bv:=jD (aF.below HCA.o hG);go_wp2_with (at_builtin;apply Classical.byContradiction;intro hcon)
    refine hcon ?_;refine bM rfl _ _ 39 rfl wo.heap.size 89 (.slice none 0 0) 1 24 Tryz.underlying39 abE.row rfl (by decide) (.slice none 0 0) 0 [] ?hz (World.ownsRow_nil _ _ _ _) (.slice fa n fc) n _ ?hx Bv.o (by rw[qA,Nat.mul_one]) HUO.o hbs (by unfold maxLen;omega) (by omega) ?_
    case hz=>rfl
    case hx=>exact g3
    intro v' wq ho hgr;rw[Nat.zero_add,List.nil_append] at ho;have oK:=jD (show Below wx.heap.size wx wq from(br).grown hgr (Nat.le_refl _) (by intro k hk;simp [Value.ownBlock] at hk));obtain⟨qa,qc,hq⟩:=ay ho;subst hq;have HO:=jD ho;clear ho hgr;go_wp2;exact⟨_,rfl,⟨_,_,rfl,HO.o⟩,aj hG oK.o,fun _=>oK.o⟩
   ·intro x wx hG;have f1:=hG.o 1;replace hG:=hG.g;have vH:=ah hG lM.o;have hl:=Nat.lt_of_lt_of_le fe.o hG.size;go_wp2;exact⟨_,rfl,rfl,hG,fun _=>br⟩
   ·intro x wx hG;have⟨g5,sj⟩:=gs 17 (hG.c 5 _ rfl);replace hG:=hG.g;go_wp2;exact⟨_,rfl,⟨_,rfl,au _ _ _ _ rfl⟩,aj hG (aG _),fun _=>aG _⟩
   ·intro x wx hG;have g4: ∃a c,(x.tmps.getD 16 undef)= .slice a n c∧wx.ownsRow wo.heap.size 89 1 (.slice a n c) n us:=hG.c 4 _ rfl;have g6: ∃g7,(x.tmps.getD 18 undef)= .slice (some ⟨g7,0,none⟩) 1 1∧wx.heap[g7]? =some (Obj.cells #[.slice ua un uc] 89 (0,0)):=hG.c 6 _ rfl;replace hG:=hG.g;obtain⟨a4,c4,hv4,Gf⟩:=g4;obtain⟨g9,Vj,gP⟩:=g6;have Aa:=jD Gf;have aeY:=hv4;rw[Array.getD_eq_getD_getElem?] at aeY;have aeX:=Vj;rw[Array.getD_eq_getD_getElem?] at aeX;have hbs:=hG.size;have lu:=jD (show aF wx (.slice (some ⟨g9,0,none⟩) 1 1) 1 [.slice ua un uc] from aF.mk (Nat.le_refl _) (by decide) (ai gP) fun j x hj=>by rw[Nat.zero_add];exact aD gP (by simpa using hj));have vR:=jD (show ∀u∈([.slice ua un uc]:List Value),u.oneCell'=true by intro u hu;rw [List.mem_singleton] at hu;subst hu;rfl);have iV:=jD hG;clear Gf gP;go_wp2_with (at_builtin;apply Classical.byContradiction;intro hcon)
    refine hcon ?_;refine bM rfl _ _ 39 rfl wo.heap.size 89 (.slice none 0 0) 1 24 Tryz.underlying39 abE.row rfl (by decide) (.slice a4 n c4) n us ?hz (Aa.o) (.slice (some ⟨g9,0,none⟩) 1 1) 1 _ ?hx lu.o rfl vR.o hbs (by unfold maxLen;omega) (by omega) ?_
    case hz=>exact hv4
    case hx=>exact Vj
    intro v' wq ho hgr;have oK:=jD (iV.o.grown hgr hbs (fun k hk=>(Aa.o.lt k hk).1));obtain⟨qa,qc,hq⟩:=ay ho;subst hq;have HO:=jD ho;clear ho hgr;go_wp2;exact⟨_,rfl,⟨_,_,rfl,HO.o⟩,oK.o,fun h=>absurd rfl h⟩
   ·intro x wx hG;have g7: ∃a c,(x.tmps.getD 19 undef)= .slice a (n+1) c∧wx.ownsRow wo.heap.size 89 1 (.slice a (n+1) c) (n+1) (us++[.slice ua un uc]):=hG.c 7 _ rfl;replace hG:=hG.g;obtain⟨a7,c7,hv7,ho7⟩:=g7;have HO7:=jD ho7;have aeW:=hv7;rw[Array.getD_eq_getD_getElem?] at aeW;clear ho7;go_wp2;exact⟨_,rfl,⟨_,_,rfl,HO7.o⟩,hG,fun _=>br⟩
  ·intro af w9 hg hF;obtain⟨g0,g1,g2,g3,g4,g5,g6,g7,g8, -⟩:=hF;replace g8: ∃a c,(af 8)= .slice a (n+1) c∧w9.ownsRow wo.heap.size 89 1 (.slice a (n+1) c) (n+1) (us++[.slice ua un uc]):=g8 rfl;simp only[Cl3.puts,gq (af 0) g0,gq (af 1) g1,gq (af 2) g2,gq (af 3) g3,gq (af 5) g5];clear g0 g1 g2 g3 g4 g5 g6 g7;go_simp
   generalize af 8=g8 at*;obtain⟨qa,qc,P8,ho8⟩:=g8;rw[P8];have yx:=jD (bV ho8 ek.o);have HF9:=jD (show kI w9 B (s.fs++[p]) (us++[.slice ua un uc]) from kI.snoc (FO.mono (FO.iL jO.o hg) bO) (Ai.o.map fun _ _ h=>FO.iL h hg));have iU:=jD (show(s.fs++[p]).length=n+1 by rw[List.length_append,List.length_singleton,HN.o]);have aP:=jD hg;have afZ:=jD (ag hg bU.o);have HCX:=jD (ah hg fL.o);have hlx:=Nat.lt_of_lt_of_le dF.o hg.size;clear ho8 hg P8;by_cases h5:n < 5;rotate_left
   ·go_wp2_with fail
    (with_reducible refine(Sw qa (n+1) qc (by omega) w9).mono ?_);rintro e w1 ⟨rfl,rfl⟩;go_wp2_with fail
    refine(qZ 2 (by decide) _).mono ?_;rintro e w2 ⟨rfl,rfl⟩;unfold bG;go_wp2;refine⟨rfl, ?_⟩;rw[HS6.o h5];exact dA.look (r:= .error 2) HA.o aP.o
   have MH:=jD (show Calls Tryz.prog 58 #[.slice qa (n+1) qc] w9 fun e w'=> ∃g,e= .returned (.tuple #[.pointer (some ⟨g,0,none⟩), .int .i64 0])∧Below w9.heap.size w9 w' from by
    obtain⟨Fs,a1,a2,a3,a4⟩:=kI.row HF9.o (by rw[iU.o];exact yx.o) (by rw[iU.o];omega);refine(Pf _ Fs (fun q=>w9.heap.size≤q) w9 a1 (by rw[a2,iU.o];omega) a3 (fun _ h=>h)).mono ?_;rintro e w' ⟨g,e1, -,e2⟩;exact⟨g,e1,e2⟩)
   go_wp2_with fail
   (with_reducible refine(MH.o).mono ?_);rintro e w1 ⟨g,rfl,hb1⟩;have bh:=jD hb1;clear hb1 MH;go_wp2_with fail
   refine(kS _).mono ?_;rintro e w2 ⟨rfl,rfl⟩;have y0:=ah bh.o HCX.o;have yl:=Nat.lt_of_lt_of_le hlx bh.o.size;have ou:=jD (ag bh.o afZ.o);have y1:=cq 1 ou.o rfl;have yf:=fq 1 ou.o;have yd:=ai ou.o;go_wp2;go_ret;rw[HS5.o h5];refine⟨rfl,eN.site HA.o eZ.o (by rw[←HN.o];exact h5) ou.o rfl (HF9.o.map fun _ _ h=>FO.iL h bh.o) (by rw[←HN.o];exact aI yx.o bh.o),((aM.of_below (aj aP.o bh.o)).trans (aM.iG ou.o (T:=DD) (by decide))).weak KD.dd,((aj aP.o bh.o).mono ek.o).setCell (p:=⟨d,1,none⟩) aZ.o _⟩
theorem Uf (B d g0:Nat) (wo:World) (s:bn) (hA:eN B d wo s) (_hgd:mY s) (hG:Gd B wo) (h0:wo.heap[g0]? =some (.cells #[.pointer (some ⟨d,0,none⟩)] 37 (0,0))):
  Calls Tryz.prog 59 #[.pointer (some ⟨g0,0,none⟩)] wo (dA B d wo (pP s)):=by
 have fL:=jD (cq 0 h0 rfl);have dF:=jD (ai h0);obtain⟨tv,fa,fc,us,hbk,oC,hrow,cF⟩:=hA.open_;have HA:=jD hA;have HG:=jD hG;have Ai:=jD oC;have kH:=jD hrow;have Eb:=jD hA.l5;have ek:=jD (show B≤wo.heap.size from Nat.le_trans hA.ge (Nat.le_of_lt hA.lt));have bU:=jD hbk;have aZ:=jD (show B≤d from hA.ge);have qA:=oC.len;have HUO:=jD (show ∀u∈us,u.oneCell'=true from oC.one);have hc0:=fL.o;have hl0:=dF.o;have hc1:=cq 0 hbk rfl;have hc2:=cq 1 hbk rfl;have Gg:=ai hbk;cases htn:s.fQ with
 | some t=>
  rw[htn] at cF;obtain⟨g,b,T,rfl, -, -⟩:=cF;have HE:=jD (show pP s=(.error 5,s) by unfold pP;rw [if_pos (by rw[htn];rfl)]);clear hA _hgd hG oC hrow hbk htn h0;go_enter Tryz.func59,Tryz.ntmps59;go_wp2_with fail
  refine(mB 5 _).mono ?_;rintro e w1 ⟨rfl,rfl⟩;unfold bG;go_wp2;refine⟨rfl, ?_⟩;rw[HE.o];exact dA.look (r:= .error 5) HA.o (br)
 | none=>
  rw[htn] at cF;obtain rfl:tv= .pointer none:=cF;have eZ:=jD htn;have HSA:=jD (show pP s=(.ok ⟨#[111,107]⟩, { s with fQ:=some (rF s.fs) }) by unfold pP;rw [if_neg (by rw[htn];decide)]);have MH:=jD (show Calls Tryz.prog 58 #[.slice fa s.fs.length fc] wo fun e w'=> ∃g,e= .returned (.tuple #[.pointer (some ⟨g,0,none⟩), .int .i64 0])∧aJ w' wo.heap.size (fun q=>wo.heap.size≤q) g (rF s.fs)∧Below wo.heap.size wo w' from by
   obtain⟨Fs,a1,a2,a3,a4⟩:=kI.row Ai.o kH.o (by have:=Eb.o;omega);rw[←Xh a4];exact Pf _ Fs (fun q=>wo.heap.size≤q) wo a1 (by rw[a2];exact Eb.o) a3 (fun _ h=>h))
  generalize hn:s.fs.length=n at hc2 bU MH;have HN:=jD hn;clear hA _hgd hG oC hrow hbk htn h0 hn qA;go_enter Tryz.func59,Tryz.ntmps59;go_wp2_with fail
  (with_reducible refine(MH.o).mono ?_);rintro e w1 ⟨g,rfl,ht1,hb1⟩;have Kr:=jD ht1;have bh:=jD hb1;clear ht1 hb1 MH hc0 hl0 hc1 hc2 Gg;go_wp2_with fail
  refine(kS _).mono ?_;rintro e w2 ⟨rfl,rfl⟩;have y0:=ah bh.o fL.o;have yl:=Nat.lt_of_lt_of_le dF.o bh.o.size;have ou:=jD (ag bh.o bU.o);have y1:=cq 0 ou.o rfl;have yf:=fq 0 ou.o;have yd:=ai ou.o;go_wp2;go_ret;rw[HSA.o];refine⟨rfl,eN.start HA.o ou.o (Ai.o.map fun _ _ h=>FO.iL h bh.o) (by have h9:=aI kH.o bh.o;rw [HN.o] at h9 ⊢;exact h9) ek.o Kr.o,((aM.of_below bh.o).trans (aM.iG ou.o (T:=DD) (by decide))).weak KD.dd,(bh.o.mono ek.o).setCell (p:=⟨d,0,none⟩) aZ.o _⟩
theorem ZV (B d g0:Nat) (wo:World) (s:bn) (hA:eN B d wo s) (_hgd:mY s) (hG:Gd B wo) (h0:wo.heap[g0]? =some (.cells #[.pointer (some ⟨d,0,none⟩)] 37 (0,0))):
  Calls Tryz.prog 71 #[.pointer (some ⟨g0,0,none⟩)] wo (dA B d wo (Sc s)):=by
 have fL:=jD (cq 0 h0 rfl);have dF:=jD (ai h0);obtain⟨tv,fa,fc,us,hbk,oC,hrow,cF⟩:=hA.open_;have HA:=jD hA;have HG:=jD hG;have Ai:=jD oC;have kH:=jD hrow;have Eb:=jD hA.l5;have ek:=jD (show B≤wo.heap.size from Nat.le_trans hA.ge (Nat.le_of_lt hA.lt));have bU:=jD hbk;have aZ:=jD (show B≤d from hA.ge);have qA:=oC.len;have HUO:=jD (show ∀u∈us,u.oneCell'=true from oC.one);have hc0:=fL.o;have hl0:=dF.o;have hc1:=cq 0 hbk rfl;have hc2:=cq 1 hbk rfl;have Gg:=ai hbk;cases htn:s.fQ with
 | none=>
  rw[htn] at cF;obtain rfl:tv= .pointer none:=cF;have eZ:=jD htn;clear hA _hgd hG oC hrow hbk htn h0 qA;go_enter Tryz.func71,Tryz.ntmps71;go_wp2_with fail
  (with_reducible refine(o8 d _ wo bU.o).mono ?_);rintro e w1 ⟨rfl,rfl⟩;unfold bG;go_wp2;exact⟨rfl,nu HA.o eZ.o (br) _⟩
 | some t=>
  rw[htn] at cF;obtain⟨g,b,T,rfl,hBb,cF⟩:=cF;have HT:=jD cF;have eZ:=jD htn;have Jo:=cF.ok.lw;have HWY:=jD (Yh g b T t wo cF);obtain⟨m,hm⟩: ∃m,m=t.way.length:=⟨_,rfl⟩
  rw[←hm] at HWY Jo;have HM:=jD hm;clear hA _hgd hG oC hrow hbk htn h0 qA cF hm;go_enter Tryz.func71,Tryz.ntmps71;go_wp2_with fail
  (with_reducible refine(o9 d g _ wo bU.o).mono ?_);rintro e w1 ⟨rfl,rfl⟩;go_wp2_with fail
  (with_reducible refine(HWY.o).mono ?_);rintro e w2 ⟨wa,wc,rfl, -,hb2⟩;have cw:=jD hb2;clear hb2 HWY hc0 hl0 hc1 hc2 Gg;have Rl:=jD (E8 B (.slice (some ⟨w2.heap.size,0,none⟩) 1 1) [(m:Nat)] (w2.alloc (.cells #[.int .i64 (m:Nat)] 3)) ((HG.o.below cw.o).below (aG _)) (Ce (l:=[(m:Nat)]) (au _ _ _ _ rfl) (show 1≤1000 by decide)) (by intro x hx;rw [List.mem_singleton] at hx;subst hx;omega) (show 1≤100 by decide));go_wp2_with fail
  (with_reducible refine(Rl.o).mono ?_);rintro e w3 ⟨rfl,hb3⟩;have eH:=jD (aj cw.o (aj (aG _) hb3));clear hb3 Rl;go_wp2;go_ret;exact uj HA.o eZ.o eH.o (r:= .ok (jf [(m:Nat)])) (by rw[HM.o]) rfl
def tW (v:aA):ByteArray:=(((((((⟨#[32]⟩:ByteArray)++v.id)++⟨#[58]⟩)++jw v.ds)++⟨#[58]⟩)++jw v.dc)++⟨#[58]⟩)++jw v.bd
def kO (l:List aA):ByteArray:=l.foldl (fun o v=>o++tW v) ⟨#[111,107]⟩
theorem Le (l:List aA) (v:aA):kO (l++[v])=kO l++tW v:=by unfold kO;rw [List.foldl_append];rfl
theorem BI {v:aA} (h:dz v):0≤v.ds∧0≤v.dc∧0≤v.bd∧v.ds < 10000000000∧v.dc < 10000000000∧v.bd < 10000000000:=by
 have h1:=h.dot;have h2:=h.bd;unfold bX at h1;simp only[Bool.and_eq_true,decide_eq_true_eq] at h1;omega
theorem LR {v:aA} (h:dz v):v.id.size≤8:=by
 have h1:=h.id;unfold gI at h1;simp only[Bool.and_eq_true,decide_eq_true_eq] at h1;exact h1.1.2
theorem O6 {v:aA} (h:dz v):(tW v).size≤42:=by
 obtain⟨a,b,c,d,e,f⟩:=BI h;have h1:=LR h;have h2:=kj a d;have h3:=kj b e;have h4:=kj c f;have z0:(⟨#[32]⟩:ByteArray).size=1:=rfl;have z1:(⟨#[58]⟩:ByteArray).size=1:=rfl;unfold tW;simp only[ByteArray.size_append];omega
theorem A3 {l:List aA} (h: ∀v∈l,dz v):(kO l).size≤2+42*l.length:=by
 have key: ∀(l:List aA) (o:ByteArray),(∀v∈l,dz v)→(l.foldl (fun o v=>o++tW v) o).size≤o.size+42*l.length:=by
  intro l;induction l with
  | nil=>intro o _;exact Nat.le_refl _
  | cons v l ih=>
   intro o h;have h1:=ih (o++tW v) fun m hm=>h m (List.mem_cons_of_mem _ hm);have h2:=O6 (h v (List.mem_cons_self ..));rw[ByteArray.size_append] at h1;rw[List.foldl_cons,List.length_cons];omega
 exact key l ⟨#[111,107]⟩ h
theorem dshelf_c (B d g0 g1:Nat) (i:Nat) (wo:World) (s:bn) (hA:eN B d wo s) (hgd:mY s) (hG:Gd B wo) (h0:wo.heap[g0]? =some (.cells #[.pointer (some ⟨d,0,none⟩)] 37 (0,0))) (h1:wo.heap[g1]? =some (.cells #[.int .i64 (i:Nat)] 3 (0,0))):
  Calls Tryz.prog 73 #[.pointer (some ⟨g0,0,none⟩), .pointer (some ⟨g1,0,none⟩)] wo (dA B d wo (onTown (fun t=>(if sY t i=0 then .ok (kO (CL t i)) else .error (sY t i),t)) s)):=by
 have fL:=jD (cq 0 h0 rfl);have dF:=jD (ai h0);have lM:=jD (cq 0 h1 rfl);have fe:=jD (ai h1);obtain⟨tv,fa,fc,us,hbk, -, -,cF⟩:=hA.open_;have HA:=jD hA;have HG:=jD hG;have pL:=jD hgd;cases htn:s.fQ with
 | none=>
  rw[htn] at cF;obtain rfl:tv= .pointer none:=cF;have eZ:=jD htn;have bU:=jD hbk;clear hA hgd hG hbk htn h0 h1;go_enter Tryz.func73,Tryz.ntmps73;go_wp2;refine uS.aV 50 rfl [] (fun _=>True) (fun _=>[]) (fun jq v ww=>match jq with | 0=>v= .pointer (some ⟨d,0,none⟩) | 1=>False | 2=>False | 3=>False | 4=>False | 6=>False | 7=>False | 8=>False | 9=>False | 10=>False | 11=>False | _=>True) (fun ww=>Below wo.heap.size wo ww) (fun jq ww aR=>Below ww.heap.size ww aR) Tryz.mixed (by decide+kernel) (br).drew trivial (fun q r v w w' _ _ _ h _=>h) (fun _ _ _ _ _ _=>trivial) ?_ ?_
  ·refine⟨?_, ?_, ?_, ?_, ?_, ?_, ?_, ?_, ?_, ?_, ?_, ?_,trivial⟩
   ·intro x wx hG;have f0:=hG.o 0;replace hG:=hG.g;have c:=ah hG fL.o;have hl:=Nat.lt_of_lt_of_le dF.o hG.size;go_wp2;exact⟨_,rfl,rfl,hG,br⟩
   ·intro x wx hG;have⟨g0,og⟩:=gs 9 (hG.c 0 _ rfl);have hg:=hG.g;have nM:=jD hG.defers;clear hG;have HN:=jD (o8 d _ wx (ag hg bU.o));go_wp2_with fail
    (with_reducible refine(HN.o).mono ?_);rintro e wq ⟨rfl,rfl⟩;unfold bG;go_wp2;exact⟨nM.o,nu HA.o eZ.o hg _⟩
   ·intro x wx hG;exact False.elim (hG.c 1 _ rfl)
   ·intro x wx hG;exact False.elim (hG.c 2 _ rfl)
   ·intro x wx hG;exact False.elim (hG.c 3 _ rfl)
   ·intro x wx hG;have f1:=hG.o 1;replace hG:=hG.g;have c:=ah hG lM.o;have hl:=Nat.lt_of_lt_of_le fe.o hG.size;go_wp2;exact⟨_,rfl,trivial,hG,br⟩
   ·intro x wx hG;exact False.elim (hG.c 4 _ rfl)
   ·intro x wx hG;exact False.elim (hG.c 6 _ rfl)
   ·intro x wx hG;exact False.elim (hG.c 7 _ rfl)
   ·intro x wx hG;exact False.elim (hG.c 7 _ rfl)
   ·intro x wx hG;exact False.elim (hG.c 8 _ rfl)
   ·intro x wx hG;exact False.elim (hG.c 9 _ rfl)
  ·intro af wx hg hF;obtain⟨g0,g1,g2,g3,g4,g5,g6,g7,g8,g9,g10,g11, -⟩:=hF;exact(g1 rfl).elim
 | some t=>
  rw[htn] at cF;obtain⟨g,b,T,rfl,hBb,cF⟩:=cF;have HT:=jD (cF.re hBb);have eZ:=jD htn;have cK:=jD hBb;have bU:=jD hbk;have pM:=jD (cq 0 hbk rfl);have tD:=jD (ai hbk);have HST:=jD (show gL t (s.n:Nat) from fun i hi=>hA.st t htn i hi);have ek:=jD (show B≤wo.heap.size from Nat.le_trans hA.ge (Nat.le_of_lt hA.lt));clear hA hgd hG hbk htn cF hBb h0 h1;obtain⟨E9,iH⟩: ∃E9,E9=sY t i:=⟨_,rfl⟩
  obtain⟨L9,Vz⟩: ∃L9,L9=CL t i:=⟨_,rfl⟩
  have cz:=jD (show nK L9 from by
   rw[Vz];unfold CL;split
   ·rename_i hi;obtain⟨_,_,_,_,_,_,_,hS, -⟩:=HT.o.use hi;exact hS.ok.L
   ·exact⟨by simp,by simp,by simp,by simp⟩)
  have lI:=jD (fun (wx:World) (hp:Below wo.heap.size wo wx)=>WQ g b (Tw B wo) t i wx (HT.o.below hp));rw[←iH,←Vz] at lI;have om:=jD iH;have HL9:=jD Vz;clear iH Vz;go_enter Tryz.func73,Tryz.ntmps73;go_wp2;refine uS.aV 50 rfl [] (fun _=>True) (fun _=>[]) (fun jq v ww=>match jq with | 0=>v= .pointer (some ⟨d,0,none⟩) | 1=>v= .pointer (some ⟨d,0,none⟩) | 2=>v= .pointer (some ⟨d,0,none⟩) | 3=>v= .pointer (some ⟨d,0,none⟩) | 4=>v= .pointer (some ⟨g,0,none⟩) | 5=>v= .int .i64 (i:Nat) | 6=> ∃a c,v= .tuple #[.slice a L9.length c, .int .i64 E9]∧bA ww wo.heap.size (.slice a L9.length c) L9 | 7=> ∃a c,v= .tuple #[.slice a L9.length c, .int .i64 E9]∧bA ww wo.heap.size (.slice a L9.length c) L9 | 8=> ∃a c,v= .slice a L9.length c∧bA ww wo.heap.size (.slice a L9.length c) L9 | 9=>v= .int .i64 E9 | 10=> ∃a c,v= .slice a L9.length c∧bA ww wo.heap.size (.slice a L9.length c) L9 | 11=>v= .int .i64 E9 | _=>True) (fun ww=>Below wo.heap.size wo ww) (fun jq ww aR=>Below ww.heap.size ww aR) Tryz.mixed (by decide+kernel) (br).drew trivial ?_ (fun _ _ _ _ _ _=>trivial) ?_ ?_
  ·intro q r v w w' hne hk hlt h hR;match r,hk,hlt,h,hne with
   | 0,_,_,h,_=>exact h
   | 1,_,_,h,_=>exact h
   | 2,_,_,h,_=>exact h
   | 3,_,_,h,_=>exact h
   | 4,_,_,h,_=>exact h
   | 5,_,_,h,_=>exact h
   | 6,_,_,h,_=>exact (fun hb=>by obtain⟨a,c,e,k⟩:=h;exact ⟨a,c,e,bA.below k hb⟩) hR
   | 7,_,_,h,_=>exact (fun hb=>by obtain⟨a,c,e,k⟩:=h;exact ⟨a,c,e,bA.below k hb⟩) hR
   | 8,_,_,h,_=>exact (fun hb=>by obtain⟨a,c,e,k⟩:=h;exact ⟨a,c,e,bA.below k hb⟩) hR
   | 9,_,_,h,_=>exact h
   | 10,_,_,h,_=>exact (fun hb=>by obtain⟨a,c,e,k⟩:=h;exact ⟨a,c,e,bA.below k hb⟩) hR
   | 11,_,_,h,_=>exact h
   | _+12,_,_,_,_=>trivial
  ·refine⟨?_, ?_, ?_, ?_, ?_, ?_, ?_, ?_, ?_, ?_, ?_, ?_,trivial⟩
   ·intro x wx hG;have f0:=hG.o 0;replace hG:=hG.g;have oP:=ah hG fL.o;have hl:=Nat.lt_of_lt_of_le dF.o hG.size;go_wp2;exact⟨_,rfl,rfl,hG,br⟩
   ·intro x wx hG;have⟨g0,og⟩:=gs 9 (hG.c 0 _ rfl);replace hG:=hG.g;have HN:=jD (o9 d g _ wx (ag hG bU.o));go_wp2_with fail
    (with_reducible refine(HN.o).mono ?_);rintro e wq ⟨rfl,rfl⟩;go_wp2;exact⟨_,rfl,rfl,hG,br⟩
   ·intro x wx hG;have⟨g1,tq⟩:=gs 10 (hG.c 1 _ rfl);replace hG:=hG.g;go_wp2;exact⟨_,rfl,rfl,hG,br⟩
   ·intro x wx hG;have⟨g2,vD⟩:=gs 11 (hG.c 2 _ rfl);replace hG:=hG.g;go_wp2;exact⟨_,rfl,rfl,hG,br⟩
   ·intro x wx hG;have⟨g3,qF⟩:=gs 12 (hG.c 3 _ rfl);replace hG:=hG.g;have AU:=ah hG pM.o;have hl:=Nat.lt_of_lt_of_le tD.o hG.size;go_wp2;exact⟨_,rfl,rfl,hG,br⟩
   ·intro x wx hG;have f1:=hG.o 1;replace hG:=hG.g;have vH:=ah hG lM.o;have hl:=Nat.lt_of_lt_of_le fe.o hG.size;go_wp2;exact⟨_,rfl,rfl,hG,br⟩
   ·intro x wx hG;have⟨g4,qE⟩:=gs 13 (hG.c 4 _ rfl);have⟨g5,sj⟩:=gs 14 (hG.c 5 _ rfl);replace hG:=hG.g;have HN:=jD (lI.o wx hG);go_wp2_with fail
    (with_reducible refine(HN.o).mono ?_);rintro e wq ⟨qa,qc,rfl,n9,rZ⟩;have HV:=jD (bA.mono n9 hG.size);have oK:=jD rZ;clear n9 rZ HN;go_wp2;exact⟨_,rfl,⟨_,_,rfl,HV.o⟩,aj hG oK.o,oK.o⟩
   ·intro x wx hG;have g6: ∃a c,(x.tmps.getD 15 undef)= .tuple #[.slice a L9.length c, .int .i64 E9]∧bA wx wo.heap.size (.slice a L9.length c) L9:=hG.c 6 _ rfl;replace hG:=hG.g;obtain⟨aq,cqx,hq,hoq⟩:=g6;have MF:=jD hoq;have Jr:=hq;rw[Array.getD_eq_getD_getElem?] at Jr;clear hoq;go_wp2;exact⟨_,rfl,⟨_,_,rfl,MF.o⟩,hG,br⟩
   ·intro x wx hG;have g7: ∃a c,(x.tmps.getD 8 undef)= .tuple #[.slice a L9.length c, .int .i64 E9]∧bA wx wo.heap.size (.slice a L9.length c) L9:=hG.c 7 _ rfl;replace hG:=hG.g;obtain⟨aq,cqx,hq,hoq⟩:=g7;have MF:=jD hoq;have Jr:=hq;rw[Array.getD_eq_getD_getElem?] at Jr;clear hoq;go_wp2;exact⟨_,rfl,⟨_,_,rfl,MF.o⟩,hG,br⟩
   ·intro x wx hG;have g7: ∃a c,(x.tmps.getD 8 undef)= .tuple #[.slice a L9.length c, .int .i64 E9]∧bA wx wo.heap.size (.slice a L9.length c) L9:=hG.c 7 _ rfl;replace hG:=hG.g;obtain⟨aq,cqx,hq,hoq⟩:=g7;have MF:=jD hoq;have Jr:=hq;rw[Array.getD_eq_getD_getElem?] at Jr;clear hoq;go_wp2;exact⟨_,rfl,rfl,hG,br⟩
   ·intro x wx hG;have g8: ∃a c,(x.tmps.getD 16 undef)= .slice a L9.length c∧bA wx wo.heap.size (.slice a L9.length c) L9:=hG.c 8 _ rfl;replace hG:=hG.g;obtain⟨aq,cqx,hq,hoq⟩:=g8;have MF:=jD hoq;have Jr:=hq;rw[Array.getD_eq_getD_getElem?] at Jr;clear hoq;go_wp2;exact⟨_,rfl,⟨_,_,rfl,MF.o⟩,hG,br⟩
   ·intro x wx hG;have⟨g9,zy⟩:=gs 17 (hG.c 9 _ rfl);replace hG:=hG.g;go_wp2;exact⟨_,rfl,rfl,hG,br⟩
  ·intro af w9 hg hF;obtain⟨g0,g1,g2,g3,g4,g5,g6,g7,g8,g9,g10,g11, -⟩:=hF;replace g10: ∃a c,(af 10)= .slice a L9.length c∧bA w9 wo.heap.size (.slice a L9.length c) L9:=g10 rfl;simp only[Cl3.puts,gq (af 0) g0,gq (af 1) g1,gq (af 2) g2,gq (af 3) g3,gq (af 4) g4,gq (af 5) g5,gq (af 9) g9,gq (af 11) g11];clear g0 g1 g2 g3 g4 g5 g6 g7 g8 g9 g11;go_simp
   generalize af 10=u10 at*;obtain⟨qa,qc,Y5,Zf⟩:=g10;rw[Y5];have iV:=jD hg;have V7:=jD (bA.at_ Zf (fun v hv=>⟨(cz.o.ok v hv).past.len,(cz.o.ok v hv).len⟩) (by have:=cz.o.len;omega));clear hg Zf Y5;by_cases hz:E9=0;rotate_left
   ·go_wp2_with fail
    refine(qZ E9 hz _).mono ?_;rintro e wq ⟨rfl,rfl⟩;unfold bG;go_wp2;refine⟨rfl, ?_⟩;exact uj HA.o eZ.o iV.o (r:= .error E9) (by rw[←om.o,if_neg hz]) rfl
   subst hz;go_wp2_with fail
   refine(kS _).mono ?_;rintro e wq ⟨rfl,rfl⟩;have lK:=jD (HG.o.below iV.o);have HVV:=jD V7.o.open_;have fP:=cz.o.len;go_wp2;go_loopw [22,5] (fun i o wr=> ∃k:Nat,k≤L9.length∧i= .int .i64 k∧o= .string (kO (L9.take k))∧Below wq.heap.size wq wr) (fun i _ _=>L9.length - (intOf i).toNat)
   case atStart=>exact ⟨0,Nat.zero_le _,rfl,rfl,br⟩
   case round=>
    obtain⟨k,hk,rfl,rfl,hb⟩:=hrel;have HB:=jD hb;by_cases hlt:k < L9.length;rotate_left
    ·obtain rfl:k=L9.length:=by omega
     rw[List.take_length];have hkb:decide ((L9.length:Int) < (L9.length:Int))=false:=by simp
     go_wp2;go_ret;exact uj HA.o eZ.o (aj iV.o HB.o) (r:= .ok (kO L9)) (by rw[←om.o,if_pos rfl,HL9.o]) rfl
    have hkb:decide ((k:Int) < (L9.length:Int))=true:=by simp;omega
    obtain⟨za,zc,hze, -, -, -,hvl⟩:=HVV.o;simp only[Value.slice.injEq,true_and] at hze;obtain⟨rfl,rfl⟩:=hze;rcases hvl with hnil | ⟨rb,off,rfl,hrb,hrc⟩
    ·rw[hnil] at hlt;simp at hlt
    obtain⟨c,hE,hcc⟩:=hrc k hlt;obtain⟨UU,XX,rfl,nB⟩:=hE;have hcl:=fun (j:Nat) (y:Value) (hy:(aN L9[k] UU XX).toList[j]? =some y)=>xo (w:=wr) (b:=rb) (off:=off) (i:=k) (fun j y hy=>(hb.cell (p:=⟨rb,off+(k*eu.size+j),none⟩) hrb).trans (hcc j y hy)) hy;have d0:=hcl 0 _ rfl;have d1:=hcl 1 _ rfl;have d2:=hcl 2 _ rfl;have d3:=hcl 3 _ rfl;have d4:=hcl 4 _ rfl;have d5:=hcl 5 _ rfl;have d6:=hcl 6 _ rfl;have d7:=hcl 7 _ rfl;rw[Nat.add_zero] at d0;have hbr:=Nat.lt_of_lt_of_le hrb hb.size;obtain⟨ua,uc,rfl⟩:=nB.vec.shape;obtain⟨xa,xc,rfl⟩:=nB.more.shape;have Zx:=cz.o.ok _ (List.getElem_mem hlt);have dY:=jD (show(kO (L9.take k)).size≤10000 from by
     have h1:=A3 (l:=L9.take k) fun v hv=>cz.o.ok v (List.mem_of_mem_take hv);rw[List.length_take] at h1;omega)
    have Kr:=jD (show kO (L9.take (k+1))=kO (L9.take k)++tW L9[k] from by rw[List.take_succ_eq_append_getElem hlt,Le]);obtain⟨v1,v2,v3,v4⟩:=BI Zx;have Zm:=LR Zx;obtain⟨BK,kD⟩: ∃BK,BK=wr.heap.size:=⟨_,rfl⟩
    obtain⟨w1,hw1⟩: ∃w1,w1=wr.alloc (.cells (aN L9[k] (.slice ua L9[k].past.vec.length uc) (.slice xa L9[k].past.more.length xc)) 120):=⟨_,rfl⟩
    have hb1:Below wr.heap.size wr w1:=by rw[hw1];exact aG _
    have bh:=jD (show w1.heap[BK]? =some (Obj.cells (aN L9[k] (.slice ua L9[k].past.vec.length uc) (.slice xa L9[k].past.more.length xc)) 120 (0,0)) by rw[hw1];exact au _ _ _ _ kD);have abl:=jD (aj HB.o hb1);clear hcc hcl nB hrc hb1;generalize L9[k]=gX at*;obtain⟨o7,ds,oG,tg,nm,bd,kk⟩:=gX;simp only at*;generalize kO (L9.take k)=o1 at*;unfold aN at hw1;go_wp2;rw[←kD,←hw1];clear d0 d1 d2 d3 d4 d5 d6 d7 hw1 kD;have HVT:=jD (show tW ⟨o7,ds,oG,tg,nm,bd,kk⟩=(((((((⟨#[32]⟩:ByteArray)++o7)++⟨#[58]⟩)++jw ds)++⟨#[58]⟩)++jw oG)++⟨#[58]⟩)++jw bd from rfl);have HI1:=jD (fun (wx:World) (hg:Gd B wx)=>wK ds (by omega) (by omega) B wx hg);have Af:=jD (fun (wx:World) (hg:Gd B wx)=>wK oG (by omega) (by omega) B wx hg);have gD:=jD (fun (wx:World) (hg:Gd B wx)=>wK bd (by omega) (by omega) B wx hg);rw[show(⟨(Lib.itoa ds).toArray⟩:ByteArray)=jw ds from rfl] at HI1;rw[show(⟨(Lib.itoa oG).toArray⟩:ByteArray)=jw oG from rfl] at Af;rw[show(⟨(Lib.itoa bd).toArray⟩:ByteArray)=jw bd from rfl] at gD;have s1:=kj v1 v4.1;have s2:=kj v2 v4.2.1;have s3:=kj v3 v4.2.2;generalize jw ds=i1 at*;generalize jw oG=i2 at*;generalize jw bd=i3 at*;have so:=dY.o;have HGW:=jD (lK.o.below abl.o);have C0:=jD (cq 0 bh.o rfl);have C1:=jD (cq 1 bh.o rfl);have C2:=jD (cq 2 bh.o rfl);have C5:=jD (cq 5 bh.o rfl);have mG:=jD (ai bh.o);have z0:(⟨#[32]⟩:ByteArray).size=1:=rfl;have z1:(⟨#[58]⟩:ByteArray).size=1:=rfl;clear Zx v1 v2 v3 v4 z0 z1;have S1:=jD s1;have S2:=jD s2;have S3:=jD s3;have SI:=jD Zm;clear s1 s2 s3 so Zm;refine uS.aV 50 rfl [] (fun _=>True) (fun _=>[]) (fun jq v ww=>match jq with | 0=>v= .string o1 | 1=>v= .pointer (some ⟨BK,0,none⟩) | 2=>v= .string o7 | 3=>v= .string ((⟨#[32]⟩:ByteArray)++o7) | 4=>v= .string (((⟨#[32]⟩:ByteArray)++o7)++⟨#[58]⟩) | 5=>v= .pointer (some ⟨BK,1,none⟩) | 6=>v= .pointer (some ⟨BK,1,none⟩) | 7=>v= .int .i64 ds | 8=>v= .string i1 | 9=>v= .string ((((⟨#[32]⟩:ByteArray)++o7)++⟨#[58]⟩)++i1) | 10=>v= .string (((((⟨#[32]⟩:ByteArray)++o7)++⟨#[58]⟩)++i1)++⟨#[58]⟩) | 11=>v= .pointer (some ⟨BK,1,none⟩) | 12=>v= .pointer (some ⟨BK,2,none⟩) | 13=>v= .int .i64 oG | 14=>v= .string i2 | 15=>v= .string ((((((⟨#[32]⟩:ByteArray)++o7)++⟨#[58]⟩)++i1)++⟨#[58]⟩)++i2) | 16=>v= .string (((((((⟨#[32]⟩:ByteArray)++o7)++⟨#[58]⟩)++i1)++⟨#[58]⟩)++i2)++⟨#[58]⟩) | 17=>v= .pointer (some ⟨BK,5,none⟩) | 18=>v= .int .i64 bd | 19=>v= .string i3 | 20=>v= .string ((((((((⟨#[32]⟩:ByteArray)++o7)++⟨#[58]⟩)++i1)++⟨#[58]⟩)++i2)++⟨#[58]⟩)++i3) | 21=>v= .string (o1++((((((((⟨#[32]⟩:ByteArray)++o7)++⟨#[58]⟩)++i1)++⟨#[58]⟩)++i2)++⟨#[58]⟩)++i3)) | 22=>v= .string (o1++((((((((⟨#[32]⟩:ByteArray)++o7)++⟨#[58]⟩)++i1)++⟨#[58]⟩)++i2)++⟨#[58]⟩)++i3)) | _=>True) (fun ww=>Below w1.heap.size w1 ww) (fun jq ww aR=>Below ww.heap.size ww aR) Tryz.mixed (by decide+kernel) (br).drew trivial (fun q r v w w' _ _ _ h _=>h) (fun _ _ _ _ _ _=>trivial) ?_ ?_
    ·refine⟨?_, ?_, ?_, ?_, ?_, ?_, ?_, ?_, ?_, ?_, ?_, ?_, ?_, ?_, ?_, ?_, ?_, ?_, ?_, ?_, ?_, ?_, ?_,trivial⟩
     ·intro x wx hG;have f5:=hG.o 5;replace hG:=hG.g;go_wp2;exact⟨_,rfl,rfl,hG,br⟩
     ·intro x wx hG;have f7:=hG.o 7;replace hG:=hG.g;go_wp2;exact⟨_,rfl,rfl,hG,br⟩
     ·intro x wx hG;have⟨g1,tq⟩:=gs 27 (hG.c 1 _ rfl);replace hG:=hG.g;have afy:=ah hG C0.o;have hl:=Nat.lt_of_lt_of_le mG.o hG.size;go_wp2;exact⟨_,rfl,rfl,hG,br⟩
     ·intro x wx hG;have⟨g2,vD⟩:=gs 28 (hG.c 2 _ rfl);replace hG:=hG.g;have si:=SI.o;have s1:=S1.o;have s2:=S2.o;have s3:=S3.o;have so:=dY.o;go_wp2;exact⟨_,rfl,rfl,hG,br⟩
     ·intro x wx hG;have⟨g3,qF⟩:=gs 29 (hG.c 3 _ rfl);replace hG:=hG.g;have si:=SI.o;have s1:=S1.o;have s2:=S2.o;have s3:=S3.o;have so:=dY.o;go_wp2;exact⟨_,rfl,rfl,hG,br⟩
     ·intro x wx hG;have f7:=hG.o 7;replace hG:=hG.g;go_wp2;exact⟨_,rfl,rfl,hG,br⟩
     ·intro x wx hG;have⟨g5,sj⟩:=gs 31 (hG.c 5 _ rfl);replace hG:=hG.g;go_wp2;exact⟨_,rfl,rfl,hG,br⟩
     ·intro x wx hG;have⟨g6,uy⟩:=gs 32 (hG.c 6 _ rfl);replace hG:=hG.g;have UB:=ah hG C1.o;have hl:=Nat.lt_of_lt_of_le mG.o hG.size;go_wp2;exact⟨_,rfl,rfl,hG,br⟩
     ·intro x wx hG;have⟨g7,Gt⟩:=gs 33 (hG.c 7 _ rfl);replace hG:=hG.g;have HN:=jD (HI1.o wx (HGW.o.below hG));go_wp2_with fail
      (with_reducible refine(HN.o).mono ?_);rintro e wq ⟨rfl,rZ⟩;have oK:=jD rZ;clear rZ HN;go_wp2;exact⟨_,rfl,rfl,aj hG oK.o,oK.o⟩
     ·intro x wx hG;have⟨g4,qE⟩:=gs 30 (hG.c 4 _ rfl);have⟨g8,Bb⟩:=gs 34 (hG.c 8 _ rfl);replace hG:=hG.g;have si:=SI.o;have s1:=S1.o;have s2:=S2.o;have s3:=S3.o;have so:=dY.o;go_wp2;exact⟨_,rfl,rfl,hG,br⟩
     ·intro x wx hG;have⟨g9,zy⟩:=gs 35 (hG.c 9 _ rfl);replace hG:=hG.g;have si:=SI.o;have s1:=S1.o;have s2:=S2.o;have s3:=S3.o;have so:=dY.o;go_wp2;exact⟨_,rfl,rfl,hG,br⟩
     ·intro x wx hG;have f7:=hG.o 7;replace hG:=hG.g;go_wp2;exact⟨_,rfl,rfl,hG,br⟩
     ·intro x wx hG;have⟨g11,EU⟩:=gs 37 (hG.c 11 _ rfl);replace hG:=hG.g;go_wp2;exact⟨_,rfl,rfl,hG,br⟩
     ·intro x wx hG;have⟨g12,ET⟩:=gs 38 (hG.c 12 _ rfl);replace hG:=hG.g;have UA:=ah hG C2.o;have hl:=Nat.lt_of_lt_of_le mG.o hG.size;go_wp2;exact⟨_,rfl,rfl,hG,br⟩
     ·intro x wx hG;have⟨g13,N9⟩:=gs 39 (hG.c 13 _ rfl);replace hG:=hG.g;have HN:=jD (Af.o wx (HGW.o.below hG));go_wp2_with fail
      (with_reducible refine(HN.o).mono ?_);rintro e wq ⟨rfl,rZ⟩;have oK:=jD rZ;clear rZ HN;go_wp2;exact⟨_,rfl,rfl,aj hG oK.o,oK.o⟩
     ·intro x wx hG;have⟨g10,xN⟩:=gs 36 (hG.c 10 _ rfl);have⟨g14,g14b⟩:=gs 40 (hG.c 14 _ rfl);replace hG:=hG.g;have si:=SI.o;have s1:=S1.o;have s2:=S2.o;have s3:=S3.o;have so:=dY.o;go_wp2;exact⟨_,rfl,rfl,hG,br⟩
     ·intro x wx hG;have⟨g15,aft⟩:=gs 41 (hG.c 15 _ rfl);replace hG:=hG.g;have si:=SI.o;have s1:=S1.o;have s2:=S2.o;have s3:=S3.o;have so:=dY.o;go_wp2;exact⟨_,rfl,rfl,hG,br⟩
     ·intro x wx hG;have f7:=hG.o 7;replace hG:=hG.g;go_wp2;exact⟨_,rfl,rfl,hG,br⟩
     ·intro x wx hG;have⟨g17,g17b⟩:=gs 43 (hG.c 17 _ rfl);replace hG:=hG.g;have afx:=ah hG C5.o;have hl:=Nat.lt_of_lt_of_le mG.o hG.size;go_wp2;exact⟨_,rfl,rfl,hG,br⟩
     ·intro x wx hG;have⟨g18,g18b⟩:=gs 44 (hG.c 18 _ rfl);replace hG:=hG.g;have HN:=jD (gD.o wx (HGW.o.below hG));go_wp2_with fail
      (with_reducible refine(HN.o).mono ?_);rintro e wq ⟨rfl,rZ⟩;have oK:=jD rZ;clear rZ HN;go_wp2;exact⟨_,rfl,rfl,aj hG oK.o,oK.o⟩
     ·intro x wx hG;have⟨g16,g16b⟩:=gs 42 (hG.c 16 _ rfl);have⟨g19,g19b⟩:=gs 45 (hG.c 19 _ rfl);replace hG:=hG.g;have si:=SI.o;have s1:=S1.o;have s2:=S2.o;have s3:=S3.o;have so:=dY.o;go_wp2;exact⟨_,rfl,rfl,hG,br⟩
     ·intro x wx hG;have⟨g0,og⟩:=gs 26 (hG.c 0 _ rfl);have⟨g20,g20b⟩:=gs 46 (hG.c 20 _ rfl);replace hG:=hG.g;have si:=SI.o;have s1:=S1.o;have s2:=S2.o;have s3:=S3.o;have so:=dY.o;go_wp2;exact⟨_,rfl,rfl,hG,br⟩
     ·intro x wx hG;have⟨g21,g21b⟩:=gs 47 (hG.c 21 _ rfl);replace hG:=hG.g;go_wp2;exact⟨_,rfl,rfl,hG,br⟩
    ·intro af w8 hg hF;obtain⟨g0,g1,g2,g3,g4,g5,g6,g7,g8,g9,g10,g11,g12,g13,g14,g15,g16,g17,g18,g19,g20,g21,g22, -⟩:=hF;simp only[Cl3.puts,gq (af 0) g0,gq (af 1) g1,gq (af 2) g2,gq (af 3) g3,gq (af 4) g4,gq (af 5) g5,gq (af 6) g6,gq (af 7) g7,gq (af 8) g8,gq (af 9) g9,gq (af 10) g10,gq (af 11) g11,gq (af 12) g12,gq (af 13) g13,gq (af 14) g14,gq (af 15) g15,gq (af 16) g16,gq (af 17) g17,gq (af 18) g18,gq (af 19) g19,gq (af 20) g20,gq (af 21) g21,gq (af 22) g22];clear g0 g1 g2 g3 g4 g5 g6 g7 g8 g9 g10 g11 g12 g13 g14 g15 g16 g17 g18 g19 g20 g21 g22;go_simp
     have HF:=jD (aj abl.o hg);clear hg;go_wp2;go_roundw
     case rel=>exact ⟨k+1,by omega,by go_num,by rw[Kr.o,HVT.o],HF.o⟩
     case measure=>simp [intOf] <;> omega
def Pm (i:Nat):bn→kU×bn:=onTown fun t=>(if sY t i=0 then .ok (kO (CL t i)) else .error (sY t i),t)
end Go.Proofs.YtajgndoiddmbmaaGreatDoor
