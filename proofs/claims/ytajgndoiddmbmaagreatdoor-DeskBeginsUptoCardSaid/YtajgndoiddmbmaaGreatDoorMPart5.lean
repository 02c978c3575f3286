/- Towards what desk.Run answers. -/
import Derived.Test.YtajgndoiddmbmaaGreatDoorMPartO
namespace Go.Proofs.YtajgndoiddmbmaaGreatDoor
set_option maxRecDepth 100000
set_option maxHeartbeats 40000000
open Go.RowKit
def En (w:World) (base:Nat) (v:Value) (l:bB):Prop:= ∃(a:Option Addr) (c:Nat),v= .slice a l.length c∧cR w base (.slice a l.length c) l
theorem En.below {w w':World} {base:Nat} {v:Value} {l:bB} (h:En w base v l) (hb:Below w.heap.size w w'):En w' base v l:=by
 obtain⟨a,c,h1,h2⟩:=h;exact ⟨a,c,h1,h2.below hb⟩
def Em (w:World) (base:Nat) (v:Value) (p:Pt):Prop:= ∃(a:Option Addr) (c:Nat) (b:Option Addr) (d:Nat) (e:Option Addr) (m:Nat),v= .agg #[.slice a p.f.length c, .slice b p.k.vec.length d, .slice e p.k.more.length m]∧cR w base (.slice a p.f.length c) p.f∧bI w base (.slice b p.k.vec.length d) (.slice e p.k.more.length m) p.k
theorem Em.below {w w':World} {base:Nat} {v:Value} {p:Pt} (h:Em w base v p) (hb:Below w.heap.size w w'):Em w' base v p:=by
 obtain⟨a,c,b,d,e,m,h1,h2,h3⟩:=h;exact ⟨a,c,b,d,e,m,h1,h2.below hb,h3.below hb⟩
def Eo (w:World) (base:Nat) (v:Value) (p:Pt):Prop:= ∃(g:Nat) (f u x:Value),v= .slice (some ⟨g,0,none⟩) 1 1∧w.heap[g]? =some (Obj.cells #[f,u,x] 238 (0,0))∧f.oneCell'=true∧u.oneCell'=true∧x.oneCell'=true∧cR w base f p.f∧bI w base u x p.k
theorem Eo.below {w w':World} {base:Nat} {v:Value} {p:Pt} (h:Eo w base v p) (hb:Below w.heap.size w w'):Eo w' base v p:=by
 obtain⟨g,f,u,x,h1,h2,h3,h4,h5,h6,h7⟩:=h;exact ⟨g,f,u,x,h1,ag hb h2,h3,h4,h5,h6.below hb,h7.below hb⟩
def Ek (w:World) (base:Nat) (v:Value) (l:List Pt):Prop:= ∃(a:Option Addr) (c:Nat),v= .slice a l.length c∧fV w base (.slice a l.length c) l
theorem Ek.below {w w':World} {base:Nat} {v:Value} {l:List Pt} (h:Ek w base v l) (hb:Below w.heap.size w w'):Ek w' base v l:=by
 obtain⟨a,c,h1,h2⟩:=h;exact ⟨a,c,h1,h2.below hb⟩
structure zT (w:World) (BK:Nat) (ce:Array Value) (ov:Value) (lk:List Pt) (wr:World):Prop where
 blk:wr.heap[BK]? =some (Obj.cells ce 238 (0,0))
 own:fV wr w.heap.size ov lk
 aW:Below w.heap.size w wr
theorem zT.below {w:World} {BK:Nat} {ce:Array Value} {ov:Value} {lk:List Pt} {wr wr':World} (h:zT w BK ce ov lk wr) (hb:Below wr.heap.size wr wr'):zT w BK ce ov lk wr':=
 ⟨ag hb h.blk,h.own.below hb,aj h.aW hb⟩
theorem fV.drew {w:World} {base:Nat} {v:Value} {l:List Pt} (h:fV w base v l):fV w.drew base v l:=h.below ((br).drew)
theorem zT.drew {w:World} {BK:Nat} {ce:Array Value} {ov:Value} {lk:List Pt} {wr:World} (h:zT w BK ce ov lk wr):zT w BK ce ov lk wr.drew:=⟨h.blk,h.own.drew,h.aW.drew⟩
theorem pcopied_c (v:Value) (l:List Pt) (w:World) (hv:bK cU w v l) (hok: ∀x∈l,eG x) (hl:l.length≤1000):
  Calls Tryz.prog 172 #[v] w fun e w'=> ∃ov,e= .returned ov∧fV w' w.heap.size ov l∧Below w.heap.size w w':=by
 obtain⟨a,cap,rfl,hcap,hlen, -,hvl⟩:=hv.open_;have jN:=jD hvl;have cz:=jD hok;clear hv hvl hok;go_enter Tryz.func172,Tryz.ntmps172;go_wp2;go_loopw [3,8] (fun ov i wr=> ∃k:Nat,k≤l.length∧i= .int .i64 k∧fV wr w.heap.size ov (l.take k)∧Below w.heap.size w wr) (fun _ i _=>l.length - (intOf i).toNat)
 case atStart=>exact ⟨0,Nat.zero_le _,rfl,fV.nil _ _,br⟩
 case round=>
  obtain⟨k,hk,rfl,hown,hbl⟩:=hrel;have HOW:=jD hown;have aP:=jD hbl;clear hown hbl;by_cases hlt:k < l.length
  ·rcases jN.o with hnil | ⟨b,off,rfl,hb,hc⟩
   ·rw[hnil] at hlt;simp at hlt
   obtain⟨c,hE,hcc⟩:=hc k hlt;obtain⟨FF,UU,XX,rfl,hfw,nB⟩:=hE;have hcl:=fun (j:Nat) (y:Value) (hy:[FF,UU,XX][j]? =some y)=>IU (w:=wr) (b:=b) (off:=off) (i:=k) (fun j y hy=>(aP.o.cell (p:=⟨b,off+(k*cU.size+j),none⟩) hb).trans (hcc j y hy)) hy;have d0:=hcl 0 _ rfl;have d1:=hcl 1 _ rfl;have d2:=hcl 2 _ rfl;rw[Nat.add_zero] at d0;obtain⟨fa,fc,rfl⟩:=hfw.shape;obtain⟨ua,uc,rfl⟩:=nB.vec.shape;obtain⟨xa,xc,rfl⟩:=nB.more.shape;have HT:=jD (show l.take (k+1)=l.take k++[l[k]] from List.take_succ_eq_append_getElem hlt);have htl:(l.take k).length=k:=by rw[List.length_take];omega
   have hpk:=cz.o _ (List.getElem_mem hlt);have KH:=jD hpk.f;obtain⟨hko,NZ⟩:=di.1 hpk.k;have Qb:=hko.len;obtain⟨BK,kD⟩: ∃BK,BK=wr.heap.size:=⟨_,rfl⟩
   obtain⟨w1,hw1⟩: ∃w1,w1=wr.alloc (.cells #[.slice fa l[k].f.length fc, .slice ua l[k].k.vec.length uc, .slice xa l[k].k.more.length xc] 238):=⟨_,rfl⟩
   have hb1:Below wr.heap.size wr w1:=by rw[hw1];exact aG _
   have HS:=jD (show zT w BK #[.slice fa l[k].f.length fc, .slice ua l[k].k.vec.length uc, .slice xa l[k].k.more.length xc] _ (l.take k) w1 from⟨by rw[hw1];exact au _ _ _ _ kD,HOW.o.below hb1,aj aP.o hb1⟩);have yB:=jD hfw;have Ae:=jD nB;obtain⟨oa,oc,uo⟩:=HOW.o.shape;rw[htl] at uo;subst uo;clear hc hcc hcl hfw nB hb1 HOW aP hpk hko;generalize l[k]=pp at*;generalize l.take k=lk at*;subst htl;obtain⟨ff,kk⟩:=pp;simp only at*;go_wp2_with fail
   rw[←kD,←hw1];clear kD hw1 d0 d1 d2;refine Cl.aV 24 rfl [9] (fun ww=>zT w BK #[.slice fa ff.length fc, .slice ua kk.vec.length uc, .slice xa kk.more.length xc] (.slice oa lk.length oc) lk ww) (fun jq=>match jq with | 3=>[9] | 6=>[9] | 7=>[9] | 8=>[9] | _=>[]) (fun jq v ww=>match jq with | 0=>v= .slice oa lk.length oc | 1=>v= .pointer (some ⟨BK,0,none⟩) | 2=>v= .slice fa ff.length fc | 3=>En ww w.heap.size v ff | 4=>v= .pointer (some ⟨BK,1,none⟩) | 5=>v= .agg #[.slice ua kk.vec.length uc, .slice xa kk.more.length xc] | 6=>yD ww w.heap.size v kk | 7=>Em ww w.heap.size v ⟨ff,kk⟩ | 8=>Eo ww w.heap.size v ⟨ff,kk⟩ | 9=>Ek ww w.heap.size v (lk++[⟨ff,kk⟩]) | 10=>Ek ww w.heap.size v (lk++[⟨ff,kk⟩]) | _=>True) (fun ww=>Below w.heap.size w ww) (fun jq ww aR=>jq≠9→Below ww.heap.size ww aR) Tryz.mixed (by decide+kernel) HS.o.drew.aW HS.o.drew ?_ (fun jq ww aR hk h hR=>h.below (hR (by simpa using hk))) ?_ ?_
   ·intro q r v w w' hne hk hlt h hR;match r,hk,hlt,h,hne with
    | 0,_,_,h,_=>exact h
    | 1,_,_,h,_=>exact h
    | 2,_,_,h,_=>exact h
    | 3,hk,_,h,_=>exact En.below h (hR (by simpa using hk))
    | 4,_,_,h,_=>exact h
    | 5,_,_,h,_=>exact h
    | 6,hk,_,h,_=>exact yD.below h (hR (by simpa using hk))
    | 7,hk,_,h,_=>exact Em.below h (hR (by simpa using hk))
    | 8,hk,_,h,_=>exact Eo.below h (hR (by simpa using hk))
    | 9,_,_,h,hne=>exact Ek.below h (hR (by exact hne))
    | 10,_,hlt,h,_=>exact Ek.below h (hR (by intro e;subst e;exact absurd hlt (by decide+kernel)))
    | _+11,_,_,_,_=>trivial
   ·refine⟨?_, ?_, ?_, ?_, ?_, ?_, ?_, ?_, ?_, ?_, ?_,trivial⟩
    ·intro x wx hG;have f3:=hG.o 3;have hp:=hG.p 0;replace hG:=hG.g;go_wp2;exact⟨_,rfl,rfl,hG,fun _=>br⟩
    ·intro x wx hG;have f5:=hG.o 5;have hp:=hG.p 0;replace hG:=hG.g;go_wp2;exact⟨_,rfl,rfl,hG,fun _=>br⟩
    ·intro x wx hG;have g1:=gr 13 (hG.c 1 _ rfl);have hp:=hG.p 0;replace hG:=hG.g;have hbk:=hp.blk;have c0:=cq 0 hbk rfl;have TP:=ai hbk;clear hbk hp;go_wp2;exact⟨_,rfl,rfl,hG,fun _=>br⟩
    ·intro x wx hG;have g2:=gr 14 (hG.c 2 _ rfl);have hp:=hG.p 0;replace hG:=hG.g;have HX:=jD (xP (.slice fa ff.length fc) ff wx (yB.o.below hp.aW) KH.o);have uL:=jD hp.aW;clear hp;go_wp2_with fail
     (with_reducible refine(HX.o).mono ?_);rintro e wq ⟨v9,rfl,h9,hb⟩;obtain⟨za,zc,hz⟩:=h9.shape;subst hz;have H9:=jD (cB.mono h9 uL.o.size);clear h9;go_wp2;exact⟨_,rfl,⟨_,_,rfl,H9.o⟩,aj hG hb,fun _=>hb⟩
    ·intro x wx hG;have f5:=hG.o 5;have hp:=hG.p 0;replace hG:=hG.g;go_wp2;exact⟨_,rfl,rfl,hG,fun _=>br⟩
    ·intro x wx hG;have g4:=gr 16 (hG.c 4 _ rfl);have hp:=hG.p 0;replace hG:=hG.g;have hbk:=hp.blk;have c1:=cq 1 hbk rfl;have c2:=cq 2 hbk rfl;have TP:=ai hbk;clear hbk hp;go_wp2;exact⟨_,rfl,rfl,hG,fun _=>br⟩
    ·intro x wx hG;have g5:=gr 17 (hG.c 5 _ rfl);have hp:=hG.p 0;replace hG:=hG.g;have HX:=jD (kcopied_c (.slice ua kk.vec.length uc) (.slice xa kk.more.length xc) kk wx (Ae.o.below hp.aW) Qb NZ);have uL:=jD hp.aW;clear hp;go_wp2_with fail
     (with_reducible refine(HX.o).mono ?_);rintro e wq ⟨qa,qc,qb,qd,rfl,h9,hb⟩;have H9:=jD (h9.mono uL.o.size);clear h9;go_wp2;exact⟨_,rfl,⟨_,_,_,_,rfl,H9.o⟩,aj hG hb,fun _=>hb⟩
    ·intro x wx hG;have g3:En wx w.heap.size (x.tmps.getD 15 undef) ff:=hG.c 3 _ rfl;have g6:yD wx w.heap.size (x.tmps.getD 18 undef) kk:=hG.c 6 _ rfl;have hp:=hG.p 0;replace hG:=hG.g;obtain⟨za,zc,hz1,hz2⟩:=g3;obtain⟨ya,yc,yb,yd,hy1,hy2⟩:=g6;have qP:=hz1;rw[Array.getD_eq_getD_getElem?] at qP;have Jm:=hy1;rw[Array.getD_eq_getD_getElem?] at Jm;have HZ:=jD hz2;have HY:=jD hy2;clear hz2 hy2 hp;go_wp2;exact⟨_,rfl,⟨_,_,_,_,_,_,rfl,HZ.o,HY.o⟩,hG,fun _=>br⟩
    ·intro x wx hG;have g7:Em wx w.heap.size (x.tmps.getD 19 undef) ⟨ff,kk⟩:=hG.c 7 _ rfl;have hp:=hG.p 0;replace hG:=hG.g;obtain⟨a1,a2,a3,a4,a5,a6,hz1,hz2,hz3⟩:=g7;have qP:=hz1;rw[Array.getD_eq_getD_getElem?] at qP;have HZ:=jD hz2;have HY:=jD hz3;clear hz2 hz3 hp;go_wp2;exact⟨_,rfl,⟨_,_,_,_,rfl,au _ _ _ _ rfl,rfl,rfl,rfl,HZ.o.below (aG _),HY.o.below (aG _)⟩,hG.alloc hG.size _,fun _=>aG _⟩
    ·intro x wx hG;have g0:=gr 12 (hG.c 0 _ rfl);have g8:Eo wx w.heap.size (x.tmps.getD 20 undef) ⟨ff,kk⟩:=hG.c 8 _ rfl;have hp:=hG.p 0;replace hG:=hG.g;obtain⟨g9,f9,u9,x9,hz1,hz2,o1,o2,o3,hz3,wM⟩:=g8;obtain⟨css,hp1,hp2⟩:=hp.own;have hz:=g0;have hzb:=hz;rw[Array.getD_eq_getD_getElem?] at hzb;have qP:=hz1;rw[Array.getD_eq_getD_getElem?] at qP;have H9:=jD hp2;have HE:=jD hp1;have HF:=jD hz3;have HK:=jD wM;have vR:=jD (show ∀u∈[f9,u9,x9],u.oneCell'=true by intro u hu;simp only[List.mem_cons,List.not_mem_nil,or_false] at hu;rcases hu with rfl | rfl | rfl;exact o1;exact o2;exact o3);have HC:=jD (show aF wx (.slice (some ⟨g9,0,none⟩) 1 1) 1 [f9,u9,x9] from aF.mk (Nat.le_refl _) (by decide) (ai hz2) (fun j z hj=>by rw[Nat.zero_add];exact aD hz2 (by simpa using hj)));have uL:=jD hp.aW;have hbs:=hp.aW.size;have hkl:lk.length≤1000:=by omega
     clear hp1 hp2 hz2 hz3 wM hp;go_wp2_with (at_builtin;refine bM rfl (.tmp 12) (.tmp 20) 147 rfl w.heap.size 238 _ 3 72 Tryz.underlying147 zU.info rfl (by decide) (.slice oa lk.length oc) lk.length _ hz H9.o (.slice (some ⟨g9,0,none⟩) 1 1) 1 _ hz1 HC.o rfl vR.o hbs (by unfold maxLen;omega) (by omega) ?_)
     intro v' wq ho hgr;obtain⟨qa,qc,hq⟩:=ay ho;subst hq;have HO:=jD ho;have kY:=jD hgr;clear ho hgr;go_wp2;exact⟨_,rfl,⟨_,_,by rw[List.length_append];rfl,by rw[List.length_append];exact fV.push HE.o H9.o HF.o HK.o HO.o kY.o⟩,hG.grown kY.o hbs (fun k hk=>(H9.o.lt k hk).1),fun h=>absurd rfl h⟩
    ·intro x wx hG;have g9:Ek wx w.heap.size (x.tmps.getD 21 undef) (lk++[⟨ff,kk⟩]):=hG.c 9 _ rfl;replace hG:=hG.g;obtain⟨za,zc,hz,h9⟩:=g9;have H9:=jD h9;clear h9;go_wp2;exact⟨_,rfl,⟨_,_,by simp,H9.o⟩,hG,fun _=>br⟩
   ·intro af w3 hg hF;obtain⟨g0,g1,g2,g3,g4,g5,g6,g7,g8,g9,g10, -⟩:=hF;replace g10:Ek w3 w.heap.size (af 10) (lk++[⟨ff,kk⟩]):=g10 rfl;simp only[Cl3.puts,gq (af 0) g0,gq (af 1) g1,gq (af 2) g2,gq (af 4) g4,gq (af 5) g5];clear g0 g1 g2 g3 g4 g5 g6 g7 g8 g9;go_simp
    generalize af 10=ov2 at*;obtain⟨a8,c8,rfl,h8⟩:=g10;have H8:=jD h8;have yC:=jD hg;have hll:(lk++[(⟨ff,kk⟩:Pt)]).length=lk.length+1:=by rw[List.length_append];rfl
    rw[hll] at H8 ⊢;clear h8 hg;go_wp2;go_roundw
    case rel=>exact ⟨lk.length+1,by omega,by go_num,by rw[HT.o];exact H8.o,yC.o⟩
    case measure=>simp [intOf] <;> omega
  ·obtain rfl:k=l.length:=by omega
   rw[List.take_length] at HOW;obtain⟨oa,oc,uo⟩:=HOW.o.shape;subst uo;go_wp2;go_ret;exact⟨_,rfl,HOW.o,aP.o⟩
theorem MU {a b:Pt} (ha:eG a) (hb:eG b):(nO a.f b.f&&jt a.k b.k)=gY (sem a) (sem b):=by
 unfold nO jt gY sem;rw[if_pos (by unfold dI;rw [if_pos ha.f,hb.f]),if_pos (tM.2 ⟨ha.k,hb.k⟩)];congr 1;refine wB fun t n ht hn=> ?_;simp only[fS ht hn];cases cE a.f t n <;> cases cE b.f t n <;> rfl
theorem LS (a b:Pt) (f u x g y z:Value) (w:World) (ha:eG a) (hb:eG b) (h1:bZ w f a.f) (h2:dB w u x a.k) (h3:bZ w g b.f) (h4:dB w y z b.k):
  Calls Tryz.prog 200 #[.agg #[f,u,x], .agg #[g,y,z]] w fun e w'=>e= .returned (.bool (gY (sem a) (sem b)))∧Below w.heap.size w w':=by
 obtain⟨fa,fc,rfl⟩:=h1.shape;obtain⟨ua,uc,rfl⟩:=h2.vec.shape;obtain⟨xa,xc,rfl⟩:=h2.more.shape;obtain⟨ga,gc,rfl⟩:=h3.shape;obtain⟨ya,yc,rfl⟩:=h4.vec.shape;obtain⟨za,zc,rfl⟩:=h4.more.shape;obtain⟨W,hW⟩: ∃W,W=(w.alloc (.cells #[.slice fa a.f.length fc, .slice ua a.k.vec.length uc, .slice xa a.k.more.length xc] 238)).alloc (.cells #[.slice ga b.f.length gc, .slice ya b.k.vec.length yc, .slice za b.k.more.length zc] 238):=⟨_,rfl⟩
 have hbel:Below w.heap.size w W:=by rw[hW];exact (aG _).alloc (by simp) _
 have A:=jD (show W.heap[w.heap.size]? =some (Obj.cells #[.slice fa a.f.length fc, .slice ua a.k.vec.length uc, .slice xa a.k.more.length xc] 238 (0,0)) by rw[hW];exact aO _ (au _ _ _ _ rfl));have B:=jD (show W.heap[w.heap.size+1]? =some (Obj.cells #[.slice ga b.f.length gc, .slice ya b.k.vec.length yc, .slice za b.k.more.length zc] 238 (0,0)) by rw[hW];exact au _ _ _ _ (by simp));have a0:=cq 0 A.o rfl;have b0:=cq 0 B.o rfl;have HF:=jD (Fw _ _ a.f b.f _ (h1.below hbel) (h3.below hbel));have Hf:=jD (h2.below hbel);have He:=jD (h4.below hbel);have jo:=jD hbel;have HS:=jD (MU ha hb);have HT:=jD (show dI a.f b.f=0 by unfold dI;rw [if_pos ha.f,hb.f]);have DX:=jD (show gy a.k b.k=0 from tM.2 ⟨ha.k,hb.k⟩);clear h1 h2 h3 h4 hbel ha hb;go_enter Tryz.func200,Tryz.ntmps200;go_wp2_with fail
 rw[←hW];clear hW;(with_reducible refine(HF.o).mono ?_);rintro e w1 ⟨rfl,hb1⟩;replace A:=jD (ag hb1 A.o);replace B:=jD (ag hb1 B.o);have a1:=cq 1 A.o rfl;have a2:=cq 2 A.o rfl;have b1:=cq 1 B.o rfl;have b2:=cq 2 B.o rfl;have HK:=jD (PV _ _ _ _ a.k b.k _ (Hf.o.below hb1) (He.o.below hb1));have aP:=jD (aj jo.o hb1);clear hb1 HF Hf He jo a0 b0;generalize nO a.f b.f=we at*;generalize dI a.f b.f=ft at*;go_wp2_with fail
 (with_reducible refine(HK.o).mono ?_);rintro e w2 ⟨rfl,hb2⟩;have hbl:=aj aP.o hb2;clear hb2 aP HK a1 a2 b1 b2;generalize jt a.k b.k=ke at*;generalize gy a.k b.k=kt at*;cases we
 ·go_wp2;go_ret;exact⟨(by rw[←HS.o];try rfl),hbl⟩
 ·go_wp2;go_ret;exact⟨(by rw[←HS.o];try rfl),hbl⟩
theorem SZ {a:Pt} (ha:eG a):(decide (xR a.f=0) || decide (pq a.k=0))=AH (sem a):=by
 have e:nI (fun x1 x2=>cE a.f x1 x2)=nI (aX a.f):=xQ fun t n ht hn=>(fS ht hn).symm;unfold xR AH sem;rw[if_pos ha.f,e]
theorem YI (a:Pt) (f u x:Value) (w:World) (ha:eG a) (h1:bZ w f a.f) (h2:dB w u x a.k):
  Calls Tryz.prog 198 #[.agg #[f,u,x]] w fun e w'=>e= .returned (.bool (AH (sem a)))∧Below w.heap.size w w':=by
 obtain⟨fa,fc,rfl⟩:=h1.shape;obtain⟨ua,uc,rfl⟩:=h2.vec.shape;obtain⟨xa,xc,rfl⟩:=h2.more.shape;obtain⟨W,hW⟩: ∃W,W=w.alloc (.cells #[.slice fa a.f.length fc, .slice ua a.k.vec.length uc, .slice xa a.k.more.length xc] 238):=⟨_,rfl⟩
 have hbel:Below w.heap.size w W:=by rw[hW];exact aG _
 have A:=jD (show W.heap[w.heap.size]? =some (Obj.cells #[.slice fa a.f.length fc, .slice ua a.k.vec.length uc, .slice xa a.k.more.length xc] 238 (0,0)) by rw[hW];exact au _ _ _ _ rfl);have a0:=cq 0 A.o rfl;have HF:=jD (J4 _ a.f _ (h1.below hbel));have Hf:=jD (h2.below hbel);have jo:=jD hbel;have HS:=jD (SZ ha);clear h1 h2 hbel ha;go_enter Tryz.func198,Tryz.ntmps198;go_wp2_with fail
 rw[←hW];clear hW;(with_reducible refine(HF.o).mono ?_);rintro e w1 ⟨rfl,hb1⟩;replace A:=jD (ag hb1 A.o);have a1:=cq 1 A.o rfl;have a2:=cq 2 A.o rfl;have HK:=jD (PX _ _ a.k _ (Hf.o.below hb1));have aP:=jD (aj jo.o hb1);clear hb1 HF Hf jo a0;generalize xR a.f=we at*;generalize bP a.f=ft at*;go_wp2_with fail
 (with_reducible refine(HK.o).mono ?_);rintro e w2 ⟨rfl,hb2⟩;have hbl:=aj aP.o hb2;clear hb2 aP HK a1 a2;generalize pq a.k=ke at*;generalize bF a.k=kt at*;by_cases h0:we=0
 ·subst h0;go_wp2;go_ret;exact⟨(by rw[←HS.o];try rfl),hbl⟩
 ·have hne:(we==0)=false:=by simpa using h0
  have Tz:decide (we=0)=false:=by simpa using h0
  rw[Tz] at HS;go_wp2;go_ret;exact⟨(by rw[←HS.o];try rfl),hbl⟩
theorem Ey (v:Value) (l:bB) (w:World) (hs:bZ w v l) (hc:bP l=0):
  Calls Tryz.prog 128 #[v] w fun e w'=> ∃v' l',e= .returned v'∧cR w' w.heap.size v' l'∧ng l' (fun k n=>cE l k n)∧Below w.heap.size w w':=by
 obtain⟨a,c,rfl⟩:=hs.shape;have hfo:=(gj.1 hc).2;have HT:=jD (xd _ l w hs hfo);have aZ:=jD (fun k=>(iE l k hfo).1);have lN:=jD (fun k=>(iE l k hfo).2);clear hs hc hfo;go_enter Tryz.func128,Tryz.ntmps128;go_wp2_with fail
 (with_reducible refine(HT.o).mono ?_);rintro e w1 ⟨rfl,hb1⟩;have HB:=jD (boxes_c (fu l) (fun k _=>aZ.o k) w1);have aP:=jD hb1;clear HT hb1;go_wp2_with fail
 (with_reducible refine(HB.o).mono ?_);rintro e w2 ⟨v',l',rfl,hown,⟨dn,hst⟩,hb2⟩;have HO:=jD (cB.mono hown aP.o.size);have HG:=jD (ng.Vd (p:=fun k n=>cE l k n) hst (fun k _=>aZ.o k) fun k n _ _=>lN.o k n);have gM:=jD (aj aP.o hb2);obtain⟨xa,xc,hv⟩:=hown.shape;subst hv;clear hown hst hb2 HB aP;go_wp2;go_ret;exact⟨_,_,rfl,HO.o,HG.o,gM.o⟩
theorem ZQ (B:Nat) (a:Pt) (f u x:Value) (w:World) (hB:w.heap[B]? =some (Obj.cells #[f,u,x] 238 (0,0))) (ha:eG a) (hf:bZ w f a.f) (hk:dB w u x a.k):
  AW eG 199 #[.pointer (some ⟨B,0,none⟩)] (fun q=>gY (sem a) (sem q)) w:=by
 refine⟨enters_of Tryz.func199 (by kernel_rfl) rfl,fun q g y z W hq hbl hg hk2=> ?_⟩;show Calls Tryz.prog 199 #[.agg #[g,y,z], .pointer (some ⟨B,0,none⟩)] W _;have qf:=ag hbl hB;have rX:=hf.below hbl;have hk1:=hk.below hbl;clear hbl hB hf hk;obtain⟨fa,fc,Jw⟩:=rX.shape;obtain⟨ua,uc,huv⟩:=hk1.vec.shape;obtain⟨xa,xc,hxv⟩:=hk1.more.shape;subst Jw huv hxv;obtain⟨ga,gc,rfl⟩:=hg.shape;obtain⟨ya,yc,rfl⟩:=hk2.vec.shape;obtain⟨za,zc,rfl⟩:=hk2.more.shape;have hbel:=aG (W:=W) (.cells #[.slice ga q.f.length gc, .slice ya q.k.vec.length yc, .slice za q.k.more.length zc] 238);have bO:=ag hbel qf;have HU:=jD (LS a q _ _ _ _ _ _ _ ha hq (rX.below hbel) (hk1.below hbel) (hg.below hbel) (hk2.below hbel));have c0:=cq 0 bO rfl;have c1:=cq 1 bO rfl;have c2:=cq 2 bO rfl;have aP:=jD hbel;clear qf bO rX hk1 hg hk2 hbel ha hq;go_enter Tryz.func199,Tryz.ntmps199;go_wp2_with fail
 (with_reducible refine(HU.o).mono ?_);rintro e w1 ⟨rfl,hb1⟩;have hbl:=aj aP.o hb1;clear hb1 HU aP c0 c1 c2;go_wp2;go_ret;exact⟨rfl,hbl⟩
theorem ZP (B:Nat) (a:Pt) (f u x:Value) (w:World) (hB:w.heap[B]? =some (Obj.cells #[f,u,x] 238 (0,0))) (ha:eG a) (hf:bZ w f a.f) (hk:dB w u x a.k):
  AW eG 202 #[.pointer (some ⟨B,0,none⟩)] (fun q=>gY (sem q) (sem a)) w:=by
 refine⟨enters_of Tryz.func202 (by kernel_rfl) rfl,fun q g y z W hq hbl hg hk2=> ?_⟩;show Calls Tryz.prog 202 #[.agg #[g,y,z], .pointer (some ⟨B,0,none⟩)] W _;have qf:=ag hbl hB;have rX:=hf.below hbl;have hk1:=hk.below hbl;clear hbl hB hf hk;obtain⟨fa,fc,Jw⟩:=rX.shape;obtain⟨ua,uc,huv⟩:=hk1.vec.shape;obtain⟨xa,xc,hxv⟩:=hk1.more.shape;subst Jw huv hxv;obtain⟨ga,gc,rfl⟩:=hg.shape;obtain⟨ya,yc,rfl⟩:=hk2.vec.shape;obtain⟨za,zc,rfl⟩:=hk2.more.shape;have hbel:=aG (W:=W) (.cells #[.slice ga q.f.length gc, .slice ya q.k.vec.length yc, .slice za q.k.more.length zc] 238);have bO:=ag hbel qf;have HU:=jD (LS q a _ _ _ _ _ _ _ hq ha (hg.below hbel) (hk2.below hbel) (rX.below hbel) (hk1.below hbel));have c0:=cq 0 bO rfl;have c1:=cq 1 bO rfl;have c2:=cq 2 bO rfl;have aP:=jD hbel;clear qf bO rX hk1 hg hk2 hbel ha hq;go_enter Tryz.func202,Tryz.ntmps202;go_wp2_with fail
 (with_reducible refine(HU.o).mono ?_);rintro e w1 ⟨rfl,hb1⟩;have hbl:=aj aP.o hb1;clear hb1 HU aP c0 c1 c2;go_wp2;go_ret;exact⟨rfl,hbl⟩
def kr (out:List Pt) (x:Pt):List Pt:=if AH (sem x) || out.any (fun q=>gY (sem x) (sem q)) then out else(out.filter fun q=> !gY (sem q) (sem x))++[x]
def ku (l:List Pt):List Pt:=l.foldl kr []
theorem zD (l:List Pt) (x:Pt):ku (l++[x])=kr (ku l) x:=by simp[ku]
theorem JR (out:List Pt) (x:Pt):(kr out x).map sem=pI (out.map sem) (sem x):=by
 unfold kr pI;rw[List.any_map];simp only[Function.comp_def];split
 ·rfl
 ·rw[List.map_append,List.filter_map];rfl
theorem JP (l:List Pt):(ku l).map sem=dP (l.map sem):=by
 refine lT (p:=fun l=>(ku l).map sem=dP (l.map sem)) rfl ?_ l;intro l x ih;rw[zD,JR,ih,List.map_append,List.map_cons,List.map_nil,zC]
theorem JS {out:List Pt} {x y:Pt} (h:y∈kr out x):y∈out∨y=x:=by
 unfold kr at h;split at h
 ·exact .inl h
 ·rw[List.mem_append,List.mem_singleton] at h;exact h.imp (fun h=>(List.mem_filter.1 h).1) id
theorem Ua (l:List Pt): ∀x∈ku l,x∈l:=by
 refine lT (p:=fun l=> ∀x∈ku l,x∈l) (fun x hx=>by simp[ku] at hx) ?_ l;intro l y ih x hx;rw[zD] at hx;rcases JS hx with h | rfl
 ·exact List.mem_append_left _ (ih x h)
 ·simp
theorem JQ (l:List Pt):(ku l).length≤l.length:=by
 have h1:=congrArg List.length (JP l);have h2:=EY (l.map sem);rw[List.length_map] at h1 h2;omega
theorem Mj {l:List Pt} (h: ∀x∈l,eG x): ∀x∈ku l,eG x:=fun x hx=>h x (Ua l x hx)
structure kV (k:Nat) (m l:List Pt):Prop where
 len:l.length=m.length
 done: ∀j (h:j < m.length) (h':j < l.length),j < k→l[j].k=m[j].k∧ng l[j].f (fun t n=>cE m[j].f t n)
 rest: ∀j (h:j < m.length) (h':j < l.length),k≤j→l[j]=m[j]
theorem kV.zero (m:List Pt):kV 0 m m:=⟨rfl,fun _ _ _ h=>by omega,fun _ _ _ _=>rfl⟩
theorem kV.step {k:Nat} {m l:List Pt} (h:kV k m l) (hk:k < m.length) {f:bB} (hf:ng f (fun t n=>cE m[k].f t n)):kV (k+1) m (l.set k ⟨f,(l[k]'(by rw[h.len];exact hk)).k⟩):=by
 have hkl:k < l.length:=by rw[h.len];exact hk
 have hlen:(l.set k ⟨f,l[k].k⟩).length=m.length:=by rw[List.length_set];exact h.len
 refine⟨hlen,fun j h1 h2 h3=> ?_,fun j h1 h2 h3=> ?_⟩
 ·rw[List.getElem_set];split
  ·rename_i e;subst e;exact⟨by rw[h.rest k hk hkl (Nat.le_refl _)],hf⟩
  ·exact h.done j h1 (by rw[h.len];exact h1) (by omega)
 ·rw[List.getElem_set,if_neg (by omega)];exact h.rest j h1 (by rw[h.len];exact h1) (by omega)
theorem kV.ok {m l:List Pt} (h:kV m.length m l) (hok: ∀x∈m,eG x): ∀p∈l,eG p∧p.f.length≤16:=by
 intro p hp;obtain⟨j,hj,rfl⟩:=List.getElem_of_mem hp;have hjm:j < m.length:=by rw[←h.len];exact hj
 obtain⟨h1,h2⟩:=h.done j hjm hj hjm;exact⟨⟨h2.GK,by rw[h1];exact (hok _ (List.getElem_mem hjm)).k⟩,h2.len⟩
theorem kV.sem {m l:List Pt} (h:kV m.length m l):l.map sem=m.map sem:=by
 apply List.ext_getElem
 ·rw[List.length_map,List.length_map,h.len]
 ·intro j h1 h2;rw[List.length_map] at h1 h2;obtain⟨h3,h4⟩:=h.done j h2 h1 h2;rw[List.getElem_map,List.getElem_map];unfold Go.Proofs.YtajgndoiddmbmaaGreatDoor.sem;rw[h3,(uX l[j].f).ext (uX m[j].f) fun t n ht hn=>by rw[fS ht hn,fS ht hn];exact h4.pts t n ht hn]
theorem aay.info:(Tryz.prog.info? 238).map (fun i=>(i.zero,i.size,i.bytes))=some (some (.agg #[.slice none 0 0, .slice none 0 0, .slice none 0 0]),3,72):=by kernel_rfl
theorem UF (n:Nat) (hn:n*72≤140737488355328) (w:World):
  Calls Tryz.prog 205 #[.slice none 0 0, .int .i64 n] w fun e w'=> ∃v,e= .returned v∧w'.ownsRow w.heap.size 238 3 v 0 []∧Below w.heap.size w w':=by
 obtain⟨i0,hi,hz0,hz1,hz2⟩:=info_parts aay.info;by_cases h0:n=0
 ·subst h0;go_enter Tryz.func205,Tryz.ntmps205;go_wp2;go_ret;exact⟨_,rfl,World.ownsRow_nil _ _ _ _,br⟩
 ·have hpos:0 < n:=by omega
  have hr:=jD (Lib.run_append_nil_zeros (P:=Tryz.prog) w 147 3 147 238 i0 (.agg #[.slice none 0 0, .slice none 0 0, .slice none 0 0]) .i64 .i64 Tryz.underlying147 Tryz.underlying3 hi hz0 n hpos (by omega) (by omega) (by rw[hz2];omega));have hge:=grownCap_ge w n 0 238;have hcm:=grownCap_le_maxLen w n 0 238 (by unfold maxLen;omega);go_enter Tryz.func205,Tryz.ntmps205;go_wp2_with (at_builtin;refine Lib.wpList_append_run _ rfl (.tmp 20) (.tmp 21) _ _ rfl _ _ rfl rfl _ _ hr.o ?_)
  go_wp2;go_ret;exact⟨_,rfl,World.ownsRow_made w.drew _ _ (Nat.le_refl _) hcm (by simp only[Array.size_append,size_zeroCells];rw [←Nat.add_mul];show _*3=_;congr 1;omega),(br).drew.alloc (Nat.le_refl _) _⟩
theorem OO (v:Value) (rs:rP) (w:World) (hs:qo w v rs) (hl: ∀r∈rs,r.2.2.length=r.2.1*3) (h1: ∀r∈rs,∀u∈r.2.2,u.oneCell'=true) (hsum:tot rs*72≤140737488355328):
  Calls Tryz.prog 180 #[v] w fun e w'=> ∃v',e= .returned v'∧w'.ownsRow w.heap.size 238 3 v' (tot rs) (flat rs)∧Below w.heap.size w w':=by
 obtain⟨hc,hr⟩:=hs;obtain⟨a,cap,rfl,hcap,hm, -,hcs⟩:=hc;go_enter Tryz.func180,Tryz.ntmps180;go_wp2;go_loop [3,11] (fun u i=> ∃k:Nat,k≤rs.length∧i= .int .i64 k∧u= .int .i64 (tot (rs.take k))) (fun _ i=>rs.length - (intOf i).toNat)
 case atStart=>exact ⟨0,Nat.zero_le _,rfl,rfl⟩
 case round=>
  obtain⟨k,hk,rfl,rfl⟩:=hrel;by_cases hlt:k < rs.length
  ·have ht:=wZ rs k hlt;have hle:=CG rs (k+1);rcases hcs with hnil | ⟨b,off,rfl,hb,hcc⟩
   ·simp at hnil;subst hnil;simp at hlt
   have d1:=hcc k rs[k].1 (by simp[hlt]);obtain⟨xa,xc,hv⟩:=(hr _ (List.getElem_mem hlt)).shape;rw[hv] at d1;clear hcc;have HT:=jD ht;have hb0:(tot (rs.take k):Int)+(rs[k].2.1:Int)≤140737488355328:=by have:=ht;omega
   clear ht hv hr h1 hl;generalize rs[k].2.1=n at*;generalize tot (rs.take k)=s at*;go_wp2;go_round
   case rel=>exact ⟨k+1,by omega,by go_num,by rw[HT.o];go_num⟩
   case measure=>simp [intOf];omega
  ·obtain rfl:k=rs.length:=by omega
   rw[List.take_length];go_wp2_with fail
   refine(UF (tot rs) hsum _).mono ?_;rintro e w1 ⟨v1,rfl,hown,hb1⟩;have HR:=jD (show ∀r∈rs,∀W,Below w.heap.size w W→aF W r.1 r.2.1 r.2.2 from fun r h W hW=>(hr r h).below hW);clear hr;go_wp2;go_loopw [6,27] (fun u i wr=> ∃k:Nat,k≤rs.length∧i= .int .i64 k∧wr.ownsRow w.heap.size 238 3 u (tot (rs.take k)) (flat (rs.take k))∧Below w.heap.size w wr) (fun _ i _=>rs.length - (intOf i).toNat)
   case atStart=>exact ⟨0,Nat.zero_le _,rfl,hown,hb1⟩
   case round=>
    obtain⟨k,hk,rfl,hown',hbl⟩:=hrel;clear hown hb1;by_cases hlt:k < rs.length
    ·have ht:=wZ rs k hlt;have hle:=CG rs (k+1);rcases hcs with hnil | ⟨b,off,rfl,hb,hcc⟩
     ·simp at hnil;subst hnil;simp at hlt
     have d1:=(hbl.cell (p:=⟨b,off+k,none⟩) hb).trans (hcc k rs[k].1 (by simp[hlt]));have HC:=jD (HR.o _ (List.getElem_mem hlt) _ hbl);have HL:=jD (hl _ (List.getElem_mem hlt));have H1:=jD (h1 _ (List.getElem_mem hlt));have HF:=jD (Gv rs k hlt);have HT:=jD ht;have HO:=jD hown';have HS:=jD (show(tot (rs.take k)+rs[k].2.1)*72≤140737488355328 by rw[←ht];exact Nat.le_trans (Nat.mul_le_mul_right _ hle) hsum);clear hcc ht hl h1 hown';generalize rs[k].1=v0 at*;generalize rs[k].2.1=n at*;generalize rs[k].2.2=ys at*;go_wp2_with (at_builtin;refine fH (w0:=w) rfl (.tmp 31) (.tmp 32) 147 rfl w.heap.size 238 (.agg #[.slice none 0 0, .slice none 0 0, .slice none 0 0]) 3 72 Tryz.underlying147 aay.info rfl (by decide) _ _ _ rfl HO.o v0 n ys rfl HC.o HL.o H1.o hbl hbl.size (by have:=HS.o;unfold maxLen;omega) HS.o ?_)
     intro v' w2 hown2 sU;go_wp2;go_roundw
     case rel=>exact ⟨k+1,by omega,by go_num,by rw[HT.o,HF.o];exact hown2,sU⟩
     case measure=>simp [intOf];omega
    ·obtain rfl:k=rs.length:=by omega
     rw[List.take_length] at hown';go_wp2;go_ret;exact⟨_,rfl,hown',hbl⟩
theorem af3.aeT {w:World} {a b:Value} {l1 l2:List Pt} (h1:bK cU w a l1) (h2:bK cU w b l2) (t:TypeId): ∃rs:rP,qo (w.alloc (.cells #[a,b] t)) (.slice (some ⟨w.heap.size,0,none⟩) 2 2) rs∧(∀r∈rs,r.2.2.length=r.2.1*3)∧(∀r∈rs,∀u∈r.2.2,u.oneCell'=true)∧ ∃css,Els cU w (l1++l2) css∧flat rs=css.flatten∧tot rs=(l1++l2).length:=by
 obtain⟨c1,k1,m1⟩:=h1;obtain⟨c2,k2,m2⟩:=h2;have hb:=aG (W:=w) (.cells #[a,b] t);refine⟨[(a,l1.length,c1.flatten),(b,l2.length,c2.flatten)],⟨?_, ?_⟩, ?_, ?_,c1++c2,k1.append k2, ?_, ?_⟩
 ·exact aF.mk (Nat.le_refl _) (by decide) (by simp) fun j x hj=>by rw[Nat.zero_add,World.cell?_alloc_at _ _ _ _ rfl];simpa using hj
 ·intro r hr;simp only[List.mem_cons,List.not_mem_nil,or_false] at hr;rcases hr with rfl | rfl
  ·exact m1.below hb
  ·exact m2.below hb
 ·intro r hr;simp only[List.mem_cons,List.not_mem_nil,or_false] at hr;rcases hr with rfl | rfl
  ·exact k1.flat
  ·exact k2.flat
 ·intro r hr;simp only[List.mem_cons,List.not_mem_nil,or_false] at hr;rcases hr with rfl | rfl
  ·exact k1.one
  ·exact k2.one
 ·rw[List.flatten_append];simp [flat]
 ·rw[List.length_append];simp [tot]
theorem PF {a b:Value} {l1 l2:List Pt} (w:World) (h1:bK cU w a l1) (h2:bK cU w b l2) (t:TypeId) (hl:(l1++l2).length≤1000):
  Calls Tryz.prog 180 #[.slice (some ⟨w.heap.size,0,none⟩) 2 2] (w.alloc (.cells #[a,b] t)) fun e w'=> ∃v',e= .returned v'∧bK cU w' v' (l1++l2)∧Below (w.alloc (.cells #[a,b] t)).heap.size (w.alloc (.cells #[a,b] t)) w':=by
 obtain⟨rs,k1,k2,k3,css,k4,k5,k6⟩:=af3.aeT h1 h2 t;refine(OO _ rs _ k1 k2 k3 (by rw[k6];omega)).mono ?_;rintro e w' ⟨v',rfl,h7,hb⟩;rw[k5,k6] at h7;exact⟨v',rfl,⟨css,k4.sub (Sub.of_below (zO hb)),aF.fZ h7 (by omega)⟩,hb⟩
def mO (a b:List Pt):Int:=if bE a≠0 then bE a else if bE b≠0 then bE b else if 30 < (dP ((a++b).map sem)).length then 2 else 0
def A5 (l:List Pt) (f:bB):Int:=if bE l≠0 then bE l else bP f
structure nL (g:bB) (k:Nat) (m l:List Pt):Prop where
 len:l.length=m.length
 done: ∀j (h:j < m.length) (h':j < l.length),j < k→l[j].k=m[j].k∧ng l[j].f (fun t n=>cE m[j].f t n&&cE g t n)
 rest: ∀j (h:j < m.length) (h':j < l.length),k≤j→l[j]=m[j]
theorem nL.zero (g:bB) (m:List Pt):nL g 0 m m:=⟨rfl,fun _ _ _ h=>by omega,fun _ _ _ _=>rfl⟩
theorem nL.step {g:bB} {k:Nat} {m l:List Pt} (h:nL g k m l) (hk:k < m.length) {f:bB} (hf:ng f (fun t n=>cE m[k].f t n&&cE g t n)):nL g (k+1) m (l.set k ⟨f,(l[k]'(by rw[h.len];exact hk)).k⟩):=by
 have hkl:k < l.length:=by rw[h.len];exact hk
 have hlen:(l.set k ⟨f,l[k].k⟩).length=m.length:=by rw[List.length_set];exact h.len
 refine⟨hlen,fun j h1 h2 h3=> ?_,fun j h1 h2 h3=> ?_⟩
 ·rw[List.getElem_set];split
  ·rename_i e;subst e;exact⟨by rw[h.rest k hk hkl (Nat.le_refl _)],hf⟩
  ·exact h.done j h1 (by rw[h.len];exact h1) (by omega)
 ·rw[List.getElem_set,if_neg (by omega)];exact h.rest j h1 (by rw[h.len];exact h1) (by omega)
theorem nL.ok {g:bB} {m l:List Pt} (h:nL g m.length m l) (hok: ∀x∈m,eG x): ∀p∈l,eG p:=by
 intro p hp;obtain⟨j,hj,rfl⟩:=List.getElem_of_mem hp;have hjm:j < m.length:=by rw[←h.len];exact hj
 obtain⟨h1,h2⟩:=h.done j hjm hj hjm;exact⟨h2.GK,by rw[h1];exact (hok _ (List.getElem_mem hjm)).k⟩
theorem nL.sem {g:bB} {m l:List Pt} (h:nL g m.length m l):l.map sem=(m.map sem).map fun x=>⟨fun t n=>x.p t n&&aX g t n,x.k⟩:=by
 apply List.ext_getElem
 ·rw[List.length_map,List.length_map,List.length_map,h.len]
 ·intro j h1 h2;rw[List.length_map] at h1;rw[List.length_map,List.length_map] at h2;obtain⟨h3,h4⟩:=h.done j h2 h1 h2;rw[List.getElem_map,List.getElem_map,List.getElem_map];unfold Go.Proofs.YtajgndoiddmbmaaGreatDoor.sem;rw[h3];congr 1;refine(uX l[j].f).ext (fun t n hr=>by simp only;rw [uY hr];rfl) fun t n ht hn=> ?_;simp only;rw[fS ht hn,fS ht hn,fS ht hn];exact h4.pts t n ht hn
end Go.Proofs.YtajgndoiddmbmaaGreatDoor
