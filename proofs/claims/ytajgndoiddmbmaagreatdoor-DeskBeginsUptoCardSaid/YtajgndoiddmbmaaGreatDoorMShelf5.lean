/- Towards what desk.Run answers. -/
import Derived.Test.YtajgndoiddmbmaaGreatDoorMShelf4
import Derived.Test.YtajgndoiddmbmaaGreatDoorKnow10
import Derived.Test.YtajgndoiddmbmaaGreatDoorMDots
namespace Go.Proofs.YtajgndoiddmbmaaGreatDoor
set_option maxRecDepth 100000
set_option maxHeartbeats 40000000
open Go.RowKit
theorem acO.info:(Tryz.prog.info? 120).map (fun i=>(i.zero,i.size,i.bytes))=some (some (.agg (aN ⟨ByteArray.empty,0,0,0,0,0,⟨[],[]⟩⟩ (.slice none 0 0) (.slice none 0 0))),8,104):=by kernel_rfl
def VE (w:World) (base:Nat):List aA→List (List Value)→Prop
 | [],[]=>True
 | v::l,c::cs=>(∃(a:Option Addr) (n d:Nat) (b:Option Addr) (m e:Nat),c=(aN v (.slice a n d) (.slice b m e)).toList∧bI w base (.slice a n d) (.slice b m e) v.past)∧VE w base l cs
 | _,_=>False
theorem VE.map {w w':World} {base:Nat} (h: ∀u x k,bI w base u x k→bI w' base u x k): ∀ {l:List aA} {cs:List (List Value)},VE w base l cs→VE w' base l cs
 | [],[],_=>trivial
 | _::_,_::_,⟨⟨a,n,d,b,m,e,h1,h2⟩,h3⟩=>⟨⟨a,n,d,b,m,e,h1,h _ _ _ h2⟩,VE.map h h3⟩
 | [],_::_,h3=>h3.elim
 | _::_,[],h3=>h3.elim
theorem VE.snoc {w:World} {base:Nat} : ∀ {l:List aA} {cs:List (List Value)} {v:aA} {c:List Value},VE w base l cs→VE w base [v] [c]→VE w base (l++[v]) (cs++[c])
 | [],[],_,_,_,k=>k
 | _::_,_::_,_,_,h,k=>⟨h.1,VE.snoc h.2 k⟩
 | [],_::_,_,_,h,_=>h.elim
 | _::_,[],_,_,h,_=>h.elim
theorem VE.els {w:World} {base:Nat} : ∀ {l:List aA} {cs:List (List Value)},VE w base l cs→(∀v∈l,v.past.vec.length≤5∧v.past.more.length≤60)→Els eu w l cs
 | [],[],_,_=>trivial
 | v::_,_::_,⟨⟨a,n,d,b,m,e,h1,h2⟩,h3⟩,hb=>⟨⟨_,_,h1,h2.at_ (hb v (by simp)).1 (by have:=(hb v (by simp)).2;omega)⟩,VE.els h3 fun x hx=>hb x (by simp[hx])⟩
 | [],_::_,h,_=>h.elim
 | _::_,[],h,_=>h.elim
def bA (w:World) (base:Nat) (vv:Value) (l:List aA):Prop:= ∃css,VE w base l css∧w.ownsRow base 120 8 vv l.length css.flatten
theorem bA.below {w w':World} {base:Nat} {vv:Value} {l:List aA} (h:bA w base vv l) (hb:Below w.heap.size w w'):bA w' base vv l:=by
 obtain⟨css,h1,h2⟩:=h;exact ⟨css,h1.map fun _ _ _ h=>h.below hb,aI h2 hb⟩
theorem bI.Ew {w:World} {base g j:Nat} {u x y:Value} {k:Kn} {cs:Array Value} (h:bI w base u x k) (hg:w.heap[g]? =some (Obj.cells cs 120 (0,0))):bI (w.setCell ⟨g,j,none⟩ y) base u x k:=
 ⟨cG h.vec hg (by decide),cG h.more hg (by decide)⟩
theorem bA.Ew {w:World} {base g j:Nat} {vv y:Value} {l:List aA} {cs:Array Value} (h:bA w base vv l) (hg:w.heap[g]? =some (Obj.cells cs 120 (0,0))) (hne:vv.ownBlock≠some g):bA (w.setCell ⟨g,j,none⟩ y) base vv l:=by
 obtain⟨css,h1,h2⟩:=h;refine⟨css,h1.map fun _ _ _ h=>h.Ew hg, ?_⟩;exact h2.kept (Gs _ _ _ _) (.inr hne)
theorem bA.at_ {w:World} {base:Nat} {vv:Value} {l:List aA} (h:bA w base vv l) (hb: ∀v∈l,v.past.vec.length≤5∧v.past.more.length≤60) (hl:l.length≤1000):bK eu w vv l:=by
 obtain⟨css,h1,h2⟩:=h;exact⟨css,h1.els hb,aF.fZ h2 (by omega)⟩
theorem nt (w:World) (base:Nat):bA w base (.slice none 0 0) []:=⟨[],trivial,World.ownsRow_nil _ _ _ _⟩
theorem nk (vv:Value) (l:List aA) (w:World) (hv:bK eu w vv l) (hb: ∀v∈l,v.past.vec.length≤5∧v.past.more.length≤60) (hl:l.length≤1000):
  Calls Tryz.prog 134 #[vv] w fun e w'=> ∃ov,e= .returned ov∧bA w' w.heap.size ov l∧Below w.heap.size w w':=by
 obtain⟨a,cap,rfl,hcap,hlen, -,hvl⟩:=hv.open_;have jN:=jD hvl;have HB:=jD hb;clear hv hvl hb;go_enter Tryz.func134,Tryz.ntmps134;go_wp2;go_loopw [3,8] (fun ov i wr=> ∃k:Nat,k≤l.length∧i= .int .i64 k∧bA wr w.heap.size ov (l.take k)∧Below w.heap.size w wr) (fun _ i _=>l.length - (intOf i).toNat)
 case atStart=>exact ⟨0,Nat.zero_le _,rfl,nt _ _,br⟩
 case round=>
  obtain⟨k,hk,rfl,hown,hbl⟩:=hrel;have HOW:=jD hown;have aP:=jD hbl;clear hown hbl;by_cases hlt:k < l.length
  ·rcases jN.o with hnil | ⟨b,off,rfl,hb,hc⟩
   ·rw[hnil] at hlt;simp at hlt
   obtain⟨c,⟨u,x,rfl,hk2⟩,hcc⟩:=hc k hlt;have hcl:=fun (j:Nat) (y:Value) (hy:(aN l[k] u x).toList[j]? =some y)=>xo (w:=wr) (b:=b) (off:=off) (i:=k) (fun j y hy=>(aP.o.cell (p:=⟨b,off+(k*eu.size+j),none⟩) hb).trans (hcc j y hy)) hy;have c0:=hcl 0 _ rfl;have c1:=hcl 1 _ rfl;have c2:=hcl 2 _ rfl;have c3:=hcl 3 _ rfl;have c4:=hcl 4 _ rfl;have c5:=hcl 5 _ rfl;have c6:=hcl 6 _ rfl;have c7:=hcl 7 _ rfl;rw[Nat.add_zero] at c0;obtain⟨ua,uc,rfl⟩:=hk2.vec.shape;obtain⟨xa,xc,rfl⟩:=hk2.more.shape;have dm:=aG (W:=wr) (.cells (aN l[k] (.slice ua l[k].past.vec.length uc) (.slice xa l[k].past.more.length xc)) 120);have G8:=jD (kcopied_c _ _ l[k].past _ ((hk2.below aP.o).below dm) (HB.o _ (List.getElem_mem hlt)).1 (HB.o _ (List.getElem_mem hlt)).2);have gM:=jD dm;have uM:=jD (au wr (aN l[k] (.slice ua l[k].past.vec.length uc) (.slice xa l[k].past.more.length xc)) 120 _ rfl);have HT:=jD (show l.take (k+1)=l.take k++[l[k]] from List.take_succ_eq_append_getElem hlt);have htl:(l.take k).length=k:=by rw[List.length_take];omega
   have Rm:=jD htl;obtain⟨oa,oc,uo⟩: ∃oa oc,_=Value.slice oa k oc:=by
    obtain⟨css, -,h2⟩:=HOW.o;obtain⟨oa,oc,h3⟩:=ay h2;rw[htl] at h3;exact⟨oa,oc,h3⟩
   subst uo;clear hc hcc hcl hk2 dm htl;generalize l[k]=v1 at*;generalize l.take k=lk at*;have lV:decide ((k:Int) < (l.length:Int))=true:=by simp;omega
   unfold aN at G8 gM;go_wp2_with fail
   (with_reducible refine(G8.o).mono ?_);rintro e w2 ⟨ka,kc,kb,kd,rfl,hko,hb2⟩;have bO:=ag hb2 uM.o;have YV:w.heap.size≤wr.heap.size:=aP.o.size;obtain⟨css,Y4,NY⟩:=HOW.o;have hne:(Value.slice oa k oc).ownBlock≠some wr.heap.size:=by
    intro e;have:=(NY.lt _ e).2;omega
   have hov:bA wr w.heap.size (.slice oa k oc) lk:=⟨css,Y4,NY⟩
   have Ry:=bA.below (bA.below hov gM.o) hb2;have ux:((w2.setCell ⟨wr.heap.size,6,none⟩ (.slice ka v1.past.vec.length kc)).setCell ⟨wr.heap.size,7,none⟩ (.slice kb v1.past.more.length kd)).heap[wr.heap.size]? =some (Obj.cells (aN v1 (.slice ka v1.past.vec.length kc) (.slice kb v1.past.more.length kd)) 120 (0,0)):=by rw[ax (ax bO)];rfl
   have MG:=(Ry.Ew (j:=6) (y:=(.slice ka v1.past.vec.length kc)) bO hne).Ew (j:=7) (y:=(.slice kb v1.past.more.length kd)) (ax bO) hne;have Zk:=((hko.mono (base':=w.heap.size) (by simp only[World.size_alloc];omega)).Ew (j:=6) (y:=(.slice ka v1.past.vec.length kc)) bO).Ew (j:=7) (y:=(.slice kb v1.past.more.length kd)) (ax bO);have Zt:=((aj (aj aP.o gM.o) hb2).setCell (p:=⟨wr.heap.size,6,none⟩) YV (.slice ka v1.past.vec.length kc)).setCell (p:=⟨wr.heap.size,7,none⟩) YV (.slice kb v1.past.more.length kd);have jR:=jD (fun j u (hj:((aN v1 (.slice ka v1.past.vec.length kc) (.slice kb v1.past.more.length kd)).toList)[j]? =some u)=>(show(((w2.setCell ⟨wr.heap.size,6,none⟩ (.slice ka v1.past.vec.length kc)).setCell ⟨wr.heap.size,7,none⟩ (.slice kb v1.past.more.length kd)).alloc (.cells (aN v1 (.slice ka v1.past.vec.length kc) (.slice kb v1.past.more.length kd)) 120)).cell? ((⟨w2.heap.size,0,none⟩:Addr).add j)=some u by
    rw[show(⟨w2.heap.size,0,none⟩:Addr).add j=⟨w2.heap.size,j,none⟩ from by simp[Addr.add];exact fun h=>h.symm,World.cell?_alloc_at _ _ _ _ (by simp)];simpa using hj))
   have r6:=cq 6 bO rfl;have r7:=cq 7 bO rfl;have f6:=fq 6 bO;have f7:=fq 7 bO;have r8:=ai bO;have e0:=cq 0 ux rfl;have e1:=cq 1 ux rfl;have e2:=cq 2 ux rfl;have e3:=cq 3 ux rfl;have e4:=cq 4 ux rfl;have e5:=cq 5 ux rfl;have e6:=cq 6 ux rfl;have e7:=cq 7 ux rfl;have hbz:=aG (W:=(w2.setCell ⟨wr.heap.size,6,none⟩ (.slice ka v1.past.vec.length kc)).setCell ⟨wr.heap.size,7,none⟩ (.slice kb v1.past.more.length kd)) (.cells (aN v1 (.slice ka v1.past.vec.length kc) (.slice kb v1.past.more.length kd)) 120);have Aa:=jD (MG.below hbz);have lJ:=jD (Zk.below hbz);have gp:=jD (aj Zt hbz);clear hov bO ux Ry MG Zk Zt hbz hko Y4 NY hb2 uM gM c0 c1 c2 c3 c4 c5 c6 c7;obtain⟨afw,Y3,hrow4⟩:=Aa.o;rw[Rm.o] at hrow4;have aaE:=jD Y3;have mV:=jD hrow4;have hsz:=gp.o.size;have vR:=jD (show ∀u∈(aN v1 (.slice ka v1.past.vec.length kc) (.slice kb v1.past.more.length kd)).toList,u.oneCell'=true by intro u hu;simp only[aN,List.mem_cons,List.not_mem_nil,or_false] at hu;rcases hu with rfl | rfl | rfl | rfl | rfl | rfl | rfl | rfl <;> rfl);clear Y3 hrow4 Aa;have hk1000:k≤1000:=by omega
   unfold aN at*;go_wp2_with (at_builtin;refine wpList_append_own' rfl (.tmp 16) (.tmp 18) 112 rfl w.heap.size 120 _ 8 104 Tryz.underlying112 acO.info rfl (by decide) _ k _ rfl mV.o _ 1 1 _ rfl rfl jR.o vR.o (by unfold maxLen;omega) (by omega) hsz ?_)
   intro v' w5 ho hgr _;obtain⟨qa,qc,hq⟩:=ay ho;subst hq;have HP:=jD (show bA w5 w.heap.size (.slice qa (k+1) qc) (lk++[v1]) from⟨afw++[(aN v1 (.slice ka v1.past.vec.length kc) (.slice kb v1.past.more.length kd)).toList],VE.snoc (aaE.o.map fun _ _ _ h=>⟨fE h.vec mV.o (by decide) hgr,fE h.more mV.o (by decide) hgr⟩) ⟨⟨_,_,_,_,_,_,rfl,⟨fE lJ.o.vec mV.o (by decide) hgr,fE lJ.o.more mV.o (by decide) hgr⟩⟩,trivial⟩,by rw[List.flatten_append,List.length_append,Rm.o];simpa [aN] using ho⟩);have RY:=jD (gp.o.grown hgr gp.o.size fun k hk=>(mV.o.lt k hk).1);clear ho hgr e0 e1 e2 e3 e4 e5 e6 e7 r6 r7 f6 f7 mV aaE jR vR;go_wp2;go_roundw
   case rel=>exact ⟨k+1,by omega,by go_num,by rw[HT.o];exact HP.o,RY.o⟩
   case measure=>simp [intOf] <;> omega
  ·obtain rfl:k=l.length:=by omega
   have hown:=HOW.o;have hbl:=aP.o;rw[List.take_length] at hown;have vR:=jD hown;clear hown HOW;go_wp2;go_ret;exact⟨_,rfl,vR.o,hbl⟩
theorem Yg: ∀args W,(callFunc 165 args).run Tryz.prog W= .ok (.enter 165 args) W:=fun _ _=>by kernel_rfl
structure Kf (l:List aA) (t:aA) (i:Nat) (b:Bool):Prop where
 le:i≤l.length
 lo: ∀q (h:q < l.length),q < i→bJ l[q] t < 0
 hi: ∀q (h:q < l.length),i≤q→0≤bJ l[q] t
 found:b=true↔ ∃h:i < l.length,bJ l[i] t=0
theorem vsearch_c (vv:Value) (l:List aA) (t:aA) (tu tx:Value) (w:World) (hv:bK eu w vv l) (hk:dB w tu tx t.past) (hd:bX (t.ds,t.dc)=true) (Gg: ∀v∈l,bX (v.ds,v.dc)=true)
  (hmono: ∀p q (hp:p < l.length) (hq:q < l.length),p < q→bJ l[q] t < 0→bJ l[p] t < 0):
  Calls Tryz.prog 164 #[vv, .agg (aN t tu tx), .func (.func 165) #[] #[]] w fun e w'=> ∃(i:Nat) (b:Bool),e= .returned (.tuple #[.int .i64 i, .bool b])∧Kf l t i b∧Below w.heap.size w w':=by
 obtain⟨a,cap,rfl,hcap,hm, -,hl⟩:=hv.open_;have pz:=Yg;have jN:=jD hl;have RB:=jD hmono;have tD:=jD Gg;have HD:=jD hd;obtain⟨ta,tc,rfl⟩:=hk.vec.shape;obtain⟨tb,td,rfl⟩:=hk.more.shape;have HK:=jD hk;have hm0:l.length≤140737488355328:=hm;have hst:=au w (aN t (.slice ta t.past.vec.length tc) (.slice tb t.past.more.length td)) 120 _ rfl;have HST:=jD hst;have gN:=jD (aG (W:=w) (.cells (aN t (.slice ta t.past.vec.length tc) (.slice tb t.past.more.length td)) 120));clear hv hl hmono Gg hd hk hst;unfold aN at gN ⊢;go_enter Tryz.func164,Tryz.ntmps164;go_wp2;go_loopw [9,10] (fun x y wr=> ∃i j:Nat,i≤j∧j≤l.length∧x= .int .i64 i∧y= .int .i64 j∧(∀q (h:q < l.length),q < i→bJ l[q] t < 0)∧(∀q (h:q < l.length),j≤q→0≤bJ l[q] t)∧Below w.heap.size w wr∧
   wr.heap[w.heap.size]? =some (Obj.cells (aN t (.slice ta t.past.vec.length tc) (.slice tb t.past.more.length td)) 120 (0,0))) (fun x y _=>(intOf y).toNat - (intOf x).toNat)
 case atStart=>exact ⟨0,l.length,Nat.zero_le _,Nat.le_refl _,rfl,rfl,fun q _ h=>by omega,fun q h h2=>by omega,gN.o,HST.o⟩
 case round=>
  obtain⟨i,j,hij,hj,rfl,rfl,h1,h2,hbl,hst⟩:=hrel;obtain⟨wo,hwo⟩: ∃wo,wo=wr:=⟨_,rfl⟩
  subst hwo;have H1:=jD h1;have H2:=jD h2;have afI:=jD hst;have aP:=jD hbl;have E0:=jD (cq 0 hst rfl);have E1:=jD (cq 1 hst rfl);have E2:=jD (cq 2 hst rfl);have E3:=jD (cq 3 hst rfl);have E4:=jD (cq 4 hst rfl);have E5:=jD (cq 5 hst rfl);have E6:=jD (cq 6 hst rfl);have E7:=jD (cq 7 hst rfl);clear h1 h2 hst hbl HST gN;by_cases hlt:i < j
  ·obtain⟨m,hme⟩: ∃m,m=(i+j) / 2:=⟨_,rfl⟩
   have p5:m < l.length:=by omega
   rcases jN.o with hnil | ⟨b,off,rfl,hb0,hc⟩
   ·rw[hnil] at p5;simp at p5
   obtain⟨c,⟨u,x,rfl,hk2⟩,hcc⟩:=hc m p5;have hcl:=fun (j:Nat) (y:Value) (hy:(aN l[m] u x).toList[j]? =some y)=>xo (w:=wo) (b:=b) (off:=off) (i:=m) (fun j y hy=>(aP.o.cell (p:=⟨b,off+(m*eu.size+j),none⟩) hb0).trans (hcc j y hy)) hy;obtain⟨pa,pc,rfl⟩:=hk2.vec.shape;obtain⟨qa,qc,rfl⟩:=hk2.more.shape;have D0:=jD (hcl 0 _ rfl);have D1:=jD (hcl 1 _ rfl);have D2:=jD (hcl 2 _ rfl);have D3:=jD (hcl 3 _ rfl);have D4:=jD (hcl 4 _ rfl);have D5:=jD (hcl 5 _ rfl);have D6:=jD (hcl 6 _ rfl);have D7:=jD (hcl 7 _ rfl);rw[Nat.add_zero] at D0;have Am:=jD (fun w2 hw2=>Ou l[m] t _ _ _ _ w2 ((hk2.below aP.o).below hw2) ((HK.o.below aP.o).below hw2) (tD.o _ (List.getElem_mem p5)) HD.o);unfold aN at Am;clear hc hcc hcl hk2;have HM:=jD hme;clear hme;have Zg:i≤m:=by have:=HM.o;omega
   have hmj:m < j:=by have:=HM.o;omega
   have lV:decide ((i:Int) < (j:Int))=true:=by simp;omega
   go_wp2_with fail
   rw[show((i:Int)+j) / 2=(m:Int) by have:=HM.o;omega];generalize hX:l[m]=X at*;have HX:=jD hX;clear hX;refine Cl.aV 49 rfl [] (fun _=>True) (fun _=>[]) (fun jq v ww=>match jq with | 0=>v= .func (.func 165) #[] #[] | 1=>v= .slice (some ⟨b,off,none⟩) l.length cap | 2=>v= .int .i64 (m:Nat) | 3=>v= .pointer (some ⟨b,off+m*8,none⟩) | 4=>v= .agg #[.string X.id, .int .i64 X.ds, .int .i64 X.dc, .int .i64 X.tg, .int .i64 X.nm, .int .i64 X.bd, .slice pa X.past.vec.length pc, .slice qa X.past.more.length qc] | 5=>v= .agg #[.string t.id, .int .i64 t.ds, .int .i64 t.dc, .int .i64 t.tg, .int .i64 t.nm, .int .i64 t.bd, .slice ta t.past.vec.length tc, .slice tb t.past.more.length td] | 6=>v= .int .i64 (bJ X t) | 7=>v= .bool (decide (bJ X t < 0)) | _=>True) (fun ww=>Below wo.heap.size wo ww) (fun jq ww aR=>Below ww.heap.size ww aR) Tryz.mixed (by decide+kernel) (br).drew trivial (fun q r v w w' _ _ _ h _=>h) (fun _ _ _ _ _ _=>trivial) ?_ ?_
   ·refine⟨?_, ?_, ?_, ?_, ?_, ?_, ?_, ?_,trivial⟩
    ·intro x wx hG;have f2:=hG.o 2;replace hG:=hG.g;go_wp2;exact⟨_,rfl,rfl,hG,br⟩
    ·intro x wx hG;have f0:=hG.o 0;replace hG:=hG.g;go_wp2;exact⟨_,rfl,rfl,hG,br⟩
    ·intro x wx hG;have f11:=hG.o 11;replace hG:=hG.g;go_wp2;exact⟨_,rfl,rfl,hG,br⟩
    ·intro x wx hG;have g1:=gr 25 (hG.c 1 _ rfl);have g2:=gr 26 (hG.c 2 _ rfl);replace hG:=hG.g;go_wp2;exact⟨_,rfl,rfl,hG,br⟩
    ·intro x wx hG;have g3:=gr 27 (hG.c 3 _ rfl);replace hG:=hG.g;have aao:=ah hG D0.o;have aan:=ah hG D1.o;have aam:=ah hG D2.o;have aal:=ah hG D3.o;have aak:=ah hG D4.o;have aaj:=ah hG D5.o;have aai:=ah hG D6.o;have aah:=ah hG D7.o;go_wp2;exact⟨_,rfl,rfl,hG,br⟩
    ·intro x wx hG;have f4:=hG.o 4;replace hG:=hG.g;have aag:=ah hG E0.o;have aaf:=ah hG E1.o;have aae:=ah hG E2.o;have aad:=ah hG E3.o;have aac:=ah hG E4.o;have aab:=ah hG E5.o;have aaa:=ah hG E6.o;have Z9:=ah hG E7.o;go_wp2;exact⟨_,rfl,rfl,hG,br⟩
    ·intro x wx hG;have⟨g0,og⟩:=gs 24 (hG.c 0 _ rfl);have⟨g4,qE⟩:=gs 28 (hG.c 4 _ rfl);have⟨g5,sj⟩:=gs 29 (hG.c 5 _ rfl);replace hG:=hG.g;go_wp2_with fail
     (with_reducible refine(Am.o _ hG).mono ?_);rintro e wq ⟨rfl,hb⟩;go_wp2;exact⟨_,rfl,rfl,aj hG hb,hb⟩
    ·intro x wx hG;have g6:=gr 30 (hG.c 6 _ rfl);replace hG:=hG.g;go_wp2;exact⟨_,rfl,rfl,hG,br⟩
   ·intro af w1 hg hF;obtain⟨g0,g1,g2,g3,g4,g5,g6,g7, -⟩:=hF;simp only[Cl3.puts,gq (af 0) g0,gq (af 1) g1,gq (af 2) g2,gq (af 3) g3,gq (af 4) g4,gq (af 5) g5,gq (af 6) g6,gq (af 7) g7];clear g0 g1 g2 g3 g4 g5 g6 g7;go_simp
    have cQ:=aj aP.o hg;have Tt:=ag hg afI.o;clear hg D0 D1 D2 D3 D4 D5 D6 D7 E0 E1 E2 E3 E4 E5 E6 E7 Am;cases hd:decide (bJ X t < 0)
    ·have KJ:=jD (show 0≤bJ X t from by simpa using hd);clear hd;go_wp2;go_roundw
     case rel=>
      refine⟨i,m,Zg,by omega,rfl,rfl,H1.o,fun q h h2=> ?_,cQ,Tt⟩;rcases Nat.lt_or_eq_of_le h2 with h3 | rfl
      ·by_cases h4:bJ l[q] t < 0
       ·have h5:=RB.o m q p5 h h3 h4;rw[HX.o] at h5;have:=KJ.o;omega
       ·omega
      ·rw[HX.o];exact KJ.o
     case measure=>simp [intOf];omega
    ·have KJ:=jD (show bJ X t < 0 from by simpa using hd);clear hd;go_wp2;go_roundw
     case rel=>
      refine⟨m+1,j,by omega,hj,by go_num,rfl,fun q h h2=> ?_,H2.o,cQ,Tt⟩;rcases Nat.lt_or_eq_of_le (Nat.le_of_lt_succ h2) with h3 | rfl
      ·exact RB.o q m h p5 h3 (by rw[HX.o];exact KJ.o)
      ·rw[HX.o];exact KJ.o
     case measure=>simp [intOf];omega
  ·obtain rfl:i=j:=by omega
   by_cases hin:i < l.length
   ·have hin2:=hin;rcases jN.o with hnil | ⟨b,off,rfl,hb0,hc⟩
    ·rw[hnil] at hin;simp at hin
    obtain⟨c,⟨u,x,rfl,hk2⟩,hcc⟩:=hc i hin;have hcl:=fun (j:Nat) (y:Value) (hy:(aN l[i] u x).toList[j]? =some y)=>xo (w:=wo) (b:=b) (off:=off) (i:=i) (fun j y hy=>(aP.o.cell (p:=⟨b,off+(i*eu.size+j),none⟩) hb0).trans (hcc j y hy)) hy;obtain⟨pa,pc,rfl⟩:=hk2.vec.shape;obtain⟨qa,qc,rfl⟩:=hk2.more.shape;have D0:=jD (hcl 0 _ rfl);have D1:=jD (hcl 1 _ rfl);have D2:=jD (hcl 2 _ rfl);have D3:=jD (hcl 3 _ rfl);have D4:=jD (hcl 4 _ rfl);have D5:=jD (hcl 5 _ rfl);have D6:=jD (hcl 6 _ rfl);have D7:=jD (hcl 7 _ rfl);rw[Nat.add_zero] at D0;have Am:=jD (fun w2 hw2=>Ou l[i] t _ _ _ _ w2 ((hk2.below aP.o).below hw2) ((HK.o.below aP.o).below hw2) (tD.o _ (List.getElem_mem hin)) HD.o);unfold aN at Am;clear hc hcc hcl hk2;have hdi:decide (i < l.length)=true:=by simpa using hin
    have lV:decide ((i:Int) < (i:Int))=false:=by simp
    go_wp2_with fail
    generalize hX:l[i]=X at*;have HX:=jD hX;clear hX;refine Cl.aV 49 rfl [] (fun _=>True) (fun _=>[]) (fun jq v ww=>match jq with | 0=>v= .int .i64 (i:Nat) | 1=>v= .int .i64 (i:Nat) | 2=>v= .int .i64 (l.length:Nat) | 3=>v= .bool true | 4=>v= .bool true | 5=>v= .func (.func 165) #[] #[] | 6=>v= .slice (some ⟨b,off,none⟩) l.length cap | 7=>v= .int .i64 (i:Nat) | 8=>v= .pointer (some ⟨b,off+i*8,none⟩) | 9=>v= .agg #[.string X.id, .int .i64 X.ds, .int .i64 X.dc, .int .i64 X.tg, .int .i64 X.nm, .int .i64 X.bd, .slice pa X.past.vec.length pc, .slice qa X.past.more.length qc] | 10=>v= .agg #[.string t.id, .int .i64 t.ds, .int .i64 t.dc, .int .i64 t.tg, .int .i64 t.nm, .int .i64 t.bd, .slice ta t.past.vec.length tc, .slice tb t.past.more.length td] | 11=>v= .int .i64 (bJ X t) | 12=>v= .bool (bJ X t==0) | 13=>v= .bool (bJ X t==0) | 14=>v= .int .i64 (i:Nat) | 15=>v= .bool (bJ X t==0) | _=>True) (fun ww=>Below wo.heap.size wo ww) (fun jq ww aR=>Below ww.heap.size ww aR) Tryz.mixed (by decide+kernel) (br).drew trivial (fun q r v w w' _ _ _ h _=>h) (fun _ _ _ _ _ _=>trivial) ?_ ?_
    ·refine⟨?_, ?_, ?_, ?_, ?_, ?_, ?_, ?_, ?_, ?_, ?_, ?_, ?_, ?_, ?_, ?_,trivial⟩
     ·intro x wx hG;have f9:=hG.o 9;replace hG:=hG.g;go_wp2;exact⟨_,rfl,rfl,hG,br⟩
     ·intro x wx hG;have f9:=hG.o 9;replace hG:=hG.g;go_wp2;exact⟨_,rfl,rfl,hG,br⟩
     ·intro x wx hG;have f8:=hG.o 8;replace hG:=hG.g;go_wp2;exact⟨_,rfl,rfl,hG,br⟩
     ·intro x wx hG;have g1:=gr 36 (hG.c 1 _ rfl);have g2:=gr 37 (hG.c 2 _ rfl);replace hG:=hG.g;go_wp2;exact⟨_,rfl,rfl,hG,br⟩
     ·intro x wx hG;have g3:=gr 38 (hG.c 3 _ rfl);replace hG:=hG.g;go_wp2;exact⟨_,rfl,rfl,hG,br⟩
     ·intro x wx hG;have f2:=hG.o 2;have gg:=gr 39 (hG.c 4 _ rfl);replace gg:=hG.q gg;replace hG:=hG.g;go_wp2;exact⟨_,rfl,rfl,hG,br⟩
     ·intro x wx hG;have f0:=hG.o 0;have gg:=gr 39 (hG.c 4 _ rfl);replace gg:=hG.q gg;replace hG:=hG.g;go_wp2;exact⟨_,rfl,rfl,hG,br⟩
     ·intro x wx hG;have f9:=hG.o 9;have gg:=gr 39 (hG.c 4 _ rfl);replace gg:=hG.q gg;replace hG:=hG.g;go_wp2;exact⟨_,rfl,rfl,hG,br⟩
     ·intro x wx hG;have g6:=gr 41 (hG.c 6 _ rfl);have g7:=gr 42 (hG.c 7 _ rfl);have gg:=gr 39 (hG.c 4 _ rfl);replace gg:=hG.q gg;replace hG:=hG.g;go_wp2;exact⟨_,rfl,rfl,hG,br⟩
     ·intro x wx hG;have g8:=gr 43 (hG.c 8 _ rfl);have gg:=gr 39 (hG.c 4 _ rfl);replace gg:=hG.q gg;replace hG:=hG.g;have aao:=ah hG D0.o;have aan:=ah hG D1.o;have aam:=ah hG D2.o;have aal:=ah hG D3.o;have aak:=ah hG D4.o;have aaj:=ah hG D5.o;have aai:=ah hG D6.o;have aah:=ah hG D7.o;go_wp2;exact⟨_,rfl,rfl,hG,br⟩
     ·intro x wx hG;have f4:=hG.o 4;have gg:=gr 39 (hG.c 4 _ rfl);replace gg:=hG.q gg;replace hG:=hG.g;have aag:=ah hG E0.o;have aaf:=ah hG E1.o;have aae:=ah hG E2.o;have aad:=ah hG E3.o;have aac:=ah hG E4.o;have aab:=ah hG E5.o;have aaa:=ah hG E6.o;have Z9:=ah hG E7.o;go_wp2;exact⟨_,rfl,rfl,hG,br⟩
     ·intro x wx hG;have⟨g5,sj⟩:=gs 40 (hG.c 5 _ rfl);have⟨g9,zy⟩:=gs 44 (hG.c 9 _ rfl);have⟨g10,xN⟩:=gs 45 (hG.c 10 _ rfl);have gg:=gr 39 (hG.c 4 _ rfl);replace gg:=hG.q gg;replace hG:=hG.g;go_wp2_with fail
      (with_reducible refine(Am.o _ hG).mono ?_);rintro e wq ⟨rfl,hb⟩;go_wp2;exact⟨_,rfl,rfl,aj hG hb,hb⟩
     ·intro x wx hG;have g11:=gr 46 (hG.c 11 _ rfl);have gg:=gr 39 (hG.c 4 _ rfl);replace gg:=hG.q gg;replace hG:=hG.g;go_wp2;exact⟨_,rfl,rfl,hG,br⟩
     ·intro x wx hG;have g4:=gr 39 (hG.c 4 _ rfl);have g12:=gr 47 (hG.c 12 _ rfl);replace hG:=hG.g;go_wp2;exact⟨_,rfl,rfl,hG,br⟩
     ·intro x wx hG;have g0:=gr 35 (hG.c 0 _ rfl);replace hG:=hG.g;go_wp2;exact⟨_,rfl,rfl,hG,br⟩
     ·intro x wx hG;have g13:=gr 48 (hG.c 13 _ rfl);replace hG:=hG.g;go_wp2;exact⟨_,rfl,rfl,hG,br⟩
    ·intro af w1 hg hF;obtain⟨g0,g1,g2,g3,g4,g5,g6,g7,g8,g9,g10,g11,g12,g13,g14,g15, -⟩:=hF;simp only[Cl3.puts,gq (af 0) g0,gq (af 1) g1,gq (af 2) g2,gq (af 3) g3,gq (af 4) g4,gq (af 5) g5,gq (af 6) g6,gq (af 7) g7,gq (af 8) g8,gq (af 9) g9,gq (af 10) g10,gq (af 11) g11,gq (af 12) g12,gq (af 13) g13,gq (af 14) g14,gq (af 15) g15];clear g0 g1 g2 g3 g4 g5 g6 g7 g8 g9 g10 g11 g12 g13 g14 g15;go_simp
     have cQ:=aj aP.o hg;clear hg;go_wp2;go_ret2;exact⟨i,(bJ X t==0),rfl,⟨hj,H1.o,H2.o,by rw[beq_iff_eq];exact ⟨fun h=>⟨hin,by rw[HX.o];exact h⟩,fun ⟨_,h⟩=>by rw[HX.o] at h;exact h⟩⟩,cQ⟩
   ·have hdi:decide (i < l.length)=false:=by simpa using hin
    have lV:decide ((i:Int) < (i:Int))=false:=by simp
    go_wp2_with fail
    refine Cl.aV 49 rfl [] (fun _=>True) (fun _=>[]) (fun jq v ww=>match jq with | 0=>v= .int .i64 (i:Nat) | 1=>v= .int .i64 (i:Nat) | 2=>v= .int .i64 (l.length:Nat) | 3=>v= .bool false | 4=>v= .bool false | 5=>v=undef | 6=>v=undef | 7=>v=undef | 8=>v=undef | 9=>v=undef | 10=>v=undef | 11=>v=undef | 12=>v=undef | 13=>v= .bool false | 14=>v= .int .i64 (i:Nat) | 15=>v= .bool false | _=>True) (fun ww=>Below wo.heap.size wo ww) (fun jq ww aR=>Below ww.heap.size ww aR) Tryz.mixed (by decide+kernel) (br).drew trivial (fun q r v w w' _ _ _ h _=>h) (fun _ _ _ _ _ _=>trivial) ?_ ?_
    ·refine⟨?_, ?_, ?_, ?_, ?_, ?_, ?_, ?_, ?_, ?_, ?_, ?_, ?_, ?_, ?_, ?_,trivial⟩
     ·intro x wx hG;have f9:=hG.o 9;replace hG:=hG.g;go_wp2;exact⟨_,rfl,rfl,hG,br⟩
     ·intro x wx hG;have f9:=hG.o 9;replace hG:=hG.g;go_wp2;exact⟨_,rfl,rfl,hG,br⟩
     ·intro x wx hG;have f8:=hG.o 8;replace hG:=hG.g;go_wp2;exact⟨_,rfl,rfl,hG,br⟩
     ·intro x wx hG;have g1:=gr 36 (hG.c 1 _ rfl);have g2:=gr 37 (hG.c 2 _ rfl);replace hG:=hG.g;go_wp2;exact⟨_,rfl,rfl,hG,br⟩
     ·intro x wx hG;have g3:=gr 38 (hG.c 3 _ rfl);replace hG:=hG.g;go_wp2;exact⟨_,rfl,rfl,hG,br⟩
     ·intro x wx hG;have gg:=gr 39 (hG.c 4 _ rfl);replace gg:=hG.q gg;replace hG:=hG.g;go_wp2;exact⟨_,rfl,rfl,hG,br⟩
     ·intro x wx hG;have gg:=gr 39 (hG.c 4 _ rfl);replace gg:=hG.q gg;replace hG:=hG.g;go_wp2;exact⟨_,rfl,rfl,hG,br⟩
     ·intro x wx hG;have gg:=gr 39 (hG.c 4 _ rfl);replace gg:=hG.q gg;replace hG:=hG.g;go_wp2;exact⟨_,rfl,rfl,hG,br⟩
     ·intro x wx hG;have gg:=gr 39 (hG.c 4 _ rfl);replace gg:=hG.q gg;replace hG:=hG.g;go_wp2;exact⟨_,rfl,rfl,hG,br⟩
     ·intro x wx hG;have gg:=gr 39 (hG.c 4 _ rfl);replace gg:=hG.q gg;replace hG:=hG.g;go_wp2;exact⟨_,rfl,rfl,hG,br⟩
     ·intro x wx hG;have gg:=gr 39 (hG.c 4 _ rfl);replace gg:=hG.q gg;replace hG:=hG.g;go_wp2;exact⟨_,rfl,rfl,hG,br⟩
     ·intro x wx hG;have gg:=gr 39 (hG.c 4 _ rfl);replace gg:=hG.q gg;replace hG:=hG.g;go_wp2;exact⟨_,rfl,rfl,hG,br⟩
     ·intro x wx hG;have gg:=gr 39 (hG.c 4 _ rfl);replace gg:=hG.q gg;replace hG:=hG.g;go_wp2;exact⟨_,rfl,rfl,hG,br⟩
     ·intro x wx hG;have g4:=gr 39 (hG.c 4 _ rfl);have g12:=gr 47 (hG.c 12 _ rfl);replace hG:=hG.g;go_wp2;exact⟨_,rfl,rfl,hG,br⟩
     ·intro x wx hG;have g0:=gr 35 (hG.c 0 _ rfl);replace hG:=hG.g;go_wp2;exact⟨_,rfl,rfl,hG,br⟩
     ·intro x wx hG;have g13:=gr 48 (hG.c 13 _ rfl);replace hG:=hG.g;go_wp2;exact⟨_,rfl,rfl,hG,br⟩
    ·intro af w1 hg hF;obtain⟨g0,g1,g2,g3,g4,g5,g6,g7,g8,g9,g10,g11,g12,g13,g14,g15, -⟩:=hF;simp only[Cl3.puts,gq (af 0) g0,gq (af 1) g1,gq (af 2) g2,gq (af 3) g3,gq (af 4) g4,gq (af 5) g5,gq (af 6) g6,gq (af 7) g7,gq (af 8) g8,gq (af 9) g9,gq (af 10) g10,gq (af 11) g11,gq (af 12) g12,gq (af 13) g13,gq (af 14) g14,gq (af 15) g15];clear g0 g1 g2 g3 g4 g5 g6 g7 g8 g9 g10 g11 g12 g13 g14 g15;go_simp
     have cQ:=aj aP.o hg;clear hg;go_wp2;go_ret2;exact⟨i,false,rfl,⟨hj,H1.o,H2.o,by constructor;intro h;exact absurd h (by decide);rintro ⟨h, -⟩;exact absurd h hin⟩,cQ⟩
theorem aau.info:(Tryz.prog.info? 120).map (fun i=>(i.zero,i.size,i.bytes))=some (some (.agg #[.string ByteArray.empty, .int .i64 0, .int .i64 0, .int .i64 0, .int .i64 0, .int .i64 0, .slice none 0 0, .slice none 0 0]),8,104):=by kernel_rfl
theorem Ra (v:Value) (n:Nat) (xs:List Value) (w:World) (hs:aF w v n xs) (hl:xs.length=n*8) (h1: ∀u∈xs,u.oneCell'=true) (hb:n*104≤140737488355328):
  Calls Tryz.prog 170 #[v] w fun e w'=> ∃v',e= .returned v'∧w'.ownsRow w.heap.size 120 8 v' n xs∧Below w.heap.size w w':=by
 obtain⟨i0,hi,hz0,hz1,hz2⟩:=info_parts aau.info;have hs0:=hs;obtain⟨a,cap,rfl,hn,hm,h0,hc⟩:=hs;cases a with
 | none=>
  obtain rfl:=h0 rfl;obtain rfl:n=0:=by omega
  obtain rfl:xs=[]:=List.eq_nil_of_length_eq_zero (by simpa using hl);clear hc hs0 h0 hn hm hl;have heq:=Lib.run_eql_slice_nil (P:=Tryz.prog) w 112 120 none 0 0 0 0 Tryz.underlying112;go_enter Tryz.func170,Tryz.ntmps170;go_wp2;go_ret;exact⟨_,rfl,World.ownsRow_nil _ _ _ _,br⟩
 | some ad=>
  have HS:=jD (hs0.below (aG (.cells #[] 120)));have HO:=jD (Dd w w.heap.size 8 120 #[] 0 _ rfl (Nat.le_refl _) (by decide) rfl);have HL:=jD hl;clear hc hs0 h0 hl;have heq:=Lib.run_eql_slice_nil (P:=Tryz.prog) w 112 120 (some ad) n cap 0 0 Tryz.underlying112;go_enter Tryz.func170,Tryz.ntmps170;go_wp2_with (at_builtin;refine fH (w0:=w) rfl (.tmp 5) (.tmp 6) 112 rfl w.heap.size 120 (.agg #[.string ByteArray.empty, .int .i64 0, .int .i64 0, .int .i64 0, .int .i64 0, .int .i64 0, .slice none 0 0, .slice none 0 0]) 8 104 Tryz.underlying112 aau.info rfl (by decide) _ 0 [] rfl HO.o _ n xs rfl HS.o HL.o h1 (aG _) (by simp) (by unfold maxLen;omega) (by omega) ?_)
  intro v' w1 hown hb1;go_wp2;go_ret;exact⟨_,rfl,by simpa using hown,hb1⟩
end Go.Proofs.YtajgndoiddmbmaaGreatDoor
