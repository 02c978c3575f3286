/- Towards what desk.Run answers. -/
import Derived.Test.YtajgndoiddmbmaaGreatDoorMFilter4
import Derived.Test.YtajgndoiddmbmaaGreatDoorMShelf11
namespace Go.Proofs.YtajgndoiddmbmaaGreatDoor
set_option maxRecDepth 100000
set_option maxHeartbeats 40000000
open Go.RowKit
theorem fJ.sub {w w':World} {v:Value} {l:cp} (h:fJ w v l) (hs:Sub w w'):fJ w' v l:=aF.sub h hs
theorem bZ.sub {w w':World} {v:Value} {l:bB} (h:bZ w v l) (hs:Sub w w'):bZ w' v l:=by
 obtain⟨us,h1,h2,h3⟩:=h;exact⟨us,h1,h2.sub hs,fun i hi hi'=>(h3 i hi hi').sub hs⟩
def cU:BC Pt where
 size:=3
 El w p cs:= ∃f u x,cs=[f,u,x]∧bZ w f p.f∧dB w u x p.k
 len:=by rintro w p cs ⟨f,u,x,rfl, -⟩;rfl
 one:=by
  rintro w p cs ⟨f,u,x,rfl,h0,h⟩ z hz;obtain⟨a,c,rfl⟩:=h.vec.shape;obtain⟨b,d,rfl⟩:=h.more.shape;obtain⟨a',c',rfl⟩:=h0.shape;simp only[List.mem_cons,List.not_mem_nil,or_false] at hz;rcases hz with rfl | rfl | rfl <;> rfl
 sub:=by rintro w w' v cs ⟨f,u,x,rfl,h0,h⟩ hs;exact ⟨f,u,x,rfl,h0.sub hs,h.sub hs⟩
 pos:=by decide
theorem zU.info:(Tryz.prog.info? 238).map (fun i=>(i.zero,i.size,i.bytes))=some (some (.agg #[.slice none 0 0, .slice none 0 0, .slice none 0 0]),3,72):=by kernel_rfl
theorem IU {w:World} {b off i:Nat} {c:List Value} (h: ∀(j:Nat) (x:Value),c[j]? =some x→w.cell? ⟨b,off+(i*3+j),none⟩=some x) {j:Nat} {x:Value} (hx:c[j]? =some x):w.cell? ⟨b,off+i*3+j,none⟩=some x:=by
 rw[Nat.add_assoc];exact h j x hx
theorem CY {w wr:World} {b off i:Nat} {p:Pt} {c:List Value} (hb:b < w.heap.size) (hbl:Below w.heap.size w wr) (hE:cU.El w p c) (hc: ∀j x,c[j]? =some x→w.cell? ⟨b,off+(i*cU.size+j),none⟩=some x):
  ∃f u x,wr.cell? ⟨b,off+i*3,none⟩=some f∧wr.cell? ⟨b,off+i*3+1,none⟩=some u∧wr.cell? ⟨b,off+i*3+2,none⟩=some x∧bZ wr f p.f∧dB wr u x p.k:=by
 obtain⟨f,u,x,rfl,h0,h1⟩:=hE;have hk:=fun (j:Nat) (y:Value) (hy:[f,u,x][j]? =some y)=>IU (w:=wr) (b:=b) (off:=off) (i:=i) (fun j y hy=>(hbl.cell (p:=⟨b,off+(i*3+j),none⟩) hb).trans (hc j y hy)) hy;have c0:=hk 0 _ rfl;rw[Nat.add_zero] at c0;exact⟨f,u,x,c0,hk 1 _ rfl,hk 2 _ rfl,h0.below hbl,h1.below hbl⟩
theorem qN (v:Value) (l:List Pt) (w:World) (hs:bK cU w v l):
  Calls Tryz.prog 140 #[v] w fun e w'=>e= .returned (.int .i64 (bE l))∧Below w.heap.size w w':=by
 obtain⟨a,cap,rfl,hcap,hm, -,hl⟩:=hs.open_;clear hs;by_cases se:30 < l.length
 ·have H:=jD (show bE l=2 by simp[bE,se]);clear hl;go_enter Tryz.func140,Tryz.ntmps140;go_wp2;go_ret;exact⟨bw H.o.symm,br⟩
 have HF:=jD (show bE l=ptsFrom (l.drop 0) by rw[bE,if_neg se];rfl);have HL:=jD hl;clear hl;go_enter Tryz.func140,Tryz.ntmps140;go_wp2;go_loopw [12] (fun i wr=> ∃k:Nat,k≤l.length∧i= .int .i64 k∧bE l=ptsFrom (l.drop k)∧Below w.heap.size w wr) (fun i _=>l.length - (intOf i).toNat)
 case atStart=>exact ⟨0,Nat.zero_le _,rfl,HF.o,br⟩
 case round=>
  obtain⟨k,hk,rfl,hno,hbl⟩:=hrel;have HN:=jD hno;clear hno HF;by_cases hlt:k < l.length
  ·rcases HL.o with hnil | ⟨b,off,rfl,hb,hc⟩
   ·rw[hnil] at hlt;simp at hlt
   obtain⟨c,hE,hcc⟩:=hc k hlt;obtain⟨f,u,x,d1,d2,d3,hf,hkn⟩:=CY hb hbl hE hcc;have cz:=jD (fun h=>HN.o.trans (NC l k hlt h));have eT:=jD (fun h=>HN.o.trans (Lj l k hlt h));clear hc hE hcc;generalize l[k]=p at*;obtain⟨pf,pk⟩:=p;simp only at hf hkn;obtain⟨fa,fc,rfl⟩:=hf.shape;obtain⟨ua,uc,rfl⟩:=hkn.vec.shape;obtain⟨xa,xc,rfl⟩:=hkn.more.shape;have dm:=aG (W:=wr) (.cells #[.slice fa pf.length fc, .slice ua pk.vec.length uc, .slice xa pk.more.length xc] 238);have uM:=jD (au wr #[.slice fa pf.length fc, .slice ua pk.vec.length uc, .slice xa pk.more.length xc] 238 _ rfl);have KH:=jD (qg _ pf _ (hf.below dm));have dh:=jD (hkn.below dm);have gM:=jD (aj hbl dm);clear hf hkn dm hbl;go_wp2_with fail
   (with_reducible refine(KH.o).mono ?_);rintro e w1 ⟨rfl,hb1⟩;have qf:=ag hb1 uM.o;have TD:=dh.o.below hb1;have cQ:=aj gM.o hb1;clear KH uM dh gM hb1 d1 d2 d3;have c1:=cq 1 qf rfl;have c2:=cq 2 qf rfl;clear qf;by_cases h0:bP pf=0;rotate_left
   ·have hv:pV ⟨pf,pk⟩=bP pf:=by simp only[pV,if_neg h0]
    have H:=jD ((eT.o (by rw[hv];exact h0)).trans hv);have hne:decide (bP pf=0)=false:=by simpa using h0
    have hnb:(bP pf != 0)=true:=bne_iff_ne.2 h0;clear cz eT hv h0 TD;generalize bP pf=sc at*;go_wp2;go_ret;exact⟨bw H.o.symm,cQ⟩
   have hv:pV ⟨pf,pk⟩=bF pk:=by simp only[pV,if_pos h0]
   rw[h0];rw[hv] at cz eT;have G8:=jD (knChk_c _ _ pk _ TD);clear h0 hv TD;go_wp2_with fail
   (with_reducible refine(G8.o).mono ?_);rintro e w2 ⟨rfl,hb2⟩;replace cQ:=aj cQ hb2;clear c1 c2 G8 hb2;by_cases h0:bF pk=0;rotate_left
   ·have H:=jD (eT.o h0);have hne:decide (bF pk=0)=false:=by simpa using h0
    have hnb:(bF pk != 0)=true:=bne_iff_ne.2 h0;clear cz eT h0;generalize bF pk=sc at*;go_wp2;go_ret;exact⟨bw H.o.symm,cQ⟩
   have H:=jD (cz.o h0);rw[h0];clear cz eT h0;go_wp2;go_roundw
   case rel=>exact ⟨k+1,by omega,by go_num,H.o,cQ⟩
   case measure=>simp [intOf] <;> omega
  ·obtain rfl:k=l.length:=by omega
   go_wp2;go_ret;exact⟨bw (by rw[HN.o];simp [ptsFrom]),hbl⟩
def AW (D:Pt→Prop) (g:FuncId) (caps:Array Value) (p:Pt→Bool) (w:World):Prop:=
 (∀args W,(callFunc g args).run Tryz.prog W= .ok (.enter g args) W)∧ ∀(a:Pt) (f u x:Value) (W:World),D a→Below w.heap.size w W→bZ W f a.f→dB W u x a.k→Calls Tryz.prog g (#[.agg #[f,u,x]]++caps) W fun e w'=>e= .returned (.bool (p a))∧Below W.heap.size W w'
theorem Jj (D:Pt→Prop) (vv:Value) (l:List Pt) (g:FuncId) (caps:Array Value) (p:Pt→Bool) (w:World) (hv:bK cU w vv l) (hD: ∀v∈l,D v) (hp:AW D g caps p w):
  Calls Tryz.prog 206 #[vv, .func (.func g) #[] caps] w fun e w'=>e= .returned (.int .i64 (nE p l))∧Below w.heap.size w w':=by
 obtain⟨a,cap,rfl,hcap,hlen, -,hvl⟩:=hv.open_;obtain⟨hcall,hp⟩:=hp;have HP:=jD hp;have HD:=jD hD;have jN:=jD hvl;clear hv hp hD hvl;go_enter Tryz.func206,Tryz.ntmps206;go_wp2;go_loopw [8] (fun i wr=> ∃k:Nat,k≤l.length∧i= .int .i64 k∧(∀j (hj:j < l.length),j < k→p l[j]=false)∧Below w.heap.size w wr) (fun i _=>l.length - (intOf i).toNat)
 case atStart=>exact ⟨0,Nat.zero_le _,rfl,fun j _ h=>by omega,br⟩
 case round=>
  obtain⟨k,hk,rfl,hall,hbl⟩:=hrel;have o6:=jD hall;clear hall;by_cases hlt:k < l.length
  ·rcases jN.o with hnil | ⟨b,off,rfl,hb,hc⟩
   ·rw[hnil] at hlt;simp at hlt
   obtain⟨c,hE,hcc⟩:=hc k hlt;obtain⟨f,u,x,d1,d2,d3,hf,hkn⟩:=CY hb hbl hE hcc;have HV:=jD (HP.o l[k] f u x wr (HD.o _ (List.getElem_mem hlt)) hbl hf hkn);obtain⟨fa,fc,rfl⟩:=hf.shape;obtain⟨ua,uc,rfl⟩:=hkn.vec.shape;obtain⟨xa,xc,rfl⟩:=hkn.more.shape;have HF:=jD (fun (h:p l[k]=true)=>Gy hlt h fun j hj=>o6.o j (by omega) hj);have HG:=jD (fun (h:p l[k]=false) j (hj:j < l.length) (hj2:j < k+1)=>(show p l[j]=false by
    by_cases e:j=k
    ·subst e;exact h
    ·exact o6.o j hj (by omega)))
   clear hc hE hcc hf hkn;generalize l[k]=v at*;go_wp2_with fail
   refine(HV.o).mono ?_;rintro e w1 ⟨rfl,hb1⟩;have cQ:=aj hbl hb1;clear hbl hb1 HV d1 d2 d3;cases hpv:p v
   ·have sI:=jD (HG.o hpv);clear hpv;go_wp2;go_roundw
    case rel=>exact ⟨k+1,by omega,by go_num,sI.o,cQ⟩
    case measure=>simp [intOf] <;> omega
   ·have sI:=jD (HF.o hpv);clear hpv;go_wp2;go_ret;exact⟨by rw[sI.o];rfl,cQ⟩
  ·have sI:=jD (Bd fun j hj=>o6.o j hj (by omega));go_wp2;go_ret;exact⟨by rw[sI.o];rfl,hbl⟩
theorem Bi (D:Pt→Prop) (vv:Value) (l:List Pt) (g:FuncId) (caps:Array Value) (p:Pt→Bool) (w:World) (hv:bK cU w vv l) (hD: ∀v∈l,D v) (hp:AW D g caps p w):
  Calls Tryz.prog 181 #[vv, .func (.func g) #[] caps] w fun e w'=>e= .returned (.bool (l.any p))∧Below w.heap.size w w':=by
 have H:=jD (Jj D vv l g caps p w hv hD hp);obtain⟨a,cap,rfl⟩:=hv.shape;have HA:=jD (Dt p l);clear hv hD hp;go_enter Tryz.func181,Tryz.ntmps181;go_wp2_with fail
 refine(H.o).mono ?_;rintro e w1 ⟨rfl,hb1⟩;go_wp2;go_ret;exact⟨by rw[←HA.o];rfl,hb1⟩
def yY (t n s c:Int) (x:Pt):Bool:=cE x.f t n&&aU x.k s c
def uZ (l:List Pt) (t n s c:Int):Bool:=l.any (yY t n s c)
theorem Yw (A B:Nat) (t n s c:Int) (w:World) (hA:w.heap[A]? =some (Obj.cells #[.int .i64 t, .int .i64 n] 96 (0,0))) (hB:w.heap[B]? =some (Obj.cells #[.int .i64 s, .int .i64 c] 103 (0,0))) (hd:bX (s,c)=true):
  AW eG 182 #[.pointer (some ⟨A,0,none⟩), .pointer (some ⟨B,0,none⟩)] (yY t n s c) w:=by
 refine⟨enters_of Tryz.func182 (by kernel_rfl) rfl,fun a f u x W hok hbl hf hk=> ?_⟩;show Calls Tryz.prog 182 #[.agg #[f,u,x], .pointer (some ⟨A,0,none⟩), .pointer (some ⟨B,0,none⟩)] W _;have Mi:=ag hbl hA;have qf:=ag hbl hB;clear hbl hA hB;obtain⟨fa,fc,rfl⟩:=hf.shape;obtain⟨ua,uc,rfl⟩:=hk.vec.shape;obtain⟨xa,xc,rfl⟩:=hk.more.shape;have hbel:=aG (W:=W) (.cells #[.slice fa a.f.length fc, .slice ua a.k.vec.length uc, .slice xa a.k.more.length xc] 238);have uM:=jD (ag hbel qf);have HNP:=jD (au W #[.slice fa a.f.length fc, .slice ua a.k.vec.length uc, .slice xa a.k.more.length xc] 238 _ rfl);have HIF:=jD (Ig _ a.f t n _ (hf.below hbel));have HK:=jD (hk.below hbel);have c0:=cq 0 Mi rfl;have c1:=cq 1 Mi rfl;have ZK:=ai Mi;have hBl:=ai qf;have jo:=jD hbel;obtain⟨hko, -⟩:=di.1 hok.k;obtain⟨⟨d0,d5⟩,d1,d2⟩:=jx.1 hd;simp only at d0 d5 d1 d2;have aZ:=jD (kC (l:=[(s,c)]) fun d hx=>by simp only[List.mem_singleton] at hx;rw [hx];exact hd);have KR:=jD (kC fun d hd=>(hko.nH d hd).1);have G0:=jD hko;clear hf hk Mi qf hbel hok hko hd;go_enter Tryz.func182,Tryz.ntmps182;go_wp2_with fail
 (with_reducible refine(HIF.o).mono ?_);rintro e w1 ⟨rfl,hb1⟩;have Mg:=ag hb1 HNP.o;have Dm:=ag hb1 uM.o;have yA:=jD (knIn_c _ _ a.k s c _ (HK.o.below hb1) d0 G0.o.ord KR.o aZ.o);have cQ:=aj jo.o hb1;have HPI:=jD (show yY t n s c a=(cE a.f t n&&aU a.k s c) from rfl);clear HIF HNP uM HK jo hb1 c0 c1;cases hin:cE a.f t n
 ·have H:=jD (show yY t n s c a=false by rw[HPI.o,hin];rfl);clear hin yA Mg Dm;go_wp2;go_ret;exact⟨by rw[H.o];rfl,cQ⟩
 have H:=jD (show yY t n s c a=aU a.k s c by rw[HPI.o,hin];rfl);have c1:=cq 1 Mg rfl;have c2:=cq 2 Mg rfl;have e0:=cq 0 Dm rfl;have e1:=cq 1 Dm rfl;clear hin Mg Dm;go_wp2_with fail
 (with_reducible refine(yA.o).mono ?_);rintro e w2 ⟨rfl,hb2⟩;replace cQ:=aj cQ hb2;clear hb2 yA c1 c2 e0 e1;go_wp2;go_ret;exact⟨by rw[H.o];rfl,cQ⟩
theorem LY (v:Value) (l:List Pt) (t n s c:Int) (w:World) (hv:bK cU w v l) (hok: ∀x∈l,eG x) (hd:bX (s,c)=true):
  Calls Tryz.prog 141 #[v, .agg #[.int .i64 t, .int .i64 n], .agg #[.int .i64 s, .int .i64 c]] w fun e w'=>e= .returned (.bool (uZ l t n s c))∧Below w.heap.size w w':=by
 obtain⟨W,hW⟩: ∃W,W=(w.alloc (.cells #[.int .i64 t, .int .i64 n] 96)).alloc (.cells #[.int .i64 s, .int .i64 c] 103):=⟨_,rfl⟩
 have hbel:Below w.heap.size w W:=by rw[hW];exact (aG _).alloc (by simp) _
 have A:=(show W.heap[w.heap.size]? =some (Obj.cells #[.int .i64 t, .int .i64 n] 96 (0,0)) by rw[hW];exact aO _ (au _ _ _ _ rfl))
 have B:=(show W.heap[w.heap.size+1]? =some (Obj.cells #[.int .i64 s, .int .i64 c] 103 (0,0)) by rw[hW];exact au _ _ _ _ (by simp))
 obtain⟨a,cap,rfl⟩:=hv.shape;have HC:=jD (Bi eG _ l 182 _ (yY t n s c) W (hv.below hbel) hok (Yw w.heap.size (w.heap.size+1) t n s c W A B hd));have HI:=jD (show uZ l t n s c=l.any (yY t n s c) from rfl);clear A B hv hok hd;go_enter Tryz.func141,Tryz.ntmps141;go_wp2_with fail
 rw[←hW];clear hW;(with_reducible refine(HC.o).mono ?_);rintro e w1 ⟨rfl,hb1⟩;replace hbel:=aj hbel hb1;clear hb1 HC;go_wp2;go_ret;exact⟨by rw[HI.o];rfl,hbel⟩
def rR (l:List Pt) (t n s c:Int):Bool:=decide (bE l=0)&&eP t n&&bX (s,c)&&uZ l t n s c
def pg (l:List Pt) (t n s c:Int):Int:=if bE l=0 then(if (eP t n&&bX (s,c))=true then 0 else 1) else bE l
theorem SR (v:Value) (l:List Pt) (t n s c:Int) (w:World) (hv:bK cU w v l):
  Calls Tryz.prog 101 #[v, .agg #[.int .i64 t, .int .i64 n], .agg #[.int .i64 s, .int .i64 c]] w fun e w'=>e= .returned (.tuple #[.bool (rR l t n s c), .int .i64 (pg l t n s c)])∧Below w.heap.size w w':=by
 obtain⟨a,cap,rfl⟩:=hv.shape;have HZ:=jD (fo (l:=l));have HA:=jD (show rR l t n s c=(decide (bE l=0)&&eP t n&&bX (s,c)&&uZ l t n s c) from rfl);have HE:=jD (show pg l t n s c=if bE l=0 then(if (eP t n&&bX (s,c))=true then 0 else 1) else bE l from rfl);obtain⟨W,hW⟩: ∃W,W=(w.alloc (.cells #[.int .i64 t, .int .i64 n] 96)).alloc (.cells #[.int .i64 s, .int .i64 c] 103):=⟨_,rfl⟩
 have hbel:Below w.heap.size w W:=by rw[hW];exact (aG _).alloc (by simp) _
 have A:=jD (show W.heap[w.heap.size]? =some (Obj.cells #[.int .i64 t, .int .i64 n] 96 (0,0)) by rw[hW];exact aO _ (au _ _ _ _ rfl));have B:=jD (show W.heap[w.heap.size+1]? =some (Obj.cells #[.int .i64 s, .int .i64 c] 103 (0,0)) by rw[hW];exact au _ _ _ _ (by simp));have HV:=jD (hv.below hbel);have HC:=jD (qN _ l W (hv.below hbel));have aP:=jD hbel;clear hv hbel;go_enter Tryz.func101,Tryz.ntmps101;go_wp2_with fail
 rw[←hW];clear hW;(with_reducible refine(HC.o).mono ?_);rintro e w1 ⟨rfl,hb1⟩;replace A:=jD (ag hb1 A.o);replace B:=jD (ag hb1 B.o);replace HV:=jD (HV.o.below hb1);replace aP:=jD (aj aP.o hb1);clear hb1 HC;by_cases h0:bE l=0;rotate_left
 ·have H:=jD (show rR l t n s c=false∧pg l t n s c=bE l by rw[HA.o,HE.o,if_neg h0,decide_eq_false h0];exact ⟨rfl,rfl⟩);have hne:decide (bE l=0)=false:=by simpa using h0
  have hnb:(bE l != 0)=true:=bne_iff_ne.2 h0;generalize bE l=sc at*;clear h0;go_wp2;go_ret2;exact⟨gZ H.o.1.symm H.o.2.symm,aP.o⟩
 have cz:=jD (HZ.o.1 h0).2;rw[if_pos h0] at HE;rw[decide_eq_true h0,Bool.true_and] at HA;rw[h0];clear h0 HZ;have a0:=cq 0 A.o rfl;have a1:=cq 1 A.o rfl;go_wp2_with fail
 (with_reducible refine(AA t n _).mono ?_);rintro e w2 ⟨rfl,hb1⟩;replace A:=jD (ag hb1 A.o);replace B:=jD (ag hb1 B.o);replace HV:=jD (HV.o.below hb1);replace aP:=jD (aj aP.o hb1);clear hb1 a0 a1;cases hp:eP t n
 ·have H:=jD (show rR l t n s c=false∧pg l t n s c=1 by rw[HA.o,HE.o,hp];exact ⟨rfl,rfl⟩);clear hp;go_wp2;go_ret2;exact⟨gZ H.o.1.symm H.o.2.symm,aP.o⟩
 rw[hp,Bool.true_and] at HA HE;clear hp;have b0:=cq 0 B.o rfl;have b1:=cq 1 B.o rfl;go_wp2_with fail
 (with_reducible refine(Oi s c _).mono ?_);rintro e w3 ⟨rfl,hb1⟩;replace A:=jD (ag hb1 A.o);replace B:=jD (ag hb1 B.o);replace HV:=jD (HV.o.below hb1);replace aP:=jD (aj aP.o hb1);clear hb1 b0 b1;cases hd:bX (s,c)
 ·have H:=jD (show rR l t n s c=false∧pg l t n s c=1 by rw[HA.o,HE.o,hd];exact ⟨rfl,rfl⟩);clear hd;go_wp2;go_ret2;exact⟨gZ H.o.1.symm H.o.2.symm,aP.o⟩
 have H:=jD (show rR l t n s c=uZ l t n s c∧pg l t n s c=0 by rw[HA.o,HE.o,hd];exact ⟨rfl,rfl⟩);have HI:=jD (LY _ l t n s c w3 HV.o cz.o hd);clear hd HA HE;have a0:=cq 0 A.o rfl;have a1:=cq 1 A.o rfl;have b0:=cq 0 B.o rfl;have b1:=cq 1 B.o rfl;go_wp2_with fail
 (with_reducible refine(HI.o).mono ?_);rintro e w4 ⟨rfl,hb1⟩;replace aP:=jD (aj aP.o hb1);clear hb1 a0 a1 b0 b1 HI;go_wp2;go_ret2;exact⟨gZ H.o.1.symm H.o.2.symm,aP.o⟩
def OM (D:Pt→Prop) (g:FuncId) (caps:Array Value) (p:Pt→Bool) (I:World→Prop):Prop:=
 (∀args W,(callFunc g args).run Tryz.prog W= .ok (.enter g args) W)∧ ∀(a:Pt) (f u x:Value) (W:World),D a→I W→bZ W f a.f→dB W u x a.k→Calls Tryz.prog g (#[.agg #[f,u,x]]++caps) W fun e w'=>e= .returned (.bool (p a))∧Below W.heap.size W w'
theorem OM.at_ {D:Pt→Prop} {g:FuncId} {caps:Array Value} {p:Pt→Bool} {I:World→Prop} {w:World} (h:OM D g caps p I) (hI:I w) (hs: ∀W W',I W→Below W.heap.size W W'→I W'):AW D g caps p w:=
 ⟨h.1,fun a f u x W hD hb hf hk=>h.2 a f u x W hD (hs w W hI hb) hf hk⟩
structure K3 (I:World→Prop) (w0:World) (g cap:Nat) (dJ X:List Value) (k q:Nat) (wr:World):Prop where
 inv:I wr
 ex: ∃cur:List Value,wr.heap[g]? =some (.cells cur.toArray 238 (0,0))∧cur.length=cap*3∧cur.take (k*3)=X∧cur.drop (q*3)=dJ.drop (q*3)
 aW:Below w0.heap.size w0 wr
theorem Yy (D:Pt→Prop) (w0 w:World) (s:Value) (l:List Pt) (g0:FuncId) (caps:Array Value) (p:Pt→Bool) (hbl:Below w0.heap.size w0 w) (hown:b9 cU w0 w w0.heap.size 238 s l) (hn:l.length≤1000) (hD: ∀v∈l,D v) (I:World→Prop) (hp:OM D g0 caps p I) (hI:I w) (hs1: ∀W W',I W→Below W.heap.size W W'→I W') (hs2: ∀W W' g,s.ownBlock=some g→dD W W' g→I W→I W'):
  Calls Tryz.prog 201 #[s, .func (.func g0) #[] caps] w fun e w'=> ∃s',e= .returned s'∧b9 cU w0 w' w0.heap.size 238 s' (l.filter fun v=> !p v)∧Below w0.heap.size w0 w'∧I w':=by
 have hp1:=hp.at_ hI hs1;have Kt:=jD hs1;have hat:=hown.at_ (Sub.of_below hbl) (by omega);have HI:=jD (Jj D s l g0 caps p w hat hD hp1);have HP:=jD hp.2;have hcall:=hp.1;have HD:=jD hD;have HI0:=jD hI;have aaQ:=jD hs2;clear hI hs1 hs2;obtain⟨css,jQ,hrow⟩:=hown;replace hrow:w.ownsRow w0.heap.size 238 3 s l.length css.flatten:=hrow;have hlc:l.length=css.length:=jQ.length.symm;clear hat hp hp1 hD;rcases wu (p:=p) (l:=l) with⟨h1,hall⟩ | ⟨i,h1,hi,hpi,zq⟩
 ·have hfl:(l.filter fun v=> !p v)=l:=List.filter_eq_self.2 fun v hv=>by rw[hall v hv];rfl
  rw[hfl];rw[h1] at HI;have jR:=jD (show b9 cU w0 w w0.heap.size 238 s l from⟨css,jQ,hrow⟩);have aP:=jD hbl;obtain⟨a,cap,rfl⟩:=ay hrow;clear jQ hrow hall hbl hcall hlc;go_enter Tryz.func201,Tryz.ntmps201;go_wp2_with fail
  (with_reducible refine(HI.o).mono ?_);rintro e w1 ⟨rfl,hb1⟩;have hr:=jR.o.below hb1;have hb:=aj aP.o hb1;have hi:=Kt.o _ _ HI0.o hb1;clear hb1;go_wp2;go_ret;exact⟨_,rfl,hr,hb,hi⟩
 ·rw[h1] at HI;rcases hrow.2 with⟨-,h0⟩ | ⟨g,cap,cur,rfl,hbg,hg,hnc,hcm,hcs,htake⟩
  ·omega
  obtain⟨dJ,p7⟩: ∃c:List Value,c=cur.toList:=⟨_,rfl⟩
  have hg':w.heap[g]? =some (.cells dJ.toArray 238 (0,0)):=by rw[p7];simpa using hg
  have hcl:dJ.length=cap*3:=by rw[p7];simpa using hcs
  rw[←p7] at htake;have p6:=jQ.lens;have HT:=jD (fun (q:Nat) (hq:q≤l.length)=>(show(css.take q).flatten=dJ.take (q*3) by
   rw[rA (n:=3) p6,←htake,List.take_take];congr 1;show min (q*3) (l.length*3)=q*3;omega))
  have kG:=jD htake;have hst:K3 I w0 g cap dJ (filtC (fun v=> !p v) (l.take (i+1)) (css.take (i+1))).flatten i (i+1) w:=by
   refine⟨HI0.o,⟨dJ,hg',hcl, ?_,rfl⟩,hbl⟩;obtain⟨c, -,hc, -⟩:=jQ.cell i hi;rw[nW _ hlc hi hc,if_neg (by rw[hpi];decide),List.append_nil,vG _ (by rw[List.length_take,List.length_take,hlc]) (fun v hv=>by
    obtain⟨j,hj,rfl⟩:=List.getElem_of_mem hv;rw[List.length_take] at hj;rw[List.getElem_take,zq j (by omega)];rfl),HT.o i (by omega)]
  have hki:((l.take (i+1)).filter fun v=> !p v).length=i:=by
   rw[List.take_succ_eq_append_getElem hi,List.filter_append,List.filter_cons_of_neg (by rw[hpi];decide),List.filter_nil,List.append_nil,List.filter_eq_self.2 fun v hv=>by
    obtain⟨j,hj,rfl⟩:=List.getElem_of_mem hv;rw[List.length_take] at hj;rw[List.getElem_take,zq j (by omega)];rfl]
   rw[List.length_take];omega
  have HST:=jD hst;have yA:=jD hki;have Br:=jD jQ;have GZ:=jD hlc;have lu:=jD hcl;have HFE:=jD (fun (X:List (List Value))=>show X=X from rfl);clear hst hki jQ hrow p6 hg hg' hcs p7 zq htake hbl hlc hcl;have hw1:IntKind.i64.wrap ((i:Int)+1)=(i:Int)+1:=by rw[IntKind.wrap_i64];omega
  have p5:((i:Int)== -1)=false:=by rw[beq_eq_false_iff_ne];omega
  go_enter Tryz.func201,Tryz.ntmps201;go_wp2_with fail
  (with_reducible refine(HI.o).mono ?_);rintro e w1 ⟨rfl,hb1⟩;have zZ:=jD (show K3 I w0 g cap dJ (filtC (fun v=> !p v) (l.take (i+1)) (css.take (i+1))).flatten i (i+1) w1 by
   obtain⟨hi,⟨cur,h2,h3⟩,h4⟩:=HST.o;exact⟨Kt.o _ _ hi hb1,⟨cur,ag hb1 h2,h3⟩,aj h4 hb1⟩)
  clear HST hb1 HI;go_wp2;go_loopw [5,6] (fun iv jv wr=> ∃k q:Nat,iv= .int .i64 k∧jv= .int .i64 q∧k+1≤q∧q≤l.length∧((l.take q).filter fun v=> !p v).length=k∧K3 I w0 g cap dJ (filtC (fun v=> !p v) (l.take q) (css.take q)).flatten k q wr) (fun _ jv _=>l.length - (intOf jv).toNat)
  case atStart=>exact ⟨i,i+1,rfl,by go_num,Nat.le_refl _,by omega,yA.o,zZ.o⟩
  case round=>
   obtain⟨k,q,rfl,rfl,hkq,hq,hkl,hst⟩:=hrel;have pK:=jD hkl;have oH:=jD hst;clear hkl hst zZ;by_cases hlt:q < l.length
   ·obtain⟨c,⟨f,u,x,rfl,hf2,hk2⟩,vt,hcc⟩:=Br.o.cell q hlt;obtain⟨hinv,⟨cur,pE,hcl,htk,hdr⟩,hbel⟩:=oH.o;have OZ:=jD hinv;clear hinv;have hcell:=fun (j:Nat) (y:Value) (hj:j < 3) (hy:[f,u,x][j]? =some y)=>(show wr.cell? ⟨g,q*3+j,none⟩=some y from
     aD pE (by
      have e1:=hcc j y hy;have e2:cur[q*3+j]? =dJ[q*3+j]? :=wm hdr;have e3:dJ[q*3+j]? =css.flatten[q*3+j]? :=by rw[←kG.o,List.getElem?_take_of_lt (by omega)]
      rw[List.getElem?_toArray,e2,e3];exact e1))
    have c0:=hcell 0 _ (by decide) rfl;have c1:=hcell 1 _ (by decide) rfl;have c2:=hcell 2 _ (by decide) rfl;rw[Nat.add_zero] at c0;obtain⟨fa,fc,rfl⟩:=hf2.shape;obtain⟨ua,uc,rfl⟩:=hk2.vec.shape;obtain⟨xa,xc,rfl⟩:=hk2.more.shape;have dm:=aG (W:=wr) (.cells #[.slice fa l[q].f.length fc, .slice ua l[q].k.vec.length uc, .slice xa l[q].k.more.length xc] 238);have HV:=jD (HP.o l[q] (.slice fa l[q].f.length fc) (.slice ua l[q].k.vec.length uc) (.slice xa l[q].k.more.length xc) _ (HD.o _ (List.getElem_mem hlt)) (Kt.o _ _ OZ.o dm) ((hf2.below hbel).below dm) ((hk2.below hbel).below dm));have uM:=jD (au wr #[.slice fa l[q].f.length fc, .slice ua l[q].k.vec.length uc, .slice xa l[q].k.more.length xc] 238 _ rfl);have gM:=jD dm;have tE:=jD pE;have jo:=jD hbel;have oI:=jD (nW (fun v=> !p v) GZ.o hlt vt);have gF:=jD (show((l.take (q+1)).filter fun v=> !p v)=((l.take q).filter fun v=> !p v)++[l[q]].filter fun v=> !p v by rw[List.take_succ_eq_append_getElem hlt,List.filter_append]);have Gk:=jD (show cur.drop ((q+1)*3)=dJ.drop ((q+1)*3) by
     have e:(q+1)*3=q*3+3:=by omega
     rw[e,←List.drop_drop,←List.drop_drop,hdr])
    clear hcell hcc hk2 hf2 dm pE hbel hdr;generalize hvq:l[q]=v1 at*;have qp:=jD htk;have fh:=jD hcl;clear htk hcl vt oH;have lV:decide ((q:Int) < (l.length:Int))=true:=by simp;omega
    go_wp2_with fail
    refine(HV.o).mono ?_;rintro e w2 ⟨rfl,hb2⟩;have bO:=ag hb2 uM.o;have wP:=jD (ag hb2 (aO (.cells #[.slice fa v1.f.length fc, .slice ua v1.k.vec.length uc, .slice xa v1.k.more.length xc] 238) tE.o));have cw:=jD (aj (aj jo.o gM.o) hb2);have Af:=jD (Kt.o _ _ (Kt.o _ _ OZ.o gM.o) hb2);clear hb2 gM HV c0 c1 c2;cases hpv:p v1
    ·have e0:=cq 0 bO rfl;have e1:=cq 1 bO rfl;have e2:=cq 2 bO rfl;have hkn:decide ((k:Int) < (l.length:Int))=true:=by simp;omega
     clear bO;go_wp2_with (refine pN rfl 238 _ _ rfl g (k*3) #[.slice fa v1.f.length fc, .slice ua v1.k.vec.length uc, .slice xa v1.k.more.length xc] rfl rfl 238 cur wP.o (by kernel_rfl) (by rw[fh.o];show k*3+3≤_;omega) (by intro z hz;simp only[List.mem_cons,List.not_mem_nil,or_false] at hz;rcases hz with rfl | rfl | rfl <;> rfl) ?_)
     intro w3 h3 hr3;have Ac:=jD (show((l.take (q+1)).filter fun v=> !p v).length=k+1 by
      rw[gF.o,List.length_append,pK.o,List.filter_cons_of_pos (by rw[hpv];rfl)];rfl)
     have cr:=jD (show K3 I w0 g cap dJ (filtC (fun v=> !p v) (l.take (q+1)) (css.take (q+1))).flatten (k+1) (q+1) w3 by
      have e8:([.slice fa v1.f.length fc, .slice ua v1.k.vec.length uc, .slice xa v1.k.more.length xc]:List Value).length=3:=rfl;refine⟨aaQ.o _ _ g rfl hr3 Af.o,⟨_,h3.o,by rw[length_splice _ _ _ (by rw[e8,fh.o];omega),fh.o], ?_, ?_⟩,hr3.below cw.o hbg⟩
      ·rw[show(k+1)*3=k*3+([.slice fa v1.f.length fc, .slice ua v1.k.vec.length uc, .slice xa v1.k.more.length xc]:List Value).length by rw[e8];omega,rH (by rw[e8,fh.o];omega),qp.o,oI.o,if_pos (by rw[hpv];rfl),List.flatten_append,List.flatten_cons,List.flatten_nil,List.append_nil]
      ·rw[vX (by rw[e8];omega) (by rw[e8,fh.o];omega)];exact Gk.o)
     clear h3 hr3 hpv e0 e1 e2;go_wp2;go_roundw
     case rel=>exact ⟨k+1,q+1,by go_num,by go_num,by omega,by omega,Ac.o,cr.o⟩
     case measure=>simp [intOf] <;> omega
    ·have Ac:=jD (show((l.take (q+1)).filter fun v=> !p v).length=k by
      rw[gF.o,List.length_append,pK.o,List.filter_cons_of_neg (by rw[hpv];decide)];rfl)
     have cr:=jD (show K3 I w0 g cap dJ (filtC (fun v=> !p v) (l.take (q+1)) (css.take (q+1))).flatten k (q+1) w2 from
      ⟨Af.o,⟨_,wP.o,fh.o,by rw[qp.o,oI.o,if_neg (by rw[hpv];decide),List.append_nil],Gk.o⟩,cw.o⟩)
     clear hpv bO;go_wp2;go_roundw
     case rel=>exact ⟨k,q+1,rfl,by go_num,by omega,by omega,Ac.o,cr.o⟩
     case measure=>simp [intOf] <;> omega
   ·obtain rfl:q=l.length:=by omega
    rw[List.take_length] at pK;have hct:css.take l.length=css:=by rw[GZ.o,List.take_length]
    rw[List.take_length,hct] at oH;obtain⟨hinv,⟨cur,pE,hcl,htk, -⟩,hbel⟩:=oH.o;have OZ:=jD hinv;clear hinv;have tE:=jD pE;have jo:=jD hbel;have qp:=jD htk;have fh:=jD hcl;clear pE hbel htk hcl hct oH;have hkc: ¬(cap=k):=by omega
    go_wp2_with (refine oL rfl _ 147 rfl 238 _ 3 72 Tryz.underlying147 zU.info rfl (by decide) g (k*3) (l.length - k) (cap - k) (some ⟨g,k*3,none⟩) (fun _=>rfl) rfl cur _ tE.o (by rw[fh.o];omega) ?_)
    intro w3 zs h3 hz hr3;have JJ:=jD (show b9 cU w0 w3 w0.heap.size 238 (.slice (some ⟨g,0,none⟩) k cap) (l.filter fun v=> !p v) by
     refine⟨_,nG _ Br.o, ?_⟩;rw[pK.o];have hfl:=(nG (fun v=> !p v) Br.o).flat;rw[pK.o] at hfl;refine⟨hfl, .inr ⟨g,cap,_,rfl,hbg,h3.o,by omega,hcm,by rw[List.size_toArray,length_splice _ _ _ (by rw[hz,fh.o];omega),fh.o];rfl, ?_⟩⟩;rw[List.toList_toArray];show(splice cur (k*3) zs).take (k*3)=_;rw[pQ (by rw[fh.o];omega),qp.o])
    have eH:=jD (hr3.below jo.o hbg);have gD:=jD (aaQ.o _ _ g rfl hr3 OZ.o);clear h3 hr3;go_wp2;go_ret;exact⟨_,rfl,JJ.o,eH.o,gD.o⟩
end Go.Proofs.YtajgndoiddmbmaaGreatDoor
