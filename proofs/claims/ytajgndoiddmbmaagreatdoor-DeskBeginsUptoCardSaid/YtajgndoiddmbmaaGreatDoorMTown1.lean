/- Towards what desk.Run answers. -/
import Derived.Test.YtajgndoiddmbmaaGreatDoorMTown0
namespace Go.Proofs.YtajgndoiddmbmaaGreatDoor
set_option maxRecDepth 100000
set_option maxHeartbeats 40000000
open Go.RowKit
theorem U5 (g n cap:Nat) (a:Option Addr) (wv:Value) (i:Int) (w:World) (h:w.heap[g]? =some (.cells #[.slice a n cap,wv] 141 (0,0))):
  Calls Tryz.prog 93 #[.pointer (some ⟨g,0,none⟩), .int .i64 i] w fun e w'=>e= .returned (.bool (decide (0≤i)&&decide (i < (n:Int))))∧Below w.heap.size w w':=by
 have c0:w.cell? ⟨g,0,none⟩=some (.slice a n cap):=cq 0 h rfl;go_enter Tryz.func93,Tryz.ntmps93;by_cases h0:0≤i
 ·have d0:decide (0≤i)=true:=decide_eq_true h0;cases h1:decide (i < (n:Int))
  ·go_wp2;go_ret;exact⟨by rw[d0];rfl,br⟩
  ·go_wp2;go_ret;exact⟨by rw[d0];rfl,br⟩
 ·have d0:decide (0≤i)=false:=decide_eq_false h0;go_wp2;go_ret;exact⟨rfl,br⟩
theorem tZ {g n cap:Nat} {a:Option Addr} {wv:Value} {i:Nat} (hi:i < n) (w:World) (h:w.heap[g]? =some (.cells #[.slice a n cap,wv] 141 (0,0))):
  Calls Tryz.prog 93 #[.pointer (some ⟨g,0,none⟩), .int .i64 (i:Nat)] w fun e w'=>e= .returned (.bool true)∧Below w.heap.size w w':=
 (U5 g n cap a wv i w h).mono fun e w' hh=>by
  obtain⟨h1,h2⟩:=hh;rw[decide_eq_true (show(0:Int)≤(i:Int) by omega),decide_eq_true (show(i:Int) < (n:Int) by omega)] at h1;exact⟨h1,h2⟩
theorem Su (g b:Nat) (T:Nat→Prop) (t:aK) (i:Nat) (hi:i < t.sites.length) (w:World) (h:aJ w b T g t):
  Calls Tryz.prog 74 #[.pointer (some ⟨g,0,none⟩), .int .i64 (i:Nat)] w fun e w'=> ∃a c,e= .returned (.tuple #[.slice a t.sites[i].L.length c, .int .i64 0])∧bA w' w.heap.size (.slice a t.sites[i].L.length c) t.sites[i].L∧Below w.heap.size w w':=by
 obtain⟨qs,cap,gi,wv,hblk,mo,hq,hS,pF,hne,um,eD⟩:=h.use hi;have o5:=jD eD;have bU:=jD hblk;have qH:=jD hS;have Hg:=jD h.lt;have KG:=jD hS.lt;have HQ:=jD hq;have hi0:decide ((0:Int)≤(i:Int))=true:=by simp
 have hin:decide ((i:Int) < (t.sites.length:Int))=true:=by simp;omega
 clear h hblk hS eD pF hne um hq mo;go_enter Tryz.func74,Tryz.ntmps74;go_wp2_with fail
 (with_reducible refine(tZ hi w bU.o).mono ?_);rintro e w1 ⟨rfl,hb⟩;have bh:=jD hb;have c0:w1.cell? ⟨g,0,none⟩=some (.slice (some ⟨qs,0,none⟩) t.sites.length cap):=cq 0 (ag hb bU.o) rfl;have cq:=ah hb HQ.o;have oI:=jD (qH.o.below hb);clear hb;go_wp2_with fail
 clear c0 cq;(with_reducible refine(SD gi b _ w1 oI.o).mono ?_);rintro e w2 ⟨a,c,rfl,hv,hb⟩;have HV:=jD (bA.mono hv bh.o.size);have cw:=jD (aj bh.o hb);clear hv hb;go_wp2;go_ret2;exact⟨_,_,rfl,HV.o,cw.o⟩
theorem WB (g b:Nat) (T:Nat→Prop) (t:aK) (i:Nat) (hi:i < t.sites.length) (fv:Value) (F:bB) (w:World) (h:aJ w b T g t) (JK: ∀w',aB T w w'→bZ w' fv F) (hc:bP F=0) (hst:t.sites[i].stamp < 1000000):
  Calls Tryz.prog 64 #[.pointer (some ⟨g,0,none⟩), .int .i64 (i:Nat),fv] w fun e w'=>e= .returned (.int .i64 0)∧aJ w' b T g { t with sites:=t.sites.set i (Hx t.sites[i] (aX F)) } ∧aB T w w':=by
 obtain⟨fa,fc,rfl⟩:=(JK w (aB.refl _ _)).shape;have Wk:=jD JK;have HC:=jD hc;have HST:=jD hst;obtain⟨qs,cap,gi,wv,hblk,mo,hq,hS,pF,hne,um,eD⟩:=h.use hi;have o5:=jD eD;have bU:=jD hblk;have qH:=jD hS;have Hg:=jD h.lt;have KG:=jD hS.lt;have HQ:=jD hq;have hi0:decide ((0:Int)≤(i:Int))=true:=by simp
 have hin:decide ((i:Int) < (t.sites.length:Int))=true:=by simp;omega
 have GR:=jD pF;clear h hblk hS eD pF hne um hq mo JK hc hst;go_enter Tryz.func64,Tryz.ntmps64;go_wp2_with fail
 (with_reducible refine(tZ hi w bU.o).mono ?_);rintro e w1 ⟨rfl,hb⟩;have bh:=jD hb;have c0:w1.cell? ⟨g,0,none⟩=some (.slice (some ⟨qs,0,none⟩) t.sites.length cap):=cq 0 (ag hb bU.o) rfl;have cq:=ah hb HQ.o;have oI:=jD (qH.o.below hb);clear hb;have aaM:=jD (fun w' (hs:aB (fun q=>q=gi) w1 w')=>show aB (fun q=>q=gi) w w' from(aB.of_below bh.o).trans hs);have HW:=jD (swant_c gi b t.sites[i] (.slice fa F.length fc) F w1 oI.o (fun w' hs=>Wk.o w' ((aaM.o w' hs).mono fun k hk=>by rw[hk];exact GR.o)) HC.o HST.o);go_wp2_with fail
 clear c0 cq;(with_reducible refine(HW.o).mono ?_);rintro e w2 ⟨rfl,hs,hp⟩;have HN:=jD hs;have HP:=jD (aaM.o w2 hp);clear hs hp HW;go_wp2;go_ret;exact⟨rfl,o5.o w2 _ HP.o HN.o rfl,HP.o.mono fun k hk=>by rw[hk];exact GR.o⟩
theorem thas_c (g b:Nat) (T:Nat→Prop) (t:aK) (i:Nat) (hi:i < t.sites.length) (a n d c:Int) (w:World) (h:aJ w b T g t):
  Calls Tryz.prog 76 #[.pointer (some ⟨g,0,none⟩), .int .i64 (i:Nat), .agg #[.int .i64 a, .int .i64 n], .agg #[.int .i64 d, .int .i64 c]] w fun e w'=>e= .returned (.tuple #[.bool (zw (bT t.sites[i]) a n d c), .int .i64 (rM a n d c)])∧Below w.heap.size w w':=by
 obtain⟨qs,cap,gi,wv,hblk,mo,hq,hS,pF,hne,um,eD⟩:=h.use hi;have o5:=jD eD;have bU:=jD hblk;have qH:=jD hS;have Hg:=jD h.lt;have KG:=jD hS.lt;have HQ:=jD hq;have hi0:decide ((0:Int)≤(i:Int))=true:=by simp
 have hin:decide ((i:Int) < (t.sites.length:Int))=true:=by simp;omega
 clear h hblk hS eD pF hne um hq mo;obtain⟨BP,qD⟩: ∃B,B=w.heap.size:=⟨_,rfl⟩
 obtain⟨W0,hW0⟩: ∃W0,W0=(w.alloc (.cells #[.int .i64 a, .int .i64 n] 96)).alloc (.cells #[.int .i64 d, .int .i64 c] 103):=⟨_,rfl⟩
 have uL:=jD (show W0.heap[BP]? =some (Obj.cells #[.int .i64 a, .int .i64 n] 96 (0,0)) by rw[hW0];exact aO _ (au _ _ _ _ qD));have lq:=jD (show W0.heap[BP+1]? =some (Obj.cells #[.int .i64 d, .int .i64 c] 103 (0,0)) by rw[hW0];exact au _ _ _ _ (by rw[World.size_alloc,qD]));have gN:=jD (show Below w.heap.size w W0 by rw[hW0];exact (aG _).alloc (by simp) _);go_enter Tryz.func76,Tryz.ntmps76;go_wp2_with fail
 rw[←qD,←hW0];clear hW0 qD;have UT:=jD (ag gN.o bU.o);(with_reducible refine(tZ hi W0 UT.o).mono ?_);rintro e w1 ⟨rfl,hb⟩;have bh:=jD (aj gN.o hb);have HP0:=jD (cq 0 (ag hb uL.o) rfl:w1.cell? ⟨BP,0,none⟩=some (.int .i64 a));have nN:=jD (cq 1 (ag hb uL.o) rfl:w1.cell? ⟨BP,1,none⟩=some (.int .i64 n));have HD0:=jD (cq 0 (ag hb lq.o) rfl:w1.cell? ⟨BP+1,0,none⟩=some (.int .i64 d));have MO:=jD (cq 1 (ag hb lq.o) rfl:w1.cell? ⟨BP+1,1,none⟩=some (.int .i64 c));have fL:=jD (cq 0 (ag bh.o bU.o) rfl:w1.cell? ⟨g,0,none⟩=some (.slice (some ⟨qs,0,none⟩) t.sites.length cap));have Bv:=jD (ah bh.o HQ.o);have oI:=jD (qH.o.below bh.o);have pK:=jD qH.o.ok.NP;clear hb;go_wp2_with fail
 refine Cl.aV 27 rfl [] (fun _=>True) (fun _=>[]) (fun jq v ww=>match jq with | 0=>v= .pointer (some ⟨g,0,none⟩) | 1=>v= .pointer (some ⟨g,0,none⟩) | 2=>v= .pointer (some ⟨g,0,none⟩) | 3=>v= .slice (some ⟨qs,0,none⟩) t.sites.length cap | 4=>v= .int .i64 (i:Nat) | 5=>v= .pointer (some ⟨qs,i,none⟩) | 6=>v= .pointer (some ⟨gi,0,none⟩) | 7=>aY ww 0 v (bT t.sites[i]) | 8=>v= .agg #[.int .i64 a, .int .i64 n] | 9=>v= .agg #[.int .i64 d, .int .i64 c] | 10=>v= .tuple #[.bool (zw (bT t.sites[i]) a n d c), .int .i64 (rM a n d c)] | 11=>v= .bool (zw (bT t.sites[i]) a n d c) | 12=>v= .int .i64 (rM a n d c) | 13=>v= .bool (zw (bT t.sites[i]) a n d c) | 14=>v= .int .i64 (rM a n d c) | _=>True) (fun ww=>Below w1.heap.size w1 ww) (fun jq ww aR=>Below ww.heap.size ww aR) Tryz.mixed (by decide+kernel) (br).drew trivial ?_ (fun _ _ _ _ _ _=>trivial) ?_ ?_
 ·intro q r v w w' hne hk hlt h hR;match r,hk,hlt,h,hne with
  | 0,_,_,h,_=>exact h
  | 1,_,_,h,_=>exact h
  | 2,_,_,h,_=>exact h
  | 3,_,_,h,_=>exact h
  | 4,_,_,h,_=>exact h
  | 5,_,_,h,_=>exact h
  | 6,_,_,h,_=>exact h
  | 7,_,_,h,_=>exact h.below hR
  | 8,_,_,h,_=>exact h
  | 9,_,_,h,_=>exact h
  | 10,_,_,h,_=>exact h
  | 11,_,_,h,_=>exact h
  | 12,_,_,h,_=>exact h
  | 13,_,_,h,_=>exact h
  | 14,_,_,h,_=>exact h
  | _+15,_,_,_,_=>trivial
 ·refine⟨?_, ?_, ?_, ?_, ?_, ?_, ?_, ?_, ?_, ?_, ?_, ?_, ?_, ?_, ?_,trivial⟩
  ·intro x wx hG;have f0:=hG.o 0;replace hG:=hG.g;go_wp2;exact⟨_,rfl,rfl,hG,br⟩
  ·intro x wx hG;have⟨g0,og⟩:=gs 14 (hG.c 0 _ rfl);replace hG:=hG.g;go_wp2;exact⟨_,rfl,rfl,hG,br⟩
  ·intro x wx hG;have⟨g1,tq⟩:=gs 15 (hG.c 1 _ rfl);replace hG:=hG.g;go_wp2;exact⟨_,rfl,rfl,hG,br⟩
  ·intro x wx hG;have⟨g2,vD⟩:=gs 16 (hG.c 2 _ rfl);replace hG:=hG.g;have oP:=ah hG fL.o;go_wp2;exact⟨_,rfl,rfl,hG,br⟩
  ·intro x wx hG;have f1:=hG.o 1;replace hG:=hG.g;go_wp2;exact⟨_,rfl,rfl,hG,br⟩
  ·intro x wx hG;have⟨g3,qF⟩:=gs 17 (hG.c 3 _ rfl);have⟨g4,qE⟩:=gs 18 (hG.c 4 _ rfl);replace hG:=hG.g;go_wp2;exact⟨_,rfl,rfl,hG,br⟩
  ·intro x wx hG;have⟨g5,sj⟩:=gs 19 (hG.c 5 _ rfl);replace hG:=hG.g;have Ox:=ah hG Bv.o;go_wp2;exact⟨_,rfl,rfl,hG,br⟩
  ·intro x wx hG;have⟨g6,uy⟩:=gs 20 (hG.c 6 _ rfl);replace hG:=hG.g;have MI:=jD (Xa gi b _ wx (oI.o.below hG));go_wp2_with fail
   (with_reducible refine(MI.o).mono ?_);rintro e wq ⟨y9,rfl,hv,hb⟩;obtain⟨ya9,yc9,hyv⟩:=hv.shape;subst hyv;have HV9:=jD (aY.mono hv (Nat.zero_le _));have cK:=jD hb;clear hb hv MI;go_wp2;exact⟨_,rfl,HV9.o,aj hG cK.o,cK.o⟩
  ·intro x wx hG;have f6:=hG.o 6;replace hG:=hG.g;have acC:=ah hG HP0.o;have VK:=ah hG nN.o;go_wp2;exact⟨_,rfl,rfl,hG,br⟩
  ·intro x wx hG;have f7:=hG.o 7;replace hG:=hG.g;have c_HD0:=ah hG HD0.o;have acH:=ah hG MO.o;go_wp2;exact⟨_,rfl,rfl,hG,br⟩
  ·intro x wx hG;have g7:aY wx 0 (x.tmps.getD 21 undef) (bT t.sites[i]):=hG.c 7 _ rfl;have⟨g8,Bb⟩:=gs 22 (hG.c 8 _ rfl);have⟨g9,zy⟩:=gs 23 (hG.c 9 _ rfl);replace hG:=hG.g;obtain⟨ya9,yc9,hv⟩:=g7.shape;have hvb:=hv;rw[Array.getD_eq_getD_getElem?] at hvb;have MI:=jD (Yx _ (bT t.sites[i]) a n d c wx (g7.sem (by have:=pK.o;omega)) pK.o);rw[hv] at MI;clear g7;go_wp2_with fail
   (with_reducible refine(MI.o).mono ?_);rintro e wq ⟨rfl,hb⟩;have cK:=jD hb;clear hb MI;go_wp2;exact⟨_,rfl,rfl,aj hG cK.o,cK.o⟩
  ·intro x wx hG;have⟨g10,xN⟩:=gs 24 (hG.c 10 _ rfl);replace hG:=hG.g;go_wp2;exact⟨_,rfl,rfl,hG,br⟩
  ·intro x wx hG;have⟨g10,xN⟩:=gs 24 (hG.c 10 _ rfl);replace hG:=hG.g;go_wp2;exact⟨_,rfl,rfl,hG,br⟩
  ·intro x wx hG;have⟨g11,EU⟩:=gs 25 (hG.c 11 _ rfl);replace hG:=hG.g;go_wp2;exact⟨_,rfl,rfl,hG,br⟩
  ·intro x wx hG;have⟨g12,ET⟩:=gs 26 (hG.c 12 _ rfl);replace hG:=hG.g;go_wp2;exact⟨_,rfl,rfl,hG,br⟩
 ·intro af w2 hg hF;obtain⟨g0,g1,g2,g3,g4,g5,g6,g7,g8,g9,g10,g11,g12,g13,g14, -⟩:=hF;simp only[Cl3.puts,gq (af 0) g0,gq (af 1) g1,gq (af 2) g2,gq (af 3) g3,gq (af 4) g4,gq (af 5) g5,gq (af 6) g6,gq (af 8) g8,gq (af 9) g9,gq (af 10) g10,gq (af 11) g11,gq (af 12) g12,gq (af 13) g13,gq (af 14) g14];clear g0 g1 g2 g3 g4 g5 g6 g7 g8 g9 g10 g11 g12 g13 g14;go_simp
  have cw:=jD (aj bh.o hg);generalize af 7=j7 at*;go_wp2;go_ret2;exact⟨rfl,cw.o⟩
def pS (t:aK) (i to:Nat):Int:=if i=to then 1 else if 60≤t.way.length then 2 else 0
def tI (t:aK) (i:Nat) (hi:i < t.sites.length) (to:Nat):aK:=if pS t i to=0 then U8 t i hi to else t
theorem WD (g b:Nat) (T:Nat→Prop) (t:aK) (i to:Nat) (hi:i < t.sites.length) (hto:to < t.sites.length) (w:World) (h:aJ w b T g t) (p8: ∀q,w.heap.size≤q→T q):
  Calls Tryz.prog 66 #[.pointer (some ⟨g,0,none⟩), .int .i64 (i:Nat), .int .i64 (to:Nat)] w fun e w'=>e= .returned (.int .i64 (pS t i to))∧aJ w' b T g (tI t i hi to)∧aB T w w':=by
 obtain⟨qs,cap,gi,wv,hblk,mo,hq,hS,pF,hne,um, -⟩:=h.use hi;have HT:=jD h;have eZ:=jD p8;have bU:=jD hblk;have qH:=jD hS;have Hg:=jD h.lt;have HQ:=jD hq;have hwv: ∃wa wc,wv= .slice wa t.way.length wc:=by
  obtain⟨sv2,U2,css2,h2, -,h3, -⟩:=h.letters;rw[hblk] at h2;simp only[Option.some.injEq,Obj.cells.injEq,and_true,Array.mk.injEq,List.cons.injEq] at h2;obtain⟨-,rfl⟩:=h2;exact ay h3
 obtain⟨wa,wc,rfl⟩:=hwv;have hi0:decide ((0:Int)≤(i:Int))=true:=by simp
 have hin:decide ((i:Int) < (t.sites.length:Int))=true:=by simp;omega
 clear h hblk hS pF hne um hq mo p8;go_enter Tryz.func66,Tryz.ntmps66;go_wp2_with fail
 (with_reducible refine(tZ hi w bU.o).mono ?_);rintro e w1 ⟨rfl,hb⟩;have bh:=jD hb;have abr:=jD (ag hb bU.o);clear hb;go_wp2_with fail
 (with_reducible refine(tZ hto w1 abr.o).mono ?_);rintro e w2 ⟨rfl,hb⟩;have cw:=jD (aj bh.o hb);have ou:=jD (ag hb abr.o);clear hb bh;by_cases heq:i=to
 ·have hd:((i:Int)==(to:Int))=true:=by simp[heq]
  have he:pS t i to=1:=by unfold pS;rw [if_pos heq]
  have HR:=jD (show tI t i hi to=t by unfold tI;rw [if_neg (by rw[he];decide)]);have HE:=jD he;clear he heq;go_wp2;go_ret;exact⟨by rw[HE.o];rfl,by rw[HR.o];exact HT.o.below cw.o,aB.of_below cw.o⟩
 have hd:((i:Int)==(to:Int))=false:=by simp;omega
 have GY:=jD heq;have c1:w2.cell? ⟨g,1,none⟩=some (.slice wa t.way.length wc):=cq 1 ou.o rfl;by_cases fP:60≤t.way.length
 ·have Qd:decide ((60:Int)≤(t.way.length:Int))=true:=by simp;omega
  have he:pS t i to=2:=by unfold pS;rw [if_neg heq,if_pos fP]
  have HR:=jD (show tI t i hi to=t by unfold tI;rw [if_neg (by rw[he];decide)]);have HE:=jD he;clear he heq fP;go_wp2;go_ret;exact⟨by rw[HE.o];rfl,by rw[HR.o];exact HT.o.below cw.o,aB.of_below cw.o⟩
 have Qd:decide ((60:Int)≤(t.way.length:Int))=false:=by simp;omega
 have he:pS t i to=0:=by unfold pS;rw [if_neg heq,if_neg fP]
 have HR:=jD (show tI t i hi to=U8 t i hi to by unfold tI;rw [if_pos he]);have Bz:=jD fP;have HE:=jD he;have c0:w2.cell? ⟨g,0,none⟩=some (.slice (some ⟨qs,0,none⟩) t.sites.length cap):=cq 0 ou.o rfl;have cq:=ah cw.o HQ.o;have V6:=jD (qH.o.below cw.o);clear he heq fP;go_wp2_with fail
 clear c0 c1 cq;(with_reducible refine(ask_c gi b _ w2 V6.o).mono ?_);rintro e w3 ⟨fv,pv,rfl,hf,hp,hb⟩;obtain⟨fa,fn,fc,Jw⟩:=FO.ow hf;obtain⟨pa,pc,hpv⟩:=hp.shape;subst Jw hpv;have jO:=jD hf;have D9:=jD hp;have eH:=jD (aj cw.o hb);have HT3:=jD (HT.o.below eH.o);have Cz:=jD (ag hb ou.o);have mC:=jD (show w.heap.size≤w2.heap.size from cw.o.size);clear hf hp hb ou cw V6 HT;have c0:w3.cell? ⟨g,0,none⟩=some (.slice (some ⟨qs,0,none⟩) t.sites.length cap):=cq 0 Cz.o rfl;have c1:w3.cell? ⟨g,1,none⟩=some (.slice wa t.way.length wc):=cq 1 Cz.o rfl;have hgl:=ai Cz.o;obtain⟨WA,Me⟩: ∃WA,WA=w3.alloc (.cells #[.int .i64 t.sites[i].me, .int .i64 t.sites[i].stamp, .slice fa fn fc, .slice pa (bT t.sites[i]).length pc] 149):=⟨_,rfl⟩
 have yu:Below w3.heap.size w3 WA:=by rw[Me];exact aG _
 have zY:=jD (HT3.o.below yu);have KV:=jD (aj eH.o yu);have af2:=jD (show Er WA b w3.heap.size (Kc t.sites[i]) from⟨_,_,by rw[Me];exact au _ _ _ _ rfl,FO.mono (jO.o.below yu) (by have:=zY.o.ge.1;have:=Hg.o;have:=mC.o;omega),aY.mono (D9.o.below yu) (by have:=zY.o.ge.1;have:=Hg.o;have:=mC.o;omega)⟩);have UR:=jD (ag yu Cz.o);obtain⟨sv2,U2,css,h2,gW,hrow,Zz,eD⟩:=zY.o.letters;have rY:=UR.o;rw[h2] at rY;simp only[Option.some.injEq,Obj.cells.injEq,and_true,Array.mk.injEq,List.cons.injEq] at rY;obtain⟨rfl,rfl⟩:=rY;have qx:=jD gW;have acT:=jD hrow;have DX:=jD Zz;have o5:=jD eD;have jR:=jD (show((w3.alloc (.cells #[.int .i64 t.sites[i].me, .int .i64 t.sites[i].stamp, .slice fa fn fc, .slice pa (bT t.sites[i]).length pc] 149)).alloc (.cells #[.int .i64 (to:Nat), .pointer (some ⟨w3.heap.size,0,none⟩), .pointer none] 154)).ownsRow b 154 3 (.slice wa t.way.length wc) t.way.length css.flatten by rw[←Me];exact aI hrow (aG _));have HWA:=jD Me;have HN:=jD (show ∀j u,[Value.int .i64 (to:Nat), .pointer (some ⟨w3.heap.size,0,none⟩), .pointer none][j]? =some u→((w3.alloc (.cells #[.int .i64 t.sites[i].me, .int .i64 t.sites[i].stamp, .slice fa fn fc, .slice pa (bT t.sites[i]).length pc] 149)).alloc (.cells #[.int .i64 (to:Nat), .pointer (some ⟨w3.heap.size,0,none⟩), .pointer none] 154)).cell? ((⟨w3.heap.size+1,0,none⟩:Addr).add j)=some u from fun j u hj=>by
  rw[Addr.add_lit,Nat.zero_add];exact aD (j:=j) (au _ _ _ _ (by rw[World.size_alloc])) (by simpa using hj))
 have vR:=jD (show ∀u∈[Value.int .i64 (to:Nat), .pointer (some ⟨w3.heap.size,0,none⟩), .pointer none],u.oneCell'=true by intro u hu;simp only[List.mem_cons,List.not_mem_nil,or_false] at hu;rcases hu with rfl | rfl | rfl <;> rfl);have hbs:b≤((w3.alloc (.cells #[.int .i64 t.sites[i].me, .int .i64 t.sites[i].stamp, .slice fa fn fc, .slice pa (bT t.sites[i]).length pc] 149)).alloc (.cells #[.int .i64 (to:Nat), .pointer (some ⟨w3.heap.size,0,none⟩), .pointer none] 154)).heap.size:=by
  have:=zY.o.ge.1;have:=zY.o.lt;rw [World.size_alloc,←Me];omega
 have dZ:=jD hbs;have fP:=Bz.o;clear gW hrow Zz eD h2 yu Me hbs;go_wp2_with (at_builtin;refine ni rfl (.tmp 39) (.tmp 42) 139 rfl b 154 (.agg #[.int .i64 0, .pointer none, .pointer none]) 3 24 Tryz.underlying139 Im.info rfl (by decide) _ t.way.length css.flatten rfl jR.o ⟨w3.heap.size+1,0,none⟩ 1 1 _ rfl rfl HN.o vR.o (by unfold maxLen;omega) (by omega) dZ.o ?_)
 intro v' w5 A;obtain⟨va,vc,vk⟩:=ay A.own;subst vk;have HA:=jD A;have HW:=jD (FJ zY.o UR.o qx.o acT.o DX.o o5.o (x:= .ask to (Kc t.sites[i])) ⟨_,rfl,af2.o⟩ (Q4 zY.o.ok hi hto qH.o.ok) (by omega) (fun q hq=>eZ.o q (Nat.le_trans KV.o.size hq)) (by rw[HWA.o];exact aG _) HA.o);have hr4:=jR.o;rw[←HWA.o] at hr4;have yt:=fB hr4 (by have:=HA.o.grown;rw [←HWA.o] at this;exact this) (aO _ UR.o) (by decide);have q1:=cq 1 yt rfl;have f1:=fq 1 yt;have hgl5:=ai yt;clear A hr4 fP hgl c0 c1;go_wp2;go_ret;refine⟨by rw[HE.o];rfl,by rw[HR.o];exact HW.o.1,(aB.of_below KV.o).trans HW.o.2⟩
def vh (s:aL) (id:ByteArray) (a n bd:Int):Int×Int:=if fF s id a n bd=0 then(s.me,s.made+1) else(0,0)
theorem tmake_c (g b:Nat) (T:Nat→Prop) (t:aK) (i:Nat) (hi:i < t.sites.length) (id:ByteArray) (a n bd:Int) (wz:World) (h:aJ wz b T g t):
  Calls Tryz.prog 62 #[.pointer (some ⟨g,0,none⟩), .int .i64 (i:Nat), .string id, .agg #[.int .i64 a, .int .i64 n], .int .i64 bd] wz fun e w'=>e= .returned (.tuple #[.agg #[.int .i64 (vh t.sites[i] id a n bd).1, .int .i64 (vh t.sites[i] id a n bd).2], .int .i64 (fF t.sites[i] id a n bd)])∧aJ w' b T g (Ie t i hi id a n bd)∧aB T wz w':=by
 obtain⟨qs,cap,gi,wv,hblk,mo,hq,hS,pF,hne,um,eD⟩:=h.use hi;obtain⟨d0,hd0⟩: ∃d0,d0=(vh t.sites[i] id a n bd).1:=⟨_,rfl⟩
 obtain⟨d1,hd1⟩: ∃d1,d1=(vh t.sites[i] id a n bd).2:=⟨_,rfl⟩
 obtain⟨E9,iH⟩: ∃E9,E9=fF t.sites[i] id a n bd:=⟨_,rfl⟩
 obtain⟨s9,ym⟩: ∃s9,s9=mP t.sites[i] id a n bd:=⟨_,rfl⟩
 have lI:=jD (fun (wx:World) (hx:bz wx b gi t.sites[i])=>show Calls Tryz.prog 94 #[.pointer (some ⟨gi,0,none⟩), .string id, .agg #[.int .i64 a, .int .i64 n], .int .i64 bd] wx fun e w'=>e= .returned (.tuple #[.agg #[.int .i64 d0, .int .i64 d1], .int .i64 E9])∧bz w' b gi s9∧aB (fun q=>q=gi) wx w' from
  (smake_c gi b t.sites[i] id a n bd wx hx).mono fun e w' hh=>by
   obtain⟨h1,h2,h3⟩:=hh;refine⟨?_,by rw[ym];exact h2,h3⟩;rw[h1,hd0,hd1,iH];unfold vh;by_cases e:fF t.sites[i] id a n bd=0
   ·rw[if_pos e,if_pos e,if_pos e]
   ·rw[if_neg e,if_neg e,if_neg e])
 have o5:=jD (fun (w':World) (hs:aB (fun q=>q=gi) wz w') (hn:bz w' b gi s9)=>show aJ w' b T g (Ie t i hi id a n bd) from by
  unfold Ie;rw [←ym];exact eD w' s9 hs hn (by rw[ym];exact (Jc _ _ _ _ _).1))
 rw[←hd0,←hd1,←iH];have GR:=jD pF;have bU:=jD hblk;have qH:=jD hS;have KG:=jD hS.lt;have GY:=jD hne;have HQ:=jD hq;have hi0:decide ((0:Int)≤(i:Int))=true:=by simp
 have hin:decide ((i:Int) < (t.sites.length:Int))=true:=by simp;omega
 clear h hblk hS eD pF hne um hq mo hd0 hd1 iH ym;obtain⟨BP,qD⟩: ∃B,B=wz.heap.size:=⟨_,rfl⟩
 obtain⟨W0,hW0⟩: ∃W0,W0=(wz.alloc (.cells #[.int .i64 a, .int .i64 n] 96)).alloc (.cells #[.int .i64 0, .int .i64 0] 103):=⟨_,rfl⟩
 have uL:=jD (show W0.heap[BP]? =some (Obj.cells #[.int .i64 a, .int .i64 n] 96 (0,0)) by rw[hW0];exact aO _ (au _ _ _ _ qD));have lq:=jD (show W0.heap[BP+1]? =some (Obj.cells #[.int .i64 0, .int .i64 0] 103 (0,0)) by rw[hW0];exact au _ _ _ _ (by rw[World.size_alloc,qD]));have gN:=jD (show Below wz.heap.size wz W0 by rw[hW0];exact (aG _).alloc (by simp) _);go_enter Tryz.func62,Tryz.ntmps62;go_wp2_with fail
 rw[←qD,←hW0];have abn:=jD qD;clear hW0 qD;have UT:=jD (ag gN.o bU.o);(with_reducible refine(tZ hi W0 UT.o).mono ?_);rintro e w1 ⟨rfl,hb⟩;have bh:=jD (aj gN.o hb);have HP0:=jD (cq 0 (ag hb uL.o) rfl:w1.cell? ⟨BP,0,none⟩=some (.int .i64 a));have nN:=jD (cq 1 (ag hb uL.o) rfl:w1.cell? ⟨BP,1,none⟩=some (.int .i64 n));have HD:=jD (ag hb lq.o);have fL:=jD (cq 0 (ag bh.o bU.o) rfl:w1.cell? ⟨g,0,none⟩=some (.slice (some ⟨qs,0,none⟩) t.sites.length cap));have Bv:=jD (ah bh.o HQ.o);have oI:=jD (qH.o.below bh.o);have Ad:=jD (show gi < BP+1 by have:=KG.o;have:=abn.o;omega);clear hb;go_wp2_with fail
 refine Cl3.aV 30 rfl (fun u=>match u with | 0=>[10,13] | _=>[13]) (fun u ww=>match u with | 0=>Below w1.heap.size w1 ww | _=>ww.heap[BP+1]? =some (Obj.cells #[.int .i64 0, .int .i64 0] 103 (0,0))) (fun _=>[]) (fun jq v ww=>match jq with | 0=>v= .pointer (some ⟨g,0,none⟩) | 1=>v= .pointer (some ⟨g,0,none⟩) | 2=>v= .pointer (some ⟨g,0,none⟩) | 3=>v= .slice (some ⟨qs,0,none⟩) t.sites.length cap | 4=>v= .int .i64 (i:Nat) | 5=>v= .pointer (some ⟨qs,i,none⟩) | 6=>v= .pointer (some ⟨gi,0,none⟩) | 7=>v= .string id | 8=>v= .agg #[.int .i64 a, .int .i64 n] | 9=>v= .int .i64 bd | 10=>bz ww b gi s9∧v= .tuple #[.agg #[.int .i64 d0, .int .i64 d1], .int .i64 E9] | 11=>v= .agg #[.int .i64 d0, .int .i64 d1] | 12=>v= .int .i64 E9 | 13=>ww.heap[BP+1]? =some (Obj.cells #[.int .i64 d0, .int .i64 d1] 103 (0,0)) | 14=>v= .int .i64 E9 | _=>True) (fun ww=>aB (fun q=>q=gi) wz ww) (fun jq ww aR=>(jq≠10→jq≠13→Below ww.heap.size ww aR)∧(jq=10→aB (fun q=>q=gi) ww aR)∧(jq=13→sL (BP+1) ww aR)) Tryz.mixed (by decide+kernel) (aB.of_below bh.o).drew (fun u=>match u with | 0=>(br).drew | _+1=>HD.o) ?_ (fun jq ww aR u hk h hR=>match u,hk,h with | 0,hk,h=>(aj h (hR.1 (by intro e;simp [e] at hk) (by intro e;simp [e] at hk))) | _+1,hk,h=>(by by_cases e:jq=10;exact (hR.2.1 e).block h (by have:=Ad.o;omega);exact ag (hR.1 e (by simpa using hk)) h)) ?_ ?_
 ·intro q r v w w' hne hk hlt h hR;match r,hk,hlt,h,hne with
  | 0,_,_,h,_=>exact h
  | 1,_,_,h,_=>exact h
  | 2,_,_,h,_=>exact h
  | 3,_,_,h,_=>exact h
  | 4,_,_,h,_=>exact h
  | 5,_,_,h,_=>exact h
  | 6,_,_,h,_=>exact h
  | 7,_,_,h,_=>exact h
  | 8,_,_,h,_=>exact h
  | 9,_,_,h,_=>exact h
  | 10,hk,hlt,h,hne=>
   by_cases e:q=13
   ·exact⟨h.1.dot (hR.2.2 e) (by exact Ad.o),h.2⟩
   ·exact⟨h.1.below (hR.1 (by exact hne) e),h.2⟩
  | 11,_,_,h,_=>exact h
  | 12,_,_,h,_=>exact h
  | 13,hk,hlt,h,hne=>
   by_cases e:q=10
   ·subst e;exact absurd hlt (by decide+kernel)
   ·exact ag (hR.1 e (by exact hne)) h
  | 14,_,_,h,_=>exact h
  | _+15,_,_,_,_=>trivial
 ·refine⟨?_, ?_, ?_, ?_, ?_, ?_, ?_, ?_, ?_, ?_, ?_, ?_, ?_, ?_, ?_,trivial⟩
  ·intro x wx hG;have f0:=hG.o 0;replace hG:=hG.g;go_wp2;exact⟨_,rfl,rfl,hG,⟨fun _ _=>br,fun h=>zd h,fun h=>zd h⟩⟩
  ·intro x wx hG;have⟨g0,og⟩:=gs 17 (hG.c 0 _ rfl);replace hG:=hG.g;go_wp2;exact⟨_,rfl,rfl,hG,⟨fun _ _=>br,fun h=>zd h,fun h=>zd h⟩⟩
  ·intro x wx hG;have⟨g1,tq⟩:=gs 18 (hG.c 1 _ rfl);replace hG:=hG.g;go_wp2;exact⟨_,rfl,rfl,hG,⟨fun _ _=>br,fun h=>zd h,fun h=>zd h⟩⟩
  ·intro x wx hG;have⟨g2,vD⟩:=gs 19 (hG.c 2 _ rfl);have hp0:=hG.p 0;replace hG:=hG.g;have oP:=ah hp0 fL.o;go_wp2;exact⟨_,rfl,rfl,hG,⟨fun _ _=>br,fun h=>zd h,fun h=>zd h⟩⟩
  ·intro x wx hG;have f1:=hG.o 1;replace hG:=hG.g;go_wp2;exact⟨_,rfl,rfl,hG,⟨fun _ _=>br,fun h=>zd h,fun h=>zd h⟩⟩
  ·intro x wx hG;have⟨g3,qF⟩:=gs 20 (hG.c 3 _ rfl);have⟨g4,qE⟩:=gs 21 (hG.c 4 _ rfl);replace hG:=hG.g;go_wp2;exact⟨_,rfl,rfl,hG,⟨fun _ _=>br,fun h=>zd h,fun h=>zd h⟩⟩
  ·intro x wx hG;have⟨g5,sj⟩:=gs 22 (hG.c 5 _ rfl);have hp0:=hG.p 0;replace hG:=hG.g;have Ox:=ah hp0 Bv.o;go_wp2;exact⟨_,rfl,rfl,hG,⟨fun _ _=>br,fun h=>zd h,fun h=>zd h⟩⟩
  ·intro x wx hG;have f2:=hG.o 2;replace hG:=hG.g;go_wp2;exact⟨_,rfl,rfl,hG,⟨fun _ _=>br,fun h=>zd h,fun h=>zd h⟩⟩
  ·intro x wx hG;have f8:=hG.o 8;have hp0:=hG.p 0;replace hG:=hG.g;have acC:=ah hp0 HP0.o;have VK:=ah hp0 nN.o;go_wp2;exact⟨_,rfl,rfl,hG,⟨fun _ _=>br,fun h=>zd h,fun h=>zd h⟩⟩
  ·intro x wx hG;have f4:=hG.o 4;replace hG:=hG.g;go_wp2;exact⟨_,rfl,rfl,hG,⟨fun _ _=>br,fun h=>zd h,fun h=>zd h⟩⟩
  ·intro x wx hG;have⟨g6,uy⟩:=gs 23 (hG.c 6 _ rfl);have⟨g7,Gt⟩:=gs 24 (hG.c 7 _ rfl);have⟨g8,Bb⟩:=gs 25 (hG.c 8 _ rfl);have⟨g9,zy⟩:=gs 26 (hG.c 9 _ rfl);have hp0:=hG.p 0;replace hG:=hG.g;have HN:=jD (lI.o wx (oI.o.below hp0));go_wp2_with fail
   (with_reducible refine(HN.o).mono ?_);rintro e wq ⟨rfl,h1,h2⟩;have H1:=jD h1;have H2:=jD h2;clear h1 h2 HN;go_wp2;exact⟨_,rfl,⟨H1.o,rfl⟩,hG.trans H2.o,⟨fun h _=>absurd rfl h,fun _=>H2.o,fun h=>zd h⟩⟩
  ·intro x wx hG;have g10:bz wx b gi s9∧(x.tmps.getD 27 undef)= .tuple #[.agg #[.int .i64 d0, .int .i64 d1], .int .i64 E9]:=hG.c 10 _ rfl;replace hG:=hG.g;have TV:=g10.2;have Oa:=TV;rw[Array.getD_eq_getD_getElem?] at Oa;go_wp2;exact⟨_,rfl,rfl,hG,⟨fun _ _=>br,fun h=>zd h,fun h=>zd h⟩⟩
  ·intro x wx hG;have g10:bz wx b gi s9∧(x.tmps.getD 27 undef)= .tuple #[.agg #[.int .i64 d0, .int .i64 d1], .int .i64 E9]:=hG.c 10 _ rfl;replace hG:=hG.g;have TV:=g10.2;have Oa:=TV;rw[Array.getD_eq_getD_getElem?] at Oa;go_wp2;exact⟨_,rfl,rfl,hG,⟨fun _ _=>br,fun h=>zd h,fun h=>zd h⟩⟩
  ·intro x wx hG;have f10:=hG.o 10;have⟨g11,EU⟩:=gs 28 (hG.c 11 _ rfl);have g10:bz wx b gi s9∧(x.tmps.getD 27 undef)= .tuple #[.agg #[.int .i64 d0, .int .i64 d1], .int .i64 E9]:=hG.c 10 _ rfl;have hp1:=hG.p 1;replace hG:=hG.g;obtain⟨g10, -⟩:=g10;have ZN:=g11;rw[Array.getD_eq_getD_getElem?] at ZN;have r0:=cq 0 hp1 rfl;have r1:=cq 1 hp1 rfl;have q0:=fq 0 hp1;have q1:=fq 1 hp1;have r8:=ai hp1;have HQ1:=jD hp1;have HG:=jD hG;clear hp1 hG g10;go_wp2;exact⟨undef,rfl,(ax (ax HQ1.o)).trans rfl,sL.bD HG.o ⟨BP+1,_,_,by have:=abn.o;omega,HQ1.o,rfl⟩,⟨fun _ h=>absurd rfl h,fun h=>zd h,fun _=>⟨BP+1,_,_,Nat.le_refl _,HQ1.o,rfl⟩⟩⟩
  ·intro x wx hG;have⟨g12,ET⟩:=gs 29 (hG.c 12 _ rfl);replace hG:=hG.g;go_wp2;exact⟨_,rfl,rfl,hG,⟨fun _ _=>br,fun h=>zd h,fun h=>zd h⟩⟩
 ·intro af w2 hg hF;obtain⟨g0,g1,g2,g3,g4,g5,g6,g7,g8,g9,g10,g11,g12,g13,g14, -⟩:=hF;replace g10:bz w2 b gi s9∧(af 10)= .tuple #[.agg #[.int .i64 d0, .int .i64 d1], .int .i64 E9]:=g10 rfl;replace g13:w2.heap[BP+1]? =some (Obj.cells #[.int .i64 d0, .int .i64 d1] 103 (0,0)):=g13 rfl;simp only[Cl3.puts,gq (af 0) g0,gq (af 1) g1,gq (af 2) g2,gq (af 3) g3,gq (af 4) g4,gq (af 5) g5,gq (af 6) g6,gq (af 7) g7,gq (af 8) g8,gq (af 9) g9,gq (af 11) g11,gq (af 12) g12,gq (af 14) g14];clear g0 g1 g2 g3 g4 g5 g6 g7 g8 g9 g11 g12 g14;go_simp
  generalize af 10=mk9 at*;have HST:=jD hg;have HSN:=jD g10.1;have r0:=cq 0 g13 rfl;have r1:=cq 1 g13 rfl;clear g10 g13 hg;go_wp2;refine bodyPost_ret (v:= .tuple #[.agg #[.int .i64 d0, .int .i64 d1], .int .i64 E9]) (by simp[results,Tryz.results62,go_sem, *]) rfl ?_;exact⟨rfl,o5.o _ HST.o HSN.o,HST.o.mono fun k hk=>by rw[hk];exact GR.o⟩
theorem PU {w:World} {b:Nat} {x:iy} {c:List Value} (h:fO w b x c): ∃v1 v2:Value,c=[.int .i64 x.to,v1,v2]∧((x.P5=false∧v2= .pointer none∧ ∃q,v1= .pointer (some ⟨q,0,none⟩))∨(x.P5=true∧v1= .pointer none∧ ∃q,v2= .pointer (some ⟨q,0,none⟩))):=by
 cases x with
 | ask t a=>obtain ⟨q,rfl, -⟩:=h;exact ⟨_,_,rfl, .inl ⟨rfl,rfl,q,rfl⟩⟩
 | sA t bt=>obtain ⟨q,rfl, -⟩:=h;exact ⟨_,_,rfl, .inr ⟨rfl,rfl,q,rfl⟩⟩
theorem Az {w:World} {b base k:Nat} {v:Value} {l:List iy} {css:List (List Value)} (hr:w.ownsRow base 154 3 v l.length css.flatten) (hl:eY w b l css) (hk:k < l.length):
  ∃qw cap c,v= .slice (some ⟨qw,0,none⟩) l.length cap∧qw < w.heap.size∧css[k]? =some c∧fO w b l[k] c∧ ∀j x,c[j]? =some x→w.cell? ⟨qw,k*3+j,none⟩=some x:=by
 have hk2:k < css.length:=by have:=hl.len;omega
 have hf:=hl.flat;rcases hr.2 with⟨-,h0⟩ | ⟨g,cap,cur,rfl,h2,h3,h4⟩
 ·omega
 ·refine⟨g,cap,css[k],rfl,ai h3,List.getElem?_eq_getElem hk2,hl.each k hk hk2,fun j x hj=> ?_⟩;have:=hr.cells (g:=g) rfl (k*3+j) x (Co hf k (List.getElem?_eq_getElem hk2) j hj);rw[Addr.add_lit,Nat.zero_add] at this;exact this
def BH (l:List iy):List Value:=l.map fun x=> .bool x.P5
theorem Yh (g b:Nat) (T:Nat→Prop) (t:aK) (w:World) (h:aJ w b T g t):
  Calls Tryz.prog 72 #[.pointer (some ⟨g,0,none⟩)] w fun e w'=> ∃a c,e= .returned (.slice a t.way.length c)∧w'.ownsRow w.heap.size 4 1 (.slice a t.way.length c) t.way.length (BH t.way)∧Below w.heap.size w w':=by
 obtain⟨sv,wv,css,hblk,gW,hrow, -⟩:=h.letters;have fP:=h.ok.lw;obtain⟨wa,wc,rfl⟩:=ay hrow;have qx:=jD gW;have jR:=jD hrow;have c1:w.cell? ⟨g,1,none⟩=some (.slice wa t.way.length wc):=cq 1 hblk rfl;generalize t.way=l at*;clear h hblk gW hrow;go_enter Tryz.func72,Tryz.ntmps72;go_wp2;clear c1;go_loopw [11,3] (fun i ov wr=> ∃k:Nat,k≤l.length∧i= .int .i64 k∧wr.ownsRow w.heap.size 4 1 ov k (BH (l.take k))∧Below w.heap.size w wr) (fun i _ _=>l.length - (intOf i).toNat)
 case atStart=>exact ⟨0,Nat.zero_le _,rfl,World.ownsRow_nil _ _ _ _,br⟩
 case round=>
  obtain⟨k,hk,rfl,hown,hbl⟩:=hrel;obtain⟨oa,oc,hov⟩:=ay hown;subst hov;have HOW:=jD hown;have aP:=jD hbl;by_cases hlt:k < l.length;rotate_left
  ·obtain rfl:k=l.length:=by omega
   rw[List.take_length] at HOW;have hkb:decide ((l.length:Int) < (l.length:Int))=false:=by simp
   clear hown hbl;go_wp2;go_ret;exact⟨_,_,rfl,HOW.o,aP.o⟩
  obtain⟨qw,cap,c,hsl,Jq,Dl,hla,hcc⟩:=Az jR.o qx.o hlt;simp only[Value.slice.injEq] at hsl;obtain⟨rfl, -,rfl⟩:=hsl;obtain⟨v1,v2,rfl,Zd⟩:=PU hla;have c0:=hbl.cell (p:=⟨qw,k*3+0,none⟩) Jq |>.trans (hcc 0 _ rfl)
  have c1:=hbl.cell (p:=⟨qw,k*3+1,none⟩) Jq |>.trans (hcc 1 _ rfl)
  have c2:=hbl.cell (p:=⟨qw,k*3+2,none⟩) Jq |>.trans (hcc 2 _ rfl)
  rw[Nat.add_zero] at c0;have lV:decide ((k:Int) < (l.length:Int))=true:=by simp;omega
  have HT:=jD (show BH (l.take (k+1))=BH (l.take k)++[.bool l[k].P5] by unfold BH;rw [List.take_succ_eq_append_getElem hlt,List.map_append];rfl);generalize l[k].to=to9 at*;generalize l[k].P5=isb at*;clear Dl hla hcc hown hbl;have key: ∃y:Value,y=v2∧v1.oneCell'=true∧v2.oneCell'=true:=⟨_,rfl,by rcases Zd with⟨-, -,q,rfl⟩ | ⟨-,rfl, -⟩ <;> rfl,by rcases Zd with⟨-,rfl, -⟩ | ⟨-, -,q,rfl⟩ <;> rfl⟩
  have dm:=aG (W:=wr) (.cells #[.int .i64 to9,v1,v2] 154);have V8:=jD (aI HOW.o dm);have wV:=jD (aj aP.o dm);clear HOW aP dm;have hsz:=wV.o.size;have gV: ∀(bv:Bool),bv=isb→ ∀(v9:Value) (w9:World),w9.ownsRow w.heap.size 4 1 v9 (k+1) (BH (l.take k)++[.bool bv])→Below w.heap.size w w9→ ∃k':Nat,k'≤l.length∧(Value.int .i64 ((k:Int)+1)= .int .i64 k')∧w9.ownsRow w.heap.size 4 1 v9 k' (BH (l.take k'))∧Below w.heap.size w w9:=fun bv hb v9 w9 ho dw=>⟨k+1,by omega,by simp,by rw[HT.o,←hb];exact ho,dw⟩
  replace gV:=jD gV;have fL:=jD c0;clear key HT c0 Jq;rcases Zd with⟨hb,rfl,q,rfl⟩ | ⟨hb,rfl,q,rfl⟩
  ·have Ap:=jD hb;clear hb;have c0:=fL.o;go_wp2_with (at_builtin;apply Classical.byContradiction;intro hcon)
   refine hcon ?_;(refine rQ (w0:=w) rfl (.tmp 15) (.tmp 19) 110 rfl w.heap.size 4 (.bool false) 1 1 Tryz.underlying110 R9.info rfl (by decide) (.slice oa k oc) k _ (by simp[go_sem]) V8.o [.bool false] rfl (by simp[Value.oneCell']) (by simp[go_sem]) wV.o hsz (by unfold maxLen;omega) (by omega) ?_);intro v9 w9 ho hgr;obtain⟨va,vc,vk⟩:=ay ho;subst vk;have uP:=jD (wV.o.grown hgr hsz (fun q hq=>(V8.o.lt q hq).1));have HO9:=jD ho;clear ho hgr hcon hsz c1 c2;go_wp2;go_roundw
   case rel=>exact gV.o false Ap.o.symm _ _ HO9.o uP.o
   case measure=>simp [intOf] <;> omega
  ·have Ap:=jD hb;clear hb;have c0:=fL.o;go_wp2_with (at_builtin;apply Classical.byContradiction;intro hcon)
   refine hcon ?_;(refine rQ (w0:=w) rfl (.tmp 15) (.tmp 19) 110 rfl w.heap.size 4 (.bool false) 1 1 Tryz.underlying110 R9.info rfl (by decide) (.slice oa k oc) k _ (by simp[go_sem]) V8.o [.bool true] rfl (by simp[Value.oneCell']) (by simp[go_sem]) wV.o hsz (by unfold maxLen;omega) (by omega) ?_);intro v9 w9 ho hgr;obtain⟨va,vc,vk⟩:=ay ho;subst vk;have uP:=jD (wV.o.grown hgr hsz (fun q hq=>(V8.o.lt q hq).1));have HO9:=jD ho;clear ho hgr hcon hsz c1 c2;go_wp2;go_roundw
   case rel=>exact gV.o true Ap.o.symm _ _ HO9.o uP.o
   case measure=>simp [intOf] <;> omega
theorem yG {P:Program} {w:World} {ops:Array Oper} {rest:List Oper} {o:Oper} {a:Act} {Q:Exit→Act→World→Prop} (hgd:o.guard=none) (s x:Operand) (t:TypeId)
  (ho:o.op= .call { callee:= .builtin .append,args:= #[s,x],argTypes:= #[t,t] })
  (e:TypeId) (z:Value) (size bytes:Nat) (ht:P.underlying t=some (.slice e)) (hinfo:(P.info? e).map (fun i=>(i.zero,i.size,i.bytes))=some (some z,size,bytes))
  (g n cap:Nat) (cur:List Value) (hs:a.eval s= .slice (some ⟨g,0,none⟩) n cap) (hg:w.heap[g]? =some (.cells cur.toArray e (0,0)))
  (ad:Addr) (m c:Nat) (news:List Value) (hx:a.eval x= .slice (some ad) m c) (hl:news.length=m*size) (hnews: ∀j u,news[j]? =some u→w.cell? (ad.add j)=some u) (h1: ∀u∈news,u.oneCell'=true)
  (hroom:n+m≤cap) (hfit:n*size+news.length≤cur.length)
  (h: ∀w',Hd (w'.heap[g]? =some (.cells (splice cur (n*size) news).toArray e (0,0)))→dD w w' g→wpList P ops Q rest (a.put o.dst (.slice (some ⟨g,0,none⟩) (n+m) cap)) w'):wpList P ops Q (o::rest) a w:=by
 obtain⟨i,hi,hz,hsize,hby⟩:=info_parts hinfo;subst hsize;have hr:=run_append_room (P:=P) w t o.type e i ht hi g n cap cur.toArray hg ad m c news hl hnews h1 hroom (by simpa using hfit);refine wpList_plain hgd fun K hK=> ?_;unfold Oper.wp execOp;simp only[ho,resolve,invoke,builtin,Sem.run_bind,Sem.run_pure,Result.andThen_ok,List.map_toArray,List.map_cons,List.map_nil,hs,hx,hr];refine hK _ _ (h _ ?_ (dD.setRow _ _ _));refine jD ?_;rw[setRow_heap w g _ _ e _ hg];simp only[splice,List.append_assoc]
structure X6 (w:World) (q n cap k:Nat) (cur:List Value) (e:Ending) (w':World):Prop where
 e:e= .returned (.slice (some ⟨q,0,none⟩) (n - 1) cap)
 but:dD w w' q
 row: ∃cur':List Value,w'.heap[q]? =some (.cells cur'.toArray 154 (0,0))∧cur'.length=cap*3∧cur'.take ((n - 1)*3)=cur.take (k*3)++(cur.take (n*3)).drop ((k+1)*3)
theorem tdel_c (q n cap k:Nat) (cur:List Value) (wz:World) (hq:wz.heap[q]? =some (.cells cur.toArray 154 (0,0))) (hcl:cur.length=cap*3) (hn:n≤cap) (hk:k < n) (hn60:n≤60) (hone: ∀u∈cur.take (n*3),u.oneCell'=true):
  Calls Tryz.prog 99 #[.slice (some ⟨q,0,none⟩) n cap, .int .i64 (k:Nat), .int .i64 ((k:Int)+1)] wz (X6 wz q n cap k cur):=by
 have HQ:=jD hq;have OY:=jD hone;have lu:=jD hcl;clear hq hone hcl;have hd:((k:Int)==(k:Int)+1)=false:=by simp;omega
 go_enter Tryz.func99,Tryz.ntmps99;have h1:(k:Int)+1≤(n:Int):=by omega
 go_wp2_with fail
 refine Cl3.aV 33 rfl (fun u=>[6]) (fun u ww=>dD wz ww q∧ww.heap[q]? =some (.cells cur.toArray 154 (0,0))) (fun _=>[]) (fun jq v ww=>match jq with | 0=>v= .slice (some ⟨q,0,none⟩) n cap | 1=>v= .int .i64 (k:Nat) | 2=>v= .slice (some ⟨q,0,none⟩) k cap | 3=>v= .slice (some ⟨q,0,none⟩) n cap | 4=>v= .int .i64 ((k:Int)+1) | 5=> ∃ad,v= .slice (some ad) (n - (k+1)) (cap - (k+1))∧(k+1 < n→ad=⟨q,(k+1)*3,none⟩) | 6=>dD wz ww q∧ww.heap[q]? =some (.cells (splice cur (k*3) ((cur.take (n*3)).drop ((k+1)*3))).toArray 154 (0,0))∧v= .slice (some ⟨q,0,none⟩) (k+(n - (k+1))) cap | 7=>v= .slice (some ⟨q,0,none⟩) (k+(n - (k+1))) cap | _=>True) (fun ww=>True) (fun jq ww aR=>jq≠6→aR=ww) Tryz.mixed (by decide+kernel) trivial (fun u=>⟨⟨rfl,rfl,rfl,rfl,fun _ _=>rfl⟩,HQ.o⟩) ?_ (fun jq ww aR u hk h hR=>by rw[hR (by intro e;simp [e] at hk)];exact h) ?_ ?_
 ·intro q r v w w' hne hk hlt h hR;match r,hk,hlt,h,hne with
  | 0,_,_,h,_=>exact h
  | 1,_,_,h,_=>exact h
  | 2,_,_,h,_=>exact h
  | 3,_,_,h,_=>exact h
  | 4,_,_,h,_=>exact h
  | 5,_,_,h,_=>exact h
  | 6,hk,hlt,h,hne=>rw [hR (by exact hne)];exact h
  | 7,_,_,h,_=>exact h
  | _+8,_,_,_,_=>trivial
 ·refine⟨?_, ?_, ?_, ?_, ?_, ?_, ?_, ?_,trivial⟩
  ·intro x wx hG;have f0:=hG.o 0;replace hG:=hG.g;go_wp2;exact⟨_,rfl,rfl,hG,fun _=>rfl⟩
  ·intro x wx hG;have f1:=hG.o 1;replace hG:=hG.g;go_wp2;exact⟨_,rfl,rfl,hG,fun _=>rfl⟩
  ·intro x wx hG;have⟨g0,og⟩:=gs 20 (hG.c 0 _ rfl);have⟨g1,tq⟩:=gs 21 (hG.c 1 _ rfl);replace hG:=hG.g;go_wp2;exact⟨_,rfl,rfl,hG,fun _=>rfl⟩
  ·intro x wx hG;have f0:=hG.o 0;replace hG:=hG.g;go_wp2;exact⟨_,rfl,rfl,hG,fun _=>rfl⟩
  ·intro x wx hG;have f2:=hG.o 2;replace hG:=hG.g;go_wp2;exact⟨_,rfl,rfl,hG,fun _=>rfl⟩
  ·intro x wx hG;have⟨g3,qF⟩:=gs 23 (hG.c 3 _ rfl);have⟨g4,qE⟩:=gs 24 (hG.c 4 _ rfl);replace hG:=hG.g;by_cases Dl:cap=k+1
   ·go_wp2;exact⟨_,rfl,⟨⟨q,0,none⟩,by simp[Dl],fun h=>by omega⟩,hG,fun _=>rfl⟩
   go_wp2;exact⟨_,rfl,⟨⟨q,(k+1)*3,none⟩,rfl,fun _=>rfl⟩,hG,fun _=>rfl⟩
  ·intro x wx hG;have⟨g2,vD⟩:=gs 22 (hG.c 2 _ rfl);have g5: ∃ad,(x.tmps.getD 25 undef)= .slice (some ad) (n - (k+1)) (cap - (k+1))∧(k+1 < n→ad=⟨q,(k+1)*3,none⟩):=hG.c 5 _ rfl;have hp0:=hG.p 0;replace hG:=hG.g;obtain⟨ad,hv,had⟩:=g5;have hvb:=hv;rw[Array.getD_eq_getD_getElem?] at hvb;have HAD:=jD had;have HP:=jD hp0;have HG:=jD hG;clear had hp0 hG;have HN:=jD (show ∀j u,((cur.take (n*3)).drop ((k+1)*3))[j]? =some u→wx.cell? (ad.add j)=some u from fun j u hj=>by
    have hj1:j < ((cur.take (n*3)).drop ((k+1)*3)).length:=(List.getElem?_eq_some_iff.1 hj).1;have hcl:=lu.o;rw[List.length_drop,List.length_take] at hj1;have hlt:k+1 < n:=by omega
    rw[HAD.o hlt,Addr.add_lit];refine aD HP.o.2 ?_;rw[List.getElem?_drop,List.getElem?_take_of_lt (by omega)] at hj;simpa using hj)
   have HL:=jD (show((cur.take (n*3)).drop ((k+1)*3)).length=(n - (k+1))*3 by have hcl:=lu.o;rw [List.length_drop,List.length_take];omega);have afQ:=jD (show k*3+((cur.take (n*3)).drop ((k+1)*3)).length≤cur.length by have hcl:=lu.o;rw [HL.o];omega);go_wp2_with (at_builtin;apply Classical.byContradiction;intro hcon)
   refine hcon ?_;(refine yG rfl (.tmp 22) (.tmp 25) 139 rfl 154 (.agg #[.int .i64 0, .pointer none, .pointer none]) 3 24 Tryz.underlying139 Im.info q k cap cur (by simp[go_sem, *]) HP.o.2 ad (n - (k+1)) (cap - (k+1)) ((cur.take (n*3)).drop ((k+1)*3)) (by simp[go_sem, *]) HL.o HN.o (fun u hu=>OY.o u (List.mem_of_mem_drop hu)) (by omega) afQ.o ?_);intro w9 h9 dw;have H9:=jD h9.o;have uP:=jD dw;clear h9 dw hcon;go_wp2;exact⟨_,rfl,⟨⟨uP.o.os.trans HP.o.1.os,uP.o.tape.trans HP.o.1.tape,uP.o.output.trans HP.o.1.output,uP.o.size.trans HP.o.1.size,fun z hz=>(uP.o.other z hz).trans (HP.o.1.other z hz)⟩,H9.o,rfl⟩,trivial,fun h=>absurd rfl h⟩
  ·intro x wx hG;have g6:dD wz wx q∧wx.heap[q]? =some (.cells (splice cur (k*3) ((cur.take (n*3)).drop ((k+1)*3))).toArray 154 (0,0))∧(x.tmps.getD 26 undef)= .slice (some ⟨q,0,none⟩) (k+(n - (k+1))) cap:=hG.c 6 _ rfl;replace hG:=hG.g;have Qm:=g6.2.2;have JM:=Qm;rw[Array.getD_eq_getD_getElem?] at JM;go_wp2;exact⟨_,rfl,rfl,hG,fun _=>rfl⟩
 ·intro af w2 hg hF;obtain⟨g0,g1,g2,g3,g4,g5,g6,g7, -⟩:=hF;replace g6:dD wz w2 q∧w2.heap[q]? =some (.cells (splice cur (k*3) ((cur.take (n*3)).drop ((k+1)*3))).toArray 154 (0,0))∧(af 6)= .slice (some ⟨q,0,none⟩) (k+(n - (k+1))) cap:=g6 rfl;simp only[Cl3.puts,gq (af 0) g0,gq (af 1) g1,gq (af 2) g2,gq (af 3) g3,gq (af 4) g4,gq (af 7) g7];clear g0 g1 g2 g3 g4 g5 g7;go_simp
  generalize af 6=v26 at*;have Bq:=jD g6.1;have RP:=jD g6.2.1;clear g6 hg;generalize af 5=j5 at*;obtain⟨m,hm⟩: ∃m,m=k+(n - (k+1)):=⟨_,rfl⟩
  rw[←hm];have hmn:n=m+1:=by omega
  have HM:=jD hm;clear hm;have hcm: ¬cap=m:=by omega
  have p5:(m:Int)≤(n:Int):=by omega
  have hm2:(n:Int)≤(cap:Int):=by omega
  have RB:=jD hmn;clear hmn;have HL:=jD (show(splice cur (k*3) ((cur.take (n*3)).drop ((k+1)*3))).length=cap*3 by
   have hcl:=lu.o;rw[length_splice _ _ _ (by rw[List.length_drop,List.length_take];omega)];exact hcl)
  go_wp2_with (refine oL rfl _ 139 rfl 154 (.agg #[.int .i64 0, .pointer none, .pointer none]) 3 24 Tryz.underlying139 Im.info rfl (by decide) q (m*3) (n - m) (cap - m) (some ⟨q,m*3,none⟩) (fun _=>rfl) rfl _ _ RP.o (by have:=RB.o;rw [HL.o];omega) ?_)
  intro w3 zs h3 hz hb3;have H3:=jD h3.o;have HZ:=jD hz;have eH:=jD hb3;clear h3 hz hb3;go_wp2;go_ret;have hmn:=RB.o;refine⟨by rw[show n - 1=m by omega];rfl,⟨eH.o.os.trans Bq.o.os,eH.o.tape.trans Bq.o.tape,eH.o.output.trans Bq.o.output,eH.o.size.trans Bq.o.size,fun z hz=>(eH.o.other z hz).trans (Bq.o.other z hz)⟩,_,H3.o, ?_, ?_⟩
  ·have hcl:=HL.o;rw[length_splice _ _ _ (by rw[HZ.o,hcl];omega)];exact hcl
  ·have hcl:=HL.o;have wh:=lu.o;have hnl:((cur.take (n*3)).drop ((k+1)*3)).length=(n - (k+1))*3:=by rw[List.length_drop,List.length_take];omega
   rw[show n - 1=m by omega,pQ (by rw[hcl];omega),show m*3=k*3+((cur.take (n*3)).drop ((k+1)*3)).length by rw[hnl];have:=HM.o;omega];exact rH (by rw[hnl];omega)
theorem dD.bD {w w':World} {g:Nat} {cs cs':Array Value} {t:TypeId} (h:dD w w' g) (hg:w.heap[g]? =some (Obj.cells cs t (0,0))) (hg':w'.heap[g]? =some (Obj.cells cs' t (0,0))) (hs:cs'.size=cs.size) (ht:kJ t=false):aB (fun q=>q=g) w w':=by
 refine⟨⟨h.os,h.tape,h.output,by rw[h.size];exact Nat.le_refl _,fun k _ hk=>h.other k hk,fun k c e hc=> ?_⟩,aM.I7 h hg ht⟩;by_cases hk:k=g
 ·subst hk;rw[hg] at hc;simp only[Option.some.injEq,Obj.cells.injEq,and_true] at hc;obtain⟨rfl,rfl⟩:=hc;exact⟨_,hg',hs⟩
 ·exact⟨c,(h.other k hk).trans hc,rfl⟩
theorem Ds {css:List (List Value)} (h: ∀c∈css,c.length=3) (k:Nat):(css.eraseIdx k).flatten=css.flatten.take (k*3)++css.flatten.drop ((k+1)*3):=by
 rw[List.eraseIdx_eq_take_drop_succ,List.flatten_append,←rA h];congr 1;by_cases hk:k+1≤css.length
 ·have e:css.flatten=(css.take (k+1)).flatten++(css.drop (k+1)).flatten:=by rw[←List.flatten_append,List.take_append_drop]
  have hl:(css.take (k+1)).flatten.length=(k+1)*3:=by
   rw[rA h,List.length_take,List.length_flatten];have:(css.map List.length).sum=css.length*3:=by
    clear hk e;induction css with
    | nil=>rfl
    | cons c css ih=>rw [List.map_cons,List.sum_cons,ih (fun d hd=>h d (by simp[hd])),h c (by simp),List.length_cons];omega
   rw[this];omega
  conv=>rhs;rw [e]
  rw[List.drop_append_of_le_length (by omega),←hl,List.drop_length,List.nil_append]
 ·rw[List.drop_eq_nil_of_le (by omega),List.flatten_nil];symm;apply List.drop_eq_nil_of_le;rw[List.length_flatten];have:(css.map List.length).sum=css.length*3:=by
   clear hk;induction css with
   | nil=>rfl
   | cons c css ih=>rw [List.map_cons,List.sum_cons,ih (fun d hd=>h d (by simp[hd])),h c (by simp),List.length_cons];omega
  rw[this];omega
def lU (t:aK) (k:Int):Int:=if k < 0∨(t.way.length:Int)≤k then 4 else 0
def rL (t:aK) (k:Int):aK:=if lU t k=0 then Vh t k.toNat else t
theorem Jg {t:aK} {k:Int} (h:k < 0∨(t.way.length:Int)≤k):lU t k=4∧rL t k=t:=by
 have e:lU t k=4:=by unfold lU;rw [if_pos h]
 exact⟨e,by unfold rL;rw [if_neg (by rw[e];decide)]⟩
theorem PO {t:aK} {k:Nat} (h:k < t.way.length):lU t k=0∧rL t k=Vh t k:=by
 have e:lU t k=0:=by unfold lU;rw [if_neg (by omega)]
 exact⟨e,by unfold rL;rw [if_pos e];rfl⟩
theorem WG (g b:Nat) (T:Nat→Prop) (t:aK) (k:Int) (w:World) (h:aJ w b T g t):
  Calls Tryz.prog 70 #[.pointer (some ⟨g,0,none⟩), .int .i64 k] w fun e w'=>e= .returned (.int .i64 (lU t k))∧aJ w' b T g (rL t k)∧aB T w w':=by
 obtain⟨sv,wv,css,hblk,gW,hrow,hwT,eD⟩:=h.letters;obtain⟨wa,wc,rfl⟩:=ay hrow;have c1:w.cell? ⟨g,1,none⟩=some (.slice wa t.way.length wc):=cq 1 hblk rfl;have HT:=jD h;go_enter Tryz.func70,Tryz.ntmps70;by_cases h0:k < 0
 ·have d0:decide (k < 0)=true:=decide_eq_true h0;have HE:=jD (Jg (t:=t) (.inl h0));clear h hblk gW hrow eD hwT h0;go_wp2;go_ret;exact⟨by rw[HE.o.1];rfl,by rw[HE.o.2];exact HT.o,aB.refl _ _⟩
 have d0:decide (k < 0)=false:=decide_eq_false h0;by_cases h1:(t.way.length:Int)≤k
 ·have d1:decide ((t.way.length:Int)≤k)=true:=decide_eq_true h1;have HE:=jD (Jg (t:=t) (.inr h1));clear h hblk gW hrow eD hwT h0 h1;go_wp2;go_ret;exact⟨by rw[HE.o.1];rfl,by rw[HE.o.2];exact HT.o,aB.refl _ _⟩
 obtain⟨j,rfl⟩: ∃j:Nat,k=(j:Int):=⟨k.toNat,by omega⟩
 have d1:decide ((t.way.length:Int)≤(j:Int))=false:=decide_eq_false h1;have hj:j < t.way.length:=by omega
 have HE:=jD (PO hj);have bU:=jD hblk;have qx:=jD gW;have VX:=jD hwT;have o5:=jD eD;have RO:=jD h.ge.2;have Bz:=jD h.ok.lw;have cz:=jD h.ok.way;have HNO:=jD (h.Vg hblk hrow);rcases hrow.2 with⟨-,h9⟩ | ⟨q,cap,cur,hsl,rZ,hq,hnc,hcm,hcs,htake⟩
 ·omega
 simp only[Value.slice.injEq] at hsl;obtain⟨rfl, -,rfl⟩:=hsl;have hlen:=hrow.1;have oK:=jD rZ;have HQ:=jD hq;have RA:=jD hnc;have Am:=jD hcm;have HCS:=jD hcs;have kG:=jD htake;have HLEN:=jD hlen;have hne:g≠q:=fun e=>by
  rw[e] at hblk;exact absurd (kQ hblk hq) (by decide)
 have GY:=jD hne;clear h hblk gW hrow eD hwT h0 h1 hne rZ hq hnc hcm hcs htake hlen;have HD:=jD (tdel_c q t.way.length wc j cur.toList w (by simpa using HQ.o) (by simpa using HCS.o) RA.o hj Bz.o (fun u hu=>by
  rw[kG.o] at hu;obtain⟨c,hc,hu⟩:=List.mem_flatten.1 hu;obtain⟨i,hi,rfl⟩:=List.getElem_of_mem hc;exact(qx.o.each i (by have:=qx.o.len;omega) hi).one u hu))
 have fP:=Bz.o;go_wp2_with fail
 clear c1 fP;(with_reducible refine(HD.o).mono ?_);rintro e w2 ⟨rfl,TK,cur',hq',TI,Y6⟩;have hg2:=(TK.other g GY.o).trans bU.o;have hS:=TK.bD HQ.o hq' (by rw[List.size_toArray,TI];exact HCS.o.symm) (by decide);have HS:=jD hS;have HG2:=jD hg2;have HQ':=jD hq';have afR:=jD TI;have afF:=jD Y6;have e1:=cq 1 hg2 rfl;have e2:=fq 1 hg2;have e3:=ai hg2;clear TK hq' TI Y6 hS hg2 HD;go_wp2;go_ret;have S6:aB (fun z=>z=g∨(Value.slice (some ⟨q,0,none⟩) t.way.length wc).ownBlock=some z) w (w2.setCell ⟨g,1,none⟩ (.slice (some ⟨q,0,none⟩) (t.way.length - 1) wc)):=
  (HS.o.mono fun z hz=> .inr (by rw[hz];rfl)).trans ((aB.set HG2.o (by decide)).mono fun z hz=> .inl hz)
 have hel:(t.way.eraseIdx j).length=t.way.length - 1:=List.length_eraseIdx_of_lt hj;refine⟨by rw[HE.o.1];rfl, ?_,S6.mono fun z hz=> ?_⟩
 ·rw[HE.o.2];refine o5.o _ (.slice (some ⟨q,0,none⟩) (t.way.length - 1) wc) (css.eraseIdx j) (t.way.eraseIdx j) S6 (by rw[ax HG2.o];rfl) ((qx.o.erase j).bD S6 HNO.o) ?_ (fun z hz=>VX.o z hz) (fun l hl=>cz.o l (Hq hl)) (by have:=Bz.o;omega);rw[hel];refine cG (t:=141) ?_ HG2.o (by decide);refine⟨?_, .inr ⟨q,wc,cur'.toArray,rfl,oK.o,HQ'.o,by have:=RA.o;omega,Am.o,by rw[List.size_toArray];exact afR.o, ?_⟩⟩
  ·rw[Ds qx.o.flat,List.length_append,List.length_take,List.length_drop,HLEN.o];omega
  ·rw[List.toList_toArray,afF.o,Ds qx.o.flat,kG.o];congr 1;rw[←kG.o,List.take_take];congr 1;omega
 ·rcases hz with rfl | hz
  ·exact RO.o
  ·exact VX.o z hz
def Ei (w:World) (b:Nat) (bt:jP) (v:Value):Prop:= ∃(a1:Option Addr) (c1:Nat) (a2:Option Addr) (c2:Nat) (a3:Option Addr) (c3:Nat),v= .tuple #[.agg #[.int .i64 bt.site, .int .i64 bt.stamp, .slice a1 bt.V.length c1, .slice a2 bt.G.length c2, .slice a3 bt.S.length c3], .int .i64 0]∧mh w b (.slice a1 bt.V.length c1) (.slice a2 bt.G.length c2) (.slice a3 bt.S.length c3) bt
def R4 (w:World) (b:Nat) (bt:jP) (v:Value):Prop:= ∃(a1:Option Addr) (c1:Nat) (a2:Option Addr) (c2:Nat) (a3:Option Addr) (c3:Nat),v= .agg #[.int .i64 bt.site, .int .i64 bt.stamp, .slice a1 bt.V.length c1, .slice a2 bt.G.length c2, .slice a3 bt.S.length c3]∧mh w b (.slice a1 bt.V.length c1) (.slice a2 bt.G.length c2) (.slice a3 bt.S.length c3) bt
theorem Ei.bD {G:Nat→Prop} {w w':World} {b:Nat} {bt:jP} {v:Value} (h:Ei w b bt v) (hs:aB G w w'):Ei w' b bt v:=by
 obtain⟨a1,c1,a2,c2,a3,c3,e,ho⟩:=h;exact ⟨a1,c1,a2,c2,a3,c3,e,ho.bD hs⟩
theorem R4.bD {G:Nat→Prop} {w w':World} {b:Nat} {bt:jP} {v:Value} (h:R4 w b bt v) (hs:aB G w w'):R4 w' b bt v:=by
 obtain⟨a1,c1,a2,c2,a3,c3,e,ho⟩:=h;exact ⟨a1,c1,a2,c2,a3,c3,e,ho.bD hs⟩
def Aq (w:World) (lo:Nat) (v:Value):Prop:= ∃q,v= .pointer (some ⟨q,0,none⟩)∧w.heap[q]? =some (Obj.cells #[.int .i64 0, .int .i64 0, .slice none 0 0, .slice none 0 0, .slice none 0 0] 158 (0,0))∧lo≤q
theorem Aq.below {w w':World} {lo:Nat} {v:Value} (h:Aq w lo v) (hb:Below w.heap.size w w'):Aq w' lo v:=by
 obtain⟨q,e,h1,h2⟩:=h;exact ⟨q,e,ag hb h1,h2⟩
def Iq (w:World) (b lo:Nat) (bt:jP) (v:Value):Prop:= ∃q,v= .pointer (some ⟨q,0,none⟩)∧Ep w b q bt∧lo≤q
theorem Iq.below {w w':World} {b lo:Nat} {bt:jP} {v:Value} (h:Iq w b lo bt v) (hb:Below w.heap.size w w'):Iq w' b lo bt v:=by
 obtain⟨q,e,h1,h2⟩:=h;exact ⟨q,e,h1.bD (G:=fun _=>False) (aB.of_below hb) fun h=>h,h2⟩
theorem IK {w:World} {q:Nat} {x0 x1 x2 x3 x4 y0 y1 y2 y3 y4:Value} {t:TypeId} (h:w.heap[q]? =some (Obj.cells #[x0,x1,x2,x3,x4] t (0,0))) (ht:kJ t=false):
  (((((w.setCell ⟨q,0,none⟩ y0).setCell ⟨q,1,none⟩ y1).setCell ⟨q,2,none⟩ y2).setCell ⟨q,3,none⟩ y3).setCell ⟨q,4,none⟩ y4).heap[q]? =some (Obj.cells #[y0,y1,y2,y3,y4] t (0,0))∧aB (fun k=>k=q) w (((((w.setCell ⟨q,0,none⟩ y0).setCell ⟨q,1,none⟩ y1).setCell ⟨q,2,none⟩ y2).setCell ⟨q,3,none⟩ y3).setCell ⟨q,4,none⟩ y4):=by
 have b0:=ax (j:=0) (v:=y0) h;have b1:=ax (j:=1) (v:=y1) b0;have b2:=ax (j:=2) (v:=y2) b1;have b3:=ax (j:=3) (v:=y3) b2;have b4:=ax (j:=4) (v:=y4) b3;exact⟨by rw[b4];rfl,((((aB.set h ht).trans (aB.set b0 ht)).trans (aB.set b1 ht)).trans (aB.set b2 ht)).trans (aB.set b3 ht)⟩
theorem tbring_bat (g b:Nat) (T:Nat→Prop) (t:aK) (j to:Nat) (bt:jP) (hj:t.way[j]? =some (.sA to bt)) (wz:World) (h:aJ wz b T g t) (p8: ∀q,wz.heap.size≤q→T q) (Ci:to < t.sites.length):
  Calls Tryz.prog 68 #[.pointer (some ⟨g,0,none⟩), .int .i64 (j:Nat)] wz fun e w'=>e= .returned (.int .i64 (iz t.sites[to] bt))∧aJ w' b T g (Ib t to Ci bt)∧aB T wz w':=by
 have fP:=h.ok.lw;obtain⟨hjl,wO⟩:=List.getElem?_eq_some_iff.1 hj;have hlo:=h.ok.way _ (List.getElem_mem hjl);rw[wO] at hlo;obtain⟨sv,wv,css,hblk,gW,hrow,hwT,eD⟩:=h.letters;obtain⟨qw,BD,c,rfl,Jq,Dl,hla,hcc⟩:=Az hrow gW hjl;rw[wO] at hla;obtain⟨qb,rfl,vv,gv,pv,hbk,Qe⟩:=hla;obtain⟨qs,cap,gi,U2,vw,mo,hq,hS,pF,hne,um,vq⟩:=h.use Ci;have rY:=hblk;rw[vw] at rY;simp only[Option.some.injEq,Obj.cells.injEq,and_true,Array.mk.injEq,List.cons.injEq] at rY;obtain⟨rfl,rfl⟩:=rY;have c1:wz.cell? ⟨g,1,none⟩=some (.slice (some ⟨qw,0,none⟩) t.way.length BD):=cq 1 hblk rfl;have l0:=hcc 0 _ rfl;have l1:=hcc 1 _ rfl;have l2:=hcc 2 _ rfl;rw[Nat.add_zero] at l0;obtain⟨BL,hBL⟩: ∃BL,BL=wz.heap.size:=⟨_,rfl⟩
 obtain⟨W1,hW1⟩: ∃W1,W1=wz.alloc (.cells #[.int .i64 (to:Nat), .pointer none, .pointer (some ⟨qb,0,none⟩)] 154):=⟨_,rfl⟩
 have hb1:Below wz.heap.size wz W1:=by rw[hW1];exact aG _
 have mG:=jD (show W1.heap[BL]? =some (Obj.cells #[.int .i64 (to:Nat), .pointer none, .pointer (some ⟨qb,0,none⟩)] 154 (0,0)) by rw[hW1];exact au _ _ _ _ hBL);have bh:=jD hb1;have Mz:=jD h;have eZ:=jD p8;have abo:=jD hBL;obtain⟨va,vc,rfl⟩:=Qe.mK.shape;obtain⟨ga,gc,rfl⟩:=fM.shape Qe.gone;obtain⟨pa,pc,rfl⟩:=Qe.parts.shape;have bU:=jD (ag hb1 hbk);have Wn:=jD (Qe.below hb1);have mW:=jD hlo;have qH:=jD (hS.below hb1);have KG:=jD hS.lt;have GR:=jD pF;have fL:=jD (cq 0 (ag hb1 hblk) rfl:W1.cell? ⟨g,0,none⟩=some (.slice (some ⟨qs,0,none⟩) t.sites.length cap));have Bv:=jD (ah hb1 hq);have dF:=jD (cq 0 mG.o rfl:W1.cell? ⟨BL,0,none⟩=some (.int .i64 (to:Nat)));have fe:=jD (cq 1 mG.o rfl:W1.cell? ⟨BL,1,none⟩=some (.pointer none));have mH:=jD (cq 2 mG.o rfl:W1.cell? ⟨BL,2,none⟩=some (.pointer (some ⟨qb,0,none⟩)));have OU:=jD vq;have d0:decide ((j:Int) < 0)=false:=by simp
 have d1:decide ((t.way.length:Int)≤(j:Int))=false:=by simp;omega
 have hjn:(j:Int) < (t.way.length:Int):=by omega
 have hin:decide ((to:Int) < (t.sites.length:Int))=true:=by simp;omega
 have Bz:=jD fP;clear h p8 hj wO hlo hblk gW hrow hwT eD Dl hcc hbk vw mo hq hS pF hne um vq hb1 Qe;go_enter Tryz.func68,Tryz.ntmps68;go_wp2_with fail
 rw[←hBL,←hW1];clear hW1 hBL l0 l1 l2 c1;obtain⟨E9,iH⟩: ∃E9,E9=iz t.sites[to] bt:=⟨_,rfl⟩
 obtain⟨s9,ym⟩: ∃s9,s9=mM t.sites[to] bt:=⟨_,rfl⟩
 have lI:=jD (fun (wx:World) (hb:Below W1.heap.size W1 wx)=>show Calls Tryz.prog 97 #[.pointer (some ⟨gi,0,none⟩), .agg #[.int .i64 bt.site, .int .i64 bt.stamp, .slice va bt.V.length vc, .slice ga bt.G.length gc, .slice pa bt.S.length pc]] wx fun e w'=>e= .returned (.int .i64 E9)∧bz w' b gi s9∧aB (fun q=>q=gi) wx w' from
  (WH (qH.o.below hb) mW.o.2 (Wn.o.below hb)).mono fun e w' hh=>by
   obtain⟨h1,h2,h3⟩:=hh;exact⟨by rw[h1,iH],by rw[ym];exact h2,h3⟩)
 have acS:=jD (fun (w':World) (hs:aB (fun q=>q=gi) wz w') (hn:bz w' b gi s9)=>show aJ w' b T g (Ib t to Ci bt) from by
  unfold Ib;rw [←ym];exact OU.o w' s9 hs hn (by rw[ym];exact (IE _ _).1))
 have HK0:=jD (cq 0 bU.o rfl:W1.cell? ⟨qb,0,none⟩=some (.int .i64 bt.site));have dQ:=jD (cq 1 bU.o rfl:W1.cell? ⟨qb,1,none⟩=some (.int .i64 bt.stamp));have cS:=jD (cq 2 bU.o rfl:W1.cell? ⟨qb,2,none⟩=some (.slice va bt.V.length vc));have kX:=jD (cq 3 bU.o rfl:W1.cell? ⟨qb,3,none⟩=some (.slice ga bt.G.length gc));have lJ:=jD (cq 4 bU.o rfl:W1.cell? ⟨qb,4,none⟩=some (.slice pa bt.S.length pc));have om:=jD iH;clear iH ym;refine Cl3.aV 79 rfl (fun u=>[12]) (fun u ww=>Below W1.heap.size W1 ww) (fun _=>[]) (fun jq v ww=>match jq with | 0=>v= .pointer (some ⟨g,0,none⟩) | 1=>v= .pointer (some ⟨g,0,none⟩) | 2=>v= .pointer (some ⟨g,0,none⟩) | 3=>v= .slice (some ⟨qs,0,none⟩) t.sites.length cap | 4=>v= .pointer (some ⟨BL,0,none⟩) | 5=>v= .int .i64 (to:Nat) | 6=>v= .pointer (some ⟨qs,to,none⟩) | 7=>v= .pointer (some ⟨gi,0,none⟩) | 8=>v= .pointer (some ⟨BL,2,none⟩) | 9=>v= .pointer (some ⟨qb,0,none⟩) | 10=>v= .pointer (some ⟨qb,0,none⟩) | 11=>v= .agg #[.int .i64 bt.site, .int .i64 bt.stamp, .slice va bt.V.length vc, .slice ga bt.G.length gc, .slice pa bt.S.length pc] | 12=>bz ww b gi s9∧v= .int .i64 E9 | 13=>v= .int .i64 E9 | _=>True) (fun ww=>aB (fun q=>q=gi) wz ww) (fun jq ww aR=>(jq≠12→Below ww.heap.size ww aR)∧(jq=12→aB (fun q=>q=gi) ww aR)) Tryz.mixed (by decide+kernel) (aB.of_below bh.o).drew (fun u=>(br).drew) ?_ (fun jq ww aR u hk h hR=>aj h (hR.1 (by intro e;simp [e] at hk))) ?_ ?_
 ·intro q r v w w' hne hk hlt h hR;match r,hk,hlt,h,hne with
  | 0,_,_,h,_=>exact h
  | 1,_,_,h,_=>exact h
  | 2,_,_,h,_=>exact h
  | 3,_,_,h,_=>exact h
  | 4,_,_,h,_=>exact h
  | 5,_,_,h,_=>exact h
  | 6,_,_,h,_=>exact h
  | 7,_,_,h,_=>exact h
  | 8,_,_,h,_=>exact h
  | 9,_,_,h,_=>exact h
  | 10,_,_,h,_=>exact h
  | 11,_,_,h,_=>exact h
  | 12,hk,hlt,h,hne=>exact ⟨h.1.below (hR.1 (by exact hne)),h.2⟩
  | 13,_,_,h,_=>exact h
  | _+14,_,_,_,_=>trivial
 ·refine⟨?_, ?_, ?_, ?_, ?_, ?_, ?_, ?_, ?_, ?_, ?_, ?_, ?_, ?_,trivial⟩
  ·intro x wx hG;have f0:=hG.o 0;replace hG:=hG.g;go_wp2;exact⟨_,rfl,rfl,hG,⟨fun _=>br,fun h=>zd h⟩⟩
  ·intro x wx hG;have⟨g0,og⟩:=gs 29 (hG.c 0 _ rfl);replace hG:=hG.g;go_wp2;exact⟨_,rfl,rfl,hG,⟨fun _=>br,fun h=>zd h⟩⟩
  ·intro x wx hG;have⟨g1,tq⟩:=gs 30 (hG.c 1 _ rfl);replace hG:=hG.g;go_wp2;exact⟨_,rfl,rfl,hG,⟨fun _=>br,fun h=>zd h⟩⟩
  ·intro x wx hG;have⟨g2,vD⟩:=gs 31 (hG.c 2 _ rfl);have hp0:=hG.p 0;replace hG:=hG.g;have oP:=ah hp0 fL.o;go_wp2;exact⟨_,rfl,rfl,hG,⟨fun _=>br,fun h=>zd h⟩⟩
  ·intro x wx hG;have f5:=hG.o 5;replace hG:=hG.g;go_wp2;exact⟨_,rfl,rfl,hG,⟨fun _=>br,fun h=>zd h⟩⟩
  ·intro x wx hG;have⟨g4,qE⟩:=gs 33 (hG.c 4 _ rfl);have hp0:=hG.p 0;replace hG:=hG.g;have acD:=ah hp0 dF.o;go_wp2;exact⟨_,rfl,rfl,hG,⟨fun _=>br,fun h=>zd h⟩⟩
  ·intro x wx hG;have⟨g3,qF⟩:=gs 32 (hG.c 3 _ rfl);have⟨g5,sj⟩:=gs 34 (hG.c 5 _ rfl);replace hG:=hG.g;go_wp2;exact⟨_,rfl,rfl,hG,⟨fun _=>br,fun h=>zd h⟩⟩
  ·intro x wx hG;have⟨g6,uy⟩:=gs 35 (hG.c 6 _ rfl);have hp0:=hG.p 0;replace hG:=hG.g;have Ox:=ah hp0 Bv.o;go_wp2;exact⟨_,rfl,rfl,hG,⟨fun _=>br,fun h=>zd h⟩⟩
  ·intro x wx hG;have f5:=hG.o 5;replace hG:=hG.g;go_wp2;exact⟨_,rfl,rfl,hG,⟨fun _=>br,fun h=>zd h⟩⟩
  ·intro x wx hG;have⟨g8,Bb⟩:=gs 37 (hG.c 8 _ rfl);have hp0:=hG.p 0;replace hG:=hG.g;have c_HL2:=ah hp0 mH.o;go_wp2;exact⟨_,rfl,rfl,hG,⟨fun _=>br,fun h=>zd h⟩⟩
  ·intro x wx hG;have⟨g9,zy⟩:=gs 38 (hG.c 9 _ rfl);replace hG:=hG.g;go_wp2;exact⟨_,rfl,rfl,hG,⟨fun _=>br,fun h=>zd h⟩⟩
  ·intro x wx hG;have⟨g10,xN⟩:=gs 39 (hG.c 10 _ rfl);have hp0:=hG.p 0;replace hG:=hG.g;have acF:=ah hp0 HK0.o;have VN:=ah hp0 dQ.o;have VM:=ah hp0 cS.o;have acE:=ah hp0 kX.o;have c_HK4:=ah hp0 lJ.o;go_wp2;exact⟨_,rfl,rfl,hG,⟨fun _=>br,fun h=>zd h⟩⟩
  ·intro x wx hG;have⟨g7,Gt⟩:=gs 36 (hG.c 7 _ rfl);have⟨g11,EU⟩:=gs 40 (hG.c 11 _ rfl);have hp0:=hG.p 0;replace hG:=hG.g;have HN:=jD (lI.o wx hp0);go_wp2_with fail
   (with_reducible refine(HN.o).mono ?_);rintro e wq ⟨rfl,h1,h2⟩;have H1:=jD h1;have H2:=jD h2;clear h1 h2 HN;go_wp2;exact⟨_,rfl,⟨H1.o,rfl⟩,hG.trans H2.o,⟨fun h=>absurd rfl h,fun _=>H2.o⟩⟩
  ·intro x wx hG;have g12:bz wx b gi s9∧(x.tmps.getD 41 undef)= .int .i64 E9:=hG.c 12 _ rfl;replace hG:=hG.g;have afu:=g12.2;have aco:=afu;rw[Array.getD_eq_getD_getElem?] at aco;go_wp2;exact⟨_,rfl,rfl,hG,⟨fun _=>br,fun h=>zd h⟩⟩
 ·intro af w2 hg hF;obtain⟨g0,g1,g2,g3,g4,g5,g6,g7,g8,g9,g10,g11,g12,g13, -⟩:=hF;replace g12:bz w2 b gi s9∧(af 12)= .int .i64 E9:=g12 rfl;simp only[Cl3.puts,gq (af 0) g0,gq (af 1) g1,gq (af 2) g2,gq (af 3) g3,gq (af 4) g4,gq (af 5) g5,gq (af 6) g6,gq (af 7) g7,gq (af 8) g8,gq (af 9) g9,gq (af 10) g10,gq (af 11) g11,gq (af 13) g13];clear g0 g1 g2 g3 g4 g5 g6 g7 g8 g9 g10 g11 g13;go_simp
  generalize af 12=mk9 at*;have HST:=jD hg;have HSN:=jD g12.1;clear g12 hg;go_wp2;go_ret;exact⟨by rw[←om.o];rfl,acS.o _ HST.o HSN.o,HST.o.mono fun k hk=>by rw[hk];exact GR.o⟩
theorem tbring_ask (g b:Nat) (T:Nat→Prop) (t:aK) (j to:Nat) (ak:Ar) (hj:t.way[j]? =some (.ask to ak)) (wz:World) (h:aJ wz b T g t) (p8: ∀q,wz.heap.size≤q→T q) (Ci:to < t.sites.length) (Jo:t.way.length < 60):
  Calls Tryz.prog 68 #[.pointer (some ⟨g,0,none⟩), .int .i64 (j:Nat)] wz fun e w'=>e= .returned (.int .i64 0)∧aJ w' b T g { t with way:=t.way++[Fk t.sites[to] ak] } ∧aB T wz w':=by
 have fP:=h.ok.lw;obtain⟨hjl,wO⟩:=List.getElem?_eq_some_iff.1 hj;have hlo:=h.ok.way _ (List.getElem_mem hjl);rw[wO] at hlo;obtain⟨sv,wv,css,hblk,gW,hrow,hwT,eD⟩:=h.letters;obtain⟨qw,BD,c,rfl,Jq,Dl,hla,hcc⟩:=Az hrow gW hjl;rw[wO] at hla;obtain⟨qb,rfl,fv,pv,hbk,hfo,hpo⟩:=hla;obtain⟨qs,cap,gi,U2,vw,mo,hq,hS,pF,hne,um,vq⟩:=h.use Ci;have rY:=hblk;rw[vw] at rY;simp only[Option.some.injEq,Obj.cells.injEq,and_true,Array.mk.injEq,List.cons.injEq] at rY;obtain⟨rfl,rfl⟩:=rY;have c1:wz.cell? ⟨g,1,none⟩=some (.slice (some ⟨qw,0,none⟩) t.way.length BD):=cq 1 hblk rfl;have l0:=hcc 0 _ rfl;have l1:=hcc 1 _ rfl;have l2:=hcc 2 _ rfl;rw[Nat.add_zero] at l0;obtain⟨BL,hBL⟩: ∃BL,BL=wz.heap.size:=⟨_,rfl⟩
 obtain⟨W1,hW1⟩: ∃W1,W1=wz.alloc (.cells #[.int .i64 (to:Nat), .pointer (some ⟨qb,0,none⟩), .pointer none] 154):=⟨_,rfl⟩
 have hb1:Below wz.heap.size wz W1:=by rw[hW1];exact aG _
 have mG:=jD (show W1.heap[BL]? =some (Obj.cells #[.int .i64 (to:Nat), .pointer (some ⟨qb,0,none⟩), .pointer none] 154 (0,0)) by rw[hW1];exact au _ _ _ _ hBL);have bh:=jD hb1;have Mz:=jD h;have eZ:=jD p8;have abo:=jD hBL;obtain⟨fa,fn,fc,rfl⟩:=FO.ow hfo;obtain⟨pa,pc,rfl⟩:=hpo.shape;have bU:=jD (ag hb1 hbk);have jO:=jD (hfo.below hb1);have D9:=jD (hpo.below hb1);have c1a:(wz.alloc (.cells #[.int .i64 (to:Nat), .pointer (some ⟨qb,0,none⟩), .pointer none] 154)).cell? ⟨g,1,none⟩=some (.slice (some ⟨qw,0,none⟩) t.way.length BD):=by rw[←hW1];exact ah hb1 c1
 have Qd:decide ((60:Int)≤(t.way.length:Int))=false:=by simp;omega
 have mW:=jD hlo;have qH:=jD (hS.below hb1);have KG:=jD hS.lt;have GR:=jD pF;have fL:=jD (cq 0 (ag hb1 hblk) rfl:W1.cell? ⟨g,0,none⟩=some (.slice (some ⟨qs,0,none⟩) t.sites.length cap));have Bv:=jD (ah hb1 hq);have dF:=jD (cq 0 mG.o rfl:W1.cell? ⟨BL,0,none⟩=some (.int .i64 (to:Nat)));have fe:=jD (cq 1 mG.o rfl:W1.cell? ⟨BL,1,none⟩=some (.pointer (some ⟨qb,0,none⟩)));have mH:=jD (cq 2 mG.o rfl:W1.cell? ⟨BL,2,none⟩=some (.pointer none));have OU:=jD vq;have d0:decide ((j:Int) < 0)=false:=by simp
 have d1:decide ((t.way.length:Int)≤(j:Int))=false:=by simp;omega
 have hjn:(j:Int) < (t.way.length:Int):=by omega
 have hin:decide ((to:Int) < (t.sites.length:Int))=true:=by simp;omega
 have Bz:=jD fP;clear h p8 hj wO hlo hblk gW hrow hwT eD Dl hcc hbk vw mo hq hS pF hne um vq hb1 hfo hpo;go_enter Tryz.func68,Tryz.ntmps68;go_wp2_with fail
 rw[←hBL,←hW1];clear hW1 hBL l0 l1 l2 c1 c1a Qd;obtain⟨bt,lF⟩: ∃bt,bt=oO t.sites[to] ak.site ak.stamp ak.P ak.S:=⟨_,rfl⟩
 have lN:=jD lF;have acX:=jD (show vV bt by rw[lF];exact TT qH.o.ok mW.o.2.1.site mW.o.2.1.stamp _ _);have lI:=jD (fun (wx:World) (hb:Below W1.heap.size W1 wx)=>show Calls Tryz.prog 98 #[.pointer (some ⟨gi,0,none⟩), .agg #[.int .i64 ak.site, .int .i64 ak.stamp, .slice fa fn fc, .slice pa ak.S.length pc]] wx fun e w'=> ∃v,e= .returned v∧Ei w' b bt v∧Below wx.heap.size wx w' from by
  obtain⟨FF,hF1,hF2,hF3⟩:=jO.o.below hb;obtain⟨AP,Mi,hA2,hA3⟩:=D9.o.below hb;have hl:=mW.o.2.1.ls;have afm:AP.length≤30:=by rw[←hA3,List.length_map] at hl;exact hl
  refine(sgive_c gi b t.sites[to] ak.site ak.stamp _ _ FF AP wx (qH.o.below hb) mW.o.2.1.site mW.o.2.1.stamp.1 (cR.vJ hF1 hF2) hF2 (Mi.at_ (fun z hz=>(hA2 z hz).1) (by omega)) (fo.2 ⟨afm,fun z hz=>(hA2 z hz).1⟩)).mono ?_;rintro e w' ⟨vv,gv,pv,rfl,ho,hb2⟩;have e2:oO t.sites[to] ak.site ak.stamp (aX FF) (AP.map sem)=bt:=by
   rw[lF,hA3];exact Lv qH.o.ok fun t n ht hn=>by rw[fS ht hn];exact hF3 t n ht hn
  rw[e2] at ho;obtain⟨a1,c1,rfl⟩:=ho.mK.shape;obtain⟨a2,c2,rfl⟩:=fM.shape ho.gone;obtain⟨a3,c3,rfl⟩:=ho.parts.shape;have e3:ak.site=bt.site∧ak.stamp=bt.stamp:=by rw[lF];exact ⟨rfl,rfl⟩
  refine⟨_,rfl,⟨a1,c1,a2,c2,a3,c3,by rw[e3.1,e3.2],ho.mono ?_⟩,hb2⟩;have h1:=Mz.o.ge.1;have h2:=Mz.o.lt;have h3:=bh.o.size;have h4:=hb.size;omega)
 have HK0:=jD (cq 0 bU.o rfl:W1.cell? ⟨qb,0,none⟩=some (.int .i64 ak.site));have dQ:=jD (cq 1 bU.o rfl:W1.cell? ⟨qb,1,none⟩=some (.int .i64 ak.stamp));have cS:=jD (cq 2 bU.o rfl:W1.cell? ⟨qb,2,none⟩=some (.slice fa fn fc));have kX:=jD (cq 3 bU.o rfl:W1.cell? ⟨qb,3,none⟩=some (.slice pa ak.S.length pc));have H6X:=jD Jo;clear lF Jo;refine Cl2.aV 79 rfl [] (fun _=>True) (fun jq=>match jq with | 16=>[17] | _=>[]) (fun jq v ww=>match jq with | 0=>v= .pointer (some ⟨g,0,none⟩) | 1=>v= .pointer (some ⟨g,0,none⟩) | 2=>v= .pointer (some ⟨g,0,none⟩) | 3=>v= .slice (some ⟨qs,0,none⟩) t.sites.length cap | 4=>v= .pointer (some ⟨BL,0,none⟩) | 5=>v= .int .i64 (to:Nat) | 6=>v= .pointer (some ⟨qs,to,none⟩) | 7=>v= .pointer (some ⟨gi,0,none⟩) | 8=>v= .pointer (some ⟨BL,1,none⟩) | 9=>v= .pointer (some ⟨qb,0,none⟩) | 10=>v= .pointer (some ⟨qb,0,none⟩) | 11=>v= .agg #[.int .i64 ak.site, .int .i64 ak.stamp, .slice fa fn fc, .slice pa ak.S.length pc] | 12=>Ei ww b bt v | 13=>Ei ww b bt v | 14=>R4 ww b bt v | 15=>v= .int .i64 0 | 16=>Aq ww W1.heap.size v | 17=>Iq ww b W1.heap.size bt v | 18=>v= .int .i64 0 | _=>True) (fun ww=>Below W1.heap.size W1 ww) (fun jq ww aR=>(jq≠17→Below ww.heap.size ww aR)∧(jq=17→aB (fun q=>W1.heap.size≤q) ww aR)) Tryz.mixed (by decide+kernel) (br).drew trivial ?_ (fun _ _ _ _ _ _=>trivial) ?_ ?_
 ·intro q r v w w' hne hk hlt h hR;match r,hk,hlt,h,hne with
  | 0,_,_,h,_=>exact h
  | 1,_,_,h,_=>exact h
  | 2,_,_,h,_=>exact h
  | 3,_,_,h,_=>exact h
  | 4,_,_,h,_=>exact h
  | 5,_,_,h,_=>exact h
  | 6,_,_,h,_=>exact h
  | 7,_,_,h,_=>exact h
  | 8,_,_,h,_=>exact h
  | 9,_,_,h,_=>exact h
  | 10,_,_,h,_=>exact h
  | 11,_,_,h,_=>exact h
  | 12,hk,hlt,h,hne=>
   by_cases e:q=17
   ·exact h.bD (hR.2 e)
   ·exact h.bD (aB.of_below (G:=fun _=>False) (hR.1 e))
  | 13,hk,hlt,h,hne=>
   by_cases e:q=17
   ·exact h.bD (hR.2 e)
   ·exact h.bD (aB.of_below (G:=fun _=>False) (hR.1 e))
  | 14,hk,hlt,h,hne=>
   by_cases e:q=17
   ·exact h.bD (hR.2 e)
   ·exact h.bD (aB.of_below (G:=fun _=>False) (hR.1 e))
  | 15,_,_,h,_=>exact h
  | 16,hk,hlt,h,hne=>exact h.below (hR.1 (by simpa using hk))
  | 17,hk,hlt,h,hne=>exact h.below (hR.1 (by exact hne))
  | 18,_,_,h,_=>exact h
  | _+19,_,_,_,_=>trivial
 ·refine⟨?_, ?_, ?_, ?_, ?_, ?_, ?_, ?_, ?_, ?_, ?_, ?_, ?_, ?_, ?_, ?_, ?_, ?_, ?_,trivial⟩
  ·intro x wx hG;have f0:=hG.o 0;replace hG:=hG.g;go_wp2;exact⟨_,rfl,rfl,hG,⟨fun _=>br,fun h=>zd h⟩⟩
  ·intro x wx hG;have⟨g0,og⟩:=gs 49 (hG.c 0 _ rfl);replace hG:=hG.g;go_wp2;exact⟨_,rfl,rfl,hG,⟨fun _=>br,fun h=>zd h⟩⟩
  ·intro x wx hG;have⟨g1,tq⟩:=gs 50 (hG.c 1 _ rfl);replace hG:=hG.g;go_wp2;exact⟨_,rfl,rfl,hG,⟨fun _=>br,fun h=>zd h⟩⟩
  ·intro x wx hG;have⟨g2,vD⟩:=gs 51 (hG.c 2 _ rfl);replace hG:=hG.g;have oP:=ah hG fL.o;go_wp2;exact⟨_,rfl,rfl,hG,⟨fun _=>br,fun h=>zd h⟩⟩
  ·intro x wx hG;have f5:=hG.o 5;replace hG:=hG.g;go_wp2;exact⟨_,rfl,rfl,hG,⟨fun _=>br,fun h=>zd h⟩⟩
  ·intro x wx hG;have⟨g4,qE⟩:=gs 53 (hG.c 4 _ rfl);replace hG:=hG.g;have acD:=ah hG dF.o;go_wp2;exact⟨_,rfl,rfl,hG,⟨fun _=>br,fun h=>zd h⟩⟩
  ·intro x wx hG;have⟨g3,qF⟩:=gs 52 (hG.c 3 _ rfl);have⟨g5,sj⟩:=gs 54 (hG.c 5 _ rfl);replace hG:=hG.g;go_wp2;exact⟨_,rfl,rfl,hG,⟨fun _=>br,fun h=>zd h⟩⟩
  ·intro x wx hG;have⟨g6,uy⟩:=gs 55 (hG.c 6 _ rfl);replace hG:=hG.g;have Ox:=ah hG Bv.o;go_wp2;exact⟨_,rfl,rfl,hG,⟨fun _=>br,fun h=>zd h⟩⟩
  ·intro x wx hG;have f5:=hG.o 5;replace hG:=hG.g;go_wp2;exact⟨_,rfl,rfl,hG,⟨fun _=>br,fun h=>zd h⟩⟩
  ·intro x wx hG;have⟨g8,Bb⟩:=gs 57 (hG.c 8 _ rfl);replace hG:=hG.g;have c_HL1:=ah hG fe.o;go_wp2;exact⟨_,rfl,rfl,hG,⟨fun _=>br,fun h=>zd h⟩⟩
  ·intro x wx hG;have⟨g9,zy⟩:=gs 58 (hG.c 9 _ rfl);replace hG:=hG.g;go_wp2;exact⟨_,rfl,rfl,hG,⟨fun _=>br,fun h=>zd h⟩⟩
  ·intro x wx hG;have⟨g10,xN⟩:=gs 59 (hG.c 10 _ rfl);replace hG:=hG.g;have acF:=ah hG HK0.o;have VN:=ah hG dQ.o;have VM:=ah hG cS.o;have acE:=ah hG kX.o;go_wp2;exact⟨_,rfl,rfl,hG,⟨fun _=>br,fun h=>zd h⟩⟩
  ·intro x wx hG;have⟨g7,Gt⟩:=gs 56 (hG.c 7 _ rfl);have⟨g11,EU⟩:=gs 60 (hG.c 11 _ rfl);replace hG:=hG.g;have HN:=jD (lI.o wx hG);go_wp2_with fail
   (with_reducible refine(HN.o).mono ?_);rintro e wq ⟨y9,rfl,h1,hb⟩;obtain⟨a1,c1,a2,c2,a3,c3,hv,ho⟩:=h1;subst hv;have HO:=jD ho;have H2:=jD hb;clear ho hb HN;go_wp2;exact⟨_,rfl,⟨_,_,_,_,_,_,rfl,HO.o⟩,aj hG H2.o,⟨fun _=>H2.o,fun h=>zd h⟩⟩
  ·intro x wx hG;have g12:Ei wx b bt (x.tmps.getD 61 undef):=hG.c 12 _ rfl;replace hG:=hG.g;obtain⟨a1,c1,a2,c2,a3,c3,hv,ho⟩:=g12;have hvb:=hv;rw[Array.getD_eq_getD_getElem?] at hvb;have HO:=jD ho;clear ho;go_wp2;exact⟨_,rfl,⟨_,_,_,_,_,_,rfl,HO.o⟩,hG,⟨fun _=>br,fun h=>zd h⟩⟩
  ·intro x wx hG;have g13:Ei wx b bt (x.tmps.getD 48 undef):=hG.c 13 _ rfl;replace hG:=hG.g;obtain⟨a1,c1,a2,c2,a3,c3,hv,ho⟩:=g13;have hvb:=hv;rw[Array.getD_eq_getD_getElem?] at hvb;have HO:=jD ho;clear ho;go_wp2;exact⟨_,rfl,⟨_,_,_,_,_,_,rfl,HO.o⟩,hG,⟨fun _=>br,fun h=>zd h⟩⟩
  ·intro x wx hG;have g13:Ei wx b bt (x.tmps.getD 48 undef):=hG.c 13 _ rfl;replace hG:=hG.g;obtain⟨a1,c1,a2,c2,a3,c3,hv,ho⟩:=g13;have hvb:=hv;rw[Array.getD_eq_getD_getElem?] at hvb;have HO:=jD ho;clear ho;go_wp2;exact⟨_,rfl,rfl,hG,⟨fun _=>br,fun h=>zd h⟩⟩
  ·intro x wx hG;replace hG:=hG.g;go_wp2;exact⟨_,rfl,⟨_,rfl,au _ _ _ _ rfl,hG.size⟩,aj hG (aG _),⟨fun _=>aG _,fun h=>zd h⟩⟩
  ·intro x wx hG;have g16:Aq wx W1.heap.size (x.tmps.getD 6 undef):=hG.c 16 _ rfl;have g14:R4 wx b bt (x.tmps.getD 62 undef):=hG.c 14 _ rfl;replace hG:=hG.g;obtain⟨q,hq1,hq2,hlo⟩:=g16;have HV:=jD hq1;have Tx:=hq1;rw[Array.getD_eq_getD_getElem?] at Tx;obtain⟨a1,c1,a2,c2,a3,c3,hv,ho⟩:=g14;have hvb:=hv;rw[Array.getD_eq_getD_getElem?] at hvb;have HO:=jD ho;clear ho;have HQ:=jD hq2;have pJ:=jD hlo;have r0:=cq 0 hq2 rfl;have f0:=fq 0 hq2;have r1:=cq 1 hq2 rfl;have f1:=fq 1 hq2;have r2:=cq 2 hq2 rfl;have f2:=fq 2 hq2;have r3:=cq 3 hq2 rfl;have f3:=fq 3 hq2;have r4:=cq 4 hq2 rfl;have f4:=fq 4 hq2;have r8:=ai hq2;have HG:=jD hG;clear hq2 hlo hG;go_wp2;exact⟨undef,rfl,⟨q,Eq.trans (by kernel_rfl) HV.o,⟨_,_,_,(IK HQ.o (by decide)).1,HO.o.bD (IK HQ.o (by decide)).2⟩,pJ.o⟩,((((HG.o.setCell (p:=⟨q,0,none⟩) pJ.o _).setCell (p:=⟨q,1,none⟩) pJ.o _).setCell (p:=⟨q,2,none⟩) pJ.o _).setCell (p:=⟨q,3,none⟩) pJ.o _).setCell (p:=⟨q,4,none⟩) pJ.o _,⟨fun h=>absurd rfl h,fun _=>(IK HQ.o (by decide)).2.mono fun k hk=>by rw[hk];exact pJ.o⟩⟩
  ·intro x wx hG;have⟨g15,aft⟩:=gs 63 (hG.c 15 _ rfl);replace hG:=hG.g;go_wp2;exact⟨_,rfl,rfl,hG,⟨fun _=>br,fun h=>zd h⟩⟩
 ·intro af w2 hg hF;obtain⟨g0,g1,g2,g3,g4,g5,g6,g7,g8,g9,g10,g11,g12,g13,g14,g15,g16,g17,g18, -⟩:=hF;have g17:=g17 rfl;simp only[Cl3.puts,gq (af 0) g0,gq (af 1) g1,gq (af 2) g2,gq (af 3) g3,gq (af 4) g4,gq (af 5) g5,gq (af 6) g6,gq (af 7) g7,gq (af 8) g8,gq (af 9) g9,gq (af 10) g10,gq (af 11) g11,gq (af 15) g15,gq (af 18) g18];clear g0 g1 g2 g3 g4 g5 g6 g7 g8 g9 g10 g11 g12 g13 g14 g15 g18;go_simp
  obtain⟨qn,Za,Zu,Zi⟩:=g17;have hqn:af 16= .pointer (some ⟨qn,0,none⟩):=Eq.trans (by kernel_rfl) Za;clear Za;have abq:=jD Zu;have cw:=jD (aj bh.o hg);have iU:=jD Zi;clear g16 Zu hg Zi;rw[hqn];clear hqn;generalize af 12=j12 at*;generalize af 13=j13 at*;generalize af 14=j14 at*;obtain⟨bv,bg,bp,N4,aff⟩:=abq.o;have uM:=jD N4;have Bk:=jD (Mz.o.below cw.o);obtain⟨sv,wv9,J3,hblk,gW,hrow,hwT,eD⟩:=Bk.o.letters;obtain⟨wa,wc,rfl⟩:=ay hrow;have abp:=jD hblk;have qx:=jD gW;have jR:=jD hrow;have VX:=jD hwT;have o5:=jD eD;have lM:=jD (cq 1 hblk rfl:w2.cell? ⟨g,1,none⟩=some (.slice wa t.way.length wc));have HN0:=jD (cq 0 N4 rfl:w2.cell? ⟨qn,0,none⟩=some (.int .i64 bt.site));have mC:=jD (show wz.heap.size≤w2.heap.size from cw.o.size);clear hblk gW hrow hwT eD N4 aff;go_wp2_with fail
  refine Cl3.aV 79 rfl (fun u=>[9,12]) (fun u ww=>Below w2.heap.size w2 ww) (fun jq=>match jq with | 8=>[9,12] | 9=>[12] | _=>[]) (fun jq v ww=>match jq with | 0=>v= .pointer (some ⟨g,0,none⟩) | 1=>v= .pointer (some ⟨g,0,none⟩) | 2=>v= .pointer (some ⟨g,0,none⟩) | 3=>v= .pointer (some ⟨g,1,none⟩) | 4=>v= .slice wa t.way.length wc | 5=>v= .pointer (some ⟨qn,0,none⟩) | 6=>v= .int .i64 bt.site | 7=>v= .agg #[.int .i64 bt.site, .pointer none, .pointer (some ⟨qn,0,none⟩)] | 8=> ∃q,v= .slice (some ⟨q,0,none⟩) 1 1∧ww.heap[q]? =some (Obj.cells #[.int .i64 bt.site, .pointer none, .pointer (some ⟨qn,0,none⟩)] 154 (0,0)) | 9=> ∃(W4:World) (va:Option Addr) (vc:Nat),v= .slice va (t.way.length+1) vc∧Below w2.heap.size w2 W4∧ye W4 ww b 154 3 (Value.agg #[.int .i64 0, .pointer none, .pointer none]).cells (.slice wa t.way.length wc) (.slice va (t.way.length+1) vc) t.way.length 1 J3.flatten [.int .i64 bt.site, .pointer none, .pointer (some ⟨qn,0,none⟩)] | 10=>v= .pointer (some ⟨g,0,none⟩) | 11=>v= .pointer (some ⟨g,1,none⟩) | 12=> ∃(W4 w5:World) (va:Option Addr) (vc:Nat),Below w2.heap.size w2 W4∧ye W4 w5 b 154 3 (Value.agg #[.int .i64 0, .pointer none, .pointer none]).cells (.slice wa t.way.length wc) (.slice va (t.way.length+1) vc) t.way.length 1 J3.flatten [.int .i64 bt.site, .pointer none, .pointer (some ⟨qn,0,none⟩)]∧ww=w5.setCell ⟨g,1,none⟩ (.slice va (t.way.length+1) vc) | _=>True) (fun ww=>True) (fun jq ww aR=>(jq≠8→jq≠9→jq≠12→aR=ww)∧(jq=8→Below ww.heap.size ww aR)) Tryz.mixed (by decide+kernel) trivial (fun u=>(br).drew) ?_ (fun jq ww aR u hk h hR=>by by_cases e:jq=8;exact aj h (hR.2 e);rw [hR.1 e (by intro e;simp [e] at hk) (by intro e;simp [e] at hk)];exact h) ?_ ?_
  ·intro q r v w w' hne hk hlt h hR;match r,hk,hlt,h,hne with
   | 0,_,_,h,_=>exact h
   | 1,_,_,h,_=>exact h
   | 2,_,_,h,_=>exact h
   | 3,_,_,h,_=>exact h
   | 4,_,_,h,_=>exact h
   | 5,_,_,h,_=>exact h
   | 6,_,_,h,_=>exact h
   | 7,_,_,h,_=>exact h
   | 8,hk,hlt,h,hne=>
    have e:=hR.1 (by exact hne) (by intro e;simp [e] at hk) (by intro e;simp [e] at hk);rw[e];exact h
   | 9,hk,hlt,h,hne=>
    have e:=hR.1 (by intro e;subst e;exact absurd hlt (by decide+kernel)) (by exact hne) (by intro e;simp [e] at hk);rw[e];exact h
   | 10,_,_,h,_=>exact h
   | 11,_,_,h,_=>exact h
   | 12,hk,hlt,h,hne=>
    have e:=hR.1 (by intro e;subst e;exact absurd hlt (by decide+kernel)) (by intro e;subst e;exact absurd hlt (by decide+kernel)) (by exact hne);rw[e];exact h
   | _+13,_,_,_,_=>trivial
  ·refine⟨?_, ?_, ?_, ?_, ?_, ?_, ?_, ?_, ?_, ?_, ?_, ?_, ?_,trivial⟩
   ·intro x wx hG;have f0:=hG.o 0;replace hG:=hG.g;go_wp2;exact⟨_,rfl,rfl,trivial,⟨fun _ _ _=>rfl,fun _=>br⟩⟩
   ·intro x wx hG;have f0:=hG.o 0;replace hG:=hG.g;go_wp2;exact⟨_,rfl,rfl,trivial,⟨fun _ _ _=>rfl,fun _=>br⟩⟩
   ·intro x wx hG;have⟨g1,tq⟩:=gs 67 (hG.c 1 _ rfl);replace hG:=hG.g;go_wp2;exact⟨_,rfl,rfl,trivial,⟨fun _ _ _=>rfl,fun _=>br⟩⟩
   ·intro x wx hG;have⟨g2,vD⟩:=gs 68 (hG.c 2 _ rfl);replace hG:=hG.g;go_wp2;exact⟨_,rfl,rfl,trivial,⟨fun _ _ _=>rfl,fun _=>br⟩⟩
   ·intro x wx hG;have⟨g3,qF⟩:=gs 69 (hG.c 3 _ rfl);have hp0:=hG.p 0;replace hG:=hG.g;have vH:=ah hp0 lM.o;go_wp2;exact⟨_,rfl,rfl,trivial,⟨fun _ _ _=>rfl,fun _=>br⟩⟩
   ·intro x wx hG;have f6:=hG.o 6;replace hG:=hG.g;go_wp2;exact⟨_,rfl,rfl,trivial,⟨fun _ _ _=>rfl,fun _=>br⟩⟩
   ·intro x wx hG;have⟨g5,sj⟩:=gs 71 (hG.c 5 _ rfl);have hp0:=hG.p 0;replace hG:=hG.g;have c_HN0:=ah hp0 HN0.o;go_wp2;exact⟨_,rfl,rfl,trivial,⟨fun _ _ _=>rfl,fun _=>br⟩⟩
   ·intro x wx hG;have f6:=hG.o 6;have⟨g6,uy⟩:=gs 72 (hG.c 6 _ rfl);replace hG:=hG.g;have f6b:=f6;rw[Array.getD_eq_getD_getElem?] at f6b;go_wp2;exact⟨_,rfl,rfl,trivial,⟨fun _ _ _=>rfl,fun _=>br⟩⟩
   ·intro x wx hG;have⟨g7,Gt⟩:=gs 73 (hG.c 7 _ rfl);replace hG:=hG.g;go_wp2;exact⟨_,rfl,⟨_,rfl,au _ _ _ _ rfl⟩,trivial,⟨fun h _ _=>absurd rfl h,fun _=>aG _⟩⟩
   ·intro x wx hG;have⟨g4,qE⟩:=gs 70 (hG.c 4 _ rfl);have g8: ∃q,(x.tmps.getD 74 undef)= .slice (some ⟨q,0,none⟩) 1 1∧wx.heap[q]? =some (Obj.cells #[.int .i64 bt.site, .pointer none, .pointer (some ⟨qn,0,none⟩)] 154 (0,0)):=hG.c 8 _ rfl;have hp0:=hG.p 0;replace hG:=hG.g;obtain⟨q,hq1,hq2⟩:=g8;have Tx:=hq1;rw[Array.getD_eq_getD_getElem?] at Tx;have HP:=jD hp0;have HN:=jD (show ∀j u,([.int .i64 bt.site, .pointer none, .pointer (some ⟨qn,0,none⟩)]:List Value)[j]? =some u→wx.cell? ((⟨q,0,none⟩:Addr).add j)=some u from fun j u hj=>by
     rw[Addr.add_lit,Nat.zero_add];exact aD (j:=j) hq2 (by simpa using hj))
    have vR:=jD (show ∀u∈([.int .i64 bt.site, .pointer none, .pointer (some ⟨qn,0,none⟩)]:List Value),u.oneCell'=true by intro u hu;simp only[List.mem_cons,List.not_mem_nil,or_false] at hu;rcases hu with rfl | rfl | rfl <;> rfl);have dZ:=jD (show b≤wx.heap.size by have:=Bk.o.ge.1;have:=Bk.o.lt;have:=hp0.size;omega);have yx:=jD (aI jR.o hp0);have g4c:=g4;have afs:=g4;rw[Array.getD_eq_getD_getElem?] at afs;clear hp0 hq2;go_wp2_with (at_builtin;apply Classical.byContradiction;intro hcon)
    refine hcon ?_;(refine ni rfl (.tmp 70) (.tmp 74) 139 rfl b 154 (.agg #[.int .i64 0, .pointer none, .pointer none]) 3 24 Tryz.underlying139 Im.info rfl (by decide) (.slice wa t.way.length wc) t.way.length J3.flatten (by simp[go_sem, *]) yx.o ⟨q,0,none⟩ 1 1 _ (by simp[go_sem, *]) rfl HN.o vR.o (by unfold maxLen;omega) (by omega) dZ.o ?_);intro v9 w9 A;obtain⟨va,vc,vk⟩:=ay A.own;subst vk;have HA:=jD A;clear A hcon;go_wp2;exact⟨_,rfl,⟨wx,va,vc,rfl,HP.o,HA.o⟩,trivial,⟨fun _ h _=>absurd rfl h,fun h=>zd h⟩⟩
   ·intro x wx hG;have⟨g0,og⟩:=gs 66 (hG.c 0 _ rfl);replace hG:=hG.g;go_wp2;exact⟨_,rfl,rfl,trivial,⟨fun _ _ _=>rfl,fun _=>br⟩⟩
   ·intro x wx hG;have⟨g10,xN⟩:=gs 76 (hG.c 10 _ rfl);replace hG:=hG.g;go_wp2;exact⟨_,rfl,rfl,trivial,⟨fun _ _ _=>rfl,fun _=>br⟩⟩
   ·intro x wx hG;have⟨g11,EU⟩:=gs 77 (hG.c 11 _ rfl);have g9: ∃(W4:World) (va:Option Addr) (vc:Nat),(x.tmps.getD 75 undef)= .slice va (t.way.length+1) vc∧Below w2.heap.size w2 W4∧ye W4 wx b 154 3 (Value.agg #[.int .i64 0, .pointer none, .pointer none]).cells (.slice wa t.way.length wc) (.slice va (t.way.length+1) vc) t.way.length 1 J3.flatten [.int .i64 bt.site, .pointer none, .pointer (some ⟨qn,0,none⟩)]:=hG.c 9 _ rfl;replace hG:=hG.g;obtain⟨W4,va,vc,hv,hb4,A⟩:=g9;have hvb:=hv;rw[Array.getD_eq_getD_getElem?] at hvb;have HA:=jD A;have gp:=jD hb4;have yt:=fB (aI jR.o hb4) A.grown (ag hb4 abp.o) (by decide);have r1:=cq 1 yt rfl;have f1:=fq 1 yt;have r8:=ai yt;clear A hb4 yt;go_wp2;exact⟨undef,rfl,⟨W4,wx,va,vc,gp.o,HA.o,rfl⟩,trivial,⟨fun _ _ h=>absurd rfl h,fun h=>zd h⟩⟩
  ·intro af w3 hg hF;obtain⟨g0,g1,g2,g3,g4,g5,g6,g7,g8,g9,g10,g11,g12, -⟩:=hF;replace g12: ∃(W4 w5:World) (va:Option Addr) (vc:Nat),Below w2.heap.size w2 W4∧ye W4 w5 b 154 3 (Value.agg #[.int .i64 0, .pointer none, .pointer none]).cells (.slice wa t.way.length wc) (.slice va (t.way.length+1) vc) t.way.length 1 J3.flatten [.int .i64 bt.site, .pointer none, .pointer (some ⟨qn,0,none⟩)]∧w3=w5.setCell ⟨g,1,none⟩ (.slice va (t.way.length+1) vc):=g12 rfl;simp only[Cl3.puts,gq (af 0) g0,gq (af 1) g1,gq (af 2) g2,gq (af 3) g3,gq (af 4) g4,gq (af 5) g5,gq (af 6) g6,gq (af 7) g7,gq (af 10) g10,gq (af 11) g11];clear g0 g1 g2 g3 g4 g5 g6 g7 g8 g9 g10 g11;go_simp
   obtain⟨W4,w5,va,vc,hb4,A,rfl⟩:=g12;have e3:((ak.site.toNat:Nat):Int)=bt.site:=by rw[lN.o];show _=ak.site;have:=mW.o.2.1.site;omega
   have hx:fO w2 b (Fk t.sites[to] ak) [.int .i64 bt.site, .pointer none, .pointer (some ⟨qn,0,none⟩)]:=by
    unfold Fk;rw[←lN.o];exact⟨qn,by rw[e3],abq.o⟩
   have hok:vM t.sites.length (Fk t.sites[to] ak):=by
    unfold Fk;rw[←lN.o];have h1:=mW.o.2.1.site;have h2:=mW.o.2.2;exact⟨by omega,acX.o⟩
   have HW:=jD (FJ Bk.o abp.o qx.o jR.o VX.o o5.o hx hok H6X.o (fun q hq=>eZ.o q (Nat.le_trans mC.o hq)) hb4 A);clear A hb4 hx hok e3 hg;generalize af 8=j8 at*;generalize af 9=j9 at*;go_wp2;go_ret;exact⟨rfl,HW.o.1,(aB.of_below cw.o).trans HW.o.2⟩
theorem La (g b:Nat) (T:Nat→Prop) (t:aK) (j to:Nat) (ak:Ar) (hj:t.way[j]? =some (.ask to ak)) (wz:World) (h:aJ wz b T g t) (p8: ∀q,wz.heap.size≤q→T q) (Ci:to < t.sites.length) (Jo:60≤t.way.length):
  Calls Tryz.prog 68 #[.pointer (some ⟨g,0,none⟩), .int .i64 (j:Nat)] wz fun e w'=>e= .returned (.int .i64 2)∧aJ w' b T g t∧aB T wz w':=by
 have fP:=h.ok.lw;obtain⟨hjl,wO⟩:=List.getElem?_eq_some_iff.1 hj;have hlo:=h.ok.way _ (List.getElem_mem hjl);rw[wO] at hlo;obtain⟨sv,wv,css,hblk,gW,hrow,hwT,eD⟩:=h.letters;obtain⟨qw,BD,c,rfl,Jq,Dl,hla,hcc⟩:=Az hrow gW hjl;rw[wO] at hla;obtain⟨qb,rfl,fv,pv,hbk,hfo,hpo⟩:=hla;obtain⟨qs,cap,gi,U2,vw,mo,hq,hS,pF,hne,um,vq⟩:=h.use Ci;have rY:=hblk;rw[vw] at rY;simp only[Option.some.injEq,Obj.cells.injEq,and_true,Array.mk.injEq,List.cons.injEq] at rY;obtain⟨rfl,rfl⟩:=rY;have c1:wz.cell? ⟨g,1,none⟩=some (.slice (some ⟨qw,0,none⟩) t.way.length BD):=cq 1 hblk rfl;have l0:=hcc 0 _ rfl;have l1:=hcc 1 _ rfl;have l2:=hcc 2 _ rfl;rw[Nat.add_zero] at l0;obtain⟨BL,hBL⟩: ∃BL,BL=wz.heap.size:=⟨_,rfl⟩
 obtain⟨W1,hW1⟩: ∃W1,W1=wz.alloc (.cells #[.int .i64 (to:Nat), .pointer (some ⟨qb,0,none⟩), .pointer none] 154):=⟨_,rfl⟩
 have hb1:Below wz.heap.size wz W1:=by rw[hW1];exact aG _
 have mG:=jD (show W1.heap[BL]? =some (Obj.cells #[.int .i64 (to:Nat), .pointer (some ⟨qb,0,none⟩), .pointer none] 154 (0,0)) by rw[hW1];exact au _ _ _ _ hBL);have bh:=jD hb1;have Mz:=jD h;have eZ:=jD p8;have abo:=jD hBL;obtain⟨fa,fn,fc,rfl⟩:=FO.ow hfo;obtain⟨pa,pc,rfl⟩:=hpo.shape;have bU:=jD (ag hb1 hbk);have jO:=jD (hfo.below hb1);have D9:=jD (hpo.below hb1);have c1a:(wz.alloc (.cells #[.int .i64 (to:Nat), .pointer (some ⟨qb,0,none⟩), .pointer none] 154)).cell? ⟨g,1,none⟩=some (.slice (some ⟨qw,0,none⟩) t.way.length BD):=by rw[←hW1];exact ah hb1 c1
 have Qd:decide ((60:Int)≤(t.way.length:Int))=true:=by simp;omega
 have mW:=jD hlo;have qH:=jD (hS.below hb1);have KG:=jD hS.lt;have GR:=jD pF;have fL:=jD (cq 0 (ag hb1 hblk) rfl:W1.cell? ⟨g,0,none⟩=some (.slice (some ⟨qs,0,none⟩) t.sites.length cap));have Bv:=jD (ah hb1 hq);have dF:=jD (cq 0 mG.o rfl:W1.cell? ⟨BL,0,none⟩=some (.int .i64 (to:Nat)));have fe:=jD (cq 1 mG.o rfl:W1.cell? ⟨BL,1,none⟩=some (.pointer (some ⟨qb,0,none⟩)));have mH:=jD (cq 2 mG.o rfl:W1.cell? ⟨BL,2,none⟩=some (.pointer none));have OU:=jD vq;have d0:decide ((j:Int) < 0)=false:=by simp
 have d1:decide ((t.way.length:Int)≤(j:Int))=false:=by simp;omega
 have hjn:(j:Int) < (t.way.length:Int):=by omega
 have hin:decide ((to:Int) < (t.sites.length:Int))=true:=by simp;omega
 have Bz:=jD fP;clear h p8 hj wO hlo hblk gW hrow hwT eD Dl hcc hbk vw mo hq hS pF hne um vq hb1 hfo hpo;go_enter Tryz.func68,Tryz.ntmps68;go_wp2_with fail
 rw[←hBL,←hW1];clear hW1 hBL l0 l1 l2 c1 c1a Qd;go_wp2;go_ret;exact⟨rfl,Mz.o.below bh.o,aB.of_below bh.o⟩
def newL (l:List bB):List aL:=l.mapIdx fun i F=>pX i (aX F)
theorem PK (l:List bB) (F:bB):newL (l++[F])=newL l++[pX l.length (aX F)]:=by unfold newL;rw [List.mapIdx_concat]
theorem xB (l:List bB):(newL l).length=l.length:=by unfold newL;rw [List.length_mapIdx]
theorem S8 {l:List bB} {i:Nat} (h:i < (newL l).length) (h2:i < l.length):(newL l)[i]=pX i (aX l[i]):=List.getElem_mapIdx ..
def EF (l:List bB):aK:=⟨newL l,[]⟩
theorem Xg {l:List bB} (h:l.length≤5):Kg (EF l):=by
 refine⟨fun i hi=> ?_,by show(newL l).length≤5;rw [xB];exact h,fun l hl=>by simp[EF] at hl,by simp[EF]⟩;have hi':i < (newL l).length:=hi;show(newL l)[i].me=i;rw[S8 hi' (by rw[xB] at hi';exact hi')];rfl
theorem acR.info:(Tryz.prog.info? 142).map (fun i=>(i.zero,i.size,i.bytes))=some (some (.pointer none),1,8):=rfl
theorem gm.nil (w:World) (b:Nat):gm w b [] []:=⟨rfl,List.nodup_nil,fun i h=>absurd h (by simp)⟩
theorem gm.snoc {w:World} {b g:Nat} {gs:List Nat} {l:List aL} {s:aL} (h:gm w b gs l) (hs:bz w b g s) (hg:g∉gs):gm w b (gs++[g]) (l++[s]):=by
 refine⟨by simp[h.len], ?_,fun i h1 h2=> ?_⟩
 ·rw[List.nodup_append];exact⟨h.nd,by simp,fun a ha b hb e=>by rw[List.mem_singleton] at hb;subst hb;subst e;exact hg ha⟩
 ·by_cases hi:i < gs.length
  ·rw[List.getElem_append_left hi,List.getElem_append_left (by have:=h.len;omega)];exact h.each i hi _
  ·have hi2:i=gs.length:=by simp at h1;omega
   subst hi2;rw[List.getElem_append_right (by omega),List.getElem_append_right (by have:=h.len;omega)];simp only[Nat.sub_self,h.len,List.getElem_singleton];exact hs
structure aaz (w:World) (BT:Nat) (l:List bB) (wr:World):Prop where
 aW:Below w.heap.size w wr
 at_: ∃sv gs,wr.heap[BT]? =some (.cells #[sv, .slice none 0 0] 141 (0,0))∧wr.ownsRow w.heap.size 142 1 sv l.length (BW gs)∧gm wr w.heap.size gs (newL l)
theorem Pf (fv:Value) (l:List bB) (T:Nat→Prop) (w:World) (hl:bK OC w fv l) (h5:l.length≤5) (hc: ∀F∈l,bP F=0) (hT: ∀q,w.heap.size≤q→T q):
  Calls Tryz.prog 58 #[fv] w fun e w'=> ∃g,e= .returned (.tuple #[.pointer (some ⟨g,0,none⟩), .int .i64 0])∧aJ w' w.heap.size T g (EF l)∧Below w.heap.size w w':=by
 obtain⟨fa,fc,rfl, -, -, -,hvl⟩:=hl.open_;have jN:=jD hvl;have HC:=jD hc;have Bk:=jD hT;have d5:decide ((5:Int) < (l.length:Int))=false:=by simp;omega
 obtain⟨BT,VB⟩: ∃BT,BT=w.heap.size:=⟨_,rfl⟩
 obtain⟨W0,hW0⟩: ∃W0,W0=w.alloc (.cells #[.slice none 0 0, .slice none 0 0] 141):=⟨_,rfl⟩
 have M0:=jD (show aaz w BT [] W0 from⟨by rw[hW0];exact aG _,_,[],by rw[hW0];exact au _ _ _ _ VB,World.ownsRow_nil _ _ _ _,gm.nil _ _⟩);have lN:=jD VB;clear hl hvl hc hT;go_enter Tryz.func58,Tryz.ntmps58;go_wp2_with fail
 rw[←VB,←hW0];clear VB hW0;go_loopw [16] (fun i wr=> ∃k:Nat,k≤l.length∧i= .int .i64 k∧aaz w BT (l.take k) wr) (fun i _=>l.length - (intOf i).toNat)
 case atStart=>exact ⟨0,Nat.zero_le _,rfl,M0.o⟩
 case round=>
  clear M0;obtain⟨k,hk,rfl,hst⟩:=hrel;by_cases hlt:k < l.length;rotate_left
  ·obtain rfl:k=l.length:=by omega
   rw[List.take_length] at hst;have hkb:decide ((l.length:Int) < (l.length:Int))=false:=by simp
   have HST:=jD hst;clear hst;go_wp2;go_ret2;obtain⟨hb,sv,gs,h1,h2,h3⟩:=HST.o;have hlen:gs.length=l.length:=by have:=h3.len;rw [xB] at this;exact this
   exact⟨BT,rfl,⟨Xg h5,⟨by rw[lN.o];exact Nat.le_refl _,Bk.o _ (by rw[lN.o];exact Nat.le_refl _)⟩,sv,_,gs,[],h1,by rw[hlen];exact h2,h3,fun q hq=>by
    obtain⟨i,hi,rfl⟩:=List.getElem_of_mem hq;exact Bk.o _ (h3.each i hi (by rw[xB];omega)).ge,eY.nil _ _,World.ownsRow_nil _ _ _ _,fun q hq=>by simp[Value.ownBlock] at hq⟩,hb⟩
  rcases jN.o with hnil | ⟨b,off,rfl,hb,hcl⟩
  ·rw[hnil] at hlt;simp at hlt
  obtain⟨cc,⟨v,rfl,hv⟩,hcc⟩:=hcl k hlt;have c0:=hst.aW.cell (p:=⟨b,off+k,none⟩) hb |>.trans (by have:=hcc 0 _ rfl;simpa [OC] using this)
  have gM:=jD (hv.below hst.aW);have Ao:=jD (HC.o _ (List.getElem_mem hlt));have kG:=jD (show l.take (k+1)=l.take k++[l[k]] from List.take_succ_eq_append_getElem hlt);have Rm:=jD (show(l.take k).length=k by rw[List.length_take];omega);generalize l[k]=F at*;generalize l.take k=lk at*;have HST:=jD hst;obtain⟨xa,xc,hvv⟩:=hv.shape;subst hvv;have hkb:decide ((k:Int) < (l.length:Int))=true:=by simp;omega
  clear hst hv hcl hcc;go_wp2_with fail
  clear c0;(with_reducible refine(Yl k _ F wr (by omega) gM.o Ao.o).mono ?_);rintro e w2 ⟨gn,rfl,hs,hb2⟩;obtain⟨hbel,sv,gs,h1,h2,h3⟩:=HST.o;have HS:=jD (bz.mono hs hbel.size);have cw:=jD (aj hbel hb2);have HGN:=jD (show gn∉gs from fun hm=>by
   obtain⟨i,hi,e⟩:=List.getElem_of_mem hm;have h4:=(h3.each i hi (by have:=h3.len;omega)).lt;have h5:=hs.ge;omega)
  obtain⟨sa,sc,rfl⟩:=ay h2;have bU:=jD (ag hb2 h1);have jR:=jD (aI h2 hb2);have z7:=jD (h3.below hb2);clear hs hb2 hbel h1 h2 h3 HST;have q0:w2.cell? ⟨BT,0,none⟩=some (.slice sa lk.length sc):=cq 0 bU.o rfl;have HN:=jD (show ∀j u,[Value.pointer (some ⟨gn,0,none⟩)][j]? =some u→(w2.alloc (.cells #[.pointer (some ⟨gn,0,none⟩)] 142)).cell? ((⟨w2.heap.size,0,none⟩:Addr).add j)=some u from fun j u hj=>by
   rw[Addr.add_lit,Nat.zero_add];exact aD (j:=j) (au _ _ _ _ rfl) (by simpa using hj))
  have mV:=jD (aI jR.o (aG (W:=w2) (.cells #[.pointer (some ⟨gn,0,none⟩)] 142)));have hbs:w.heap.size≤(w2.alloc (.cells #[.pointer (some ⟨gn,0,none⟩)] 142)).heap.size:=by have:=cw.o.size;rw [World.size_alloc];omega
  have Vp:lk.length≤5:=by have:=Rm.o;omega
  go_wp2_with (at_builtin;refine ni rfl (.tmp 34) (.tmp 36) 138 rfl w.heap.size 142 (.pointer none) 1 8 Tryz.underlying138 acR.info rfl (by decide) _ lk.length (BW gs) rfl mV.o ⟨w2.heap.size,0,none⟩ 1 1 _ rfl rfl HN.o (by intro u hu;simp only[List.mem_singleton] at hu;subst hu;rfl) (by unfold maxLen;omega) (by omega) hbs ?_)
  intro v9 w9 A;obtain⟨va,vc,vk⟩:=ay A.own;subst vk;have S9:=jD ((aB.of_below (G:=fun q=>(Value.slice sa lk.length sc).ownBlock=some q) (aG (W:=w2) (.cells #[.pointer (some ⟨gn,0,none⟩)] 142))).trans (A.bD mV.o (by decide)));have yq:=fB mV.o A.grown (aO _ bU.o) (by decide);have Ah:=jD yq;have HA:=jD A;have r0:=cq 0 yq rfl;have r1:=fq 0 yq;have r2:=ai yq;have uP:=jD ((cw.o.alloc (by have:=cw.o.size;omega) _).grown A.grown hbs (fun q hq=>(mV.o.lt q hq).1));clear A yq q0 hbs;have qJ:=jD (show w.heap.size≤BT by rw[lN.o];exact Nat.le_refl _);go_wp2;go_roundw
  case rel=>
   refine⟨k+1,by omega,by go_num, ?_⟩;rw[kG.o];have eD:=aB.set (j:=0) (v:= .slice va (lk.length+1) vc) Ah.o (by decide);have hoff: ∀q,q∈gs++[gn]→ ¬(Value.slice sa lk.length sc).ownBlock=some q:=fun q hq he=>by
    have hty: ∃cs,w2.heap[q]? =some (Obj.cells cs 191 (0,0)):=by
     rcases List.mem_append.1 hq with hq | hq
     ·obtain⟨i,hi,rfl⟩:=List.getElem_of_mem hq;exact(z7.o.each i hi (by have:=z7.o.len;omega)).ty
     ·rw[List.mem_singleton.1 hq];exact HS.o.ty
    obtain⟨cs,hcs⟩:=hty;exact AE jR.o hcs (by decide) he
   have aci: ∀q,q∈gs++[gn]→ ¬q=BT:=fun q hq he=>by
    have hty: ∃cs,w2.heap[q]? =some (Obj.cells cs 191 (0,0)):=by
     rcases List.mem_append.1 hq with hq | hq
     ·obtain⟨i,hi,rfl⟩:=List.getElem_of_mem hq;exact(z7.o.each i hi (by have:=z7.o.len;omega)).ty
     ·rw[List.mem_singleton.1 hq];exact HS.o.ty
    obtain⟨cs,hcs⟩:=hty;rw[he] at hcs;exact absurd (kQ bU.o hcs) (by decide)
   refine⟨uP.o.setCell (p:=⟨BT,0,none⟩) qJ.o _, .slice va (lk.length+1) vc,gs++[gn],by rw[ax Ah.o];rfl, ?_, ?_⟩
   ·have e1:BW (gs++[gn])=BW gs++[.pointer (some ⟨gn,0,none⟩)]:=by unfold BW;rw [List.map_append];rfl
    rw[e1,List.length_append,List.length_singleton];exact cG HA.o.own Ah.o (by decide)
   ·rw[PK,show pX ((lk.length:Nat):Int) (aX F)=pX (k:Int) (aX F) by rw[Rm.o]];have hh:=z7.o.snoc HS.o HGN.o;exact(hh.bD S9.o hoff).bD eD aci
  case measure=>simp [intOf] <;> omega
end Go.Proofs.YtajgndoiddmbmaaGreatDoor
