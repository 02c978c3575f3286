/- Towards what desk.Run answers. -/
import Derived.Test.YtajgndoiddmbmaaGreatDoorMShelf11
import Derived.Test.YtajgndoiddmbmaaGreatDoorMShelfP
import Derived.Test.YtajgndoiddmbmaaGreatDoorMGath
namespace Go.Proofs.YtajgndoiddmbmaaGreatDoor
set_option maxRecDepth 100000
set_option maxHeartbeats 40000000
open Go.RowKit
def AX (w:World) (v:Value) (cs:Array Value):Prop:= ∃g,v= .slice (some ⟨g,0,none⟩) 1 1∧w.heap[g]? =some (Obj.cells cs 120 (0,0))
theorem AX.below {w w':World} {v:Value} {cs:Array Value} (h:AX w v cs) (hb:Below w.heap.size w w'):AX w' v cs:=by
 obtain⟨g,h1,h2⟩:=h;exact ⟨g,h1,ag hb h2⟩
theorem ID (v:Value) (l:List aA) (W w:World) (hv:bK eu W v l) (hbl:Below W.heap.size W w) (hl:l.length≤1000):
  Calls Tryz.prog 170 #[v] w fun e w'=> ∃v',e= .returned v'∧b9 eu W w' W.heap.size 120 v' l∧Below w.heap.size w w':=by
 obtain⟨css,h1,h2⟩:=hv;refine(Ra v l.length css.flatten w (h2.below hbl) h1.flat h1.one (by omega)).mono ?_;rintro e w' ⟨v',rfl,h3,hb⟩;exact⟨v',rfl,⟨css,h1,bV h3 hbl.size⟩,hb⟩
theorem Yc (W w:World) (s:Value) (l:List aA) (v1:aA) (u x:Value) (i:Nat) (vb:Nat) (hbl:Below W.heap.size W w) (hown:b9 eu W w W.heap.size 120 s l) (hi:i≤l.length) (hn:l.length≤1000) (hk:dB W u x v1.past)
  (hvb:w.heap[vb]? =some (Obj.cells (aN v1 u x) 120 (0,0))):
  Calls Tryz.prog 169 #[s, .int .i64 i, .slice (some ⟨vb,0,none⟩) 1 1] w fun e w'=> ∃s',e= .returned s'∧b9 eu W w' W.heap.size 120 s' (l.take i++v1::l.drop i)∧Below W.heap.size W w':=by
 obtain⟨css,h1,h2⟩:=hown;have hE:eu.El W v1 (aN v1 u x).toList:=⟨u,x,rfl,hk⟩
 refine(Yd W.heap.size W w s l.length i css.flatten vb (aN v1 u x).toList 120 hbl hbl.size h2 hi hn h1.one (by simpa using hvb) rfl (eu.one hE)).mono ?_;rintro e w' ⟨s',rfl,h3,hb⟩;refine⟨s',rfl,⟨css.take i++((aN v1 u x).toList::css.drop i),(h1.take i).append (Els.append (Els.single hE) (h1.drop i)), ?_⟩,hb⟩;have e1:(l.take i++v1::l.drop i).length=l.length+1:=by rw[List.length_append,List.length_cons,List.length_take,List.length_drop];omega
 have p6:=h1.lens;rw[e1,List.flatten_append,List.flatten_cons,rA (n:=8) p6,Uu (n:=8) p6,←List.append_assoc];exact h3
structure Il (W:World) (w0:World) (lv:Value) (l:List aA) (v1:aA) (u x:Value) (w:World):Prop where
 blk:w.heap[w0.heap.size]? =some (Obj.cells (aN v1 u x) 120 (0,0))
 row:bK eu w lv l
 kn:dB w u x v1.past
 aW:Below w0.heap.size w0 w
theorem Il.below {W w0:World} {lv:Value} {l:List aA} {v1:aA} {u x:Value} {w w':World} (h:Il W w0 lv l v1 u x w) (hb:Below w.heap.size w w'):Il W w0 lv l v1 u x w':=
 ⟨ag hb h.blk,h.row.below hb,h.kn.below hb,aj h.aW hb⟩
def xu (l:List aA) (v:aA):List aA:=if cM l v=0 then fR l v else []
theorem wF {l:List aA} {v:aA} (h:cM l v=0):xu l v=fR l v:=by unfold xu;rw [if_pos h]
theorem BR {l:List aA} {v:aA} (h:cM l v≠0):xu l v=[]:=by unfold xu;rw [if_neg h]
theorem put_c (lv:Value) (l:List aA) (v1:aA) (u x:Value) (w:World) (hl:bK eu w lv l) (hk:dB w u x v1.past):
  Calls Tryz.prog 131 #[lv, .agg (aN v1 u x)] w fun e w'=> ∃ov,e= .returned (.tuple #[ov, .int .i64 (cM l v1)])∧bA w' w.heap.size ov (xu l v1)∧Below w.heap.size w w':=by
 obtain⟨a,cap,rfl⟩:=hl.shape;obtain⟨ua,uc,rfl⟩:=hk.vec.shape;obtain⟨xa,xc,rfl⟩:=hk.more.shape;obtain⟨W,hW⟩: ∃W,W=w.alloc (.cells (aN v1 (.slice ua v1.past.vec.length uc) (.slice xa v1.past.more.length xc)) 120):=⟨_,rfl⟩
 have dm:Below w.heap.size w W:=by rw[hW];exact aG _
 have M:=jD (show Il W w (.slice a l.length cap) l v1 (.slice ua v1.past.vec.length uc) (.slice xa v1.past.more.length xc) W from⟨by rw[hW];exact au _ _ _ _ rfl,hl.below dm,hk.below dm,dm⟩);have HC:=jD (shelfChk_c _ l W M.o.row);have oJ:=jD (show bH l≠0→cM l v1=bH l from fun h=>by unfold cM;rw [if_pos h]);have jH:=jD (show bH l=0→bC v1≠0→cM l v1=bC v1 from fun h h2=>by unfold cM;rw [if_neg (by omega),if_pos h2]);have KI:=jD (show bH l=0→bC v1=0→cM l v1=if 60 < (fR l v1).length then 2 else 0 from fun h h2=>by unfold cM;rw [if_neg (by omega),if_neg (by omega)]);have Al:=jD (jS (l:=l));have HVZ:=jD (gG (v:=v1));clear hl hk dm;unfold aN at hW ⊢;go_enter Tryz.func131,Tryz.ntmps131;go_wp2_with fail
 rw[←hW];clear hW;(with_reducible refine(HC.o).mono ?_);rintro e w1 ⟨rfl,hb1⟩;replace M:=jD (M.o.below hb1);clear hb1 HC;by_cases h0:bH l=0;rotate_left
 ·have H:=jD (oJ.o h0);have H0:=jD h0;have hne:decide (bH l=0)=false:=by simpa using h0
  generalize bH l=sc at*;go_wp2;go_ret2;exact⟨_,fW H.o.symm,by rw[BR (by rw[H.o];exact H0.o)];exact nt _ _,M.o.aW⟩
 have HS:=jD (Al.o.1 h0);have abe:=jD (jH.o h0);have abd:=jD (KI.o h0);rw[h0];clear h0 oJ jH KI Al;have HO:=jD (NH v1 _ _ _ M.o.kn);unfold aN at HO;obtain⟨c0,c1,c2,c3,c4,c5,c6,c7⟩:=IC M.o.blk;go_wp2_with fail
 (with_reducible refine(HO.o).mono ?_);rintro e w2 ⟨rfl,hb1⟩;replace M:=jD (M.o.below hb1);clear hb1 HO c0 c1 c2 c3 c4 c5 c6 c7;by_cases h0:bC v1=0;rotate_left
 ·have H:=jD (abe.o h0);have H0:=jD h0;have hne:decide (bC v1=0)=false:=by simpa using h0
  generalize bC v1=sc at*;go_wp2;go_ret2;exact⟨_,fW H.o.symm,by rw[BR (by rw[H.o];exact H0.o)];exact nt _ _,M.o.aW⟩
 have HV:=jD (HVZ.o.1 h0);have HE:=jD (abd.o h0);rw[h0];clear h0 abe abd HVZ;have oH:=jD (vsearch_c _ l v1 _ _ _ M.o.row M.o.kn HV.o.dot (fun v hv=>(HS.o.ok v hv).dot) (Xj HS.o.ord v1));unfold aN at oH;obtain⟨c0,c1,c2,c3,c4,c5,c6,c7⟩:=IC M.o.blk;go_wp2_with fail
 (with_reducible refine(oH.o).mono ?_);rintro e w3 ⟨i,b,rfl,hf,hb1⟩;replace M:=jD (M.o.below hb1);have HF:=jD hf;have HB:=jD (Qo hf HS.o.ord);have HI:=jD (Qn hf);have afa:=hf.le;have TC:=HS.o.len;clear hb1 oH c0 c1 c2 c3 c4 c5 c6 c7 hf;cases b
 rotate_left
 ·have hpl:fR l v1=l:=by
   unfold fR;rw [if_pos];unfold Ex;rw [HB.o];rfl
  have H:=jD (show cM l v1=0 by rw[HE.o,hpl,if_neg (by omega)]);have yz:=jD hpl;have qy:=jD (nk _ l _ M.o.row (ij HS.o.ok) (by omega));clear hpl;go_wp2_with fail
  (with_reducible refine(qy.o).mono ?_);rintro e w4 ⟨ov,rfl,ho,hb1⟩;have Ea:=jD (ho.mono M.o.aW.size);replace M:=jD (M.o.below hb1);clear hb1 ho qy;go_wp2;go_ret2;exact⟨_,fW H.o.symm,by rw[wF H.o,yz.o];exact Ea.o,M.o.aW⟩
 have Hh:=jD (Bh dz _ l 167 #[.pointer (some ⟨w.heap.size,0,none⟩)] (fun x=>cW x v1) _ M.o.row HS.o.ok (Yv w.heap.size v1 _ _ _ M.o.blk M.o.kn HV.o.dot));go_wp2_with fail
 (with_reducible refine(Hh.o).mono ?_);rintro e w4 ⟨rfl,hb1⟩;replace M:=jD (M.o.below hb1);clear hb1 Hh;cases ER:l.any fun x=>cW x v1
 rotate_left
 ·have hpl:fR l v1=l:=by
   unfold fR;rw [if_pos];unfold Ex;rw [ER,Bool.or_true]
  have H:=jD (show cM l v1=0 by rw[HE.o,hpl,if_neg (by omega)]);have yz:=jD hpl;have qy:=jD (nk _ l _ M.o.row (ij HS.o.ok) (by omega));clear hpl ER;go_wp2_with fail
  (with_reducible refine(qy.o).mono ?_);rintro e w5 ⟨ov,rfl,ho,hb1⟩;have Ea:=jD (ho.mono M.o.aW.size);replace M:=jD (M.o.below hb1);clear hb1 ho qy;go_wp2;go_ret2;exact⟨_,fW H.o.symm,by rw[wF H.o,yz.o];exact Ea.o,M.o.aW⟩
 have yz:=jD (show fR l v1=(l.take i++v1::l.drop i).filter fun w=> !cW v1 w by
  unfold fR;rw [if_neg,HI.o];unfold Ex;rw [ER,HB.o];decide)
 obtain⟨LI,ZC⟩: ∃LI,LI=l.take i++v1::l.drop i:=⟨_,rfl⟩
 rw[←ZC] at yz;have HLI:=jD ZC;clear ER HB HI ZC;obtain⟨c0,c1,c2,c3,c4,c5,c6,c7⟩:=IC M.o.blk;have C0:=jD c0;have C1:=jD c1;have C2:=jD c2;have C3:=jD c3;have C4:=jD c4;have C5:=jD c5;have C6:=jD c6;have C7:=jD c7;clear c0 c1 c2 c3 c4 c5 c6 c7;go_wp2_with fail
 refine Cl.aV 49 rfl [5] (fun w=>Below w4.heap.size w4 w) (fun jq=>match jq with | 1=>[5] | 4=>[5] | _=>[]) (fun jq v ww=>match jq with | 0=>v= .slice a l.length cap | 1=>b9 eu w4 ww w4.heap.size 120 v l | 2=>v= .int .i64 (i:Nat) | 3=>v= .agg #[.string v1.id, .int .i64 v1.ds, .int .i64 v1.dc, .int .i64 v1.tg, .int .i64 v1.nm, .int .i64 v1.bd, .slice ua v1.past.vec.length uc, .slice xa v1.past.more.length xc] | 4=>AX ww v (aN v1 (.slice ua v1.past.vec.length uc) (.slice xa v1.past.more.length xc)) | 5=>b9 eu w4 ww w4.heap.size 120 v LI | 6=>b9 eu w4 ww w4.heap.size 120 v LI | _=>True) (fun ww=>Below w4.heap.size w4 ww) (fun jq ww aR=>jq≠5→Below ww.heap.size ww aR) Tryz.mixed (by decide+kernel) (br).drew ((br).drew) ?_ (fun q w w' hk h hR=>aj h (hR (by simpa using hk))) ?_ ?_
 ·intro q r v w w' hne hk hlt h hR;match r,hk,hlt,h,hne with
  | 0,_,_,h,_=>exact h
  | 1,hk,_,h,_=>exact b9.below h (hR (by simpa using hk))
  | 2,_,_,h,_=>exact h
  | 3,_,_,h,_=>exact h
  | 4,hk,_,h,_=>exact AX.below h (hR (by simpa using hk))
  | 5,_,_,h,hne=>exact b9.below h (hR (by exact hne))
  | 6,_,hlt,h,_=>exact b9.below h (hR (by intro e;subst e;exact absurd hlt (by decide+kernel)))
  | _+7,_,_,_,_=>trivial
 ·refine⟨?_, ?_, ?_, ?_, ?_, ?_, ?_,trivial⟩
  ·intro x wx hG;have f0:=hG.o 0;replace hG:=hG.g;go_wp2;exact⟨_,rfl,rfl,hG,fun _=>br⟩
  ·intro x wx hG;have g0:=gr 35 (hG.c 0 _ rfl);replace hG:=hG.g;go_wp2_with fail
   (with_reducible refine(ID _ l w4 _ M.o.row hG (by omega)).mono ?_);rintro e wq ⟨v9,rfl,h9,hb⟩;have H9:=jD h9;clear h9;go_wp2;exact⟨_,rfl,H9.o,aj hG hb,fun _=>hb⟩
  ·intro x wx hG;have f8:=hG.o 8;replace hG:=hG.g;go_wp2;exact⟨_,rfl,rfl,hG,fun _=>br⟩
  ·intro x wx hG;have f3:=hG.o 3;replace hG:=hG.g;have afy:=ah hG C0.o;have UB:=ah hG C1.o;have UA:=ah hG C2.o;have c_C3:=ah hG C3.o;have c_C4:=ah hG C4.o;have afx:=ah hG C5.o;have c_C6:=ah hG C6.o;have c_C7:=ah hG C7.o;go_wp2;exact⟨_,rfl,rfl,hG,fun _=>br⟩
  ·intro x wx hG;have⟨g3,qF⟩:=gs 38 (hG.c 3 _ rfl);replace hG:=hG.g;go_wp2;exact⟨_,rfl,⟨_,rfl,au _ _ _ _ rfl⟩,hG.alloc hG.size _,fun _=>aG _⟩
  ·intro x wx hG;have g1:b9 eu w4 wx w4.heap.size 120 (x.tmps.getD 36 undef) l:=hG.c 1 _ rfl;have g2:=gr 37 (hG.c 2 _ rfl);have g4:AX wx (x.tmps.getD 39 undef) (aN v1 (.slice ua v1.past.vec.length uc) (.slice xa v1.past.more.length xc)):=hG.c 4 _ rfl;have hp:=hG.p 0;replace hG:=hG.g;obtain⟨sa,sc,hs1⟩:=g1.shape;obtain⟨gb,hs2,Zj⟩:=g4;rw[hs1] at g1;have Tu:=hs1;have ae0:=hs2;rw[Array.getD_eq_getD_getElem?] at Tu ae0;have G1:=jD g1;have afO:=jD Zj;clear g1 Zj;go_wp2_with fail
   (with_reducible refine(Yc w4 _ _ l v1 _ _ i gb hG G1.o afa (by omega) M.o.kn afO.o).mono ?_);rintro e wq ⟨v9,rfl,h9,hb⟩;rw[←HLI.o] at h9;have H9:=jD h9;clear h9;go_wp2;exact⟨_,rfl,H9.o,hb,fun h=>absurd rfl h⟩
  ·intro x wx hG;have g5:b9 eu w4 wx w4.heap.size 120 (x.tmps.getD 40 undef) LI:=hG.c 5 _ rfl;replace hG:=hG.g;obtain⟨sa,sc,hs1⟩:=g5.shape;rw[hs1] at g5;have Tu:=hs1;rw[Array.getD_eq_getD_getElem?] at Tu;have G5:=jD g5;clear g5;go_wp2;exact⟨_,rfl,G5.o,hG,fun _=>br⟩
 ·intro af w5 hg hF;obtain⟨g0,g1,g2,g3,g4,g5,g6, -⟩:=hF;replace g6:b9 eu w4 w5 w4.heap.size 120 (af 6) LI:=g6 rfl;simp only[Cl3.puts,gq (af 0) g0,gq (af 2) g2,gq (af 3) g3];clear g0 g1 g2 g3 g4 g5;go_simp
  generalize af 6=s5 at*;have hin: ∀v∈LI,dz v:=fun v hv=>by
   rw[HLI.o] at hv;rcases List.mem_append.1 hv with hv | hv
   ·exact HS.o.ok v (List.mem_of_mem_take hv)
   ·rcases List.mem_cons.1 hv with rfl | hv
    ·exact HV.o
    ·exact HS.o.ok v (List.mem_of_mem_drop hv)
  have hll:LI.length≤1000:=by rw[HLI.o,List.length_append,List.length_cons,List.length_take,List.length_drop];omega
  have mX:=jD (O9 dz w4 w5 s5 LI 171 #[.pointer (some ⟨w.heap.size,0,none⟩)] (fun w=>cW v1 w) hg g6 hll hin (Yu w.heap.size v1 _ _ _ M.o.blk M.o.kn HV.o.past));have cz:=jD (show ∀v∈fR l v1,dz v from fun v hv=>hin v (by rw[yz.o] at hv;exact (List.mem_filter.1 hv).1));rw[←yz.o] at mX;clear hin hll g6 hg HF HS yz C0 C1 C2 C3 C4 C5 C6 C7 HV;go_wp2_with fail
  (with_reducible refine(mX.o).mono ?_);rintro e w6 ⟨s6,rfl,h6,gP⟩;obtain⟨sa,sc,rfl⟩:=h6.shape;have H6:=jD h6;have wV:=jD gP;clear h6 gP mX;by_cases fP:60 < (fR l v1).length
  ·have H:=jD (show cM l v1=2 by rw[HE.o,if_pos fP]);have afo:decide ((60:Int) < ((fR l v1).length:Int))=true:=by simp;omega
   clear HE;generalize fR l v1=pl at*;go_wp2;go_ret2;exact⟨_,fW H.o.symm,by rw[BR (by rw[H.o];decide)];exact nt _ _,M.o.aW.trans (wV.o.mono M.o.aW.size)⟩
  have H:=jD (show cM l v1=0 by rw[HE.o,if_neg fP]);have HR:=jD (wF H.o);have hl2:(fR l v1).length≤60:=by omega
  have qy:=jD (nk _ (fR l v1) w6 (H6.o.at_ (Sub.of_below wV.o) (by omega)) (ij cz.o) (by omega));have afo:decide ((60:Int) < ((fR l v1).length:Int))=false:=by simp;omega
  clear HE cz;generalize fR l v1=pl at*;go_wp2_with fail
  (with_reducible refine(qy.o).mono ?_);rintro e w7 ⟨ov,rfl,ho,hb1⟩;have nD:=M.o.aW.trans (wV.o.mono M.o.aW.size);have Ea:=jD (ho.mono nD.size);have Bw:=jD (aj nD hb1);clear hb1 ho qy nD;go_wp2;go_ret2;exact⟨_,fW H.o.symm,by rw[HR.o];exact Ea.o,Bw.o⟩
def ir (l:List aA) (id:ByteArray):List aA:=l.filter fun v=>decide (v.id=id)
structure Io (w0:World) (lv:Value) (l:List aA) (t:TypeId) (cs:Array Value) (w:World):Prop where
 blk:w.heap[w0.heap.size]? =some (Obj.cells cs t (0,0))
 row:bK eu w lv l
 aW:Below w0.heap.size w0 w
theorem Io.below {w0:World} {lv:Value} {l:List aA} {t:TypeId} {cs:Array Value} {w w':World} (h:Io w0 lv l t cs w) (hb:Below w.heap.size w w'):Io w0 lv l t cs w':=
 ⟨ag hb h.blk,h.row.below hb,aj h.aW hb⟩
def tX (id:ByteArray) (k:Kn) (v:aA):Bool:=decide (v.id=id)&&aU k v.ds v.dc
def rN (l:List aA) (id:ByteArray) (k:Kn):List aA:=l.filter fun v=> !tX id k v
def nX (l:List aA) (id:ByteArray) (k:Kn):Int:=if bH l≠0 then bH l else if gI id=false then 3 else bF k
def AK (l:List aA) (id:ByteArray) (k:Kn):List aA:=if nX l id k=0 then rN l id k else []
theorem JX {l:List aA} {id:ByteArray} {k:Kn} (h:nX l id k=0):AK l id k=rN l id k:=by unfold AK;rw [if_pos h]
theorem zI {l:List aA} {id:ByteArray} {k:Kn} (h:nX l id k≠0):AK l id k=[]:=by unfold AK;rw [if_neg h]
theorem XG (B:Nat) (id:ByteArray) (k:Kn) (y z:Value) (w:World) (hB:w.heap[B]? =some (Obj.cells #[.string id,y,z] 201 (0,0))) (hk:dB w y z k) (hok:gz k):
  oQ dz 178 #[.pointer (some ⟨B,0,none⟩)] (tX id k) w:=by
 refine⟨enters_of Tryz.func178 (by kernel_rfl) rfl,fun a u x W hv hbl ha=> ?_⟩;show Calls Tryz.prog 178 #[.agg (aN a u x), .pointer (some ⟨B,0,none⟩)] W _;have qf:=ag hbl hB;have Vr:=hk.below hbl;clear hbl hB hk;obtain⟨xa,ca,rfl⟩:=ha.vec.shape;obtain⟨ya,da,rfl⟩:=ha.more.shape;obtain⟨xb,cb,zo⟩:=Vr.vec.shape;obtain⟨yb,db,Jl⟩:=Vr.more.shape;subst zo Jl;have hbel:=aG (W:=W) (.cells (aN a (.slice xa a.past.vec.length ca) (.slice ya a.past.more.length da)) 120);have c0:=cq 0 qf rfl;have c1:=cq 1 qf rfl;have c2:=cq 2 qf rfl;have hBl:=ai qf;have zu:=Jk a.id id;obtain⟨⟨d0,d5⟩,d1,d2⟩:=jx.1 hv.dot;simp only at d0 d5 d1 d2;have aZ:=jD (kC (l:=[(a.ds,a.dc)]) fun d hx=>by simp only[List.mem_singleton] at hx;rw [hx];exact hv.dot);have KR:=jD (kC fun d hd=>(hok.nH d hd).1);have yA:=jD (knIn_c _ _ k a.ds a.dc _ (Vr.below hbel) d0 hok.ord KR.o aZ.o);have HU:=jD (show tX id k a=(decide (a.id=id)&&aU k a.ds a.dc) from rfl);clear ha qf Vr hv hok;unfold aN at*;cases hd:decide (a.id=id)
 ·have H:=jD (show tX id k a=false by rw[HU.o,hd];rfl);rw[hd] at zu;clear hd;go_enter Tryz.func178,Tryz.ntmps178;go_wp2;go_ret;exact⟨by rw[H.o];rfl,hbel⟩
 ·have H:=jD (show tX id k a=aU k a.ds a.dc by rw[HU.o,hd];rfl);rw[hd] at zu;clear hd;go_enter Tryz.func178,Tryz.ntmps178;go_wp2_with fail
  (with_reducible refine(yA.o).mono ?_);rintro e w1 ⟨rfl,hb1⟩;replace hbel:=aj hbel hb1;clear hb1 yA c0 c1 c2;go_wp2;go_ret;exact⟨by rw[H.o];rfl,hbel⟩
theorem ZY (lv:Value) (l:List aA) (id:ByteArray) (k:Kn) (u x:Value) (w:World) (hl:bK eu w lv l) (hk:dB w u x k):
  Calls Tryz.prog 138 #[lv, .agg #[.string id,u,x]] w fun e w'=> ∃ov,e= .returned (.tuple #[ov, .int .i64 (nX l id k)])∧bA w' w.heap.size ov (AK l id k)∧Below w.heap.size w w':=by
 obtain⟨a,cap,rfl⟩:=hl.shape;obtain⟨ua,uc,rfl⟩:=hk.vec.shape;obtain⟨xa,xc,rfl⟩:=hk.more.shape;obtain⟨W,hW⟩: ∃W,W=w.alloc (.cells #[.string id, .slice ua k.vec.length uc, .slice xa k.more.length xc] 201):=⟨_,rfl⟩
 have dm:Below w.heap.size w W:=by rw[hW];exact aG _
 have M:=jD (show Io w (.slice a l.length cap) l 201 #[.string id, .slice ua k.vec.length uc, .slice xa k.more.length xc] W from⟨by rw[hW];exact au _ _ _ _ rfl,hl.below dm,dm⟩);have HK:=jD hk;have HC:=jD (shelfChk_c _ l W M.o.row);have oJ:=jD (show bH l≠0→nX l id k=bH l from fun h=>by unfold nX;rw [if_pos h]);have jH:=jD (show bH l=0→nX l id k=if gI id=false then 3 else bF k from fun h=>by unfold nX;rw [if_neg (by omega)]);have Al:=jD (jS (l:=l));have HKZ:=jD (di (k:=k));clear hl hk dm;go_enter Tryz.func138,Tryz.ntmps138;go_wp2_with fail
 rw[←hW];clear hW;(with_reducible refine(HC.o).mono ?_);rintro e w1 ⟨rfl,hb1⟩;replace M:=jD (M.o.below hb1);clear hb1 HC;by_cases h0:bH l=0;rotate_left
 ·have H:=jD (oJ.o h0);have H0:=jD h0;have hne:decide (bH l=0)=false:=by simpa using h0
  generalize bH l=sc at*;go_wp2;go_ret2;exact⟨_,fW H.o.symm,by rw[zI (by rw[H.o];exact H0.o)];exact nt _ _,M.o.aW⟩
 have HS:=jD (Al.o.1 h0);have HE:=jD (jH.o h0);rw[h0];clear h0 oJ jH Al;have TC:=HS.o.len;have c0:=cq 0 M.o.blk rfl;go_wp2_with fail
 (with_reducible refine(NV id _).mono ?_);rintro e w2 ⟨rfl,rfl⟩;clear c0;cases hid:gI id
 ·have H:=jD (show nX l id k=3 by rw[HE.o,if_pos hid]);clear hid HE;go_wp2;go_ret2;exact⟨_,fW H.o.symm,by rw[zI (by rw[H.o];decide)];exact nt _ _,M.o.aW⟩
 have RT:=jD (show nX l id k=bF k by rw[HE.o,if_neg (by rw[hid];decide)]);have G8:=jD (knChk_c _ _ k _ (HK.o.below M.o.aW));have c1:=cq 1 M.o.blk rfl;have c2:=cq 2 M.o.blk rfl;clear hid HE;go_wp2_with fail
 (with_reducible refine(G8.o).mono ?_);rintro e w2 ⟨rfl,hb1⟩;replace M:=jD (M.o.below hb1);clear hb1 G8 c1 c2;by_cases Qa:bF k=0;rotate_left
 ·have H0:=jD Qa;have hne:decide (bF k=0)=false:=by simpa using Qa
  generalize bF k=sc at*;go_wp2;go_ret2;exact⟨_,fW RT.o.symm,by rw[zI (by rw[RT.o];exact H0.o)];exact nt _ _,M.o.aW⟩
 have G0:=jD (HKZ.o.1 Qa).1;rw[Qa] at RT ⊢;clear Qa HKZ;have lu:=jD (ID _ l w2 w2 M.o.row (br) (by omega));go_wp2_with fail
 (with_reducible refine(lu.o).mono ?_);rintro e w3 ⟨cv,rfl,hcv,hb1⟩;obtain⟨ca,cc,rfl⟩:=hcv.shape;have mX:=jD (O9 dz w2 w3 _ l 178 #[.pointer (some ⟨w.heap.size,0,none⟩)] (tX id k) hb1 hcv (by omega) HS.o.ok (XG w.heap.size id k _ _ _ M.o.blk (HK.o.below M.o.aW) G0.o));rw[show(l.filter fun v=> !tX id k v)=rN l id k from rfl] at mX;clear hcv hb1 lu;go_wp2_with fail
 (with_reducible refine(mX.o).mono ?_);rintro e w4 ⟨s3,rfl,h3,hb3⟩;obtain⟨sa,sc,rfl⟩:=h3.shape;have H3:=jD h3;have eH:=jD (M.o.aW.trans (hb3.mono M.o.aW.size));have af1:=jD hb3;have cz:=jD (show ∀v∈rN l id k,dz v from fun v hv=>HS.o.ok v (List.mem_filter.1 hv).1);have hll:(rN l id k).length≤60:=Nat.le_trans (List.length_filter_le _ _) TC;clear h3 hb3 mX;have HR:=jD (JX RT.o);have qy:=jD (nk _ (rN l id k) w4 (H3.o.at_ (Sub.of_below af1.o) (by omega)) (ij cz.o) (by omega));clear cz;generalize rN l id k=pl at*;go_wp2_with fail
 (with_reducible refine(qy.o).mono ?_);rintro e w5 ⟨ov,rfl,ho,hb1⟩;have Ea:=jD (ho.mono eH.o.size);have Bw:=jD (aj eH.o hb1);clear hb1 ho qy;go_wp2;go_ret2;exact⟨_,fW RT.o.symm,by rw[HR.o];exact Ea.o,Bw.o⟩
def nR (l:List aA):List Kn:=l.map aA.past
def jh (l:List aA):dN:=l.flatMap fun v=>v.past.more++[(v.ds,v.dc)]
theorem Ql (l:List aA) (v:aA) (id:ByteArray):ir (l++[v]) id=if decide (v.id=id)=true then ir l id++[v] else ir l id:=by
 unfold ir;by_cases h:v.id=id <;> simp[List.filter_append,h]
theorem NF (l:List aA) (v:aA):jh (l++[v])=jh l++(v.past.more++[(v.ds,v.dc)]):=by simp[jh]
theorem Ll (l:List aA) {s c:Int} (hc:1≤c):(decide (c≤jA ((nR l).map Kn.vec) s) || decide ((s,c)∈jh l))=xw l s c:=by
 rw[Sj _ hc,Bool.eq_iff_iff];simp only[Bool.or_eq_true,List.any_eq_true,decide_eq_true_eq,List.mem_flatMap,jh,nR,List.mem_map,List.mem_append,List.mem_singleton,Prod.mk.injEq,PG,aU];constructor
 ·rintro(⟨k,⟨v,hv,rfl⟩,h⟩ | ⟨v,hv,h | ⟨h1,h2⟩⟩)
  ·exact⟨v,hv, .inl (.inl h)⟩
  ·exact⟨v,hv, .inl (.inr h)⟩
  ·exact⟨v,hv, .inr ⟨h1.symm,h2.symm⟩⟩
 ·rintro⟨v,hv,(h | h) | ⟨h1,h2⟩⟩
  ·exact .inl ⟨_,⟨v,hv,rfl⟩,h⟩
  ·exact .inr ⟨v,hv, .inl h⟩
  ·exact .inr ⟨v,hv, .inr ⟨h1.symm,h2.symm⟩⟩
theorem F3 {l:List aA} (h: ∀v∈l,v.past.more.length≤60):(jh l).length≤l.length*61:=by
 induction l with
 | nil=>simp [jh]
 | cons v l ih=>
  have h1:=h v (by simp);have h2:=ih fun x hx=>h x (by simp[hx]);unfold jh at*;simp only[List.flatMap_cons,List.length_append,List.length_cons,List.length_nil];omega
theorem SS {l:List aA} (h: ∀v∈l,dz v): ∀d∈jh l,bX d=true:=by
 intro d hd;obtain⟨v,hv,hd⟩:=List.mem_flatMap.1 hd;rcases List.mem_append.1 hd with hd | hd
 ·exact((h v hv).past.nH d hd).1
 ·rw[List.mem_singleton] at hd;rw [hd];exact (h v hv).dot
def nS (l:List aA) (id:ByteArray):Kn:=cA (xw (ir l id))
def iB (l:List aA) (id:ByteArray):Int:=if bH l≠0 then bH l else kE (nS l id)
structure Ki (w:World) (vv dv:Value) (ls:List aA) (wr:World):Prop where
 res:wr.heap[w.heap.size]? =some (Obj.cells #[.slice none 0 0, .slice none 0 0] 118 (0,0))
 vec:b9 sP w wr w.heap.size 115 vv ((nR ls).map Kn.vec)
 dot:wr.ownsRow w.heap.size 103 2 dv (jh ls).length (az (jh ls))
 aW:Below w.heap.size w wr
theorem Ki.below {w:World} {vv dv:Value} {ls:List aA} {wr wr':World} (h:Ki w vv dv ls wr) (hb:Below wr.heap.size wr wr'):Ki w vv dv ls wr':=
 ⟨ag hb h.res,h.vec.below hb,aI h.dot hb,aj h.aW hb⟩
theorem past_c (lv:Value) (l:List aA) (id:ByteArray) (w:World) (hl:bK eu w lv l):
  Calls Tryz.prog 130 #[lv, .string id] w fun e w'=> ∃x y,e= .returned (.tuple #[.agg #[x,y], .int .i64 (iB l id)])∧jL w' w.heap.size x y (iB l id) (nS l id)∧Below w.heap.size w w':=by
 have HL:=jD hl;obtain⟨a,cap,rfl,hcap,hlen, -,hvl⟩:=hl.open_;have jN:=jD hvl;obtain⟨W,hW⟩: ∃W,W=w.alloc (.cells #[.slice none 0 0, .slice none 0 0] 118):=⟨_,rfl⟩
 have H0:=jD (show Ki w (.slice none 0 0) (.slice none 0 0) (ir (l.take 0) id) W from
  ⟨by rw[hW];exact au _ _ _ _ rfl,b9.nil _ _ _ _,World.ownsRow_nil _ _ _ _,by rw[hW];exact aG _⟩)
 have Ao:=jD (shelfChk_c _ l W (HL.o.below (by rw[hW];exact aG _)));have oJ:=jD (show bH l≠0→iB l id=bH l from fun h=>by unfold iB;rw [if_pos h]);have jH:=jD (show bH l=0→iB l id=kE (nS l id) from fun h=>by unfold iB;rw [if_neg (by omega)]);have Al:=jD (jS (l:=l));clear hl hvl;go_enter Tryz.func130,Tryz.ntmps130;go_wp2_with fail
 rw[←hW];clear hW;(with_reducible refine(Ao.o).mono ?_);rintro e wa ⟨rfl,hb1⟩;replace H0:=jD (H0.o.below hb1);clear hb1 Ao;by_cases h0:bH l=0;rotate_left
 ·have H:=jD (oJ.o h0);have HN:=jD h0;have hne:decide (bH l=0)=false:=by simpa using h0
  have hnb:(bH l != 0)=true:=bne_iff_ne.2 h0;have HR:=jD H0.o.res;have HB:=jD H0.o.aW;have r0:=cq 0 HR.o rfl;have r1:=cq 1 HR.o rfl;have f0:=fq 0 HR.o;have f1:=fq 1 HR.o;have r8:=ai HR.o;generalize bH l=sc at*;clear h0 oJ jH Al;go_wp2;refine bodyPost_ret (v:= .tuple #[.agg #[_,_],_]) (by simp[results,Tryz.results130,go_sem, *];first | exact⟨⟨rfl,rfl⟩,rfl⟩ | exact⟨rfl,rfl⟩ | rfl) rfl ?_;exact⟨_,_,by rw[H.o], .inr ⟨by rw[H.o];exact HN.o,rfl,rfl⟩,(HB.o.setCell (by simp) _).setCell (by simp) _⟩
 have Bn:=jD (Al.o.1 h0);have HE:=jD (jH.o h0);rw[h0];clear h0 oJ jH Al;go_wp2;go_loopw [7,8,20] (fun vv dv i wr=> ∃k:Nat,k≤l.length∧i= .int .i64 k∧Ki w vv dv (ir (l.take k) id) wr) (fun _ _ i _=>l.length - (intOf i).toNat)
 case atStart=>exact ⟨0,Nat.zero_le _,rfl,H0.o⟩
 case round=>
  obtain⟨k,hk,rfl,hst⟩:=hrel;have HS:=jD hst;clear hst H0;by_cases hlt:k < l.length
  ·rcases jN.o with hnil | ⟨b,off,rfl,hb,hc⟩
   ·rw[hnil] at hlt;simp at hlt
   obtain⟨c,hE,hcc⟩:=hc k hlt;obtain⟨UU,XX,rfl,nB⟩:=hE;have hcl:=fun (j:Nat) (y:Value) (hy:(aN l[k] UU XX).toList[j]? =some y)=>xo (w:=wr) (b:=b) (off:=off) (i:=k) (fun j y hy=>(HS.o.aW.cell (p:=⟨b,off+(k*eu.size+j),none⟩) hb).trans (hcc j y hy)) hy;have d0:=hcl 0 _ rfl;have d1:=hcl 1 _ rfl;have d2:=hcl 2 _ rfl;have d3:=hcl 3 _ rfl;have d4:=hcl 4 _ rfl;have d5:=hcl 5 _ rfl;have d6:=hcl 6 _ rfl;have d7:=hcl 7 _ rfl;rw[Nat.add_zero] at d0;obtain⟨ua,uc,rfl⟩:=nB.vec.shape;obtain⟨xa,xc,rfl⟩:=nB.more.shape;have HT:=jD (show ir (l.take (k+1)) id=if decide (l[k].id=id)=true then ir (l.take k) id++[l[k]] else ir (l.take k) id by rw[List.take_succ_eq_append_getElem hlt,Ql]);have NZ:l[k].past.more.length≤60:=(Bn.o.ok _ (List.getElem_mem hlt)).len;have Wa:=jD (show(nR (ir (l.take k) id)).length≤60∧(jh (ir (l.take k) id)).length≤60000 by
    have h1:(ir (l.take k) id).length≤(l.take k).length:=List.length_filter_le _ _;rw[List.length_take] at h1;have h3:=Bn.o.len;have h2:=F3 (l:=ir (l.take k) id) fun v hv=>(Bn.o.ok v (List.mem_of_mem_take (List.mem_filter.1 hv).1)).len;unfold nR;rw[List.length_map];omega)
   have zu:=Jk l[k].id id;obtain⟨BK,kD⟩: ∃BK,BK=wr.heap.size:=⟨_,rfl⟩
   obtain⟨w1,hw1⟩: ∃w1,w1=wr.alloc (.cells (aN l[k] (.slice ua l[k].past.vec.length uc) (.slice xa l[k].past.more.length xc)) 120):=⟨_,rfl⟩
   have hb1:Below wr.heap.size wr w1:=by rw[hw1];exact aG _
   have bh:=jD (show w1.heap[BK]? =some (Obj.cells (aN l[k] (.slice ua l[k].past.vec.length uc) (.slice xa l[k].past.more.length xc)) 120 (0,0)) by rw[hw1];exact au _ _ _ _ kD);replace HS:=jD (HS.o.below hb1);have Ae:=jD nB;clear hc hcc hcl nB hb1;generalize l[k]=gX at*;obtain⟨o7,ds,oG,tg,nm,bd,kk⟩:=gX;simp only at*;generalize ir (l.take k) id=ls at*;have e0:w1.cell? ⟨BK,0,none⟩=some (.string o7):=aD bh.o rfl;unfold aN at hw1;cases hdd:decide (o7=id)
   ·have HN:=jD (show ir (l.take (k+1)) id=ls by rw[HT.o,hdd];rfl);rw[hdd] at zu;clear hdd bh Wa;rw[kD,hw1] at e0;rw[hw1] at HS;go_wp2;go_roundw
    case rel=>exact ⟨k+1,by omega,by go_num,by rw[HN.o];exact HS.o⟩
    case measure=>simp [intOf] <;> omega
   ·have HN:=jD (show ir (l.take (k+1)) id=ls++[⟨o7,ds,oG,tg,nm,bd,kk⟩] by rw[HT.o,hdd];rfl);rw[hdd] at zu;clear hdd;obtain⟨va,vc,hvv⟩:=HS.o.vec.shape;obtain⟨da,dc,Zp⟩:=ay HS.o.dot;subst hvv Zp;have hV1:((nR ls).map Kn.vec).length≤1000:=by rw[List.length_map];have:=Wa.o.1;omega
    have Dm:(jh ls).length≤60000:=Wa.o.2;have HVM:=jD (show(nR (ls++[⟨o7,ds,oG,tg,nm,bd,kk⟩])).map Kn.vec=(nR ls).map Kn.vec++[kk.vec] by simp[nR]);have HDM:=jD (NF ls ⟨o7,ds,oG,tg,nm,bd,kk⟩);have HV:=jD HS.o.vec;have HD:=jD HS.o.dot;obtain⟨w2,hw2⟩: ∃w2,w2=w1:=⟨_,rfl⟩
    obtain⟨EX,VA⟩: ∃EX:List (Nat×Array Value×TypeId),EX=[(BK,(aN ⟨o7,ds,oG,tg,nm,bd,kk⟩ (.slice ua kk.vec.length uc) (.slice xa kk.more.length xc)),120),(w.heap.size, #[.slice none 0 0, .slice none 0 0],118)]:=⟨_,rfl⟩
    have HGS:=jD (show uQ w.heap.size w EX (.slice da (jh ls).length dc) w1 from⟨HS.o.aW,by
     rw[VA];intro b hb;simp only[List.mem_cons,List.not_mem_nil,or_false] at hb;rcases hb with rfl | rfl
     ·exact⟨bh.o,(by decide:120≠115),(by decide:120≠103)⟩
     ·exact⟨HS.o.res,(by decide:118≠115),(by decide:118≠103)⟩,fun k hk=>(HS.o.dot.lt k hk).2⟩)
    have HEX:=jD (fun (wz:World) (h:uQ w.heap.size w EX (.slice da (jh ls).length dc) wz)=>(show wz.heap[BK]? =some (Obj.cells (aN ⟨o7,ds,oG,tg,nm,bd,kk⟩ (.slice ua kk.vec.length uc) (.slice xa kk.more.length xc)) 120 (0,0)) by rw[VA] at h;exact h.blk));have sJ:=jD (fun (wz:World) (h:uQ w.heap.size w EX (.slice da (jh ls).length dc) wz)=>(show wz.heap[w.heap.size]? =some (Obj.cells #[.slice none 0 0, .slice none 0 0] 118 (0,0)) by rw[VA] at h;exact (h.ex (w.heap.size, #[.slice none 0 0, .slice none 0 0],118) (by simp)).1));clear VA;generalize (nR ls).map Kn.vec=V at*;generalize jh ls=D at*;clear HS bh;rw[kD,hw1] at e0;go_wp2_with fail
    rw[←hw1];rw[←kD];clear kD hw1 hw2 e0 d0 d1 d2 d3 d4 d5 d6 d7;refine Cl3.aV 53 rfl (fun u=>match u with | 0=>[5] | _=>[10,14]) (fun u ww=>match u with | 0=>b9 sP w ww w.heap.size 115 (.slice va V.length vc) V | _=>ww.ownsRow w.heap.size 103 2 (.slice da D.length dc) D.length (az D)) (fun jq=>match jq with | 4=>[5] | 10=>[14] | 13=>[14] | _=>[]) (fun jq v ww=>match jq with | 0=>v= .slice va V.length vc | 1=>v= .pointer (some ⟨BK,6,none⟩) | 2=>v= .pointer (some ⟨BK,6,none⟩) | 3=>v= .slice ua kk.vec.length uc | 4=> ∃g,v= .slice (some ⟨g,0,none⟩) 1 1∧ww.heap[g]? =some (Obj.cells #[.slice ua kk.vec.length uc] 115 (0,0)) | 5=> ∃a cc,v= .slice a (V.length+1) cc∧b9 sP w ww w.heap.size 115 (.slice a (V.length+1) cc) (V++[kk.vec]) | 6=>v= .slice da D.length dc | 7=>v= .pointer (some ⟨BK,6,none⟩) | 8=>v= .pointer (some ⟨BK,7,none⟩) | 9=>v= .slice xa kk.more.length xc | 10=> ∃a cc,v= .slice a (D.length+kk.more.length) cc∧ww.ownsRow w.heap.size 103 2 (.slice a (D.length+kk.more.length) cc) (D.length+kk.more.length) (az (D++kk.more)) | 11=>v= .pointer (some ⟨BK,1,none⟩) | 12=>v= .agg #[.int .i64 ds, .int .i64 oG] | 13=> ∃g,v= .slice (some ⟨g,0,none⟩) 1 1∧ww.heap[g]? =some (Obj.cells #[.int .i64 ds, .int .i64 oG] 103 (0,0))∧((.slice da D.length dc):Value).ownBlock≠some g | 14=> ∃a cc,v= .slice a (D.length+kk.more.length+1) cc∧ww.ownsRow w.heap.size 103 2 (.slice a (D.length+kk.more.length+1) cc) (D.length+kk.more.length+1) (az (D++(kk.more++[(ds,oG)]))) | 15=> ∃a cc,v= .slice a (V.length+1) cc∧b9 sP w ww w.heap.size 115 (.slice a (V.length+1) cc) (V++[kk.vec]) | 16=> ∃a cc,v= .slice a (D.length+kk.more.length+1) cc∧ww.ownsRow w.heap.size 103 2 (.slice a (D.length+kk.more.length+1) cc) (D.length+kk.more.length+1) (az (D++(kk.more++[(ds,oG)]))) | _=>True) (fun ww=>uQ w.heap.size w EX (.slice da D.length dc) ww) (fun jq ww aR=>(jq≠5→jq≠10→jq≠14→Below ww.heap.size ww aR)∧(jq=5→wC w.heap.size 115 1 (.slice va V.length vc) ww aR)∧(jq=10→wC w.heap.size 103 2 (.slice da D.length dc) ww aR)∧(jq=14→Fu w.heap.size 103 2 ww aR)) Tryz.mixed (by decide+kernel) HGS.o.drew (fun u=>match u with | 0=>HV.o | _+1=>HD.o) ?_ (fun jq ww aR u hk h hR=>match u,hk,h with | 0,hk,h=>(by obtain⟨css,h1,h2⟩:=h;refine ⟨css,h1, ?_⟩;by_cases e:jq=10;exact (hR.2.2.1 e).other h2 (by decide);by_cases e2:jq=14;exact (hR.2.2.2 e2).other h2 (by decide);exact aI h2 (hR.1 (by simpa using hk) e e2)) | _+1,hk,h=>(by by_cases e:jq=5;exact (hR.2.1 e).other h (by decide);by_cases e2:jq=14;(subst e2;exact absurd hk (by simp));exact aI h (hR.1 e (by intro e3;subst e3;exact hk (by simp)) e2))) ?_ ?_
    ·intro q r v w w' hne hk hlt h hR;match r,hk,hlt,h,hne with
     | 0,_,_,h,_=>exact h
     | 1,_,_,h,_=>exact h
     | 2,_,_,h,_=>exact h
     | 3,_,_,h,_=>exact h
     | 4,hk,hlt,h,hne=>
      by_cases h5:q=5
      ·exact absurd h5 (by intro e;subst e;first | exact absurd hlt (by decide+kernel) | exact absurd rfl hne | simp at hk)
      by_cases h10:q=10
      ·exact(let ⟨g,h1,h2⟩:=h;⟨g,h1,((hR.2.2.1 h10).keep h2 (by decide))⟩)
      by_cases pG:q=14
      ·exact(let ⟨g,h1,h2⟩:=h;⟨g,h1,((hR.2.2.2 pG).keep h2 (by decide))⟩)
      have hb:=hR.1 h5 h10 pG;exact(let ⟨g,h1,h2⟩:=h;⟨g,h1,ag hb h2⟩)
     | 5,hk,hlt,h,hne=>
      by_cases h5:q=5
      ·exact absurd h5 (by intro e;subst e;first | exact absurd hlt (by decide+kernel) | exact absurd rfl hne | simp at hk)
      by_cases h10:q=10
      ·exact(let ⟨a,cc,h1,css,h2,h3⟩:=h;⟨a,cc,h1,css,h2,((hR.2.2.1 h10).other h3 (by decide))⟩)
      by_cases pG:q=14
      ·exact(let ⟨a,cc,h1,css,h2,h3⟩:=h;⟨a,cc,h1,css,h2,((hR.2.2.2 pG).other h3 (by decide))⟩)
      have hb:=hR.1 h5 h10 pG;exact(let ⟨a,cc,h1,css,h2,h3⟩:=h;⟨a,cc,h1,css,h2,aI h3 hb⟩)
     | 6,_,_,h,_=>exact h
     | 7,_,_,h,_=>exact h
     | 8,_,_,h,_=>exact h
     | 9,_,_,h,_=>exact h
     | 10,hk,hlt,h,hne=>
      by_cases h5:q=5
      ·exact(let ⟨a,cc,h1,h2⟩:=h;⟨a,cc,h1,((hR.2.1 h5).other h2 (by decide))⟩)
      by_cases h10:q=10
      ·exact absurd h10 (by intro e;subst e;first | exact absurd hlt (by decide+kernel) | exact absurd rfl hne | simp at hk)
      by_cases pG:q=14
      ·exact absurd pG (by intro e;subst e;first | exact absurd hlt (by decide+kernel) | exact absurd rfl hne | simp at hk)
      have hb:=hR.1 h5 h10 pG;exact(let ⟨a,cc,h1,h2⟩:=h;⟨a,cc,h1,aI h2 hb⟩)
     | 11,_,_,h,_=>exact h
     | 12,_,_,h,_=>exact h
     | 13,hk,hlt,h,hne=>
      by_cases h5:q=5
      ·exact(let ⟨g,h1,h2,h3⟩:=h;⟨g,h1,((hR.2.1 h5).keep h2 (by decide)),h3⟩)
      by_cases h10:q=10
      ·exact(let ⟨g,h1,h2,h3⟩:=h;⟨g,h1,((hR.2.2.1 h10).apart h2 h3),h3⟩)
      by_cases pG:q=14
      ·exact absurd pG (by intro e;subst e;first | exact absurd hlt (by decide+kernel) | exact absurd rfl hne | simp at hk)
      have hb:=hR.1 h5 h10 pG;exact(let ⟨g,h1,h2,h3⟩:=h;⟨g,h1,ag hb h2,h3⟩)
     | 14,hk,hlt,h,hne=>
      by_cases h5:q=5
      ·exact(let ⟨a,cc,h1,h2⟩:=h;⟨a,cc,h1,((hR.2.1 h5).other h2 (by decide))⟩)
      by_cases h10:q=10
      ·exact absurd h10 (by intro e;subst e;first | exact absurd hlt (by decide+kernel) | exact absurd rfl hne | simp at hk)
      by_cases pG:q=14
      ·exact absurd pG (by intro e;subst e;first | exact absurd hlt (by decide+kernel) | exact absurd rfl hne | simp at hk)
      have hb:=hR.1 h5 h10 pG;exact(let ⟨a,cc,h1,h2⟩:=h;⟨a,cc,h1,aI h2 hb⟩)
     | 15,hk,hlt,h,hne=>
      by_cases h5:q=5
      ·exact absurd h5 (by intro e;subst e;first | exact absurd hlt (by decide+kernel) | exact absurd rfl hne | simp at hk)
      by_cases h10:q=10
      ·exact(let ⟨a,cc,h1,css,h2,h3⟩:=h;⟨a,cc,h1,css,h2,((hR.2.2.1 h10).other h3 (by decide))⟩)
      by_cases pG:q=14
      ·exact(let ⟨a,cc,h1,css,h2,h3⟩:=h;⟨a,cc,h1,css,h2,((hR.2.2.2 pG).other h3 (by decide))⟩)
      have hb:=hR.1 h5 h10 pG;exact(let ⟨a,cc,h1,css,h2,h3⟩:=h;⟨a,cc,h1,css,h2,aI h3 hb⟩)
     | 16,hk,hlt,h,hne=>
      by_cases h5:q=5
      ·exact(let ⟨a,cc,h1,h2⟩:=h;⟨a,cc,h1,((hR.2.1 h5).other h2 (by decide))⟩)
      by_cases h10:q=10
      ·exact absurd h10 (by intro e;subst e;first | exact absurd hlt (by decide+kernel) | exact absurd rfl hne | simp at hk)
      by_cases pG:q=14
      ·exact absurd pG (by intro e;subst e;first | exact absurd hlt (by decide+kernel) | exact absurd rfl hne | simp at hk)
      have hb:=hR.1 h5 h10 pG;exact(let ⟨a,cc,h1,h2⟩:=h;⟨a,cc,h1,aI h2 hb⟩)
     | _+17,_,_,_,_=>trivial
    ·refine⟨?_, ?_, ?_, ?_, ?_, ?_, ?_, ?_, ?_, ?_, ?_, ?_, ?_, ?_, ?_, ?_, ?_,trivial⟩
     ·intro x wx hG;have f7:=hG.o 7;replace hG:=hG.g;go_wp2;exact⟨_,rfl,rfl,hG,⟨fun _ _ _=>br,fun h=>zd h,fun h=>zd h,fun h=>zd h⟩⟩
     ·intro x wx hG;have f10:=hG.o 10;replace hG:=hG.g;go_wp2;exact⟨_,rfl,rfl,hG,⟨fun _ _ _=>br,fun h=>zd h,fun h=>zd h,fun h=>zd h⟩⟩
     ·intro x wx hG;have g1:=gr 29 (hG.c 1 _ rfl);replace hG:=hG.g;go_wp2;exact⟨_,rfl,rfl,hG,⟨fun _ _ _=>br,fun h=>zd h,fun h=>zd h,fun h=>zd h⟩⟩
     ·intro x wx hG;have g2:=gr 30 (hG.c 2 _ rfl);replace hG:=hG.g;have hbk:=HEX.o _ hG;have c6:=cq 6 hbk rfl;have hbl:=ai hbk;clear hbk;go_wp2;exact⟨_,rfl,rfl,hG,⟨fun _ _ _=>br,fun h=>zd h,fun h=>zd h,fun h=>zd h⟩⟩
     ·intro x wx hG;have⟨g3,qF⟩:=gs 31 (hG.c 3 _ rfl);replace hG:=hG.g;go_wp2;exact⟨_,rfl,⟨_,rfl,au _ _ _ _ rfl⟩,hG.alloc (Nat.le_refl _) _,⟨fun _ _ _=>aG _,fun h=>zd h,fun h=>zd h,fun h=>zd h⟩⟩
     ·intro x wx hG;have g0:=gr 28 (hG.c 0 _ rfl);have g4: ∃g,(x.tmps.getD 32 undef)= .slice (some ⟨g,0,none⟩) 1 1∧wx.heap[g]? =some (Obj.cells #[.slice ua kk.vec.length uc] 115 (0,0)):=hG.c 4 _ rfl;have hp0:=hG.p 0;replace hG:=hG.g;obtain⟨g9,hg1,hg2⟩:=g4;obtain⟨css,hp1,hp2⟩:=hp0;have hz:=g0;have hzb:=hz;rw[Array.getD_eq_getD_getElem?] at hzb;have TF:=hg1;rw[Array.getD_eq_getD_getElem?] at TF;have H9:=jD (show wx.ownsRow w.heap.size 115 1 (.slice va V.length vc) V.length css.flatten from hp2);have HE:=jD hp1;have HC:=jD (show aF wx (.slice (some ⟨g9,0,none⟩) 1 1) 1 [.slice ua kk.vec.length uc] from aF.mk (Nat.le_refl _) (by decide) (ai hg2) (fun j z hj=>by rw[Nat.zero_add];exact aD hg2 (by simpa using hj)));have HG:=jD hG;have hbs:=hG.aW.size;clear hp1 hp2 hg2;go_wp2_with (at_builtin;refine bM rfl (.tmp 28) (.tmp 32) 227 rfl w.heap.size 115 (.slice none 0 0) 1 24 Tryz.underlying227 afz.info rfl (by decide) (.slice va V.length vc) V.length _ hz H9.o (.slice (some ⟨g9,0,none⟩) 1 1) 1 _ hg1 HC.o rfl (by intro u hu;simp only[List.mem_singleton] at hu;subst hu;rfl) hbs (by unfold maxLen;omega) (by omega) ?_)
      intro v' wq ho hgr;obtain⟨qa,qc,hq⟩:=ay ho;subst hq;have HO:=jD ho;have kY:=jD hgr;have HA:=jD (show wC w.heap.size 115 1 (.slice va V.length vc) wx wq from⟨_,_,H9.o,hgr⟩);clear ho hgr;go_wp2;exact⟨_,rfl,⟨_,_,rfl,⟨css++[[.slice ua kk.vec.length uc]],HE.o.append (Els.single ⟨_,rfl,Ae.o.vec⟩),by rw[List.length_append,List.flatten_append];exact HO.o⟩⟩,HG.o.app (Nat.le_refl _) (.inl rfl) H9.o kY.o,⟨fun h _ _=>absurd rfl h,fun _=>HA.o,fun h=>zd h,fun h=>zd h⟩⟩
     ·intro x wx hG;have f8:=hG.o 8;replace hG:=hG.g;go_wp2;exact⟨_,rfl,rfl,hG,⟨fun _ _ _=>br,fun h=>zd h,fun h=>zd h,fun h=>zd h⟩⟩
     ·intro x wx hG;have f10:=hG.o 10;replace hG:=hG.g;go_wp2;exact⟨_,rfl,rfl,hG,⟨fun _ _ _=>br,fun h=>zd h,fun h=>zd h,fun h=>zd h⟩⟩
     ·intro x wx hG;have g7:=gr 35 (hG.c 7 _ rfl);replace hG:=hG.g;go_wp2;exact⟨_,rfl,rfl,hG,⟨fun _ _ _=>br,fun h=>zd h,fun h=>zd h,fun h=>zd h⟩⟩
     ·intro x wx hG;have g8:=gr 36 (hG.c 8 _ rfl);replace hG:=hG.g;have hbk:=HEX.o _ hG;have c7:=cq 7 hbk rfl;have hbl:=ai hbk;clear hbk;go_wp2;exact⟨_,rfl,rfl,hG,⟨fun _ _ _=>br,fun h=>zd h,fun h=>zd h,fun h=>zd h⟩⟩
     ·intro x wx hG;have g6:=gr 34 (hG.c 6 _ rfl);have g9:=gr 37 (hG.c 9 _ rfl);have hp1:=hG.p 1;replace hG:=hG.g;have hz:=g6;have hzb:=hz;rw[Array.getD_eq_getD_getElem?] at hzb;have zy:=gd g9;have H9:=jD hp1;have HC:=jD (show aF wx (.slice xa kk.more.length xc) kk.more.length (az kk.more) from Ae.o.more.below (hG.aW));have HG:=jD hG;have hbs:=hG.aW.size;clear hp1;go_wp2_with (at_builtin;refine bM rfl (.tmp 34) (.tmp 37) 116 rfl w.heap.size 103 _ 2 16 Tryz.underlying116 K2.info rfl (by decide) (.slice da D.length dc) D.length _ hz H9.o (.slice xa kk.more.length xc) kk.more.length _ g9 HC.o (cC _) (kM _) hbs (by unfold maxLen;omega) (by omega) ?_)
      intro v' wq ho hgr;obtain⟨qa,qc,hq⟩:=ay ho;subst hq;have HO:=jD ho;have kY:=jD hgr;have HA:=jD (show wC w.heap.size 103 2 (.slice da D.length dc) wx wq from⟨_,_,H9.o,hgr⟩);clear ho hgr;go_wp2;exact⟨_,rfl,⟨_,_,rfl,by rw[fC];exact HO.o⟩,HG.o.app (Nat.le_refl _) (.inr rfl) H9.o kY.o,⟨fun _ h _=>absurd rfl h,fun h=>zd h,fun _=>HA.o,fun h=>zd h⟩⟩
     ·intro x wx hG;have f10:=hG.o 10;replace hG:=hG.g;go_wp2;exact⟨_,rfl,rfl,hG,⟨fun _ _ _=>br,fun h=>zd h,fun h=>zd h,fun h=>zd h⟩⟩
     ·intro x wx hG;have g11:=gr 39 (hG.c 11 _ rfl);replace hG:=hG.g;have hbk:=HEX.o _ hG;have c1:=cq 1 hbk rfl;have c2:=cq 2 hbk rfl;have hbl:=ai hbk;clear hbk;go_wp2;exact⟨_,rfl,rfl,hG,⟨fun _ _ _=>br,fun h=>zd h,fun h=>zd h,fun h=>zd h⟩⟩
     ·intro x wx hG;have⟨g12,ET⟩:=gs 40 (hG.c 12 _ rfl);replace hG:=hG.g;go_wp2;exact⟨_,rfl,⟨_,rfl,au _ _ _ _ rfl,fun e=>by have:=hG.low _ e;omega⟩,hG.alloc (Nat.le_refl _) _,⟨fun _ _ _=>aG _,fun h=>zd h,fun h=>zd h,fun h=>zd h⟩⟩
     ·intro x wx hG;have g10: ∃a cc,(x.tmps.getD 38 undef)= .slice a (D.length+kk.more.length) cc∧wx.ownsRow w.heap.size 103 2 (.slice a (D.length+kk.more.length) cc) (D.length+kk.more.length) (az (D++kk.more)):=hG.c 10 _ rfl;have g13: ∃g,(x.tmps.getD 41 undef)= .slice (some ⟨g,0,none⟩) 1 1∧wx.heap[g]? =some (Obj.cells #[.int .i64 ds, .int .i64 oG] 103 (0,0))∧((.slice da D.length dc):Value).ownBlock≠some g:=hG.c 13 _ rfl;replace hG:=hG.g;obtain⟨za,zc,hz,h9⟩:=g10;have hzb:=hz;rw[Array.getD_eq_getD_getElem?] at hzb;obtain⟨g9,hg1,hg2, -⟩:=g13;have TF:=hg1;rw[Array.getD_eq_getD_getElem?] at TF;have H9:=jD h9;have HC:=jD (show aF wx (.slice (some ⟨g9,0,none⟩) 1 1) 1 [.int .i64 ds, .int .i64 oG] from aF.mk (Nat.le_refl _) (by decide) (ai hg2) (fun j z hj=>by rw[Nat.zero_add];exact aD hg2 (by simpa using hj)));have HG:=jD hG;have hbs:=hG.aW.size;clear h9 hg2;go_wp2_with (at_builtin;refine bM rfl (.tmp 38) (.tmp 41) 116 rfl w.heap.size 103 _ 2 16 Tryz.underlying116 K2.info rfl (by decide) (.slice za (D.length+kk.more.length) zc) (D.length+kk.more.length) _ hz H9.o (.slice (some ⟨g9,0,none⟩) 1 1) 1 _ hg1 HC.o rfl (by intro u hu;simp at hu;rcases hu with rfl | rfl <;> rfl) hbs (by unfold maxLen;omega) (by omega) ?_)
      intro v' wq ho hgr;obtain⟨qa,qc,hq⟩:=ay ho;subst hq;have HO:=jD ho;have kY:=jD hgr;have HA:=jD (show Fu w.heap.size 103 2 wx wq from⟨_,_,_,H9.o,hgr⟩);clear ho hgr;go_wp2;exact⟨_,rfl,⟨_,_,rfl,by rw[←List.append_assoc,fC];exact HO.o⟩,HG.o.app (Nat.le_refl _) (.inr rfl) H9.o kY.o,⟨fun _ _ h=>absurd rfl h,fun h=>zd h,fun h=>zd h,fun _=>HA.o⟩⟩
     ·intro x wx hG;have g5: ∃a cc,(x.tmps.getD 33 undef)= .slice a (V.length+1) cc∧b9 sP w wx w.heap.size 115 (.slice a (V.length+1) cc) (V++[kk.vec]):=hG.c 5 _ rfl;replace hG:=hG.g;obtain⟨za,zc,hz,h9⟩:=g5;have H9:=jD h9;clear h9;go_wp2;exact⟨_,rfl,⟨_,_,rfl,H9.o⟩,hG,⟨fun _ _ _=>br,fun h=>zd h,fun h=>zd h,fun h=>zd h⟩⟩
     ·intro x wx hG;have g14: ∃a cc,(x.tmps.getD 42 undef)= .slice a (D.length+kk.more.length+1) cc∧wx.ownsRow w.heap.size 103 2 (.slice a (D.length+kk.more.length+1) cc) (D.length+kk.more.length+1) (az (D++(kk.more++[(ds,oG)]))):=hG.c 14 _ rfl;replace hG:=hG.g;obtain⟨za,zc,hz,h9⟩:=g14;have H9:=jD h9;clear h9;go_wp2;exact⟨_,rfl,⟨_,_,rfl,H9.o⟩,hG,⟨fun _ _ _=>br,fun h=>zd h,fun h=>zd h,fun h=>zd h⟩⟩
    ·intro af w3 hg hF;obtain⟨g0,g1,g2,g3,g4,g5,g6,g7,g8,g9,g10,g11,g12,g13,g14,g15,g16, -⟩:=hF;replace g15: ∃a cc,(af 15)= .slice a (V.length+1) cc∧b9 sP w w3 w.heap.size 115 (.slice a (V.length+1) cc) (V++[kk.vec]):=g15 rfl;replace g16: ∃a cc,(af 16)= .slice a (D.length+kk.more.length+1) cc∧w3.ownsRow w.heap.size 103 2 (.slice a (D.length+kk.more.length+1) cc) (D.length+kk.more.length+1) (az (D++(kk.more++[(ds,oG)]))):=g16 rfl;simp only[Cl3.puts,gq (af 0) g0,gq (af 1) g1,gq (af 2) g2,gq (af 3) g3,gq (af 6) g6,gq (af 7) g7,gq (af 8) g8,gq (af 9) g9,gq (af 11) g11,gq (af 12) g12];clear g0 g1 g2 g3 g4 g5 g6 g7 g8 g9 g10 g11 g12 g13 g14;go_simp
     generalize af 15=vv2 at*;generalize af 16=dv2 at*;obtain⟨a8,c8,rfl,h8⟩:=g15;obtain⟨a9,c9,rfl,h9⟩:=g16;have H8:=jD h8;have H9:=jD h9;have kZ:=jD hg;clear h8 h9 hg;go_wp2;go_roundw
     case rel=>exact ⟨k+1,by omega,by go_num,by rw[HN.o];exact ⟨sJ.o _ kZ.o,by rw[HVM.o];exact H8.o,by rw[HDM.o,List.length_append,List.length_append,←Nat.add_assoc];exact H9.o,kZ.o.aW⟩⟩
     case measure=>simp [intOf] <;> omega
  ·obtain rfl:k=l.length:=by omega
   rw[List.take_length] at HS;have hks: ∀v∈ir l id,dz v:=fun v hv=>Bn.o.ok v (List.mem_filter.1 hv).1;have h1:(ir l id).length≤60:=Nat.le_trans (List.length_filter_le _ _) Bn.o.len;have h2:=F3 (l:=ir l id) fun v hv=>(hks v hv).len;have hm:=PN _ _ ((nR (ir l id)).map Kn.vec) (jh (ir l id)) (xw (ir l id)) wr (HS.o.vec.at_ (Sub.of_below HS.o.aW) (by unfold nR;rw [List.length_map,List.length_map];omega)) (aF.fZ HS.o.dot (by omega)) (TS fun kk hkk=>by obtain⟨v,hv,rfl⟩:=List.mem_map.1 hkk;exact (hks v hv).past) (SS hks) (by omega)
    (fun s c h0 h5 h3 h4=>Ll _ h3)
   have HM:=jD hm;have ot:=jD HS.o.res;have jo:=jD HS.o.aW;have HF:=jD (show cA (xw (ir l id))=nS l id from rfl);have ig:=jD (show kE (nS l id)=if 60 < (nS l id).more.length then 2 else 0 from rfl);have hml:(nS l id).more.length≤5005:=vF _;obtain⟨va,vc,hvv⟩:=HS.o.vec.shape;obtain⟨da,dc,Zp⟩:=ay HS.o.dot;subst hvv Zp;clear hks h1 h2 hm HS jN Bn;rw[HF.o] at HM;clear HF;generalize (nR (ir l id)).map Kn.vec=V at*;generalize jh (ir l id)=D at*;generalize hkf:nS l id=kf at*;have HKF:=jD hkf;clear hkf;go_wp2_with fail
   (with_reducible refine(HM.o).mono ?_);rintro e w3 ⟨u,x,rfl,hko,hb3⟩;obtain⟨B2,bO⟩: ∃B2,B2=w3.heap.size:=⟨_,rfl⟩
   obtain⟨ua,uc,hu⟩:=ay hko.vec;obtain⟨xa,xc,hx⟩:=ay hko.more;subst hu hx;obtain⟨w4,hw4⟩: ∃w4,w4=w3.alloc (.cells #[.slice ua kf.vec.length uc, .slice xa kf.more.length xc] 118):=⟨_,rfl⟩
   have hb4:Below w3.heap.size w3 w4:=by rw[hw4];exact aG _
   have lJ:=jD ((hko.mono jo.o.size).below hb4);have gp:=jD (show w4.heap[B2]? =some (Obj.cells #[.slice ua kf.vec.length uc, .slice xa kf.more.length xc] 118 (0,0)) by rw[hw4];exact au _ _ _ _ bO);have HR:=jD (ag hb4 (ag hb3 ot.o));have aP:=jD (aj (aj jo.o hb3) hb4);have hne:w.heap.size≠B2:=by have:=ai (ag hb3 ot.o);omega
   clear hko hb3 hb4 HM ot jo;have e0:=cq 0 gp.o rfl;have e1:=cq 1 gp.o rfl;have hBl:=ai gp.o;have r0:=cq 0 HR.o rfl;have r1:=cq 1 HR.o rfl;have f0:=fq 0 HR.o;have f1:=fq 1 HR.o;have r8:=ai HR.o;subst hw4;subst bO;by_cases fP:60 < kf.more.length
   ·have H:=jD (show iB l id=2 by rw[HE.o,ig.o,if_pos fP]);have afi:decide ((60:Int) < (kf.more.length:Int))=true:=by rw[decide_eq_true_eq];omega
    clear HE ig;go_wp2;refine bodyPost_ret (v:= .tuple #[.agg #[_,_],_]) (by simp[results,Tryz.results130,go_sem, *];first | exact⟨⟨rfl,rfl⟩,rfl⟩ | exact⟨rfl,rfl⟩ | rfl) rfl ?_;exact⟨_,_,by rw[H.o], .inr ⟨by rw[H.o];decide,rfl,rfl⟩,(aP.o.setCell (by simp) _).setCell (by simp) _⟩
   ·have H:=jD (show iB l id=0 by rw[HE.o,ig.o,if_neg fP]);have afi:decide ((60:Int) < (kf.more.length:Int))=false:=by rw[decide_eq_false_iff_not];omega
    clear HE ig;go_wp2;refine bodyPost_ret (v:= .tuple #[.agg #[_,_],_]) (by simp[results,Tryz.results130,go_sem, *];first | exact⟨⟨rfl,rfl⟩,rfl⟩ | exact⟨rfl,rfl⟩ | rfl) rfl ?_;exact⟨.slice ua kf.vec.length uc, .slice xa kf.more.length xc,by rw[H.o],by rw[HKF.o];exact .inl ⟨H.o,⟨cG (cG lJ.o.vec HR.o (by decide)) (ax HR.o) (by decide),cG (cG lJ.o.more HR.o (by decide)) (ax HR.o) (by decide)⟩⟩,(aP.o.setCell (by simp) _).setCell (by simp) _⟩
end Go.Proofs.YtajgndoiddmbmaaGreatDoor
