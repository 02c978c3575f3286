/- Towards what desk.Run answers. -/
import Derived.Test.YtajgndoiddmbmaaGreatDoorMPure
import Derived.Test.YtajgndoiddmbmaaGreatDoorMClaims
import Derived.Deep.QuietTactic
import Derived.BigQuiet
import Derived.Outline
import Derived.WalkArith
import Derived.Laws.Shifts
namespace Go.Proofs.YtajgndoiddmbmaaGreatDoor
set_option maxRecDepth 100000
set_option maxHeartbeats 40000000
open Go.RowKit
theorem Pz {k:IntKind} {x y:Int} {a b:Bool} (h':x=y) (h:a=b):Ending.returned (.tuple #[.int k x, .bool a])= .returned (.tuple #[.int k y, .bool b]):=by rw[h,h']
def cV (l:List Int):List Value:=l.map (Value.int .i64)
def l9 (w:World) (v:Value) (l:List Int):Prop:=aF w v l.length (cV l)
theorem l9.sub {w w':World} {v:Value} {l:List Int} (h:l9 w v l) (hs:Sub w w'):l9 w' v l:=aF.sub h hs
theorem l9.below {w w':World} {v:Value} {l:List Int} (h:l9 w v l) (hb:Below w.heap.size w w'):l9 w' v l:=aF.below h hb
theorem l9.shape {w:World} {v:Value} {l:List Int} (h:l9 w v l): ∃a cap,v= .slice a l.length cap:=aF.shape h
theorem l9.open_ {w:World} {v:Value} {l:List Int} (h:l9 w v l): ∃a cap,v= .slice a l.length cap∧l.length≤cap∧l.length≤140737488355328∧(a=none→cap=0)∧
  (l=[]∨ ∃b off,a=some ⟨b,off,none⟩∧b < w.heap.size∧ ∀i (h:i < l.length),w.cell? ⟨b,off+i,none⟩=some (.int .i64 l[i])):=by
 obtain⟨a,cap,hv,hn,hm,h0,h⟩:=h;refine⟨a,cap,hv,hn,hm,h0, ?_⟩;rcases h with h | ⟨b,off,ha,hlt,hc⟩
 ·left;simpa [cV] using h
 ·exact .inr ⟨b,off,ha,hlt,fun i hi=>hc _ _ (by simp[cV,hi])⟩
theorem Gc (l:List Int): ∀u∈cV l,u.oneCell'=true:=by
 intro u hu;obtain ⟨z, -,rfl⟩:=List.mem_map.1 hu;rfl
theorem pZ (l:List Int):(cV l).length=l.length:=by simp[cV]
def mg (w:World) (v:Value) (l:dN):Prop:=aF w v l.length (az l)
theorem mg.sub {w w':World} {v:Value} {l:dN} (h:mg w v l) (hs:Sub w w'):mg w' v l:=aF.sub h hs
theorem mg.below {w w':World} {v:Value} {l:dN} (h:mg w v l) (hb:Below w.heap.size w w'):mg w' v l:=aF.below h hb
theorem mg.shape {w:World} {v:Value} {l:dN} (h:mg w v l): ∃a cap,v= .slice a l.length cap:=aF.shape h
theorem mg.open_ {w:World} {v:Value} {l:dN} (h:mg w v l): ∃a cap,v= .slice a l.length cap∧l.length≤cap∧l.length≤140737488355328∧(a=none→cap=0)∧
  (l=[]∨ ∃b off,a=some ⟨b,off,none⟩∧b < w.heap.size∧ ∀i (h:i < l.length),w.cell? ⟨b,off+i*2,none⟩=some (.int .i64 l[i].1)∧w.cell? ⟨b,off+i*2+1,none⟩=some (.int .i64 l[i].2)):=by
 obtain⟨a,cap,hv,hn,hm,h0,h⟩:=h;refine⟨a,cap,hv,hn,hm,h0, ?_⟩;rcases h with h | ⟨b,off,ha,hlt,hc⟩
 ·left;have:=cC l;rw[h] at this;exact List.eq_nil_of_length_eq_zero (by simp at this;omega)
 ·refine .inr ⟨b,off,ha,hlt,fun i hi=> ?_⟩;obtain⟨g1,g2⟩:=kN l i hi;exact⟨hc _ _ g1,by rw[Nat.add_assoc];exact hc _ _ g2⟩
structure dB (w:World) (u v:Value) (k:Kn):Prop where
 vec:l9 w u k.vec
 more:mg w v k.more
theorem dB.sub {w w':World} {u v:Value} {k:Kn} (h:dB w u v k) (hs:Sub w w'):dB w' u v k:=⟨h.vec.sub hs,h.more.sub hs⟩
theorem dB.below {w w':World} {u v:Value} {k:Kn} (h:dB w u v k) (hb:Below w.heap.size w w'):dB w' u v k:=⟨h.vec.below hb,h.more.below hb⟩
theorem Oi (a b:Int) (w:World):Calls Tryz.prog 142 #[.agg #[.int .i64 a, .int .i64 b]] w fun e w'=>e= .returned (.bool (bX (a,b)))∧Below w.heap.size w w':=by
 have H:=jD (show bX (a,b)=(decide (0≤a)&&decide (a < 5)&&decide (1≤b)&&decide (b≤1000)) from rfl);go_enter Tryz.func142,Tryz.ntmps142;go_wp2;all_goals
  go_ret;exact⟨dU (by rw[H.o];simp [*];try omega),aG _⟩
theorem Dz (a b:Int×Int) (w:World) (h1: -1000000≤a.1) (h2:a.1≤1000000) (h3: -1000000≤a.2) (h4:a.2≤1000000) (h5: -1000000≤b.1) (h6:b.1≤1000000) (h7: -1000000≤b.2) (h8:b.2≤1000000):
  Calls Tryz.prog 193 #[.agg #[.int .i64 a.1, .int .i64 a.2], .agg #[.int .i64 b.1, .int .i64 b.2]] w fun e w'=>e= .returned (.int .i64 (iJ a b))∧ ∃o1 o2,w'=(w.alloc o1).alloc o2:=by
 by_cases h:a.1=b.1
 ·have H:=jD (show iJ a b=a.2 - b.2 by unfold iJ;rw [if_pos h]);have h':(a.1 != b.1)=false:=by simp[h]
  clear h;go_enter Tryz.func193,Tryz.ntmps193;go_wp2;go_ret;exact⟨bw H.o.symm,_,_,rfl⟩
 ·have H:=jD (show iJ a b=a.1 - b.1 by unfold iJ;rw [if_neg h]);have h':(a.1 != b.1)=true:=by simpa using h
  clear h;go_enter Tryz.func193,Tryz.ntmps193;go_wp2;go_ret;exact⟨bw H.o.symm,_,_,rfl⟩
theorem Hz (u v:Value) (l:List Int) (s:Int) (w:World) (hs:l9 w u l) (h0:0≤s):
  Calls Tryz.prog 203 #[.agg #[u,v], .int .i64 s] w fun e w'=>e= .returned (.int .i64 (aQ l s))∧Below w.heap.size w w':=by
 obtain⟨a,cap,rfl,hcap,hm, -,hl⟩:=hs.open_;clear hs;obtain⟨j,rfl⟩:=Int.eq_ofNat_of_zero_le h0;by_cases hlt:j < l.length
 ·have H:=jD (show aQ l (j:Int)=l[j] by unfold aQ;rw [Int.toNat_natCast,List.getD_eq_getElem?_getD,List.getElem?_eq_getElem hlt];rfl);rcases hl with rfl | ⟨b,off,rfl,hb,hc⟩
  ·simp at hlt
  have c:=Ii (.cells #[.slice (some ⟨b,off,none⟩) l.length cap,v] 118) (hc j hlt);clear hc;go_enter Tryz.func203,Tryz.ntmps203;go_wp2;go_ret;exact⟨bw H.o.symm,aG _⟩
 ·have H:=jD (show aQ l (j:Int)=0 by unfold aQ;rw [Int.toNat_natCast,List.getD_eq_getElem?_getD,List.getElem?_eq_none (by omega)];rfl);clear hl;go_enter Tryz.func203,Tryz.ntmps203;go_wp2;go_ret;exact⟨bw H.o.symm,aG _⟩
theorem acv: ∀args W,(callFunc 193 args).run Tryz.prog W= .ok (.enter 193 args) W:=fun _ _=>by kernel_rfl
theorem TY {l:dN} {t:Int×Int} {i:Nat} (hs:l.Pairwise gJ) (h1: ∀j (h:j < l.length),j < i→gJ l[j] t) (h2: ∀j (h:j < l.length),i≤j→ ¬gJ l[j] t) (hi:i < l.length):decide (t∈l)=(iJ l[i] t==0):=by
 rw[Bool.eq_iff_iff];simp only[decide_eq_true_eq,beq_iff_eq,QB];constructor
 ·intro hm;obtain⟨j,hj,rfl⟩:=List.getElem_of_mem hm;rcases Nat.lt_trichotomy i j with h | h | h
  ·have a:=List.pairwise_iff_getElem.1 hs i j hi hj h;exact absurd a (h2 i hi (Nat.le_refl _))
  ·subst h;rfl
  ·exact absurd (h1 j hj h) (nY _)
 ·intro e;rw [←e];exact List.getElem_mem hi
theorem TW {l:dN} {t:Int×Int} (h1: ∀j (h:j < l.length),gJ l[j] t):decide (t∈l)=false:=by
 simp only[decide_eq_false_iff_not];intro hm;obtain⟨j,hj,rfl⟩:=List.getElem_of_mem hm;exact nY _ (h1 j hj)
def Dx (l:dN):Prop:= ∀d∈l,(-1000000≤d.1∧d.1≤1000000)∧ -1000000≤d.2∧d.2≤1000000
theorem kC {l:dN} (h: ∀d∈l,bX d=true):Dx l:=fun d hd=>by have:=h d hd;simp only[bX,Bool.and_eq_true,decide_eq_true_eq] at this;omega
theorem dsearch_c (v:Value) (l:dN) (t:Int×Int) (w:World) (hs:mg w v l) (ho:l.Pairwise gJ) (hb:Dx l) (ht:Dx [t]):
  Calls Tryz.prog 204 #[v, .agg #[.int .i64 t.1, .int .i64 t.2], .func (.func 193) #[] #[]] w fun e w'=> ∃i:Nat,e= .returned (.tuple #[.int .i64 i, .bool (decide (t∈l))])∧i≤l.length∧Below w.heap.size w w':=by
 obtain⟨a,cap,rfl,hcap,hm, -,hl⟩:=hs.open_;have pz:=acv;have T0:=ht t (by simp);have HS:=jD ho;have HB:=jD hb;clear hs ho hb ht;go_enter Tryz.func204,Tryz.ntmps204;go_wp2;go_loopw [9,10] (fun x y wr=> ∃i j:Nat,i≤j∧j≤l.length∧x= .int .i64 i∧y= .int .i64 j∧(∀q (h:q < l.length),q < i→gJ l[q] t)∧(∀q (h:q < l.length),j≤q→ ¬gJ l[q] t)∧Below w.heap.size w wr∧
   wr.cell? ⟨w.heap.size,0,none⟩=some (.int .i64 t.1)∧wr.cell? ⟨w.heap.size,1,none⟩=some (.int .i64 t.2)) (fun x y _=>(intOf y).toNat - (intOf x).toNat)
 case atStart=>exact ⟨0,l.length,Nat.zero_le _,Nat.le_refl _,rfl,rfl,fun q _ h=>by omega,fun q h h2=>by omega,aG _,cat _ _ _ 0 _ rfl _ rfl,cat _ _ _ 1 _ rfl _ rfl⟩
 case round=>
  obtain⟨i,j,hij,hj,rfl,rfl,h1,h2,hbl,t0,t1⟩:=hrel;obtain⟨wo,hwo⟩: ∃wo,wo=wr:=⟨_,rfl⟩
  subst hwo;have H1:=jD h1;have H2:=jD h2;clear h1 h2;by_cases hlt:i < j
  ·rcases hl with rfl | ⟨b,off,rfl,hb0,hc⟩
   ·simp at hj;omega
   obtain⟨m,hme⟩: ∃m,m=(i+j) / 2:=⟨_,rfl⟩
   have p5:m < l.length:=by omega
   obtain⟨c1,c2⟩:=hc m p5;replace c1:=(hbl.cell (p:=⟨b,off+m*2,none⟩) hb0).trans c1;replace c2:=(hbl.cell (p:=⟨b,off+m*2+1,none⟩) hb0).trans c2;have C1:=jD c1;have C2:=jD c2;have VS:=jD t0;have VR:=jD t1;have HM:=jD hme;clear hc c1 c2 t0 t1 hme;have Zg:i≤m:=by have:=HM.o;omega
   have hmj:m < j:=by have:=HM.o;omega
   have B0:=HB.o _ (List.getElem_mem p5);go_wp2_with fail
   rw[show((i:Int)+j) / 2=(m:Int) by have:=HM.o;omega];generalize hX:l[m]=X at*;have HX:=jD hX;clear hX;refine Cl.aV 49 rfl [] (fun _=>True) (fun _=>[]) (fun jq v ww=>match jq with | 0=>v= .func (.func 193) #[] #[] | 1=>v= .slice (some ⟨b,off,none⟩) l.length cap | 2=>v= .int .i64 (m:Nat) | 3=>v= .pointer (some ⟨b,off+m*2,none⟩) | 4=>v= .agg #[.int .i64 X.1, .int .i64 X.2] | 5=>v= .agg #[.int .i64 t.1, .int .i64 t.2] | 6=>v= .int .i64 (iJ X t) | 7=>v= .bool (decide (iJ X t < 0)) | _=>True) (fun ww=>Below wo.heap.size wo ww) (fun jq ww aR=>Below ww.heap.size ww aR) Tryz.mixed (by decide+kernel) (br).drew trivial (fun q r v w w' _ _ _ h _=>h) (fun _ _ _ _ _ _=>trivial) ?_ ?_
   ·refine⟨?_, ?_, ?_, ?_, ?_, ?_, ?_, ?_,trivial⟩
    ·intro x wx hG;have f2:=hG.o 2;replace hG:=hG.g;go_wp2;exact⟨_,rfl,rfl,hG,br⟩
    ·intro x wx hG;have f0:=hG.o 0;replace hG:=hG.g;go_wp2;exact⟨_,rfl,rfl,hG,br⟩
    ·intro x wx hG;have f11:=hG.o 11;replace hG:=hG.g;go_wp2;exact⟨_,rfl,rfl,hG,br⟩
    ·intro x wx hG;have g1:=gr 25 (hG.c 1 _ rfl);have g2:=gr 26 (hG.c 2 _ rfl);replace hG:=hG.g;go_wp2;exact⟨_,rfl,rfl,hG,br⟩
    ·intro x wx hG;have g3:=gr 27 (hG.c 3 _ rfl);replace hG:=hG.g;have UB:=ah hG C1.o;have UA:=ah hG C2.o;go_wp2;exact⟨_,rfl,rfl,hG,br⟩
    ·intro x wx hG;have f4:=hG.o 4;replace hG:=hG.g;have acy:=ah hG VS.o;have acw:=ah hG VR.o;go_wp2;exact⟨_,rfl,rfl,hG,br⟩
    ·intro x wx hG;have g0:=gr 24 (hG.c 0 _ rfl);have g4:=gr 28 (hG.c 4 _ rfl);have g5:=gr 29 (hG.c 5 _ rfl);replace hG:=hG.g;go_wp2_with fail
     (with_reducible refine(Dz X t _ B0.1.1 B0.1.2 B0.2.1 B0.2.2 T0.1.1 T0.1.2 T0.2.1 T0.2.2).mono ?_);rintro e wq ⟨rfl,o1,o2,rfl⟩;go_wp2;exact⟨_,rfl,rfl,(hG.alloc hG.size _).alloc (by have:=hG.size;simp;omega) _,(aG _).alloc (by simp) _⟩
    ·intro x wx hG;have g6:=gr 30 (hG.c 6 _ rfl);replace hG:=hG.g;go_wp2;exact⟨_,rfl,rfl,hG,br⟩
   ·intro af w1 hg hF;obtain⟨g0,g1,g2,g3,g4,g5,g6,g7, -⟩:=hF;simp only[Cl3.puts,gq (af 0) g0,gq (af 1) g1,gq (af 2) g2,gq (af 3) g3,gq (af 4) g4,gq (af 5) g5,gq (af 6) g6,gq (af 7) g7];clear g0 g1 g2 g3 g4 g5 g6 g7;go_simp
    have cQ:=aj hbl hg;have t0:=ah hg VS.o;have t1:=ah hg VR.o;clear hg;cases hd:decide (iJ X t < 0)
    ·have HD:=jD (show ¬gJ X t from by rw[←AR];simpa using hd);clear hd;go_wp2;go_roundw
     case rel=>
      refine⟨i,m,Zg,by omega,rfl,rfl,H1.o,fun q h h2=> ?_,cQ,t0,t1⟩;rcases Nat.lt_or_eq_of_le h2 with h3 | rfl
      ·intro h4;have h5:=List.pairwise_iff_getElem.1 HS.o m q p5 h h3;rw[HX.o] at h5;exact HD.o (sx h5 h4)
      ·rw[HX.o];exact HD.o
     case measure=>simp [intOf];omega
    ·have HD:=jD (show gJ X t from by rw[←AR];simpa using hd);clear hd;go_wp2;go_roundw
     case rel=>
      refine⟨m+1,j,by omega,hj,by go_num,rfl,fun q h h2=> ?_,H2.o,cQ,t0,t1⟩;rcases Nat.lt_or_eq_of_le (Nat.le_of_lt_succ h2) with h3 | rfl
      ·have h5:=List.pairwise_iff_getElem.1 HS.o q m h p5 h3;rw[HX.o] at h5;exact sx h5 HD.o
      ·rw[HX.o];exact HD.o
     case measure=>simp [intOf];omega
  ·obtain rfl:i=j:=by omega
   have VS:=jD t0;have VR:=jD t1;clear t0 t1;by_cases hin:i < l.length
   ·rcases hl with rfl | ⟨b,off,rfl,hb0,hc⟩
    ·simp at hin
    obtain⟨c1,c2⟩:=hc i hin;replace c1:=(hbl.cell (p:=⟨b,off+i*2,none⟩) hb0).trans c1;replace c2:=(hbl.cell (p:=⟨b,off+i*2+1,none⟩) hb0).trans c2;have C1:=jD c1;have C2:=jD c2;clear hc c1 c2;have B0:=HB.o _ (List.getElem_mem hin);have HF:=jD (TY HS.o H1.o H2.o hin);have hdi:decide (i < l.length)=true:=by simpa using hin
    go_wp2_with fail
    generalize hX:l[i]=X at*;clear hX;refine Cl.aV 49 rfl [] (fun _=>True) (fun _=>[]) (fun jq v ww=>match jq with | 0=>v= .int .i64 (i:Nat) | 1=>v= .int .i64 (i:Nat) | 2=>v= .int .i64 (l.length:Nat) | 3=>v= .bool true | 4=>v= .bool true | 5=>v= .func (.func 193) #[] #[] | 6=>v= .slice (some ⟨b,off,none⟩) l.length cap | 7=>v= .int .i64 (i:Nat) | 8=>v= .pointer (some ⟨b,off+i*2,none⟩) | 9=>v= .agg #[.int .i64 X.1, .int .i64 X.2] | 10=>v= .agg #[.int .i64 t.1, .int .i64 t.2] | 11=>v= .int .i64 (iJ X t) | 12=>v= .bool (iJ X t==0) | 13=>v= .bool (iJ X t==0) | 14=>v= .int .i64 (i:Nat) | 15=>v= .bool (iJ X t==0) | _=>True) (fun ww=>Below wo.heap.size wo ww) (fun jq ww aR=>Below ww.heap.size ww aR) Tryz.mixed (by decide+kernel) (br).drew trivial (fun q r v w w' _ _ _ h _=>h) (fun _ _ _ _ _ _=>trivial) ?_ ?_
    ·refine⟨?_, ?_, ?_, ?_, ?_, ?_, ?_, ?_, ?_, ?_, ?_, ?_, ?_, ?_, ?_, ?_,trivial⟩
     ·intro x wx hG;have f9:=hG.o 9;replace hG:=hG.g;go_wp2;exact⟨_,rfl,rfl,hG,br⟩
     ·intro x wx hG;have f9:=hG.o 9;replace hG:=hG.g;go_wp2;exact⟨_,rfl,rfl,hG,br⟩
     ·intro x wx hG;have f8:=hG.o 8;replace hG:=hG.g;go_wp2;exact⟨_,rfl,rfl,hG,br⟩
     ·intro x wx hG;have g1:=gr 36 (hG.c 1 _ rfl);have g2:=gr 37 (hG.c 2 _ rfl);replace hG:=hG.g;go_wp2;exact⟨_,rfl,rfl,hG,br⟩
     ·intro x wx hG;have g3:=gr 38 (hG.c 3 _ rfl);replace hG:=hG.g;go_wp2;exact⟨_,rfl,rfl,hG,br⟩
     ·intro x wx hG;have f2:=hG.o 2;have gg:=gr 39 (hG.c 4 _ rfl);replace gg:=hG.q gg;replace hG:=hG.g;go_wp2;exact⟨_,rfl,rfl,hG,br⟩
     ·intro x wx hG;have f0:=hG.o 0;have gg:=gr 39 (hG.c 4 _ rfl);replace gg:=hG.q gg;replace hG:=hG.g;go_wp2;exact⟨_,rfl,rfl,hG,br⟩
     ·intro x wx hG;have f9:=hG.o 9;have gg:=gr 39 (hG.c 4 _ rfl);replace gg:=hG.q gg;replace hG:=hG.g;go_wp2;exact⟨_,rfl,rfl,hG,br⟩
     ·intro x wx hG;have g6:=gr 41 (hG.c 6 _ rfl);have g7:=gr 42 (hG.c 7 _ rfl);have gg:=gr 39 (hG.c 4 _ rfl);replace gg:=hG.q gg;replace hG:=hG.g;go_wp2;exact⟨_,rfl,rfl,hG,br⟩
     ·intro x wx hG;have g8:=gr 43 (hG.c 8 _ rfl);have gg:=gr 39 (hG.c 4 _ rfl);replace gg:=hG.q gg;replace hG:=hG.g;have UB:=ah hG C1.o;have UA:=ah hG C2.o;go_wp2;exact⟨_,rfl,rfl,hG,br⟩
     ·intro x wx hG;have f4:=hG.o 4;have gg:=gr 39 (hG.c 4 _ rfl);replace gg:=hG.q gg;replace hG:=hG.g;have acy:=ah hG VS.o;have acw:=ah hG VR.o;go_wp2;exact⟨_,rfl,rfl,hG,br⟩
     ·intro x wx hG;have g5:=gr 40 (hG.c 5 _ rfl);have g9:=gr 44 (hG.c 9 _ rfl);have g10:=gr 45 (hG.c 10 _ rfl);have gg:=gr 39 (hG.c 4 _ rfl);replace gg:=hG.q gg;replace hG:=hG.g;go_wp2_with fail
      (with_reducible refine(Dz X t _ B0.1.1 B0.1.2 B0.2.1 B0.2.2 T0.1.1 T0.1.2 T0.2.1 T0.2.2).mono ?_);rintro e wq ⟨rfl,o1,o2,rfl⟩;go_wp2;exact⟨_,rfl,rfl,(hG.alloc hG.size _).alloc (by have:=hG.size;simp;omega) _,(aG _).alloc (by simp) _⟩
     ·intro x wx hG;have g11:=gr 46 (hG.c 11 _ rfl);have gg:=gr 39 (hG.c 4 _ rfl);replace gg:=hG.q gg;replace hG:=hG.g;go_wp2;exact⟨_,rfl,rfl,hG,br⟩
     ·intro x wx hG;have g4:=gr 39 (hG.c 4 _ rfl);have g12:=gr 47 (hG.c 12 _ rfl);replace hG:=hG.g;go_wp2;exact⟨_,rfl,rfl,hG,br⟩
     ·intro x wx hG;have g0:=gr 35 (hG.c 0 _ rfl);replace hG:=hG.g;go_wp2;exact⟨_,rfl,rfl,hG,br⟩
     ·intro x wx hG;have g13:=gr 48 (hG.c 13 _ rfl);replace hG:=hG.g;go_wp2;exact⟨_,rfl,rfl,hG,br⟩
    ·intro af w1 hg hF;obtain⟨g0,g1,g2,g3,g4,g5,g6,g7,g8,g9,g10,g11,g12,g13,g14,g15, -⟩:=hF;simp only[Cl3.puts,gq (af 0) g0,gq (af 1) g1,gq (af 2) g2,gq (af 3) g3,gq (af 4) g4,gq (af 5) g5,gq (af 6) g6,gq (af 7) g7,gq (af 8) g8,gq (af 9) g9,gq (af 10) g10,gq (af 11) g11,gq (af 12) g12,gq (af 13) g13,gq (af 14) g14,gq (af 15) g15];clear g0 g1 g2 g3 g4 g5 g6 g7 g8 g9 g10 g11 g12 g13 g14 g15;go_simp
     have cQ:=aj hbl hg;clear hg;go_wp2;go_ret2;exact⟨i,Pz rfl HF.o.symm,by omega,cQ⟩
   ·have hdi:decide (i < l.length)=false:=by simpa using hin
    have HF:=jD (TW (l:=l) (t:=t) fun q h=>H1.o q h (by omega));have hw2:=jD hl;clear hl;go_wp2_with fail
    refine Cl.aV 49 rfl [] (fun _=>True) (fun _=>[]) (fun jq v ww=>match jq with | 0=>v= .int .i64 (i:Nat) | 1=>v= .int .i64 (i:Nat) | 2=>v= .int .i64 (l.length:Nat) | 3=>v= .bool false | 4=>v= .bool false | 5=>v=undef | 6=>v=undef | 7=>v=undef | 8=>v=undef | 9=>v=undef | 10=>v=undef | 11=>v=undef | 12=>v=undef | 13=>v= .bool false | 14=>v= .int .i64 (i:Nat) | 15=>v= .bool false | _=>True) (fun ww=>Below wo.heap.size wo ww) (fun jq ww aR=>Below ww.heap.size ww aR) Tryz.mixed (by decide+kernel) (br).drew trivial (fun q r v w w' _ _ _ h _=>h) (fun _ _ _ _ _ _=>trivial) ?_ ?_
    ·refine⟨?_, ?_, ?_, ?_, ?_, ?_, ?_, ?_, ?_, ?_, ?_, ?_, ?_, ?_, ?_, ?_,trivial⟩
     ·intro x wx hG;have f9:=hG.o 9;replace hG:=hG.g;go_wp2;exact⟨_,rfl,rfl,hG,br⟩
     ·intro x wx hG;have f9:=hG.o 9;replace hG:=hG.g;go_wp2;exact⟨_,rfl,rfl,hG,br⟩
     ·intro x wx hG;have f8:=hG.o 8;replace hG:=hG.g;go_wp2;exact⟨_,rfl,rfl,hG,br⟩
     ·intro x wx hG;have g1:=gr 36 (hG.c 1 _ rfl);have g2:=gr 37 (hG.c 2 _ rfl);replace hG:=hG.g;go_wp2;exact⟨_,rfl,rfl,hG,br⟩
     ·intro x wx hG;have g3:=gr 38 (hG.c 3 _ rfl);replace hG:=hG.g;go_wp2;exact⟨_,rfl,rfl,hG,br⟩
     ·intro x wx hG;have gg:=gr 39 (hG.c 4 _ rfl);replace gg:=hG.q gg;replace hG:=hG.g;go_wp2;exact⟨_,rfl,rfl,hG,br⟩
     ·intro x wx hG;have gg:=gr 39 (hG.c 4 _ rfl);replace gg:=hG.q gg;replace hG:=hG.g;go_wp2;exact⟨_,rfl,rfl,hG,br⟩
     ·intro x wx hG;have gg:=gr 39 (hG.c 4 _ rfl);replace gg:=hG.q gg;replace hG:=hG.g;go_wp2;exact⟨_,rfl,rfl,hG,br⟩
     ·intro x wx hG;have gg:=gr 39 (hG.c 4 _ rfl);replace gg:=hG.q gg;replace hG:=hG.g;go_wp2;exact⟨_,rfl,rfl,hG,br⟩
     ·intro x wx hG;have gg:=gr 39 (hG.c 4 _ rfl);replace gg:=hG.q gg;replace hG:=hG.g;go_wp2;exact⟨_,rfl,rfl,hG,br⟩
     ·intro x wx hG;have gg:=gr 39 (hG.c 4 _ rfl);replace gg:=hG.q gg;replace hG:=hG.g;go_wp2;exact⟨_,rfl,rfl,hG,br⟩
     ·intro x wx hG;have gg:=gr 39 (hG.c 4 _ rfl);replace gg:=hG.q gg;replace hG:=hG.g;go_wp2;exact⟨_,rfl,rfl,hG,br⟩
     ·intro x wx hG;have gg:=gr 39 (hG.c 4 _ rfl);replace gg:=hG.q gg;replace hG:=hG.g;go_wp2;exact⟨_,rfl,rfl,hG,br⟩
     ·intro x wx hG;have g4:=gr 39 (hG.c 4 _ rfl);have g12:=gr 47 (hG.c 12 _ rfl);replace hG:=hG.g;go_wp2;exact⟨_,rfl,rfl,hG,br⟩
     ·intro x wx hG;have g0:=gr 35 (hG.c 0 _ rfl);replace hG:=hG.g;go_wp2;exact⟨_,rfl,rfl,hG,br⟩
     ·intro x wx hG;have g13:=gr 48 (hG.c 13 _ rfl);replace hG:=hG.g;go_wp2;exact⟨_,rfl,rfl,hG,br⟩
    ·intro af w1 hg hF;obtain⟨g0,g1,g2,g3,g4,g5,g6,g7,g8,g9,g10,g11,g12,g13,g14,g15, -⟩:=hF;simp only[Cl3.puts,gq (af 0) g0,gq (af 1) g1,gq (af 2) g2,gq (af 3) g3,gq (af 4) g4,gq (af 5) g5,gq (af 6) g6,gq (af 7) g7,gq (af 8) g8,gq (af 9) g9,gq (af 10) g10,gq (af 11) g11,gq (af 12) g12,gq (af 13) g13,gq (af 14) g14,gq (af 15) g15];clear g0 g1 g2 g3 g4 g5 g6 g7 g8 g9 g10 g11 g12 g13 g14 g15;go_simp
     have cQ:=aj hbl hg;clear hg;go_wp2;go_ret2;exact⟨i,Pz rfl HF.o.symm,by omega,cQ⟩
end Go.Proofs.YtajgndoiddmbmaaGreatDoor
