/- Towards what desk.Run answers. -/
import Derived.Test.YtajgndoiddmbmaaGreatDoorMShelf1
namespace Go.Proofs.YtajgndoiddmbmaaGreatDoor
set_option maxRecDepth 100000
set_option maxHeartbeats 40000000
open Go.RowKit
def stepC (l:List aA) (i:Nat):Int:=match l[i]? with
 | some v=>if bC v≠0 then bC v else match i,l[i - 1]? with
  | 0,_=>0
  | _+1,some u=>if 0≤bJ u v then 3 else 0
  | _+1,none=>0
 | none=>0
def ordC (l:List aA):Nat→Int
 | 0=>0
 | k+1=>if ordC l k=0 then stepC l k else ordC l k
theorem F7 {l:List aA} {i n:Nat} (h:ordC l i=0) (hs:stepC l i≠0) (hn:i < n):ordC l n=stepC l i:=by
 obtain⟨d,rfl⟩: ∃d,n=i+1+d:=⟨n - (i+1),by omega⟩
 induction d with
 | zero=>show ordC l (i+1)=_;unfold ordC;rw [if_pos h]
 | succ d ih=>
  have:=ih (by omega);show ordC l (i+1+d+1)=_;unfold ordC;rw[this,if_neg hs]
theorem F8 {l:List aA} {i:Nat} (h:ordC l i=0) (hs:stepC l i=0):ordC l (i+1)=0:=by unfold ordC;rw [if_pos h,hs]
theorem xx {l:List aA} : ∀ {n:Nat},ordC l n=0→ ∀i,i < n→stepC l i=0
 | n+1,h,i,hi=>by
  unfold ordC at h;by_cases h0:ordC l n=0
  ·rw[if_pos h0] at h;by_cases e:i=n
   ·rw[e];exact h
   ·exact xx h0 i (by omega)
  ·rw[if_neg h0] at h;exact absurd h h0
theorem FP {l:List aA} {i:Nat} (hi:i < l.length) (h:bC l[i]≠0):stepC l i=bC l[i]:=by
 unfold stepC;rw [List.getElem?_eq_getElem hi];simp only;rw [if_pos h]
theorem CK {l:List aA} (hi:0 < l.length) (h:bC l[0]=0):stepC l 0=0:=by
 unfold stepC;rw [List.getElem?_eq_getElem hi];simp only;rw [if_neg (by rw[h];decide)]
theorem xe {l:List aA} {k:Nat} (hi:k+1 < l.length) (h:bC l[k+1]=0):stepC l (k+1)=if 0≤bJ (l[k]'(by omega)) l[k+1] then 3 else 0:=by
 unfold stepC;rw [List.getElem?_eq_getElem hi];simp only;rw [if_neg (by rw[h];decide),Nat.add_sub_cancel,List.getElem?_eq_getElem (show k < l.length by omega)]
theorem xg {l:List aA} {i:Nat} (hi:i < l.length) (h:stepC l i=0):bC l[i]=0:=by
 by_cases h0:bC l[i]=0
 ·exact h0
 ·rw[FP hi h0] at h;exact absurd h h0
def y8 (l:List aA):Bool:=l.any fun v=>l.any fun w=>cW w v
def bH (l:List aA):Int:=if 60 < l.length then 2 else if ordC l l.length≠0 then ordC l l.length else if y8 l=true then 6 else 0
theorem Z4 (B:Nat) (v:aA) (y z:Value) (w:World) (hB:w.heap[B]? =some (Obj.cells (aN v y z) 120 (0,0))) (hk:dB w y z v.past) (hd:bX (v.ds,v.dc)=true):
  oQ dz 190 #[.pointer (some ⟨B,0,none⟩)] (fun x=>cW x v) w:=by
 refine⟨enters_of Tryz.func190 (by kernel_rfl) rfl,fun a u x W hok hbl ha=> ?_⟩;show Calls Tryz.prog 190 #[.agg (aN a u x), .pointer (some ⟨B,0,none⟩)] W _;have HB:=jD (ag hbl hB);have HK:=jD (hk.below hbl);clear hbl hB hk;obtain⟨xa,ca,rfl⟩:=ha.vec.shape;obtain⟨ya,da,rfl⟩:=ha.more.shape;obtain⟨xb,cb,zo⟩:=HK.o.vec.shape;obtain⟨yb,db,Jl⟩:=HK.o.more.shape;subst zo Jl;have hbel:=aG (W:=W) (.cells (aN a (.slice xa a.past.vec.length ca) (.slice ya a.past.more.length da)) 120);have HA:=jD (ha.below hbel);have cS:=jD (HK.o.below hbel);have HO:=jD (I4 a v _ _ _ _ _ HA.o cS.o hok.past hd);have bO:=ag hbel HB.o;have c0:=cq 0 bO rfl;have c1:=cq 1 bO rfl;have c2:=cq 2 bO rfl;have c3:=cq 3 bO rfl;have c4:=cq 4 bO rfl;have c5:=cq 5 bO rfl;have c6:=cq 6 bO rfl;have c7:=cq 7 bO rfl;clear ha bO HB HK;unfold aN at*;go_enter Tryz.func190,Tryz.ntmps190;go_wp2_with fail
 (with_reducible refine(HO.o).mono ?_);rintro e w1 ⟨rfl,hb1⟩;replace hbel:=aj hbel hb1;clear hb1 c0 c1 c2 c3 c4 c5 c6 c7 HO;go_wp2;go_ret;exact⟨rfl,hbel⟩
theorem shelfChk_c (vv:Value) (l:List aA) (w:World) (hv:bK eu w vv l):
  Calls Tryz.prog 161 #[vv] w fun e w'=>e= .returned (.int .i64 (bH l))∧Below w.heap.size w w':=by
 obtain⟨a,cap,rfl,hcap,hlen, -,hvl⟩:=hv.open_;by_cases fP:60 < l.length
 ·have H:=jD (show bH l=2 by unfold bH;rw [if_pos fP]);have afp:decide ((60:Int) < (l.length:Int))=true:=by simp;omega
  clear hv hvl;go_enter Tryz.func161,Tryz.ntmps161;go_wp2;go_ret;exact⟨by rw[H.o];rfl,br⟩
 have afp:decide ((60:Int) < (l.length:Int))=false:=by simp;omega
 have H1:=jD (show bH l=if ordC l l.length≠0 then ordC l l.length else if y8 l=true then 6 else 0 by unfold bH;rw [if_neg fP]);have HV:=jD hv;have jN:=jD hvl;clear hv hvl;have TC:l.length≤60:=by omega
 clear fP;go_enter Tryz.func161,Tryz.ntmps161;go_wp2;go_loopw [13] (fun i wr=> ∃k:Nat,k≤l.length∧i= .int .i64 k∧ordC l k=0∧Below w.heap.size w wr) (fun i _=>l.length - (intOf i).toNat)
 case atStart=>exact ⟨0,Nat.zero_le _,rfl,rfl,br⟩
 case round=>
  obtain⟨k,hk,rfl,Zc,hbl⟩:=hrel;have GV:=jD Zc;have aP:=jD hbl;clear Zc hbl;by_cases hlt:k < l.length
  ·rcases jN.o with hnil | ⟨b,off,rfl,hb,hc⟩
   ·rw[hnil] at hlt;simp at hlt
   have hrow:=fun (i:Nat) (hi:i < l.length)=>(show ∃(u x:Value),(∀(j:Nat) (y:Value),(aN l[i] u x).toList[j]? =some y→wr.cell? ⟨b,off+i*8+j,none⟩=some y)∧dB wr u x l[i].past from by
    obtain⟨c,⟨u,x,rfl,hk2⟩,hcc⟩:=hc i hi;exact⟨u,x,fun j y hy=>by rw[Nat.add_assoc];exact (aP.o.cell (p:=⟨b,off+(i*eu.size+j),none⟩) hb).trans (hcc j y hy),hk2.below aP.o⟩)
   have jR:=jD hrow;obtain⟨u,x,hcl,hk2⟩:=hrow k hlt;have c0:=hcl 0 _ rfl;have c1:=hcl 1 _ rfl;have c2:=hcl 2 _ rfl;have c3:=hcl 3 _ rfl;have c4:=hcl 4 _ rfl;have c5:=hcl 5 _ rfl;have c6:=hcl 6 _ rfl;have c7:=hcl 7 _ rfl;rw[Nat.add_zero] at c0;obtain⟨ua,uc,rfl⟩:=hk2.vec.shape;obtain⟨xa,xc,rfl⟩:=hk2.more.shape;have dm:=aG (W:=wr) (.cells (aN l[k] (.slice ua l[k].past.vec.length uc) (.slice xa l[k].past.more.length xc)) 120);have OY:=jD (NH l[k] _ _ _ (hk2.below dm));have cS:=jD (hk2.below dm);have gM:=jD dm;have Bl:=jD (fun h=>FP hlt h);clear hc hrow hcl hk2 dm;generalize hvk:l[k]=v1 at*;have Ko:=jD hvk;clear hvk;unfold aN at*;have lV:decide ((k:Int) < (l.length:Int))=true:=by simp;omega
   go_wp2_with fail
   (with_reducible refine(OY.o).mono ?_);rintro e w1 ⟨rfl,hb1⟩;have cQ:=aj (aj aP.o gM.o) hb1;clear c0 c1 c2 c3 c4 c5 c6 c7 OY;cases hx:(bC v1==0)
   ·have hne:bC v1≠0:=by simpa using hx
    have H:=jD (show bH l=bC v1 by
     have hs:=Bl.o hne;rw[H1.o,F7 GV.o (by rw[hs];exact hne) hlt,hs,if_pos hne])
    have h':(bC v1 != 0)=true:=by simp[bne,hx]
    clear hx hne;go_wp2;go_ret;exact⟨by rw[H.o];rfl,cQ⟩
   have h0:bC v1=0:=by simpa using hx
   have H0:=jD h0;rw[h0];clear hx h0 Bl;rcases k with - | m
   ·have HN:=jD (F8 GV.o (CK hlt (by rw[Ko.o];exact H0.o)));go_wp2;go_quiet (fail);go_wp2;go_roundw
    case rel=>exact ⟨0+1,by omega,by go_num,HN.o,below_drewN cQ _⟩
    case measure=>simp [intOf] <;> omega
   have HST:=jD (xe hlt (by rw[Ko.o];exact H0.o));obtain⟨u2,x2,wh,hk3⟩:=jR.o m (by omega);have mq:=aj gM.o hb1;obtain⟨pa,pc,hp1⟩:=hk3.vec.shape;obtain⟨qa,qc,hp2⟩:=hk3.more.shape;subst hp1 hp2;have D0:=jD (ah mq (wh 0 _ rfl));have D1:=jD (ah mq (wh 1 _ rfl));have D2:=jD (ah mq (wh 2 _ rfl));have D3:=jD (ah mq (wh 3 _ rfl));have D4:=jD (ah mq (wh 4 _ rfl));have D5:=jD (ah mq (wh 5 _ rfl));have D6:=jD (ah mq (wh 6 _ rfl));have D7:=jD (ah mq (wh 7 _ rfl));rw[Nat.add_zero] at D0;have gp:=jD (ag hb1 (au wr _ _ _ rfl));have E0:=jD (cq 0 gp.o rfl);have E1:=jD (cq 1 gp.o rfl);have E2:=jD (cq 2 gp.o rfl);have E3:=jD (cq 3 gp.o rfl);have E4:=jD (cq 4 gp.o rfl);have E5:=jD (cq 5 gp.o rfl);have E6:=jD (cq 6 gp.o rfl);have E7:=jD (cq 7 gp.o rfl);have afN:=jD (gG.1 (xg (show m < l.length by omega) (xx GV.o m (by omega))));have afM:=jD (gG.1 H0.o);have HKM:=jD (hk3.below mq);have HKV:=jD (cS.o.below hb1);have HWL:=jD (ai gp.o);generalize l[m]=u0 at*;unfold aN at*;have Am:=jD (fun w2 hw2=>Ou u0 v1 _ _ _ _ w2 (HKM.o.below hw2) (HKV.o.below hw2) afN.o.dot afM.o.dot);unfold aN at Am;clear wh hk3 hb1 mq cS gp;go_wp2;refine Cl.aV 46 rfl [] (fun _=>True) (fun _=>[]) (fun jq v ww=>match jq with | 0=>v= .int .i64 ((m+1:Nat):Int) | 1=>v= .bool true | 2=>v= .bool true | 3=>v= .slice (some ⟨b,off,none⟩) l.length cap | 4=>v= .int .i64 ((m+1:Nat):Int) | 5=>v= .int .i64 (m:Nat) | 6=>v= .pointer (some ⟨b,off+m*8,none⟩) | 7=>v= .agg #[.string u0.id, .int .i64 u0.ds, .int .i64 u0.dc, .int .i64 u0.tg, .int .i64 u0.nm, .int .i64 u0.bd, .slice pa u0.past.vec.length pc, .slice qa u0.past.more.length qc] | 8=>v= .agg #[.string v1.id, .int .i64 v1.ds, .int .i64 v1.dc, .int .i64 v1.tg, .int .i64 v1.nm, .int .i64 v1.bd, .slice ua v1.past.vec.length uc, .slice xa v1.past.more.length xc] | 9=>v= .int .i64 (bJ u0 v1) | 10=>v= .bool (decide (0≤bJ u0 v1)) | 11=>v= .bool (decide (0≤bJ u0 v1)) | _=>True) (fun ww=>Below w1.heap.size w1 ww) (fun jq ww aR=>Below ww.heap.size ww aR) Tryz.mixed (by decide+kernel) (br).drew trivial (fun q r v w w' _ _ _ h _=>h) (fun _ _ _ _ _ _=>trivial) ?_ ?_
   ·refine⟨?_, ?_, ?_, ?_, ?_, ?_, ?_, ?_, ?_, ?_, ?_, ?_,trivial⟩
    ·intro x wx hG;have f3:=hG.o 3;replace hG:=hG.g;go_wp2;exact⟨_,rfl,rfl,hG,br⟩
    ·intro x wx hG;have g0:=gr 23 (hG.c 0 _ rfl);replace hG:=hG.g;go_wp2;exact⟨_,rfl,rfl,hG,br⟩
    ·intro x wx hG;have g1:=gr 24 (hG.c 1 _ rfl);replace hG:=hG.g;go_wp2;exact⟨_,rfl,rfl,hG,br⟩
    ·intro x wx hG;have f0:=hG.o 0;have gg:=gr 25 (hG.c 2 _ rfl);replace gg:=hG.q gg;replace hG:=hG.g;go_wp2;exact⟨_,rfl,rfl,hG,br⟩
    ·intro x wx hG;have f3:=hG.o 3;have gg:=gr 25 (hG.c 2 _ rfl);replace gg:=hG.q gg;replace hG:=hG.g;go_wp2;exact⟨_,rfl,rfl,hG,br⟩
    ·intro x wx hG;have g4:=gr 27 (hG.c 4 _ rfl);have gg:=gr 25 (hG.c 2 _ rfl);replace gg:=hG.q gg;replace hG:=hG.g;have p5:IntKind.i64.wrap (m:Int)=m:=IntWalk.i64_in _ (by omega);go_wp2;exact⟨_,rfl,rfl,hG,br⟩
    ·intro x wx hG;have g3:=gr 26 (hG.c 3 _ rfl);have g5:=gr 28 (hG.c 5 _ rfl);have gg:=gr 25 (hG.c 2 _ rfl);replace gg:=hG.q gg;replace hG:=hG.g;go_wp2;exact⟨_,rfl,rfl,hG,br⟩
    ·intro x wx hG;have g6:=gr 29 (hG.c 6 _ rfl);have gg:=gr 25 (hG.c 2 _ rfl);replace gg:=hG.q gg;replace hG:=hG.g;have aao:=ah hG D0.o;have aan:=ah hG D1.o;have aam:=ah hG D2.o;have aal:=ah hG D3.o;have aak:=ah hG D4.o;have aaj:=ah hG D5.o;have aai:=ah hG D6.o;have aah:=ah hG D7.o;go_wp2;exact⟨_,rfl,rfl,hG,br⟩
    ·intro x wx hG;have f4:=hG.o 4;have gg:=gr 25 (hG.c 2 _ rfl);replace gg:=hG.q gg;replace hG:=hG.g;have aag:=ah hG E0.o;have aaf:=ah hG E1.o;have aae:=ah hG E2.o;have aad:=ah hG E3.o;have aac:=ah hG E4.o;have aab:=ah hG E5.o;have aaa:=ah hG E6.o;have Z9:=ah hG E7.o;go_wp2;exact⟨_,rfl,rfl,hG,br⟩
    ·intro x wx hG;have g7:=gr 30 (hG.c 7 _ rfl);have g8:=gr 31 (hG.c 8 _ rfl);have gg:=gr 25 (hG.c 2 _ rfl);replace gg:=hG.q gg;replace hG:=hG.g;go_wp2_with fail
     (with_reducible refine(Am.o _ hG).mono ?_);rintro e wq ⟨rfl,hb⟩;go_wp2;exact⟨_,rfl,rfl,aj hG hb,hb⟩
    ·intro x wx hG;have g9:=gr 32 (hG.c 9 _ rfl);have gg:=gr 25 (hG.c 2 _ rfl);replace gg:=hG.q gg;replace hG:=hG.g;go_wp2;exact⟨_,rfl,rfl,hG,br⟩
    ·intro x wx hG;have g2:=gr 25 (hG.c 2 _ rfl);have g10:=gr 33 (hG.c 10 _ rfl);replace hG:=hG.g;go_wp2;exact⟨_,rfl,rfl,hG,br⟩
   ·intro af w2 hg hF;obtain⟨g0,g1,g2,g3,g4,g5,g6,g7,g8,g9,g10,g11, -⟩:=hF;simp only[Cl3.puts,gq (af 0) g0,gq (af 1) g1,gq (af 2) g2,gq (af 3) g3,gq (af 4) g4,gq (af 5) g5,gq (af 6) g6,gq (af 7) g7,gq (af 8) g8,gq (af 9) g9,gq (af 10) g10,gq (af 11) g11];clear g0 g1 g2 g3 g4 g5 g6 g7 g8 g9 g10 g11;go_simp
    have sU:=aj cQ hg;clear hg cQ D0 D1 D2 D3 D4 D5 D6 D7 E0 E1 E2 E3 E4 E5 E6 E7;by_cases hcmp:0≤bJ u0 v1
    ·have H:=jD (show bH l=3 by
      have hs:stepC l (m+1)=3:=by rw[HST.o,Ko.o,if_pos hcmp]
      rw[H1.o,F7 GV.o (by rw[hs];decide) hlt,hs,if_pos (by decide)])
     have h':decide (0≤bJ u0 v1)=true:=by simp[hcmp]
     rw[h'];clear hcmp h';go_wp2;go_ret;exact⟨by rw[H.o];rfl,sU⟩
    ·have HN:=jD (F8 GV.o (show stepC l (m+1)=0 by rw[HST.o,Ko.o,if_neg hcmp]));have h':decide (0≤bJ u0 v1)=false:=by simp;omega
     rw[h'];clear hcmp h';go_wp2;go_roundw
     case rel=>exact ⟨m+1+1,by omega,by go_num,HN.o,sU⟩
     case measure=>simp [intOf] <;> omega
  ·obtain rfl:k=l.length:=by omega
   have H2:=jD (show bH l=if y8 l=true then 6 else 0 by rw[H1.o,GV.o];rfl);have cz:=jD (show ∀v∈l,dz v by
    intro v hv;obtain⟨i,hi,rfl⟩:=List.getElem_of_mem hv;exact gG.1 (xg hi (xx GV.o i hi)))
   clear H1 GV hlt;have hbl:=aP.o;clear aP;go_wp2;go_loopw [38] (fun i wr=> ∃k:Nat,k≤l.length∧i= .int .i64 k∧(∀j (hj:j < l.length),j < k→(l.any fun w=>cW w l[j])=false)∧Below w.heap.size w wr) (fun i _=>l.length - (intOf i).toNat)
   case atStart=>exact ⟨0,Nat.zero_le _,rfl,fun j _ h=>by omega,hbl⟩
   case round=>
    clear hbl;obtain⟨k,hk,rfl,hall,hbl⟩:=hrel;have o6:=jD hall;have aP:=jD hbl;clear hall hbl;by_cases hlt:k < l.length
    ·rcases jN.o with hnil | ⟨b,off,rfl,hb,hc⟩
     ·rw[hnil] at hlt;simp at hlt
     obtain⟨c,⟨u,x,rfl,hk2⟩,hcc⟩:=hc k hlt;have hcl:=fun (j:Nat) (y:Value) (hy:(aN l[k] u x).toList[j]? =some y)=>xo (w:=wr) (b:=b) (off:=off) (i:=k) (fun j y hy=>(aP.o.cell (p:=⟨b,off+(k*eu.size+j),none⟩) hb).trans (hcc j y hy)) hy;have c0:=hcl 0 _ rfl;have c1:=hcl 1 _ rfl;have c2:=hcl 2 _ rfl;have c3:=hcl 3 _ rfl;have c4:=hcl 4 _ rfl;have c5:=hcl 5 _ rfl;have c6:=hcl 6 _ rfl;have c7:=hcl 7 _ rfl;rw[Nat.add_zero] at c0;obtain⟨ua,uc,rfl⟩:=hk2.vec.shape;obtain⟨xa,xc,rfl⟩:=hk2.more.shape;have dm:=aG (W:=wr) (.cells (aN l[k] (.slice ua l[k].past.vec.length uc) (.slice xa l[k].past.more.length xc)) 120);have HPR:=jD (Z4 wr.heap.size l[k] _ _ _ (au wr (aN l[k] (.slice ua l[k].past.vec.length uc) (.slice xa l[k].past.more.length xc)) 120 _ rfl) ((hk2.below aP.o).below dm) (cz.o _ (List.getElem_mem hlt)).dot);have pM:=jD (Bh dz _ l 190 _ _ _ (HV.o.below (aP.o.trans (dm.mono aP.o.size))) cz.o HPR.o);have gM:=jD dm;have qu:=jD (fun (h:(l.any fun w=>cW w l[k])=false) j (hj:j < l.length) (hj2:j < k+1)=>(show(l.any fun w=>cW w l[j])=false by
      by_cases e:j=k
      ·subst e;exact h
      ·exact o6.o j hj (by omega)))
     have Kj:=jD (fun (h:(l.any fun w=>cW w l[k])=true)=>(show y8 l=true by unfold y8;rw [List.any_eq_true];exact ⟨_,List.getElem_mem hlt,h⟩));clear hc hcc hcl hk2 dm HPR;generalize l[k]=v at*;unfold aN at pM gM;have lV:decide ((k:Int) < (l.length:Int))=true:=by simp;omega
     go_wp2_with fail
     refine(pM.o).mono ?_;rintro e w1 ⟨rfl,hb1⟩;have cQ:=aj (aj aP.o gM.o) hb1;clear c0 c1 c2 c3 c4 c5 c6 c7 pM hb1;generalize ER:(l.any fun w=>cW w v)=an at*;clear ER;cases an
     ·have HN:=jD (qu.o rfl);go_wp2;go_roundw
      case rel=>exact ⟨k+1,by omega,by go_num,HN.o,cQ⟩
      case measure=>simp [intOf] <;> omega
     ·have H:=jD (show bH l=6 by rw[H2.o,if_pos (Kj.o rfl)]);go_wp2;go_ret;exact⟨by rw[H.o];rfl,cQ⟩
    ·have H:=jD (show bH l=0 by
      rw[H2.o,if_neg];intro h;unfold y8 at h;rw[List.any_eq_true] at h;obtain⟨y,hy,h⟩:=h;obtain⟨j,hj,rfl⟩:=List.getElem_of_mem hy;rw[o6.o j hj (by omega)] at h;exact absurd h (by decide))
     have hbl:=aP.o;go_wp2;go_ret;exact⟨by rw[H.o];rfl,hbl⟩
theorem Yv (B:Nat) (v:aA) (y z:Value) (w:World) (hB:w.heap[B]? =some (Obj.cells (aN v y z) 120 (0,0))) (hk:dB w y z v.past) (hd:bX (v.ds,v.dc)=true):
  oQ dz 167 #[.pointer (some ⟨B,0,none⟩)] (fun x=>cW x v) w:=by
 refine⟨enters_of Tryz.func167 (by kernel_rfl) rfl,fun a u x W hok hbl ha=> ?_⟩;show Calls Tryz.prog 167 #[.agg (aN a u x), .pointer (some ⟨B,0,none⟩)] W _;have HB:=jD (ag hbl hB);have HK:=jD (hk.below hbl);clear hbl hB hk;obtain⟨xa,ca,rfl⟩:=ha.vec.shape;obtain⟨ya,da,rfl⟩:=ha.more.shape;obtain⟨xb,cb,zo⟩:=HK.o.vec.shape;obtain⟨yb,db,Jl⟩:=HK.o.more.shape;subst zo Jl;have hbel:=aG (W:=W) (.cells (aN a (.slice xa a.past.vec.length ca) (.slice ya a.past.more.length da)) 120);have HA:=jD (ha.below hbel);have cS:=jD (HK.o.below hbel);have HO:=jD (I4 a v _ _ _ _ _ HA.o cS.o hok.past hd);have bO:=ag hbel HB.o;have c0:=cq 0 bO rfl;have c1:=cq 1 bO rfl;have c2:=cq 2 bO rfl;have c3:=cq 3 bO rfl;have c4:=cq 4 bO rfl;have c5:=cq 5 bO rfl;have c6:=cq 6 bO rfl;have c7:=cq 7 bO rfl;clear ha bO HB HK;unfold aN at*;go_enter Tryz.func167,Tryz.ntmps167;go_wp2_with fail
 (with_reducible refine(HO.o).mono ?_);rintro e w1 ⟨rfl,hb1⟩;replace hbel:=aj hbel hb1;clear hb1 c0 c1 c2 c3 c4 c5 c6 c7 HO;go_wp2;go_ret;exact⟨rfl,hbel⟩
theorem Yu (B:Nat) (v:aA) (y z:Value) (w:World) (hB:w.heap[B]? =some (Obj.cells (aN v y z) 120 (0,0))) (hk:dB w y z v.past) (hv:gz v.past):
  oQ dz 171 #[.pointer (some ⟨B,0,none⟩)] (fun x=>cW v x) w:=by
 refine⟨enters_of Tryz.func171 (by kernel_rfl) rfl,fun a u x W hok hbl ha=> ?_⟩;show Calls Tryz.prog 171 #[.agg (aN a u x), .pointer (some ⟨B,0,none⟩)] W _;have HB:=jD (ag hbl hB);have HK:=jD (hk.below hbl);clear hbl hB hk;obtain⟨xa,ca,rfl⟩:=ha.vec.shape;obtain⟨ya,da,rfl⟩:=ha.more.shape;obtain⟨xb,cb,zo⟩:=HK.o.vec.shape;obtain⟨yb,db,Jl⟩:=HK.o.more.shape;subst zo Jl;have hbel:=aG (W:=W) (.cells (aN a (.slice xa a.past.vec.length ca) (.slice ya a.past.more.length da)) 120);have HA:=jD (ha.below hbel);have cS:=jD (HK.o.below hbel);have HO:=jD (I4 v a _ _ _ _ _ cS.o HA.o hv hok.dot);have bO:=ag hbel HB.o;have c0:=cq 0 bO rfl;have c1:=cq 1 bO rfl;have c2:=cq 2 bO rfl;have c3:=cq 3 bO rfl;have c4:=cq 4 bO rfl;have c5:=cq 5 bO rfl;have c6:=cq 6 bO rfl;have c7:=cq 7 bO rfl;clear ha bO HB HK;unfold aN at*;go_enter Tryz.func171,Tryz.ntmps171;go_wp2_with fail
 (with_reducible refine(HO.o).mono ?_);rintro e w1 ⟨rfl,hb1⟩;replace hbel:=aj hbel hb1;clear hb1 c0 c1 c2 c3 c4 c5 c6 c7 HO;go_wp2;go_ret;exact⟨rfl,hbel⟩
end Go.Proofs.YtajgndoiddmbmaaGreatDoor
