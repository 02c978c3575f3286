/- Towards what desk.Run answers. -/
import Derived.Test.YtajgndoiddmbmaaGreatDoorMRev
namespace Go.Proofs.YtajgndoiddmbmaaGreatDoor
set_option maxRecDepth 100000
set_option maxHeartbeats 40000000
open Go.RowKit
theorem acZ.info:(Tryz.prog.info? 89).map (fun i=>(i.zero,i.size,i.bytes))=some (some (.slice none 0 0),1,24):=by kernel_rfl
structure mj (l:cH) (g:Nat) (k:Nat) (xs:List Value) (w:World):Prop where
 len:xs.length=l.length
 own:w.ownsRow g 89 1 (.slice (some ⟨g,0,none⟩) l.length l.length) l.length xs
 ok: ∀j (h:j < xs.length),j < k→FO w (g+1) xs[j] (cD l j)
theorem mj.get {l:cH} {g k:Nat} {xs:List Value} {w:World} (h:mj l g k xs w) (j:Nat) (hj:j < l.length):w.cell? ⟨g,j,none⟩=some (xs[j]'(by rw[h.len];exact hj)):=by
 rw[h.own.cellAt j (by omega)];exact List.getElem?_eq_getElem _
theorem mj.below {l:cH} {g k:Nat} {xs:List Value} {w w':World} (h:mj l g k xs w) (hb:Below w.heap.size w w'):mj l g k xs w':=
 ⟨h.len,aI h.own hb,fun j hj hk=>(h.ok j hj hk).below hb⟩
theorem mj.put {l:cH} {g k:Nat} {xs:List Value} {w:World} {v:Value} (h:mj l g k xs w) (hk:k < l.length) (hv:FO w (g+1) v (cD l k)):mj l g (k+1) (xs.set k v) (w.setCell ⟨g,k,none⟩ v):=by
 refine⟨by simp[h.len],(h.own.stored k v).1,fun j hj hjk=> ?_⟩;by_cases e:j=k
 ·subst e;simp only[List.getElem_set_self];exact hv.low (Nat.lt_succ_self _)
 ·rw[List.getElem_set_ne (fun e2=>e e2.symm)];exact(h.ok j (by simpa using hj) (by omega)).low (Nat.lt_succ_self _)
theorem IJ (w:World) {g h i j:Nat} {u v:Value} (e:g≠h):(w.setCell ⟨g,i,none⟩ u).setCell ⟨h,j,none⟩ v=(w.setCell ⟨h,j,none⟩ v).setCell ⟨g,i,none⟩ u:=by
 unfold World.setCell;congr 1;apply Array.ext
 ·simp
 ·intro q h1 h2;simp only[Array.getElem_modify];by_cases e1:h=q
  ·subst e1;rw [if_pos rfl,if_pos rfl,if_neg e,if_neg e]
  ·rw[if_neg e1,if_neg e1]
theorem formFilter_c (v:Value) (l:cH) (w:World) (hs:jm w v l):
  Calls Tryz.prog 85 #[v] w fun e w'=> ∃u,e= .returned (.tuple #[u, .int .i64 (cI l)])∧(cI l=0→FO w' w.heap.size u (fun t n=>qV l t n))∧(cI l≠0→u= .slice none 0 0)∧Below w.heap.size w w':=by
 go_enter Tryz.func85,Tryz.ntmps85;go_wp2_with fail
 (with_reducible refine(zz _ l _ hs).mono ?_);rintro e w1 ⟨rfl,hb⟩;have hs1:=hs.below hb;have hbel:=hb;clear hs hb;cases hc:(cI l==0)
 ·have H:=jD (show cI l≠0 by simpa using hc);have h':(cI l != 0)=true:=by simp[bne,hc]
  clear hc hs1;go_wp2;go_ret2;exact⟨_,rfl,fun h=>absurd h H.o,fun _=>rfl,hbel⟩
 have h0:cI l=0:=by simpa using hc
 have H0:=jD h0;rw[h0];clear h0 hc;obtain⟨a,cap,rfl,hcap,hm, -,hl⟩:=hs1.open_;clear hs1;obtain⟨hpos,se,hall⟩:=Bc H0.o;have o6:=jD hall;clear hall;obtain⟨w2,hmk,hown,s8⟩:=xC (P:=Tryz.prog) w1 39 89 (.slice none 0 0) 1 24 Tryz.underlying39 acZ.info l.length (by omega) (by unfold maxLen;omega);rw[oN _ rfl] at hown;have HO:=jD hown;have Vy:=aj hbel s8;clear hown;go_wp2;clear hmk;have hg1:=hbel.size;generalize hg:w1.heap.size=g at*;go_loopw [18] (fun i wr=> ∃(k:Nat) (xs:List Value),k≤l.length∧i= .int .i64 k∧mj l g k xs wr∧Below w.heap.size w wr∧Below g w1 wr) (fun i _=>l.length - (intOf i).toNat)
 case atStart=>exact ⟨0,_,Nat.zero_le _,rfl,⟨by simp,HO.o,fun j _ h=>by omega⟩,Vy,s8⟩
 case round=>
  clear Vy s8 HO;obtain⟨k,xs,hk,rfl,st,lW,hbg⟩:=hrel;obtain⟨w3,hw3⟩: ∃w3,w3=wr:=⟨_,rfl⟩
  subst hw3;have ST:=jD st;have Gh:g < w3.heap.size:=blt' st.own hpos;clear st;by_cases hlt:k < l.length
  ·rcases hl with rfl | ⟨b,off,rfl,hb,hc⟩
   ·simp at hlt
   obtain⟨d1,d2,d3⟩:=hc k hlt;replace d1:=(hbg.cell (p:=⟨b,off+k*3,none⟩) hb).trans d1;replace d2:=(hbg.cell (p:=⟨b,off+k*3+1,none⟩) hb).trans d2;replace d3:=(hbg.cell (p:=⟨b,off+k*3+2,none⟩) hb).trans d3;have hq:=C8 (o6.o k hlt);have ld:=blt d1;have e0:=ST.o.get k hlt;have f0:=ST.o.own.frozenAt k;have HP:=jD (fun t n=>Ta l k t n);have hget:l.getD k ⟨0,0,0⟩=l[k]:=by simp[List.getD,hlt]
   rw[hget] at HP;clear hget hc;generalize hx:l[k]=x at*;obtain⟨kk,aa,bb⟩:=x;clear hx;simp only at hq d1 d2 d3;have E0:=jD e0;have F0:=jD f0;clear e0 f0;rcases hq with rfl | ⟨rfl,ha0,ha1⟩ | ⟨rfl,ha0,ha1,hb1⟩ | ⟨rfl,ha0,ha1⟩ | ⟨Qb,ha0,ha1,hb0,hb1⟩
   ·go_wp2_with fail
    (with_reducible refine(zF _).mono ?_);rintro e w4 ⟨gs,gb,rfl,Jv,hgb,hne,h1,h2,hb4⟩;rw[World.size_alloc] at Jv hgb;have ek:=jD (zO hb4);have wM:w3.heap.size < w4.heap.size:=by have:=hb4.size;simp at this;omega
    have jO:=jD (JT (base:=g+1) (by omega) (by omega) h1 h2);have e0:=ah ek.o E0.o;have f0:=VI ek.o E0.o F0.o;clear h1 h2 hb4 hne;go_wp2;go_roundw
    case rel=>
     exact⟨k+1,_,by omega,by go_num,((ST.o.below ek.o).put hlt (jO.o.congr fun t n _ _=>by rw[HP.o];simp [tK])),lW.trans (ek.o.mono lW.size) |>.setCell (by have:=hg1;exact this) _,(hbg.trans (ek.o.mono (Nat.le_of_lt Gh))).setCell (Nat.le_refl _) _⟩
    case measure=>first | (simp[intOf];done) | (simp[intOf];omega)
   ·obtain⟨a,rfl⟩:=Int.eq_ofNat_of_zero_le ha0;have ha4:a < 4:=by omega
    obtain⟨w4,hw4⟩: ∃w4,w4=w3.alloc (.cells #[.int .i64 2, .int .i64 a, .int .i64 bb] 80):=⟨_,rfl⟩
    have hb4:Below w3.heap.size w3 w4:=by rw[hw4];exact aG _
    have n1:w4.cell? ⟨w3.heap.size,1,none⟩=some (.int .i64 a):=by rw[hw4];exact cat _ _ _ 1 _ rfl _ rfl
    have wM:w3.heap.size < w4.heap.size:=by rw[hw4];simp
    have qG:=jD (ST.o.below hb4);have N1:=jD n1;have vA:=jD (lW.trans (hb4.mono lW.size));have Ck:=jD (hbg.trans (hb4.mono (Nat.le_of_lt Gh)));clear n1 hb4;go_wp2_with fail
    rw[←hw4];clear hw4;(with_reducible refine(zF _).mono ?_);rintro e w5 ⟨gs,gb,rfl,Jv,hgb,hne,h1,h2,bR⟩;have L8:=bR.size;have hgb5:gb < w5.heap.size:=(Array.getElem?_eq_some_iff.1 h2).1;have S5:=jD (qG.o.below bR);have e0:=S5.o.get k hlt;have f0:=S5.o.own.frozenAt k;have n5:=ah bR N1.o;have hga:g≠gb:=by omega
    have afb:w3.heap.size≠g:=by omega
    obtain⟨w6,s7⟩: ∃w6,w6=w5.setCell ⟨g,k,none⟩ (.slice (some ⟨gb,0,none⟩) 1 1):=⟨_,rfl⟩
    have m1:w6.cell? ⟨g,k,none⟩=some (.slice (some ⟨gb,0,none⟩) 1 1):=by rw[s7];exact World.cell?_setCell_same _ _ _ e0
    have m2:w6.cell? ⟨w3.heap.size,1,none⟩=some (.int .i64 a):=by rw[s7];exact (rB afb).trans n5
    have m3:w6.heap[gb]? =some (.cells #[.int .i64 0, .int .i64 0, .slice (some ⟨gs,0,none⟩) 1 1] 177 (0,0)):=by rw[s7];exact (aC (Ne.symm hga)).trans h2
    have M4:=jD (cq 0 (v:= .int .i64 0) m3 rfl);have M5:=jD (fq 0 m3);have M1:=jD m1;have M2:=jD m2;have HW:=jD s7;have H1:=jD h1;have H2:=jD h2;have oo:=jD bR;clear m1 m2 m3 h1 h2 bR n5;go_wp2;rw[←s7];clear s7 e0 f0;refine Cl.aV 121 rfl [10] (fun ww=>ww=w6.drew) (fun _=>[]) (fun jq v ww=>match jq with | 0=>v= .slice (some ⟨g,0,none⟩) l.length l.length | 1=>v= .int .i64 (k:Nat) | 2=>v= .pointer (some ⟨g,k,none⟩) | 3=>v= .slice (some ⟨gb,0,none⟩) 1 1 | 4=>v= .pointer (some ⟨w3.heap.size,1,none⟩) | 5=>v= .int .i64 (a:Nat) | 6=>v= .int .i64 ((2:Int)^a) | 7=>v= .pointer (some ⟨gb,0,none⟩) | 8=>v= .pointer (some ⟨gb,0,none⟩) | 9=>v= .pointer (some ⟨gb,0,none⟩) | 10=>ww=w6.drew.setCell ⟨gb,0,none⟩ (.int .i64 ((2:Int)^a)) | _=>True) (fun ww=>True) (fun jq ww aR=>jq≠10→aR=ww) Tryz.mixed (by decide+kernel) trivial rfl ?_ (fun jq ww aR hk h hR=>(hR (by simpa using hk)).trans h) ?_ ?_
    ·intro q r v w w' hne hk hlt h hR;match r,hk,hlt,h,hne with
     | 0,_,_,h,_=>exact h
     | 1,_,_,h,_=>exact h
     | 2,_,_,h,_=>exact h
     | 3,_,_,h,_=>exact h
     | 4,_,_,h,_=>exact h
     | 5,_,_,h,_=>exact h
     | 6,_,_,h,_=>exact h
     | 7,_,_,h,_=>exact h
     | 8,_,_,h,_=>exact h
     | 9,_,_,h,_=>exact h
     | 10,_,_,h,hne=>exact (hR (by exact hne)).trans h
     | _+11,_,_,_,_=>trivial
    ·refine⟨?_, ?_, ?_, ?_, ?_, ?_, ?_, ?_, ?_, ?_, ?_,trivial⟩
     ·intro x wx hG;have f5:=hG.o 5;replace hG:=hG.g;go_wp2;exact⟨_,rfl,rfl,hG,fun _=>rfl⟩
     ·intro x wx hG;have f6:=hG.o 6;replace hG:=hG.g;go_wp2;exact⟨_,rfl,rfl,hG,fun _=>rfl⟩
     ·intro x wx hG;have g0:=gr 37 (hG.c 0 _ rfl);have g1:=gr 38 (hG.c 1 _ rfl);replace hG:=hG.g;go_wp2;exact⟨_,rfl,rfl,hG,fun _=>rfl⟩
     ·intro x wx hG;have g2:=gr 39 (hG.c 2 _ rfl);have hp:=hG.p 0;replace hG:=hG.g;subst hp;have c:w6.drew.cell? ⟨g,k,none⟩=some (.slice (some ⟨gb,0,none⟩) 1 1):=M1.o;go_wp2;exact⟨_,rfl,rfl,hG,fun _=>rfl⟩
     ·intro x wx hG;have f7:=hG.o 7;replace hG:=hG.g;go_wp2;exact⟨_,rfl,rfl,hG,fun _=>rfl⟩
     ·intro x wx hG;have g4:=gr 41 (hG.c 4 _ rfl);have hp:=hG.p 0;replace hG:=hG.g;subst hp;have c:w6.drew.cell? ⟨w3.heap.size,1,none⟩=some (.int .i64 a):=M2.o;go_wp2;exact⟨_,rfl,rfl,hG,fun _=>rfl⟩
     ·intro x wx hG;have g5:=gr 42 (hG.c 5 _ rfl);replace hG:=hG.g;have acm:a=0∨a=1∨a=2∨a=3:=by omega
      rcases acm with rfl | rfl | rfl | rfl <;> go_wp2
      all_goals exact⟨_,rfl,rfl,hG,fun _=>rfl⟩
     ·intro x wx hG;have g3:=gr 40 (hG.c 3 _ rfl);replace hG:=hG.g;go_wp2;exact⟨_,rfl,rfl,hG,fun _=>rfl⟩
     ·intro x wx hG;have g7:=gr 44 (hG.c 7 _ rfl);replace hG:=hG.g;go_wp2;exact⟨_,rfl,rfl,hG,fun _=>rfl⟩
     ·intro x wx hG;have g8:=gr 45 (hG.c 8 _ rfl);replace hG:=hG.g;go_wp2;exact⟨_,rfl,rfl,hG,fun _=>rfl⟩
     ·intro x wx hG;have g6:=gr 43 (hG.c 6 _ rfl);have g9:=gr 46 (hG.c 9 _ rfl);have hp:=hG.p 0;replace hG:=hG.g;subst hp;have c:w6.drew.cell? ⟨gb,0,none⟩=some (.int .i64 0):=M4.o;have d:w6.drew.frozen? ⟨gb,0,none⟩=false:=M5.o;go_wp2;exact⟨undef,rfl,rfl,trivial,fun h=>absurd rfl h⟩
    ·intro af w7 hg hF;obtain⟨g0,g1,g2,g3,g4,g5,g6,g7,g8,g9,g10, -⟩:=hF;replace g10:w7=w6.drew.setCell ⟨gb,0,none⟩ (.int .i64 ((2:Int)^a)):=g10 rfl;simp only[Cl3.puts,gq (af 0) g0,gq (af 1) g1,gq (af 2) g2,gq (af 3) g3,gq (af 4) g4,gq (af 5) g5,gq (af 6) g6,gq (af 7) g7,gq (af 8) g8,gq (af 9) g9];clear g0 g1 g2 g3 g4 g5 g6 g7 g8 g9;go_simp
     have hz:(w6.setCell ⟨gb,0,none⟩ (.int .i64 ((2:Int)^a))).drew=((w5.drew.setCell ⟨gb,0,none⟩ (.int .i64 ((2:Int)^a))).setCell ⟨g,k,none⟩ (.slice (some ⟨gb,0,none⟩) 1 1)):=by rw[HW.o];exact IJ w5.drew hga
     clear g10 M1 M2 M4 M5 HW;have gP:=oo.o.drew.setCell (p:=⟨gb,0,none⟩) (by exact hgb) (.int .i64 ((2:Int)^a));have y2:=ax (W:=w5.drew) (j:=0) (v:= .int .i64 ((2:Int)^a)) H2.o;have y1:=(aC (W:=w5.drew) (j:=0) (v:= .int .i64 ((2:Int)^a)) hne).trans H1.o;have hfo:=Yj (base:=g+1) ha4 (by omega) (by omega) y1 y2;have hst:=(qG.o.below gP).put hlt (hfo.congr fun t n _ _=>by rw[HP.o];simp [tK]);have hx1:=(vA.o.trans (gP.mono vA.o.size)).setCell (p:=⟨g,k,none⟩) (by exact hg1) (.slice (some ⟨gb,0,none⟩) 1 1);have hx2:=(Ck.o.trans (gP.mono (by omega))).setCell (p:=⟨g,k,none⟩) (Nat.le_refl _) (.slice (some ⟨gb,0,none⟩) 1 1);rw[←hz] at hst hx1 hx2;have HST:=jD hst;have cr:=jD hx1;have gQ:=jD hx2;clear hst gP hfo y1 y2 hx1 hx2 hz;go_wp2;go_roundw
     case rel=>exact ⟨k+1,_,by omega,by go_num,HST.o,cr.o,gQ.o⟩
     case measure=>first | (simp[intOf];done) | (simp[intOf];omega)
   ·have qC:Below w3.heap.size w3 (((w3.alloc (.cells #[.int .i64 3, .int .i64 aa, .int .i64 bb] 80)).alloc (.cells #[.int .i64 aa, .int .i64 bb] 179)).alloc (.cells #[.int .i64 0, .int .i64 0, .slice (some ⟨w3.heap.size+1,0,none⟩) 1 1] 177)):=((aG _).alloc (by simp) _).alloc (by simp;omega) _;have k1:(((w3.alloc (.cells #[.int .i64 3, .int .i64 aa, .int .i64 bb] 80)).alloc (.cells #[.int .i64 aa, .int .i64 bb] 179)).alloc (.cells #[.int .i64 0, .int .i64 0, .slice (some ⟨w3.heap.size+1,0,none⟩) 1 1] 177)).heap[w3.heap.size+1]? =some (.cells #[.int .i64 aa, .int .i64 bb] 179 (0,0)):=by
     have h:=heap_alloc_new (w3.alloc (.cells #[.int .i64 3, .int .i64 aa, .int .i64 bb] 80)) (.cells #[.int .i64 aa, .int .i64 bb] 179);simp only[World.size_alloc] at h;exact(heap_alloc_old _ _ (by simp)).trans h
    have k2:(((w3.alloc (.cells #[.int .i64 3, .int .i64 aa, .int .i64 bb] 80)).alloc (.cells #[.int .i64 aa, .int .i64 bb] 179)).alloc (.cells #[.int .i64 0, .int .i64 0, .slice (some ⟨w3.heap.size+1,0,none⟩) 1 1] 177)).heap[w3.heap.size+1+1]? =some (.cells #[.int .i64 0, .int .i64 0, .slice (some ⟨w3.heap.size+1,0,none⟩) 1 1] 177 (0,0)):=by
     have h:=heap_alloc_new ((w3.alloc (.cells #[.int .i64 3, .int .i64 aa, .int .i64 bb] 80)).alloc (.cells #[.int .i64 aa, .int .i64 bb] 179)) (.cells #[.int .i64 0, .int .i64 0, .slice (some ⟨w3.heap.size+1,0,none⟩) 1 1] 177);simp only[World.size_alloc] at h;exact h
    have hfo:=ace (base:=g+1) ha0 ha1 hb1 (by omega) (by omega) k1 k2;have hst:=(ST.o.below qC).put hlt (hfo.congr fun t n _ _=>by rw[HP.o];simp [tK]);rw[World.setCell_alloc_past _ _ _ _ (by simp;omega),World.setCell_alloc_past _ _ _ _ (by simp;omega),World.setCell_alloc_past _ _ _ _ Gh] at hst;have hx1:=(lW.trans (qC.mono lW.size)).setCell (p:=⟨g,k,none⟩) (by exact hg1) (.slice (some ⟨w3.heap.size+1+1,0,none⟩) 1 1);have hx2:=(hbg.trans (qC.mono (Nat.le_of_lt Gh))).setCell (p:=⟨g,k,none⟩) (Nat.le_refl _) (.slice (some ⟨w3.heap.size+1+1,0,none⟩) 1 1);rw[World.setCell_alloc_past _ _ _ _ (by simp;omega),World.setCell_alloc_past _ _ _ _ (by simp;omega),World.setCell_alloc_past _ _ _ _ Gh] at hx1 hx2;have HST:=jD hst;have cr:=jD hx1;have gQ:=jD hx2;have e0:=E0.o;have f0:=F0.o;clear qC k1 k2 hfo hst hx1 hx2;have hgw1:g < w3.heap.size+1:=by omega
    have hgw2:g < w3.heap.size+1+1:=by omega
    go_wp2;go_roundw
    case rel=>exact ⟨k+1,_,by omega,by go_num,HST.o,cr.o,gQ.o⟩
    case measure=>first | (simp[intOf];done) | (simp[intOf];omega)
   ·obtain⟨ja,rfl⟩:=Int.eq_ofNat_of_zero_le ha0;obtain⟨w4,hw4⟩: ∃w4,w4=w3.alloc (.cells #[.int .i64 4, .int .i64 ja, .int .i64 bb] 80):=⟨_,rfl⟩
    have hb4:Below w3.heap.size w3 w4:=by rw[hw4];exact aG _
    have n1:w4.cell? ⟨w3.heap.size,1,none⟩=some (.int .i64 ja):=by rw[hw4];exact cat _ _ _ 1 _ rfl _ rfl
    have qG:=jD (ST.o.below hb4);have N1:=jD n1;have wM:g < w4.heap.size:=by have:=hb4.size;omega
    have hja:ja < k:=by omega
    have hla:ja < xs.length:=by rw[ST.o.len];omega
    obtain⟨XA,ur⟩: ∃X,X=xs[ja]:=⟨_,rfl⟩
    have A1:=jD (show w4.cell? ⟨g,ja,none⟩=some XA by rw[ur];exact qG.o.get ja (by omega));have A2:=jD (show FV w4 XA (cD l ja) by rw[ur];exact (qG.o.ok ja hla hja).fv);clear ur;have vA:=jD (lW.trans (hb4.mono lW.size));have Ck:=jD (hbg.trans (hb4.mono (Nat.le_of_lt Gh)));clear n1 hb4;go_wp2_with fail
    rw[←hw4];clear hw4;refine Cl.aV 121 rfl [13] (fun ww=>Below w4.heap.size w4 ww) (fun _=>[]) (fun jq v ww=>match jq with | 0=>v= .slice (some ⟨g,0,none⟩) l.length l.length | 1=>v= .int .i64 (k:Nat) | 2=>FO ww (g+1) v (fun _ _=>true) | 3=>v= .slice (some ⟨g,0,none⟩) l.length l.length | 4=>v= .pointer (some ⟨w3.heap.size,1,none⟩) | 5=>v= .int .i64 (ja:Nat) | 6=>v= .pointer (some ⟨g,ja,none⟩) | 7=>v=XA | 8=> ∃u,v= .tuple #[u, .int .i64 0]∧FO ww (g+1) u (fun t n=>true&& !cD l ja t n) | 9=> ∃u,v= .tuple #[u, .int .i64 0]∧FO ww (g+1) u (fun t n=>true&& !cD l ja t n) | 10=>FO ww (g+1) v (fun t n=>true&& !cD l ja t n) | 11=>v= .int .i64 0 | 12=>v= .pointer (some ⟨g,k,none⟩) | 13=> ∃ys,mj l g (k+1) ys ww | _=>True) (fun ww=>Below g w4 ww) (fun jq ww aR=>(jq≠13→Below ww.heap.size ww aR)∧(jq=13→ ∃u,aR=ww.setCell ⟨g,k,none⟩ u)) Tryz.mixed (by decide+kernel) (br).drew ((br).drew) ?_ (fun q w w' hk h hR=>aj h (hR.1 (by simpa using hk))) ?_ ?_
    ·intro q r v w w' hne hk hlt h hR;match r,hk,hlt,h,hne with
     | 0,_,_,h,_=>exact h
     | 1,_,_,h,_=>exact h
     | 2,_,_,h,_=>
      by_cases hq:q=13
      ·obtain⟨u,rfl⟩:=hR.2 hq;exact FO.low h (Nat.lt_succ_self _)
      ·exact FO.below h (hR.1 hq)
     | 3,_,_,h,_=>exact h
     | 4,_,_,h,_=>exact h
     | 5,_,_,h,_=>exact h
     | 6,_,_,h,_=>exact h
     | 7,_,_,h,_=>exact h
     | 8,_,_,h,_=>
      obtain⟨uu,hu1,hu2⟩:=h;by_cases hq:q=13
      ·obtain⟨u,rfl⟩:=hR.2 hq;exact ⟨uu,hu1,FO.low hu2 (Nat.lt_succ_self _)⟩
      ·exact⟨uu,hu1,FO.below hu2 (hR.1 hq)⟩
     | 9,_,_,h,_=>
      obtain⟨uu,hu1,hu2⟩:=h;by_cases hq:q=13
      ·obtain⟨u,rfl⟩:=hR.2 hq;exact ⟨uu,hu1,FO.low hu2 (Nat.lt_succ_self _)⟩
      ·exact⟨uu,hu1,FO.below hu2 (hR.1 hq)⟩
     | 10,_,_,h,_=>
      by_cases hq:q=13
      ·obtain⟨u,rfl⟩:=hR.2 hq;exact FO.low h (Nat.lt_succ_self _)
      ·exact FO.below h (hR.1 hq)
     | 11,_,_,h,_=>exact h
     | 12,_,_,h,_=>exact h
     | 13,_,_,h,hne=>exact (let ⟨ys,h1⟩:=h;⟨ys,h1.below (hR.1 (by exact hne))⟩)
     | _+14,_,_,_,_=>trivial
    ·refine⟨?_, ?_, ?_, ?_, ?_, ?_, ?_, ?_, ?_, ?_, ?_, ?_, ?_, ?_,trivial⟩
     ·intro x wx hG;have f5:=hG.o 5;replace hG:=hG.g;have hg2:=hG;clear hG;go_wp2;exact⟨_,rfl,rfl,hg2,⟨fun _=>br,fun h=>zd h⟩⟩
     ·intro x wx hG;have f6:=hG.o 6;replace hG:=hG.g;have hg2:=hG;clear hG;go_wp2;exact⟨_,rfl,rfl,hg2,⟨fun _=>br,fun h=>zd h⟩⟩
     ·intro x wx hG;have hp:=hG.p 0;replace hG:=hG.g;have hg2:=hG;clear hG;have hz:=hp.size;clear hp;go_wp2_with fail
      (with_reducible refine(zF _).mono ?_);rintro e w5 ⟨gs,gb,rfl,Jv,hgb,hne,h1,h2,bR⟩;have jO:=jD (JT (base:=g+1) (by omega) (by omega) h1 h2);clear h1 h2;go_wp2;exact⟨_,rfl,jO.o,hg2.trans (bR.mono (by omega)),⟨fun _=>bR,fun h=>zd h⟩⟩
     ·intro x wx hG;have f5:=hG.o 5;replace hG:=hG.g;have hg2:=hG;clear hG;go_wp2;exact⟨_,rfl,rfl,hg2,⟨fun _=>br,fun h=>zd h⟩⟩
     ·intro x wx hG;have f7:=hG.o 7;replace hG:=hG.g;have hg2:=hG;clear hG;go_wp2;exact⟨_,rfl,rfl,hg2,⟨fun _=>br,fun h=>zd h⟩⟩
     ·intro x wx hG;have g4:=gr 67 (hG.c 4 _ rfl);have hp:=hG.p 0;replace hG:=hG.g;have hg2:=hG;clear hG;have c:=ah hp N1.o;clear hp;go_wp2;exact⟨_,rfl,rfl,hg2,⟨fun _=>br,fun h=>zd h⟩⟩
     ·intro x wx hG;have g3:=gr 66 (hG.c 3 _ rfl);have g5:=gr 68 (hG.c 5 _ rfl);replace hG:=hG.g;have hg2:=hG;clear hG;go_wp2;exact⟨_,rfl,rfl,hg2,⟨fun _=>br,fun h=>zd h⟩⟩
     ·intro x wx hG;have g6:=gr 69 (hG.c 6 _ rfl);have hp:=hG.p 0;replace hG:=hG.g;have hg2:=hG;clear hG;have c:=ah hp A1.o;clear hp;go_wp2;exact⟨_,rfl,rfl,hg2,⟨fun _=>br,fun h=>zd h⟩⟩
     ·intro x wx hG;have g2:FO wx (g+1) (x.tmps.getD 65 undef) (fun _ _=>true):=hG.c 2 _ rfl;have g7:=gr 70 (hG.c 7 _ rfl);have hp:=hG.p 0;replace hG:=hG.g;have hg2:=hG;clear hG;have fa:=g2.fv;have fb:=A2.o.below hp;have hz:=hp.size;clear hp;clear g2;generalize hx:x.tmps.getD 65 undef=xa at*;have FA:=jD fa;have FB:=jD fb;clear fa fb;go_wp2_with fail
      (with_reducible refine(ab7 _ _ _ _ _ FA.o FB.o).mono ?_);rintro e w5 ⟨u5,rfl,ho,bR⟩;have vS:=jD ho;clear ho;go_wp2;exact⟨_,rfl,⟨_,rfl,vS.o.mono (by omega)⟩,hg2.trans (bR.mono (by omega)),⟨fun _=>bR,fun h=>zd h⟩⟩
     ·intro x wx hG;have g8: ∃u,(x.tmps.getD 71 undef)= .tuple #[u, .int .i64 0]∧FO wx (g+1) u (fun t n=>true&& !cD l ja t n):=hG.c 8 _ rfl;replace hG:=hG.g;have hg2:=hG;clear hG;obtain⟨u,g8,hu⟩:=g8;have Bb:=gd g8;have HU:=jD hu;clear hu;go_wp2;exact⟨_,rfl,⟨_,rfl,HU.o⟩,hg2,⟨fun _=>br,fun h=>zd h⟩⟩
     ·intro x wx hG;have g9: ∃u,(x.tmps.getD 62 undef)= .tuple #[u, .int .i64 0]∧FO wx (g+1) u (fun t n=>true&& !cD l ja t n):=hG.c 9 _ rfl;replace hG:=hG.g;have hg2:=hG;clear hG;obtain⟨u,g9,hu⟩:=g9;have zy:=gd g9;have HU:=jD hu;clear hu;go_wp2;exact⟨_,rfl,HU.o,hg2,⟨fun _=>br,fun h=>zd h⟩⟩
     ·intro x wx hG;have g9: ∃u,(x.tmps.getD 62 undef)= .tuple #[u, .int .i64 0]∧FO wx (g+1) u (fun t n=>true&& !cD l ja t n):=hG.c 9 _ rfl;replace hG:=hG.g;have hg2:=hG;clear hG;obtain⟨u,g9,hu⟩:=g9;have zy:=gd g9;have HU:=jD hu;clear hu;go_wp2;exact⟨_,rfl,rfl,hg2,⟨fun _=>br,fun h=>zd h⟩⟩
     ·intro x wx hG;have g0:=gr 63 (hG.c 0 _ rfl);have g1:=gr 64 (hG.c 1 _ rfl);replace hG:=hG.g;have hg2:=hG;clear hG;go_wp2;exact⟨_,rfl,rfl,hg2,⟨fun _=>br,fun h=>zd h⟩⟩
     ·intro x wx hG;have g10:FO wx (g+1) (x.tmps.getD 72 undef) (fun t n=>true&& !cD l ja t n):=hG.c 10 _ rfl;have g12:=gr 74 (hG.c 12 _ rfl);have hp:=hG.p 0;replace hG:=hG.g;have hg2:=hG;clear hG;obtain⟨ra,rn,rc,hr⟩:=FO.shape g10;have hrb:=hr;rw[Array.getD_eq_getD_getElem?] at hrb;rw[hr] at g10;have GF:=jD g10;clear g10;have s5:=qG.o.below hp;have S5:=jD s5;have e0:=S5.o.get k hlt;have f0:=S5.o.own.frozenAt k;clear hp s5;go_wp2;exact⟨undef,rfl,⟨_,S5.o.put hlt (GF.o.congr fun t n _ _=>by rw[HP.o];simp only[tK];rw [if_neg (by decide),if_neg (by decide),if_neg (by decide),if_pos trivial,Int.toNat_natCast,pY _ _ _ hja];simp)⟩,hg2.setCell (Nat.le_refl _) _,⟨fun h=>absurd rfl h,fun _=>⟨_,rfl⟩⟩⟩
    ·intro af w6 hg hF;obtain⟨g0,g1,g2,g3,g4,g5,g6,g7,g8,g9,g10,g11,g12,g13, -⟩:=hF;replace g13: ∃ys,mj l g (k+1) ys w6:=g13 rfl;simp only[Cl3.puts,gq (af 0) g0,gq (af 1) g1,gq (af 3) g3,gq (af 4) g4,gq (af 5) g5,gq (af 6) g6,gq (af 7) g7,gq (af 11) g11,gq (af 12) g12];clear g0 g1 g2 g3 g4 g5 g6 g7 g8 g9 g10 g11 g12;go_simp
     obtain⟨ys,hys⟩:=g13;have Kj:=jD hys;clear hys;go_wp2;go_roundw
     case rel=>exact ⟨k+1,ys,by omega,by go_num,Kj.o,vA.o.trans (hg.mono hg1),Ck.o.trans hg⟩
     case measure=>first | (simp[intOf];done) | (simp[intOf];omega)
   ·rcases Qb with rfl | rfl
    ·obtain⟨ja,rfl⟩:=Int.eq_ofNat_of_zero_le ha0;obtain⟨jb,rfl⟩:=Int.eq_ofNat_of_zero_le hb0;obtain⟨w4,hw4⟩: ∃w4,w4=w3.alloc (.cells #[.int .i64 5, .int .i64 ja, .int .i64 jb] 80):=⟨_,rfl⟩
     have hb4:Below w3.heap.size w3 w4:=by rw[hw4];exact aG _
     have n1:w4.cell? ⟨w3.heap.size,1,none⟩=some (.int .i64 ja):=by rw[hw4];exact cat _ _ _ 1 _ rfl _ rfl
     have n2:w4.cell? ⟨w3.heap.size,2,none⟩=some (.int .i64 jb):=by rw[hw4];exact cat _ _ _ 2 _ rfl _ rfl
     have qG:=jD (ST.o.below hb4);have N1:=jD n1;have N2:=jD n2;have wM:g < w4.heap.size:=by have:=hb4.size;omega
     have hja:ja < k:=by omega
     have hjb:jb < k:=by omega
     have hla:ja < xs.length:=by rw[ST.o.len];omega
     have hlb:jb < xs.length:=by rw[ST.o.len];omega
     obtain⟨XA,ur⟩: ∃X,X=xs[ja]:=⟨_,rfl⟩
     have A1:=jD (show w4.cell? ⟨g,ja,none⟩=some XA by rw[ur];exact qG.o.get ja (by omega));have A2:=jD (show FV w4 XA (cD l ja) by rw[ur];exact (qG.o.ok ja hla hja).fv);clear ur;obtain⟨XB,JG⟩: ∃X,X=xs[jb]:=⟨_,rfl⟩
     have B1:=jD (show w4.cell? ⟨g,jb,none⟩=some XB by rw[JG];exact qG.o.get jb (by omega));have B2:=jD (show FV w4 XB (cD l jb) by rw[JG];exact (qG.o.ok jb hlb hjb).fv);clear JG;have vA:=jD (lW.trans (hb4.mono lW.size));have Ck:=jD (hbg.trans (hb4.mono (Nat.le_of_lt Gh)));clear n1 hb4 n2;go_wp2_with fail
     rw[←hw4];clear hw4;refine Cl.aV 121 rfl [17] (fun ww=>Below w4.heap.size w4 ww) (fun _=>[]) (fun jq v ww=>match jq with | 0=>v= .slice (some ⟨g,0,none⟩) l.length l.length | 1=>v= .int .i64 (k:Nat) | 2=>v= .slice (some ⟨g,0,none⟩) l.length l.length | 3=>v= .pointer (some ⟨w3.heap.size,1,none⟩) | 4=>v= .int .i64 (ja:Nat) | 5=>v= .pointer (some ⟨g,ja,none⟩) | 6=>v=XA | 7=>v= .slice (some ⟨g,0,none⟩) l.length l.length | 8=>v= .pointer (some ⟨w3.heap.size,2,none⟩) | 9=>v= .int .i64 (jb:Nat) | 10=>v= .pointer (some ⟨g,jb,none⟩) | 11=>v=XB | 12=> ∃u,v= .tuple #[u, .int .i64 0]∧FO ww (g+1) u (fun t n=>cD l ja t n&&cD l jb t n) | 13=> ∃u,v= .tuple #[u, .int .i64 0]∧FO ww (g+1) u (fun t n=>cD l ja t n&&cD l jb t n) | 14=>FO ww (g+1) v (fun t n=>cD l ja t n&&cD l jb t n) | 15=>v= .int .i64 0 | 16=>v= .pointer (some ⟨g,k,none⟩) | 17=> ∃ys,mj l g (k+1) ys ww | _=>True) (fun ww=>Below g w4 ww) (fun jq ww aR=>(jq≠17→Below ww.heap.size ww aR)∧(jq=17→ ∃u,aR=ww.setCell ⟨g,k,none⟩ u)) Tryz.mixed (by decide+kernel) (br).drew ((br).drew) ?_ (fun q w w' hk h hR=>aj h (hR.1 (by simpa using hk))) ?_ ?_
     ·intro q r v w w' hne hk hlt h hR;match r,hk,hlt,h,hne with
      | 0,_,_,h,_=>exact h
      | 1,_,_,h,_=>exact h
      | 2,_,_,h,_=>exact h
      | 3,_,_,h,_=>exact h
      | 4,_,_,h,_=>exact h
      | 5,_,_,h,_=>exact h
      | 6,_,_,h,_=>exact h
      | 7,_,_,h,_=>exact h
      | 8,_,_,h,_=>exact h
      | 9,_,_,h,_=>exact h
      | 10,_,_,h,_=>exact h
      | 11,_,_,h,_=>exact h
      | 12,_,_,h,_=>
       obtain⟨uu,hu1,hu2⟩:=h;by_cases hq:q=17
       ·obtain⟨u,rfl⟩:=hR.2 hq;exact ⟨uu,hu1,FO.low hu2 (Nat.lt_succ_self _)⟩
       ·exact⟨uu,hu1,FO.below hu2 (hR.1 hq)⟩
      | 13,_,_,h,_=>
       obtain⟨uu,hu1,hu2⟩:=h;by_cases hq:q=17
       ·obtain⟨u,rfl⟩:=hR.2 hq;exact ⟨uu,hu1,FO.low hu2 (Nat.lt_succ_self _)⟩
       ·exact⟨uu,hu1,FO.below hu2 (hR.1 hq)⟩
      | 14,_,_,h,_=>
       by_cases hq:q=17
       ·obtain⟨u,rfl⟩:=hR.2 hq;exact FO.low h (Nat.lt_succ_self _)
       ·exact FO.below h (hR.1 hq)
      | 15,_,_,h,_=>exact h
      | 16,_,_,h,_=>exact h
      | 17,_,_,h,hne=>exact (let ⟨ys,h1⟩:=h;⟨ys,h1.below (hR.1 (by exact hne))⟩)
      | _+18,_,_,_,_=>trivial
     ·refine⟨?_, ?_, ?_, ?_, ?_, ?_, ?_, ?_, ?_, ?_, ?_, ?_, ?_, ?_, ?_, ?_, ?_, ?_,trivial⟩
      ·intro x wx hG;have f5:=hG.o 5;replace hG:=hG.g;have hg2:=hG;clear hG;go_wp2;exact⟨_,rfl,rfl,hg2,⟨fun _=>br,fun h=>zd h⟩⟩
      ·intro x wx hG;have f6:=hG.o 6;replace hG:=hG.g;have hg2:=hG;clear hG;go_wp2;exact⟨_,rfl,rfl,hg2,⟨fun _=>br,fun h=>zd h⟩⟩
      ·intro x wx hG;have f5:=hG.o 5;replace hG:=hG.g;have hg2:=hG;clear hG;go_wp2;exact⟨_,rfl,rfl,hg2,⟨fun _=>br,fun h=>zd h⟩⟩
      ·intro x wx hG;have f7:=hG.o 7;replace hG:=hG.g;have hg2:=hG;clear hG;go_wp2;exact⟨_,rfl,rfl,hg2,⟨fun _=>br,fun h=>zd h⟩⟩
      ·intro x wx hG;have g3:=gr 81 (hG.c 3 _ rfl);have hp:=hG.p 0;replace hG:=hG.g;have hg2:=hG;clear hG;have c:=ah hp N1.o;clear hp;go_wp2;exact⟨_,rfl,rfl,hg2,⟨fun _=>br,fun h=>zd h⟩⟩
      ·intro x wx hG;have g2:=gr 80 (hG.c 2 _ rfl);have g4:=gr 82 (hG.c 4 _ rfl);replace hG:=hG.g;have hg2:=hG;clear hG;go_wp2;exact⟨_,rfl,rfl,hg2,⟨fun _=>br,fun h=>zd h⟩⟩
      ·intro x wx hG;have g5:=gr 83 (hG.c 5 _ rfl);have hp:=hG.p 0;replace hG:=hG.g;have hg2:=hG;clear hG;have c:=ah hp A1.o;clear hp;go_wp2;exact⟨_,rfl,rfl,hg2,⟨fun _=>br,fun h=>zd h⟩⟩
      ·intro x wx hG;have f5:=hG.o 5;replace hG:=hG.g;have hg2:=hG;clear hG;go_wp2;exact⟨_,rfl,rfl,hg2,⟨fun _=>br,fun h=>zd h⟩⟩
      ·intro x wx hG;have f7:=hG.o 7;replace hG:=hG.g;have hg2:=hG;clear hG;go_wp2;exact⟨_,rfl,rfl,hg2,⟨fun _=>br,fun h=>zd h⟩⟩
      ·intro x wx hG;have g8:=gr 86 (hG.c 8 _ rfl);have hp:=hG.p 0;replace hG:=hG.g;have hg2:=hG;clear hG;have c:=ah hp N2.o;clear hp;go_wp2;exact⟨_,rfl,rfl,hg2,⟨fun _=>br,fun h=>zd h⟩⟩
      ·intro x wx hG;have g7:=gr 85 (hG.c 7 _ rfl);have g9:=gr 87 (hG.c 9 _ rfl);replace hG:=hG.g;have hg2:=hG;clear hG;go_wp2;exact⟨_,rfl,rfl,hg2,⟨fun _=>br,fun h=>zd h⟩⟩
      ·intro x wx hG;have g10:=gr 88 (hG.c 10 _ rfl);have hp:=hG.p 0;replace hG:=hG.g;have hg2:=hG;clear hG;have c:=ah hp B1.o;clear hp;go_wp2;exact⟨_,rfl,rfl,hg2,⟨fun _=>br,fun h=>zd h⟩⟩
      ·intro x wx hG;have g6:=gr 84 (hG.c 6 _ rfl);have g11:=gr 89 (hG.c 11 _ rfl);have hp:=hG.p 0;replace hG:=hG.g;have hg2:=hG;clear hG;have fa:=A2.o.below hp;have fb:=B2.o.below hp;have hz:=hp.size;clear hp;have FA:=jD fa;have FB:=jD fb;clear fa fb;go_wp2_with fail
       (with_reducible refine(ab6 _ _ _ _ _ FA.o FB.o).mono ?_);rintro e w5 ⟨u5,rfl,ho,bR⟩;have vS:=jD ho;clear ho;go_wp2;exact⟨_,rfl,⟨_,rfl,vS.o.mono (by omega)⟩,hg2.trans (bR.mono (by omega)),⟨fun _=>bR,fun h=>zd h⟩⟩
      ·intro x wx hG;have g12: ∃u,(x.tmps.getD 90 undef)= .tuple #[u, .int .i64 0]∧FO wx (g+1) u (fun t n=>cD l ja t n&&cD l jb t n):=hG.c 12 _ rfl;replace hG:=hG.g;have hg2:=hG;clear hG;obtain⟨u,g12,hu⟩:=g12;have ET:=gd g12;have HU:=jD hu;clear hu;go_wp2;exact⟨_,rfl,⟨_,rfl,HU.o⟩,hg2,⟨fun _=>br,fun h=>zd h⟩⟩
      ·intro x wx hG;have g13: ∃u,(x.tmps.getD 77 undef)= .tuple #[u, .int .i64 0]∧FO wx (g+1) u (fun t n=>cD l ja t n&&cD l jb t n):=hG.c 13 _ rfl;replace hG:=hG.g;have hg2:=hG;clear hG;obtain⟨u,g13,hu⟩:=g13;have N9:=gd g13;have HU:=jD hu;clear hu;go_wp2;exact⟨_,rfl,HU.o,hg2,⟨fun _=>br,fun h=>zd h⟩⟩
      ·intro x wx hG;have g13: ∃u,(x.tmps.getD 77 undef)= .tuple #[u, .int .i64 0]∧FO wx (g+1) u (fun t n=>cD l ja t n&&cD l jb t n):=hG.c 13 _ rfl;replace hG:=hG.g;have hg2:=hG;clear hG;obtain⟨u,g13,hu⟩:=g13;have N9:=gd g13;have HU:=jD hu;clear hu;go_wp2;exact⟨_,rfl,rfl,hg2,⟨fun _=>br,fun h=>zd h⟩⟩
      ·intro x wx hG;have g0:=gr 78 (hG.c 0 _ rfl);have g1:=gr 79 (hG.c 1 _ rfl);replace hG:=hG.g;have hg2:=hG;clear hG;go_wp2;exact⟨_,rfl,rfl,hg2,⟨fun _=>br,fun h=>zd h⟩⟩
      ·intro x wx hG;have g14:FO wx (g+1) (x.tmps.getD 91 undef) (fun t n=>cD l ja t n&&cD l jb t n):=hG.c 14 _ rfl;have g16:=gr 93 (hG.c 16 _ rfl);have hp:=hG.p 0;replace hG:=hG.g;have hg2:=hG;clear hG;obtain⟨ra,rn,rc,hr⟩:=FO.shape g14;have hrb:=hr;rw[Array.getD_eq_getD_getElem?] at hrb;rw[hr] at g14;have GF:=jD g14;clear g14;have s5:=qG.o.below hp;have S5:=jD s5;have e0:=S5.o.get k hlt;have f0:=S5.o.own.frozenAt k;clear hp s5;go_wp2;exact⟨undef,rfl,⟨_,S5.o.put hlt (GF.o.congr fun t n _ _=>by rw[HP.o];simp only[tK];rw [if_neg (by decide),if_neg (by decide),if_neg (by decide),if_neg (by decide),if_pos trivial,Int.toNat_natCast,Int.toNat_natCast,pY _ _ _ hja,pY _ _ _ hjb])⟩,hg2.setCell (Nat.le_refl _) _,⟨fun h=>absurd rfl h,fun _=>⟨_,rfl⟩⟩⟩
     ·intro af w6 hg hF;obtain⟨g0,g1,g2,g3,g4,g5,g6,g7,g8,g9,g10,g11,g12,g13,g14,g15,g16,g17, -⟩:=hF;replace g17: ∃ys,mj l g (k+1) ys w6:=g17 rfl;simp only[Cl3.puts,gq (af 0) g0,gq (af 1) g1,gq (af 2) g2,gq (af 3) g3,gq (af 4) g4,gq (af 5) g5,gq (af 6) g6,gq (af 7) g7,gq (af 8) g8,gq (af 9) g9,gq (af 10) g10,gq (af 11) g11,gq (af 15) g15,gq (af 16) g16];clear g0 g1 g2 g3 g4 g5 g6 g7 g8 g9 g10 g11 g12 g13 g14 g15 g16;go_simp
      obtain⟨ys,hys⟩:=g17;have Kj:=jD hys;clear hys;go_wp2;go_roundw
      case rel=>exact ⟨k+1,ys,by omega,by go_num,Kj.o,vA.o.trans (hg.mono hg1),Ck.o.trans hg⟩
      case measure=>first | (simp[intOf];done) | (simp[intOf];omega)
    ·obtain⟨ja,rfl⟩:=Int.eq_ofNat_of_zero_le ha0;obtain⟨jb,rfl⟩:=Int.eq_ofNat_of_zero_le hb0;obtain⟨w4,hw4⟩: ∃w4,w4=w3.alloc (.cells #[.int .i64 6, .int .i64 ja, .int .i64 jb] 80):=⟨_,rfl⟩
     have hb4:Below w3.heap.size w3 w4:=by rw[hw4];exact aG _
     have n1:w4.cell? ⟨w3.heap.size,1,none⟩=some (.int .i64 ja):=by rw[hw4];exact cat _ _ _ 1 _ rfl _ rfl
     have n2:w4.cell? ⟨w3.heap.size,2,none⟩=some (.int .i64 jb):=by rw[hw4];exact cat _ _ _ 2 _ rfl _ rfl
     have qG:=jD (ST.o.below hb4);have N1:=jD n1;have N2:=jD n2;have wM:g < w4.heap.size:=by have:=hb4.size;omega
     have hja:ja < k:=by omega
     have hjb:jb < k:=by omega
     have hla:ja < xs.length:=by rw[ST.o.len];omega
     have hlb:jb < xs.length:=by rw[ST.o.len];omega
     obtain⟨XA,ur⟩: ∃X,X=xs[ja]:=⟨_,rfl⟩
     have A1:=jD (show w4.cell? ⟨g,ja,none⟩=some XA by rw[ur];exact qG.o.get ja (by omega));have A2:=jD (show FV w4 XA (cD l ja) by rw[ur];exact (qG.o.ok ja hla hja).fv);clear ur;obtain⟨XB,JG⟩: ∃X,X=xs[jb]:=⟨_,rfl⟩
     have B1:=jD (show w4.cell? ⟨g,jb,none⟩=some XB by rw[JG];exact qG.o.get jb (by omega));have B2:=jD (show FV w4 XB (cD l jb) by rw[JG];exact (qG.o.ok jb hlb hjb).fv);clear JG;have vA:=jD (lW.trans (hb4.mono lW.size));have Ck:=jD (hbg.trans (hb4.mono (Nat.le_of_lt Gh)));clear n1 hb4 n2;go_wp2_with fail
     rw[←hw4];clear hw4;refine Cl.aV 121 rfl [17] (fun ww=>Below w4.heap.size w4 ww) (fun _=>[]) (fun jq v ww=>match jq with | 0=>v= .slice (some ⟨g,0,none⟩) l.length l.length | 1=>v= .int .i64 (k:Nat) | 2=>v= .slice (some ⟨g,0,none⟩) l.length l.length | 3=>v= .pointer (some ⟨w3.heap.size,1,none⟩) | 4=>v= .int .i64 (ja:Nat) | 5=>v= .pointer (some ⟨g,ja,none⟩) | 6=>v=XA | 7=>v= .slice (some ⟨g,0,none⟩) l.length l.length | 8=>v= .pointer (some ⟨w3.heap.size,2,none⟩) | 9=>v= .int .i64 (jb:Nat) | 10=>v= .pointer (some ⟨g,jb,none⟩) | 11=>v=XB | 12=> ∃u,v= .tuple #[u, .int .i64 0]∧FO ww (g+1) u (fun t n=>cD l ja t n || cD l jb t n) | 13=> ∃u,v= .tuple #[u, .int .i64 0]∧FO ww (g+1) u (fun t n=>cD l ja t n || cD l jb t n) | 14=>FO ww (g+1) v (fun t n=>cD l ja t n || cD l jb t n) | 15=>v= .int .i64 0 | 16=>v= .pointer (some ⟨g,k,none⟩) | 17=> ∃ys,mj l g (k+1) ys ww | _=>True) (fun ww=>Below g w4 ww) (fun jq ww aR=>(jq≠17→Below ww.heap.size ww aR)∧(jq=17→ ∃u,aR=ww.setCell ⟨g,k,none⟩ u)) Tryz.mixed (by decide+kernel) (br).drew ((br).drew) ?_ (fun q w w' hk h hR=>aj h (hR.1 (by simpa using hk))) ?_ ?_
     ·intro q r v w w' hne hk hlt h hR;match r,hk,hlt,h,hne with
      | 0,_,_,h,_=>exact h
      | 1,_,_,h,_=>exact h
      | 2,_,_,h,_=>exact h
      | 3,_,_,h,_=>exact h
      | 4,_,_,h,_=>exact h
      | 5,_,_,h,_=>exact h
      | 6,_,_,h,_=>exact h
      | 7,_,_,h,_=>exact h
      | 8,_,_,h,_=>exact h
      | 9,_,_,h,_=>exact h
      | 10,_,_,h,_=>exact h
      | 11,_,_,h,_=>exact h
      | 12,_,_,h,_=>
       obtain⟨uu,hu1,hu2⟩:=h;by_cases hq:q=17
       ·obtain⟨u,rfl⟩:=hR.2 hq;exact ⟨uu,hu1,FO.low hu2 (Nat.lt_succ_self _)⟩
       ·exact⟨uu,hu1,FO.below hu2 (hR.1 hq)⟩
      | 13,_,_,h,_=>
       obtain⟨uu,hu1,hu2⟩:=h;by_cases hq:q=17
       ·obtain⟨u,rfl⟩:=hR.2 hq;exact ⟨uu,hu1,FO.low hu2 (Nat.lt_succ_self _)⟩
       ·exact⟨uu,hu1,FO.below hu2 (hR.1 hq)⟩
      | 14,_,_,h,_=>
       by_cases hq:q=17
       ·obtain⟨u,rfl⟩:=hR.2 hq;exact FO.low h (Nat.lt_succ_self _)
       ·exact FO.below h (hR.1 hq)
      | 15,_,_,h,_=>exact h
      | 16,_,_,h,_=>exact h
      | 17,_,_,h,hne=>exact (let ⟨ys,h1⟩:=h;⟨ys,h1.below (hR.1 (by exact hne))⟩)
      | _+18,_,_,_,_=>trivial
     ·refine⟨?_, ?_, ?_, ?_, ?_, ?_, ?_, ?_, ?_, ?_, ?_, ?_, ?_, ?_, ?_, ?_, ?_, ?_,trivial⟩
      ·intro x wx hG;have f5:=hG.o 5;replace hG:=hG.g;have hg2:=hG;clear hG;go_wp2;exact⟨_,rfl,rfl,hg2,⟨fun _=>br,fun h=>zd h⟩⟩
      ·intro x wx hG;have f6:=hG.o 6;replace hG:=hG.g;have hg2:=hG;clear hG;go_wp2;exact⟨_,rfl,rfl,hg2,⟨fun _=>br,fun h=>zd h⟩⟩
      ·intro x wx hG;have f5:=hG.o 5;replace hG:=hG.g;have hg2:=hG;clear hG;go_wp2;exact⟨_,rfl,rfl,hg2,⟨fun _=>br,fun h=>zd h⟩⟩
      ·intro x wx hG;have f7:=hG.o 7;replace hG:=hG.g;have hg2:=hG;clear hG;go_wp2;exact⟨_,rfl,rfl,hg2,⟨fun _=>br,fun h=>zd h⟩⟩
      ·intro x wx hG;have g3:=gr 100 (hG.c 3 _ rfl);have hp:=hG.p 0;replace hG:=hG.g;have hg2:=hG;clear hG;have c:=ah hp N1.o;clear hp;go_wp2;exact⟨_,rfl,rfl,hg2,⟨fun _=>br,fun h=>zd h⟩⟩
      ·intro x wx hG;have g2:=gr 99 (hG.c 2 _ rfl);have g4:=gr 101 (hG.c 4 _ rfl);replace hG:=hG.g;have hg2:=hG;clear hG;go_wp2;exact⟨_,rfl,rfl,hg2,⟨fun _=>br,fun h=>zd h⟩⟩
      ·intro x wx hG;have g5:=gr 102 (hG.c 5 _ rfl);have hp:=hG.p 0;replace hG:=hG.g;have hg2:=hG;clear hG;have c:=ah hp A1.o;clear hp;go_wp2;exact⟨_,rfl,rfl,hg2,⟨fun _=>br,fun h=>zd h⟩⟩
      ·intro x wx hG;have f5:=hG.o 5;replace hG:=hG.g;have hg2:=hG;clear hG;go_wp2;exact⟨_,rfl,rfl,hg2,⟨fun _=>br,fun h=>zd h⟩⟩
      ·intro x wx hG;have f7:=hG.o 7;replace hG:=hG.g;have hg2:=hG;clear hG;go_wp2;exact⟨_,rfl,rfl,hg2,⟨fun _=>br,fun h=>zd h⟩⟩
      ·intro x wx hG;have g8:=gr 105 (hG.c 8 _ rfl);have hp:=hG.p 0;replace hG:=hG.g;have hg2:=hG;clear hG;have c:=ah hp N2.o;clear hp;go_wp2;exact⟨_,rfl,rfl,hg2,⟨fun _=>br,fun h=>zd h⟩⟩
      ·intro x wx hG;have g7:=gr 104 (hG.c 7 _ rfl);have g9:=gr 106 (hG.c 9 _ rfl);replace hG:=hG.g;have hg2:=hG;clear hG;go_wp2;exact⟨_,rfl,rfl,hg2,⟨fun _=>br,fun h=>zd h⟩⟩
      ·intro x wx hG;have g10:=gr 107 (hG.c 10 _ rfl);have hp:=hG.p 0;replace hG:=hG.g;have hg2:=hG;clear hG;have c:=ah hp B1.o;clear hp;go_wp2;exact⟨_,rfl,rfl,hg2,⟨fun _=>br,fun h=>zd h⟩⟩
      ·intro x wx hG;have g6:=gr 103 (hG.c 6 _ rfl);have g11:=gr 108 (hG.c 11 _ rfl);have hp:=hG.p 0;replace hG:=hG.g;have hg2:=hG;clear hG;have fa:=A2.o.below hp;have fb:=B2.o.below hp;have hz:=hp.size;clear hp;have FA:=jD fa;have FB:=jD fb;clear fa fb;go_wp2_with fail
       (with_reducible refine(ab9 _ _ _ _ _ FA.o FB.o).mono ?_);rintro e w5 ⟨u5,rfl,ho,bR⟩;have vS:=jD ho;clear ho;go_wp2;exact⟨_,rfl,⟨_,rfl,vS.o.mono (by omega)⟩,hg2.trans (bR.mono (by omega)),⟨fun _=>bR,fun h=>zd h⟩⟩
      ·intro x wx hG;have g12: ∃u,(x.tmps.getD 109 undef)= .tuple #[u, .int .i64 0]∧FO wx (g+1) u (fun t n=>cD l ja t n || cD l jb t n):=hG.c 12 _ rfl;replace hG:=hG.g;have hg2:=hG;clear hG;obtain⟨u,g12,hu⟩:=g12;have ET:=gd g12;have HU:=jD hu;clear hu;go_wp2;exact⟨_,rfl,⟨_,rfl,HU.o⟩,hg2,⟨fun _=>br,fun h=>zd h⟩⟩
      ·intro x wx hG;have g13: ∃u,(x.tmps.getD 96 undef)= .tuple #[u, .int .i64 0]∧FO wx (g+1) u (fun t n=>cD l ja t n || cD l jb t n):=hG.c 13 _ rfl;replace hG:=hG.g;have hg2:=hG;clear hG;obtain⟨u,g13,hu⟩:=g13;have N9:=gd g13;have HU:=jD hu;clear hu;go_wp2;exact⟨_,rfl,HU.o,hg2,⟨fun _=>br,fun h=>zd h⟩⟩
      ·intro x wx hG;have g13: ∃u,(x.tmps.getD 96 undef)= .tuple #[u, .int .i64 0]∧FO wx (g+1) u (fun t n=>cD l ja t n || cD l jb t n):=hG.c 13 _ rfl;replace hG:=hG.g;have hg2:=hG;clear hG;obtain⟨u,g13,hu⟩:=g13;have N9:=gd g13;have HU:=jD hu;clear hu;go_wp2;exact⟨_,rfl,rfl,hg2,⟨fun _=>br,fun h=>zd h⟩⟩
      ·intro x wx hG;have g0:=gr 97 (hG.c 0 _ rfl);have g1:=gr 98 (hG.c 1 _ rfl);replace hG:=hG.g;have hg2:=hG;clear hG;go_wp2;exact⟨_,rfl,rfl,hg2,⟨fun _=>br,fun h=>zd h⟩⟩
      ·intro x wx hG;have g14:FO wx (g+1) (x.tmps.getD 110 undef) (fun t n=>cD l ja t n || cD l jb t n):=hG.c 14 _ rfl;have g16:=gr 112 (hG.c 16 _ rfl);have hp:=hG.p 0;replace hG:=hG.g;have hg2:=hG;clear hG;obtain⟨ra,rn,rc,hr⟩:=FO.shape g14;have hrb:=hr;rw[Array.getD_eq_getD_getElem?] at hrb;rw[hr] at g14;have GF:=jD g14;clear g14;have s5:=qG.o.below hp;have S5:=jD s5;have e0:=S5.o.get k hlt;have f0:=S5.o.own.frozenAt k;clear hp s5;go_wp2;exact⟨undef,rfl,⟨_,S5.o.put hlt (GF.o.congr fun t n _ _=>by rw[HP.o];simp only[tK];rw [if_neg (by decide),if_neg (by decide),if_neg (by decide),if_neg (by decide),if_neg (by decide),Int.toNat_natCast,Int.toNat_natCast,pY _ _ _ hja,pY _ _ _ hjb])⟩,hg2.setCell (Nat.le_refl _) _,⟨fun h=>absurd rfl h,fun _=>⟨_,rfl⟩⟩⟩
     ·intro af w6 hg hF;obtain⟨g0,g1,g2,g3,g4,g5,g6,g7,g8,g9,g10,g11,g12,g13,g14,g15,g16,g17, -⟩:=hF;replace g17: ∃ys,mj l g (k+1) ys w6:=g17 rfl;simp only[Cl3.puts,gq (af 0) g0,gq (af 1) g1,gq (af 2) g2,gq (af 3) g3,gq (af 4) g4,gq (af 5) g5,gq (af 6) g6,gq (af 7) g7,gq (af 8) g8,gq (af 9) g9,gq (af 10) g10,gq (af 11) g11,gq (af 15) g15,gq (af 16) g16];clear g0 g1 g2 g3 g4 g5 g6 g7 g8 g9 g10 g11 g12 g13 g14 g15 g16;go_simp
      obtain⟨ys,hys⟩:=g17;have Kj:=jD hys;clear hys;go_wp2;go_roundw
      case rel=>exact ⟨k+1,ys,by omega,by go_num,Kj.o,vA.o.trans (hg.mono hg1),Ck.o.trans hg⟩
      case measure=>first | (simp[intOf];done) | (simp[intOf];omega)
  ·obtain rfl:k=l.length:=by omega
   have hlen:l.length - 1 < xs.length:=by rw[ST.o.len];omega
   obtain⟨XA,ur⟩: ∃X,X=xs[l.length - 1]:=⟨_,rfl⟩
   have e0:w3.cell? ⟨g,l.length - 1,none⟩=some XA:=by rw[ur];exact ST.o.get _ (by omega)
   have hfo:FO w3 (g+1) XA (cD l (l.length - 1)):=by rw[ur];exact ST.o.ok _ hlen (by omega)
   have E0:=jD e0;have hn1:(l.length:Int) - 1=((l.length - 1:Nat):Int):=by omega
   have FOX:=jD hfo;clear ur e0 hfo ST;have hidx:0≤(l.length:Int) - 1:=by omega
   obtain⟨ra,rn,rc,hr⟩:=FOX.o.shape;subst hr;obtain⟨bl,q1,q2,q3⟩:=FOX.o;obtain⟨y1,y2⟩:=gj.1 q2;have BA:=jD (q1.at_ (by omega) y2);have e0:=E0.o;have Q2:=jD q2;have Q3:=jD q3;clear q1 q2 q3 y1 y2 FOX;go_wp2_with (simp only[hn1])
   (with_reducible refine(xP _ _ _ BA.o Q2.o).mono ?_);rintro e w4 ⟨v4,rfl,Gf,hb4⟩;have Aa:=jD Gf;clear Gf;go_wp2;go_ret2;refine⟨v4,by rw[H0.o];rfl,fun _=>⟨bl,Aa.o.mono (by have:=lW.size;omega),Q2.o,fun t n ht hn=>(Q3.o t n ht hn).trans ?_⟩,fun h=>absurd H0.o h,lW.trans (hb4.mono lW.size)⟩;simp only[cD,qV];rw [show l.length - 1+1=l.length by omega]
end Go.Proofs.YtajgndoiddmbmaaGreatDoor
