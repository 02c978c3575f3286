/- Towards what desk.Run answers. -/
import Derived.Test.YtajgndoiddmbmaaGreatDoorMKnow1
namespace Go.Proofs.YtajgndoiddmbmaaGreatDoor
set_option maxRecDepth 100000
set_option maxHeartbeats 40000000
open Go.RowKit
theorem Sm {l:List Int} (h:vecChk l=0) (s:Int):0≤aQ l s∧aQ l s≤1000:=by
 have h:=vW.1 h;unfold aQ;by_cases hs:s.toNat < l.length
 ·rw[List.getD_eq_getElem?_getD,List.getElem?_eq_getElem hs];exact h _ (List.getElem_mem hs)
 ·rw[List.getD_eq_getElem?_getD,List.getElem?_eq_none (by omega)];simp
theorem knIn_c (u v:Value) (k:Kn) (s c:Int) (w:World) (hk:dB w u v k) (h0:0≤s) (ho:k.more.Pairwise gJ) (hb:Dx k.more) (ht:Dx [(s,c)]):
  Calls Tryz.prog 179 #[.agg #[u,v], .agg #[.int .i64 s, .int .i64 c]] w fun e w'=>e= .returned (.bool (aU k s c))∧Below w.heap.size w w':=by
 obtain⟨W,hW⟩: ∃W,W=(w.alloc (.cells #[u,v] 118)).alloc (.cells #[.int .i64 s, .int .i64 c] 103):=⟨_,rfl⟩
 have hbW:Below w.heap.size w W:=by rw[hW];exact (aG _).alloc (by simp) _
 have K0:=jD (show W.cell? ⟨w.heap.size,0,none⟩=some u by rw[hW];exact Ii _ (cat _ _ _ 0 _ rfl _ rfl));have K1:=jD (show W.cell? ⟨w.heap.size,1,none⟩=some v by rw[hW];exact Ii _ (cat _ _ _ 1 _ rfl _ rfl));have S0:=jD (show W.cell? ⟨w.heap.size+1,0,none⟩=some (.int .i64 s) by rw[hW];exact cat _ _ _ 0 _ rfl _ (by simp));have S1:=jD (show W.cell? ⟨w.heap.size+1,1,none⟩=some (.int .i64 c) by rw[hW];exact cat _ _ _ 1 _ rfl _ (by simp));have HK:=jD (hk.below hbW);have ek:=jD hbW;have H:=jD (show aU k s c=(decide (c≤aQ k.vec s) || decide ((s,c)∈k.more)) from rfl);obtain⟨va,vc,hv⟩:=hk.more.shape;obtain⟨ua,uc,hu⟩:=hk.vec.shape;subst hv hu;clear hbW hk;go_enter Tryz.func179,Tryz.ntmps179;go_wp2_with fail
 rw[←hW];clear hW;refine Cl.aV 22 rfl [] (fun _=>True) (fun _=>[]) (fun jq v ww=>match jq with | 0=>v= .pointer (some ⟨w.heap.size+1,1,none⟩) | 1=>v= .int .i64 c | 2=>v= .agg #[.slice ua k.vec.length uc, .slice va k.more.length vc] | 3=>v= .pointer (some ⟨w.heap.size+1,0,none⟩) | 4=>v= .int .i64 s | 5=>v= .int .i64 (aQ k.vec s) | 6=>v= .bool (decide (c≤aQ k.vec s)) | _=>True) (fun ww=>Below W.heap.size W ww) (fun jq ww aR=>Below ww.heap.size ww aR) Tryz.mixed (by decide+kernel) (br).drew trivial (fun q r v w w' _ _ _ h _=>h) (fun _ _ _ _ _ _=>trivial) ?_ ?_
 ·refine⟨?_, ?_, ?_, ?_, ?_, ?_, ?_,trivial⟩
  ·intro x wx hG;have f3:=hG.o 3;replace hG:=hG.g;go_wp2;exact⟨_,rfl,rfl,hG,br⟩
  ·intro x wx hG;have g0:=gr 7 (hG.c 0 _ rfl);replace hG:=hG.g;have c_S1:=ah hG S1.o;go_wp2;exact⟨_,rfl,rfl,hG,br⟩
  ·intro x wx hG;have f2:=hG.o 2;replace hG:=hG.g;have c_K0:=ah hG K0.o;have c_K1:=ah hG K1.o;go_wp2;exact⟨_,rfl,rfl,hG,br⟩
  ·intro x wx hG;have f3:=hG.o 3;replace hG:=hG.g;go_wp2;exact⟨_,rfl,rfl,hG,br⟩
  ·intro x wx hG;have g3:=gr 10 (hG.c 3 _ rfl);replace hG:=hG.g;have c_S0:=ah hG S0.o;go_wp2;exact⟨_,rfl,rfl,hG,br⟩
  ·intro x wx hG;have g2:=gr 9 (hG.c 2 _ rfl);have g4:=gr 11 (hG.c 4 _ rfl);replace hG:=hG.g;go_wp2_with fail
   (with_reducible refine(Hz _ _ k.vec s _ (HK.o.vec.below hG) h0).mono ?_);rintro e wq ⟨rfl,hb⟩;go_wp2;exact⟨_,rfl,rfl,aj hG hb,hb⟩
  ·intro x wx hG;have g1:=gr 8 (hG.c 1 _ rfl);have g5:=gr 12 (hG.c 5 _ rfl);replace hG:=hG.g;go_wp2;exact⟨_,rfl,rfl,hG,br⟩
 ·intro af w1 hg hF;obtain⟨g0,g1,g2,g3,g4,g5,g6, -⟩:=hF;simp only[Cl3.puts,gq (af 0) g0,gq (af 1) g1,gq (af 2) g2,gq (af 3) g3,gq (af 4) g4,gq (af 5) g5,gq (af 6) g6];clear g0 g1 g2 g3 g4 g5 g6;go_simp
  have hbl:=ek.o.trans (hg.mono ek.o.size);have k1:=ah hg K1.o;have s0:=ah hg S0.o;have s1:=ah hg S1.o;have HM:=jD (HK.o.more.below hg);clear hg;cases hd:decide (c≤aQ k.vec s)
  rotate_left
  ·have HD:=jD hd;clear hd;go_wp2;go_ret;exact⟨dU (by rw[H.o,HD.o];rfl),hbl⟩
  ·have HD:=jD hd;clear hd;go_wp2_with fail
   (with_reducible refine(dsearch_c _ k.more (s,c) _ HM.o ho hb ht).mono ?_);rintro e w2 ⟨i,rfl,hi,hb2⟩;replace hbl:=aj hbl hb2;clear hb2 k1 s0 s1;go_wp2;go_ret;exact⟨dU (by rw[H.o,HD.o];rfl),hbl⟩
theorem Dw {d:Int×Int} :bX d=true↔(0≤d.1∧d.1 < 5)∧1≤d.2∧d.2≤1000:=by
 simp only[bX,Bool.and_eq_true,decide_eq_true_eq];omega
def jX (l:dN) (i:Nat):Option (Int×Int):=if i=0 then none else l[i - 1]?
theorem XH {v:List Int} {l:dN} {i:Nat} (hi:i < l.length) (h:dotChk v (jX l i) l[i]=0):dotsFrom v (jX l i) (l.drop i)=dotsFrom v (jX l (i+1)) (l.drop (i+1)):=by
 rw[List.drop_eq_getElem_cons hi];simp only[dotsFrom];rw [if_pos h];unfold jX;simp [hi]
theorem Ug {v:List Int} {l:dN} {i:Nat} {E:Int} (hi:i < l.length) (h:dotChk v (jX l i) l[i]=E) (hE:E≠0):dotsFrom v (jX l i) (l.drop i)=E:=by
 rw[List.drop_eq_getElem_cons hi];simp only[dotsFrom];rw [if_neg (by rw[h];exact hE),h]
theorem Ye {l:List Int} {i:Nat} (hi:i < l.length) (h: ¬(l[i] < 0∨1000 < l[i])):vecChk (l.drop i)=vecChk (l.drop (i+1)):=by
 rw[List.drop_eq_getElem_cons hi];simp only[vecChk];rw [if_neg h]
theorem Wy {l:List Int} {i:Nat} (hi:i < l.length) (h:l[i] < 0∨1000 < l[i]):vecChk (l.drop i)=1:=by
 rw[List.drop_eq_getElem_cons hi];simp only[vecChk];rw [if_pos h]
theorem PY {k:Kn} (h1: ¬5 < k.vec.length) (h2: ¬60 < k.more.length) (h:vecChk k.vec=1):bF k=1:=by
 unfold bF;rw [if_neg (by omega),if_pos (by omega)]
theorem NN {k:Kn} (h1: ¬5 < k.vec.length) (h2: ¬60 < k.more.length) (h:vecChk k.vec=0) (hl:k.vec.getLast? =some 0):bF k=3:=by
 unfold bF;rw [if_neg (by omega),if_neg (by omega),if_pos hl]
theorem Df {k:Kn} (h1: ¬5 < k.vec.length) (h2: ¬60 < k.more.length) (h:vecChk k.vec=0) (hl:k.vec.getLast? ≠some 0):bF k=dotsFrom k.vec (jX k.more 0) (k.more.drop 0):=by
 unfold bF;rw [if_neg (by omega),if_neg (by omega),if_neg hl];rfl
theorem Lx {l:List Int} (h:0 < l.length):l.getLast? =some (l[l.length - 1]'(by omega)):=by
 rw[List.getLast?_eq_getElem?,List.getElem?_eq_getElem]
theorem knChk_c (u v:Value) (k:Kn) (w:World) (hk:dB w u v k):
  Calls Tryz.prog 177 #[.agg #[u,v]] w fun e w'=>e= .returned (.int .i64 (bF k))∧Below w.heap.size w w':=by
 obtain⟨ua,uc,rfl, -,hum, -,qA⟩:=hk.vec.open_;obtain⟨va,vc,rfl, -,hvm, -,hvl⟩:=hk.more.open_;have aaD:=jD hk.vec;clear hk;by_cases h5:5 < k.vec.length
 ·have H:=jD (show bF k=2 by unfold bF;rw [if_pos (.inl h5)]);clear qA hvl;go_enter Tryz.func177,Tryz.ntmps177;go_wp2;go_ret;exact⟨bw H.o.symm,aG _⟩
 by_cases fP:60 < k.more.length
 ·have H:=jD (show bF k=2 by unfold bF;rw [if_pos (.inr fP)]);clear qA hvl;go_enter Tryz.func177,Tryz.ntmps177;go_wp2;go_ret;exact⟨bw H.o.symm,aG _⟩
 have d5:decide (5 < k.vec.length)=false:=by simpa using h5
 have d60:decide (60 < k.more.length)=false:=by simpa using fP
 obtain⟨W,hW⟩: ∃W,W=w.alloc (.cells #[.slice ua k.vec.length uc, .slice va k.more.length vc] 118):=⟨_,rfl⟩
 have hbW:Below w.heap.size w W:=by rw[hW];exact aG _
 have k0:W.cell? ⟨w.heap.size,0,none⟩=some (.slice ua k.vec.length uc):=by rw[hW];exact cat _ _ _ 0 _ rfl _ rfl
 have k1:W.cell? ⟨w.heap.size,1,none⟩=some (.slice va k.more.length vc):=by rw[hW];exact cat _ _ _ 1 _ rfl _ rfl
 obtain⟨UV,Zy⟩: ∃UV,UV=Value.slice ua k.vec.length uc:=⟨_,rfl⟩
 rw[←Zy] at aaD;have K0V:=jD (show W.cell? ⟨w.heap.size,0,none⟩=some UV by rw[Zy];exact k0);clear Zy;have K0:=jD k0;have K1:=jD k1;have ek:=jD hbW;clear hbW k0 k1;go_enter Tryz.func177,Tryz.ntmps177;go_wp2;rw[←hW];clear hW;go_loop [21] (fun i=> ∃q:Nat,q≤k.vec.length∧i= .int .i64 q∧vecChk k.vec=vecChk (k.vec.drop q)) (fun i=>k.vec.length - (intOf i).toNat)
 case atStart=>exact ⟨0,Nat.zero_le _,rfl,rfl⟩
 case round=>
  obtain⟨q,hq,rfl,hv⟩:=hrel;have HV:=jD hv;clear hv;by_cases hlt:q < k.vec.length
  ·rcases qA with hnil | ⟨b,off,rfl,hb,hc⟩
   ·rw[hnil] at hlt;simp at hlt
   have c1:=(ek.o.cell (p:=⟨b,off+q,none⟩) hb).trans (hc q hlt);clear hc hvl;have HO:=jD (Ye hlt);have HB:=jD (Wy hlt);generalize k.vec[q]=x at*;by_cases hx:x < 0∨1000 < x
   ·have HR:=jD (PY h5 fP (HV.o.trans (HB.o hx)));go_wp2;all_goals
     go_ret;exact⟨bw HR.o.symm,ek.o⟩
   ·have HR:=jD (HV.o.trans (HO.o hx));have hx0: ¬x < 0:=by omega
    have hx1: ¬1000 < x:=by omega
    clear hx;go_wp2;go_round
    case rel=>exact ⟨q+1,by omega,by go_num,HR.o⟩
    case measure=>simp [intOf];omega
  ·obtain rfl:q=k.vec.length:=by omega
   have hv0:vecChk k.vec=0:=by rw[HV.o];simp [vecChk]
   have VZ:=jD hv0;clear hv0 HV;have k0:=K0.o;have k1:=K1.o;by_cases hz:k.vec.length=0;focus
    have hl:k.vec.getLast? ≠some 0:=by rw[List.eq_nil_of_length_eq_zero hz];simp
    have HD:=jD (Df h5 fP VZ.o hl);clear hl qA;rw[hz] at k0 ⊢;have hz9:=jD hz;have d9:decide (0 < k.vec.length)=false:=by simp[hz]
    clear hz;go_wp2;clear k0 k1 d9
   rotate_left
   focus
    have hpos:0 < k.vec.length:=by omega
    have Md:=Lx hpos;rcases qA with hnil | ⟨b,off,rfl,hb,hc⟩
    ·exact absurd (by rw[hnil];rfl) hz
    have c1:=(ek.o.cell (p:=⟨b,off+(k.vec.length - 1),none⟩) hb).trans (hc (k.vec.length - 1) (by omega));clear hc;generalize k.vec[k.vec.length - 1]=x at*;have hw1:=IntWalk.i64_in ((k.vec.length:Int) - 1) (by omega);have hnn:0≤(k.vec.length:Int) - 1:=by omega
    have hnt:((k.vec.length:Int) - 1).toNat=k.vec.length - 1:=by omega
    have hnl:(k.vec.length:Int) - 1 < k.vec.length:=by omega
    have d9:decide (0 < k.vec.length)=true:=by simp[hpos]
    by_cases hx:x=0
    ·have HR:=jD (NN h5 fP VZ.o (by rw[Md,hx]));have hx':(x==0)=true:=by simp[hx]
     clear Md hx;go_wp2;go_ret;exact⟨bw HR.o.symm,ek.o⟩
    have HD:=jD (Df h5 fP VZ.o (by rw[Md];simpa using hx));have hx':(x==0)=false:=by simp[hx]
    clear Md hx;go_wp2;clear hw1 hnn hnt hnl hx' c1 k0 k1 d9
   all_goals
    have hvb:=Sm VZ.o;go_loopw [49] (fun i wr=> ∃q:Nat,q≤k.more.length∧i= .int .i64 q∧bF k=dotsFrom k.vec (jX k.more q) (k.more.drop q)∧(∀j (h:j < k.more.length),j < q→bX k.more[j]=true)∧Below W.heap.size W wr) (fun i _=>k.more.length - (intOf i).toNat)
    case atStart=>exact ⟨0,Nat.zero_le _,rfl,HD.o,fun j _ h=>by omega,br⟩
    case round=>
     obtain⟨q,hq,rfl,hno,Vl,hbl⟩:=hrel;obtain⟨wo,hwo⟩: ∃wo,wo=wr:=⟨_,rfl⟩
     subst hwo;have HN:=jD hno;have HP:=jD Vl;clear hno Vl;have aP:=jD (ek.o.trans (hbl.mono ek.o.size));by_cases hlt:q < k.more.length
     ·rcases hvl with hnil | ⟨b2,off2,rfl,hb2,hc⟩
      ·rw[hnil] at hlt;simp at hlt
      have HC:=jD hc;obtain⟨c1,c2⟩:=hc q hlt;replace c1:=(aP.o.cell (p:=⟨b2,off2+q*2,none⟩) hb2).trans c1;replace c2:=(aP.o.cell (p:=⟨b2,off2+q*2+1,none⟩) hb2).trans c2;clear hc;have HO:=jD (fun h=>HN.o.trans (XH (v:=k.vec) hlt h));have HB:=jD (fun E h1 h2=>HN.o.trans (Ug (v:=k.vec) (E:=E) hlt h1 h2));obtain⟨X,hX⟩: ∃X,X=k.more[q]:=⟨_,rfl⟩
      rw[←hX] at c1 c2 HO HB;have HXX:=jD hX;clear hX;have X0:=jD (cat wo #[.int .i64 X.1, .int .i64 X.2] 103 0 _ rfl _ rfl);have X1:=jD (cat wo #[.int .i64 X.1, .int .i64 X.2] 103 1 _ rfl _ rfl);have KV:=jD (aG (W:=wo) (.cells #[.int .i64 X.1, .int .i64 X.2] 103));go_wp2_with fail
      (with_reducible refine(Oi X.1 X.2 _).mono ?_);rintro e w2 ⟨rfl,hb3⟩;have Wq:=jD (aj KV.o hb3);have x0:=ah hb3 X0.o;have x1:=ah hb3 X1.o;have k0:=ah Wq.o (ah hbl K0V.o);have k1:=ah Wq.o (ah hbl K1.o);have Zr:=aj hbl Wq.o;have Y0:=jD x0;have Y1:=jD x1;have L0:=jD k0;have L1:=jD k1;have Cy:=jD (aj aP.o Wq.o);have x6:=jD Zr;have hz2:=blt x0;clear c1 c2 hb3 x0 x1 k0 k1 Zr KV hbl;cases hok:bX (X.1,X.2)
      ·have HR:=jD (HB.o 1 (by unfold dotChk;rw [if_pos hok]) (by decide));clear hok;go_wp2;go_ret;exact⟨bw HR.o.symm,Cy.o⟩
      obtain⟨⟨hx0,uk⟩,hx1,hx1000⟩:=Dw.1 hok;obtain⟨hv0,hv1⟩:=hvb X.1;have Ao:=jD (show dotChk k.vec (jX k.more q) X=if X.2≤aQ k.vec X.1+1 then 3 else match jX k.more q with | none=>0 | some x=>if iJ x X < 0 then 0 else 3 by unfold dotChk;rw [if_neg (by rw[show X=(X.1,X.2) from rfl,hok];decide)];cases jX k.more q <;> rfl);have cz:=jD hok;clear hok hvb;go_wp2_with fail
      have HK:=jD (aaD.o.below Cy.o);have hsum:IntKind.i64.wrap (aQ k.vec X.1+1)=aQ k.vec X.1+1:=IntWalk.i64_in _ (by omega);cases hcmp:decide (X.2≤aQ k.vec X.1+1)
      rotate_left
      ·have HR:=jD (HB.o 3 (by rw[Ao.o,if_pos (by simpa using hcmp)]) (by decide));refine Cl.aV 81 rfl [] (fun _=>True) (fun _=>[]) (fun jq v ww=>match jq with | 0=>v= .pointer (some ⟨wo.heap.size,1,none⟩) | 1=>v= .int .i64 X.2 | 2=>v= .agg #[UV, .slice (some ⟨b2,off2,none⟩) k.more.length vc] | 3=>v= .pointer (some ⟨wo.heap.size,0,none⟩) | 4=>v= .int .i64 X.1 | 5=>v= .int .i64 (aQ k.vec X.1) | 6=>v= .int .i64 (aQ k.vec X.1+1) | 7=>v= .bool true | 8=>v= .bool true | 9=>v=undef | 10=>v=undef | 11=>v=undef | 12=>v=undef | 13=>v=undef | 14=>v=undef | 15=>v=undef | 16=>v=undef | 17=>v=undef | 18=>v=undef | 19=>v=undef | 20=>v=undef | 21=>v=undef | 22=>v= .bool true | _=>True) (fun ww=>Below w2.heap.size w2 ww) (fun jq ww aR=>Below ww.heap.size ww aR) Tryz.mixed (by decide+kernel) (br).drew trivial (fun q r v w w' _ _ _ h _=>h) (fun _ _ _ _ _ _=>trivial) ?_ ?_
       ·refine⟨?_, ?_, ?_, ?_, ?_, ?_, ?_, ?_, ?_, ?_, ?_, ?_, ?_, ?_, ?_, ?_, ?_, ?_, ?_, ?_, ?_, ?_, ?_,trivial⟩
        ·intro x wx hG;have f7:=hG.o 7;replace hG:=hG.g;go_wp2;exact⟨_,rfl,rfl,hG,br⟩
        ·intro x wx hG;have g0:=gr 57 (hG.c 0 _ rfl);replace hG:=hG.g;have Fg:=ah hG Y1.o;go_wp2;exact⟨_,rfl,rfl,hG,br⟩
        ·intro x wx hG;have f1:=hG.o 1;replace hG:=hG.g;have Z8:=ah hG L0.o;have Uz:=ah hG L1.o;go_wp2;exact⟨_,rfl,rfl,hG,br⟩
        ·intro x wx hG;have f7:=hG.o 7;replace hG:=hG.g;go_wp2;exact⟨_,rfl,rfl,hG,br⟩
        ·intro x wx hG;have g3:=gr 60 (hG.c 3 _ rfl);replace hG:=hG.g;have Uy:=ah hG Y0.o;go_wp2;exact⟨_,rfl,rfl,hG,br⟩
        ·intro x wx hG;have g2:=gr 59 (hG.c 2 _ rfl);have g4:=gr 61 (hG.c 4 _ rfl);replace hG:=hG.g;go_wp2_with fail
         (with_reducible refine(Hz _ _ k.vec X.1 _ (HK.o.below hG) hx0).mono ?_);rintro e wq ⟨rfl,hb⟩;go_wp2;exact⟨_,rfl,rfl,aj hG hb,hb⟩
        ·intro x wx hG;have g5:=gr 62 (hG.c 5 _ rfl);replace hG:=hG.g;go_wp2;exact⟨_,rfl,rfl,hG,br⟩
        ·intro x wx hG;have g1:=gr 58 (hG.c 1 _ rfl);have g6:=gr 63 (hG.c 6 _ rfl);replace hG:=hG.g;go_wp2;exact⟨_,rfl,rfl,hG,br⟩
        ·intro x wx hG;have g7:=gr 64 (hG.c 7 _ rfl);replace hG:=hG.g;go_wp2;exact⟨_,rfl,rfl,hG,br⟩
        ·intro x wx hG;have gg:=gr 65 (hG.c 8 _ rfl);replace gg:=hG.q gg;replace hG:=hG.g;go_wp2;exact⟨_,rfl,rfl,hG,br⟩
        ·intro x wx hG;have gg:=gr 65 (hG.c 8 _ rfl);replace gg:=hG.q gg;replace hG:=hG.g;go_wp2;exact⟨_,rfl,rfl,hG,br⟩
        ·intro x wx hG;have gg:=gr 65 (hG.c 8 _ rfl);replace gg:=hG.q gg;replace hG:=hG.g;go_wp2;exact⟨_,rfl,rfl,hG,br⟩
        ·intro x wx hG;have gg:=gr 68 (hG.c 11 _ rfl);replace gg:=hG.q gg;unfold undef at gg;replace hG:=hG.g;go_wp2;exact⟨_,rfl,rfl,hG,br⟩
        ·intro x wx hG;have gg:=gr 68 (hG.c 11 _ rfl);replace gg:=hG.q gg;unfold undef at gg;replace hG:=hG.g;go_wp2;exact⟨_,rfl,rfl,hG,br⟩
        ·intro x wx hG;have gg:=gr 68 (hG.c 11 _ rfl);replace gg:=hG.q gg;unfold undef at gg;replace hG:=hG.g;go_wp2;exact⟨_,rfl,rfl,hG,br⟩
        ·intro x wx hG;have gg:=gr 68 (hG.c 11 _ rfl);replace gg:=hG.q gg;unfold undef at gg;replace hG:=hG.g;go_wp2;exact⟨_,rfl,rfl,hG,br⟩
        ·intro x wx hG;have gg:=gr 68 (hG.c 11 _ rfl);replace gg:=hG.q gg;unfold undef at gg;replace hG:=hG.g;go_wp2;exact⟨_,rfl,rfl,hG,br⟩
        ·intro x wx hG;have gg:=gr 68 (hG.c 11 _ rfl);replace gg:=hG.q gg;unfold undef at gg;replace hG:=hG.g;go_wp2;exact⟨_,rfl,rfl,hG,br⟩
        ·intro x wx hG;have gg:=gr 68 (hG.c 11 _ rfl);replace gg:=hG.q gg;unfold undef at gg;replace hG:=hG.g;go_wp2;exact⟨_,rfl,rfl,hG,br⟩
        ·intro x wx hG;have gg:=gr 68 (hG.c 11 _ rfl);replace gg:=hG.q gg;unfold undef at gg;replace hG:=hG.g;go_wp2;exact⟨_,rfl,rfl,hG,br⟩
        ·intro x wx hG;have gg:=gr 68 (hG.c 11 _ rfl);replace gg:=hG.q gg;unfold undef at gg;replace hG:=hG.g;go_wp2;exact⟨_,rfl,rfl,hG,br⟩
        ·intro x wx hG;have gg:=gr 65 (hG.c 8 _ rfl);replace gg:=hG.q gg;replace hG:=hG.g;go_wp2;exact⟨_,rfl,rfl,hG,br⟩
        ·intro x wx hG;have g8:=gr 65 (hG.c 8 _ rfl);have g21:=gr 78 (hG.c 21 _ rfl);replace hG:=hG.g;go_wp2;exact⟨_,rfl,rfl,hG,br⟩
       ·intro af w3 hg hF;obtain⟨g0,g1,g2,g3,g4,g5,g6,g7,g8,g9,g10,g11,g12,g13,g14,g15,g16,g17,g18,g19,g20,g21,g22, -⟩:=hF;simp only[Cl3.puts,gq (af 0) g0,gq (af 1) g1,gq (af 2) g2,gq (af 3) g3,gq (af 4) g4,gq (af 5) g5,gq (af 6) g6,gq (af 7) g7,gq (af 8) g8,gq (af 9) g9,gq (af 10) g10,gq (af 11) g11,gq (af 12) g12,gq (af 13) g13,gq (af 14) g14,gq (af 15) g15,gq (af 16) g16,gq (af 17) g17,gq (af 18) g18,gq (af 19) g19,gq (af 20) g20,gq (af 21) g21,gq (af 22) g22];clear g0 g1 g2 g3 g4 g5 g6 g7 g8 g9 g10 g11 g12 g13 g14 g15 g16 g17 g18 g19 g20 g21 g22;go_simp
        go_wp2;go_ret;exact⟨bw HR.o.symm,aj Cy.o hg⟩
      ·have hnc: ¬X.2≤aQ k.vec X.1+1:=by simpa using hcmp
       cases q with
       | zero=>
        have HR:=jD (HO.o (by rw[Ao.o,if_neg hnc];rfl));clear hnc;refine Cl.aV 81 rfl [] (fun _=>True) (fun _=>[]) (fun jq v ww=>match jq with | 0=>v= .pointer (some ⟨wo.heap.size,1,none⟩) | 1=>v= .int .i64 X.2 | 2=>v= .agg #[UV, .slice (some ⟨b2,off2,none⟩) k.more.length vc] | 3=>v= .pointer (some ⟨wo.heap.size,0,none⟩) | 4=>v= .int .i64 X.1 | 5=>v= .int .i64 (aQ k.vec X.1) | 6=>v= .int .i64 (aQ k.vec X.1+1) | 7=>v= .bool false | 8=>v= .bool false | 9=>v= .int .i64 0 | 10=>v= .bool false | 11=>v= .bool false | 12=>v=undef | 13=>v=undef | 14=>v=undef | 15=>v=undef | 16=>v=undef | 17=>v=undef | 18=>v=undef | 19=>v=undef | 20=>v=undef | 21=>v= .bool false | 22=>v= .bool false | _=>True) (fun ww=>Below w2.heap.size w2 ww) (fun jq ww aR=>Below ww.heap.size ww aR) Tryz.mixed (by decide+kernel) (br).drew trivial (fun q r v w w' _ _ _ h _=>h) (fun _ _ _ _ _ _=>trivial) ?_ ?_
        ·refine⟨?_, ?_, ?_, ?_, ?_, ?_, ?_, ?_, ?_, ?_, ?_, ?_, ?_, ?_, ?_, ?_, ?_, ?_, ?_, ?_, ?_, ?_, ?_,trivial⟩
         ·intro x wx hG;have f7:=hG.o 7;replace hG:=hG.g;go_wp2;exact⟨_,rfl,rfl,hG,br⟩
         ·intro x wx hG;have g0:=gr 57 (hG.c 0 _ rfl);replace hG:=hG.g;have Fg:=ah hG Y1.o;go_wp2;exact⟨_,rfl,rfl,hG,br⟩
         ·intro x wx hG;have f1:=hG.o 1;replace hG:=hG.g;have Z8:=ah hG L0.o;have Uz:=ah hG L1.o;go_wp2;exact⟨_,rfl,rfl,hG,br⟩
         ·intro x wx hG;have f7:=hG.o 7;replace hG:=hG.g;go_wp2;exact⟨_,rfl,rfl,hG,br⟩
         ·intro x wx hG;have g3:=gr 60 (hG.c 3 _ rfl);replace hG:=hG.g;have Uy:=ah hG Y0.o;go_wp2;exact⟨_,rfl,rfl,hG,br⟩
         ·intro x wx hG;have g2:=gr 59 (hG.c 2 _ rfl);have g4:=gr 61 (hG.c 4 _ rfl);replace hG:=hG.g;go_wp2_with fail
          (with_reducible refine(Hz _ _ k.vec X.1 _ (HK.o.below hG) hx0).mono ?_);rintro e wq ⟨rfl,hb⟩;go_wp2;exact⟨_,rfl,rfl,aj hG hb,hb⟩
         ·intro x wx hG;have g5:=gr 62 (hG.c 5 _ rfl);replace hG:=hG.g;go_wp2;exact⟨_,rfl,rfl,hG,br⟩
         ·intro x wx hG;have g1:=gr 58 (hG.c 1 _ rfl);have g6:=gr 63 (hG.c 6 _ rfl);replace hG:=hG.g;go_wp2;exact⟨_,rfl,rfl,hG,br⟩
         ·intro x wx hG;have g7:=gr 64 (hG.c 7 _ rfl);replace hG:=hG.g;go_wp2;exact⟨_,rfl,rfl,hG,br⟩
         ·intro x wx hG;have f6:=hG.o 6;have gg:=gr 65 (hG.c 8 _ rfl);replace gg:=hG.q gg;replace hG:=hG.g;go_wp2;exact⟨_,rfl,rfl,hG,br⟩
         ·intro x wx hG;have g9:=gr 66 (hG.c 9 _ rfl);have gg:=gr 65 (hG.c 8 _ rfl);replace gg:=hG.q gg;replace hG:=hG.g;go_wp2;exact⟨_,rfl,rfl,hG,br⟩
         ·intro x wx hG;have g10:=gr 67 (hG.c 10 _ rfl);have gg:=gr 65 (hG.c 8 _ rfl);replace gg:=hG.q gg;replace hG:=hG.g;go_wp2;exact⟨_,rfl,rfl,hG,br⟩
         ·intro x wx hG;have gg:=gr 68 (hG.c 11 _ rfl);replace gg:=hG.q gg;replace hG:=hG.g;go_wp2;exact⟨_,rfl,rfl,hG,br⟩
         ·intro x wx hG;have gg:=gr 68 (hG.c 11 _ rfl);replace gg:=hG.q gg;replace hG:=hG.g;go_wp2;exact⟨_,rfl,rfl,hG,br⟩
         ·intro x wx hG;have gg:=gr 68 (hG.c 11 _ rfl);replace gg:=hG.q gg;replace hG:=hG.g;go_wp2;exact⟨_,rfl,rfl,hG,br⟩
         ·intro x wx hG;have gg:=gr 68 (hG.c 11 _ rfl);replace gg:=hG.q gg;replace hG:=hG.g;go_wp2;exact⟨_,rfl,rfl,hG,br⟩
         ·intro x wx hG;have gg:=gr 68 (hG.c 11 _ rfl);replace gg:=hG.q gg;replace hG:=hG.g;go_wp2;exact⟨_,rfl,rfl,hG,br⟩
         ·intro x wx hG;have gg:=gr 68 (hG.c 11 _ rfl);replace gg:=hG.q gg;replace hG:=hG.g;go_wp2;exact⟨_,rfl,rfl,hG,br⟩
         ·intro x wx hG;have gg:=gr 68 (hG.c 11 _ rfl);replace gg:=hG.q gg;replace hG:=hG.g;go_wp2;exact⟨_,rfl,rfl,hG,br⟩
         ·intro x wx hG;have gg:=gr 68 (hG.c 11 _ rfl);replace gg:=hG.q gg;replace hG:=hG.g;go_wp2;exact⟨_,rfl,rfl,hG,br⟩
         ·intro x wx hG;have gg:=gr 68 (hG.c 11 _ rfl);replace gg:=hG.q gg;replace hG:=hG.g;go_wp2;exact⟨_,rfl,rfl,hG,br⟩
         ·intro x wx hG;have g11:=gr 68 (hG.c 11 _ rfl);have g20:=gr 77 (hG.c 20 _ rfl);have gg:=gr 65 (hG.c 8 _ rfl);replace gg:=hG.q gg;replace hG:=hG.g;go_wp2;exact⟨_,rfl,rfl,hG,br⟩
         ·intro x wx hG;have g8:=gr 65 (hG.c 8 _ rfl);have g21:=gr 78 (hG.c 21 _ rfl);replace hG:=hG.g;go_wp2;exact⟨_,rfl,rfl,hG,br⟩
        ·intro af w3 hg hF;obtain⟨g0,g1,g2,g3,g4,g5,g6,g7,g8,g9,g10,g11,g12,g13,g14,g15,g16,g17,g18,g19,g20,g21,g22, -⟩:=hF;simp only[Cl3.puts,gq (af 0) g0,gq (af 1) g1,gq (af 2) g2,gq (af 3) g3,gq (af 4) g4,gq (af 5) g5,gq (af 6) g6,gq (af 7) g7,gq (af 8) g8,gq (af 9) g9,gq (af 10) g10,gq (af 11) g11,gq (af 12) g12,gq (af 13) g13,gq (af 14) g14,gq (af 15) g15,gq (af 16) g16,gq (af 17) g17,gq (af 18) g18,gq (af 19) g19,gq (af 20) g20,gq (af 21) g21,gq (af 22) g22];clear g0 g1 g2 g3 g4 g5 g6 g7 g8 g9 g10 g11 g12 g13 g14 g15 g16 g17 g18 g19 g20 g21 g22;go_simp
         go_wp2;go_roundw
         case rel=>
          refine⟨1,by omega,by go_num,HR.o,fun j h hj=> ?_,aj x6.o hg⟩;obtain rfl:j=0:=by omega
          rw[←HXX.o];exact cz.o
         case measure=>simp [intOf];omega
       | succ p=>
        obtain⟨g1,g2⟩:=HC.o p (by omega);have P0:=jD ((Cy.o.cell (p:=⟨b2,off2+p*2,none⟩) hb2).trans g1);have P1:=jD ((Cy.o.cell (p:=⟨b2,off2+p*2+1,none⟩) hb2).trans g2);have RG:=jD (show jX k.more (p+1)=some k.more[p] by unfold jX;rw [if_neg (by omega),Nat.add_sub_cancel,List.getElem?_eq_getElem (by omega)]);obtain⟨⟨hy0,hy5⟩,hy1,YT⟩:=Dw.1 (HP.o p (by omega) (by omega));obtain⟨Y,hY⟩: ∃Y,Y=k.more[p]:=⟨_,rfl⟩
        rw[←hY] at P0 P1 RG hy0 hy5 hy1 YT;have abk:=jD (show dotChk k.vec (jX k.more (p+1)) X=if iJ Y X < 0 then 0 else 3 by rw[Ao.o,if_neg hnc,RG.o]);have hp1:IntKind.i64.wrap ((p:Int)+1 - 1)=(p:Int):=by rw[show((p:Int)+1 - 1)=p by omega];exact IntWalk.i64_in _ (by omega)
        have hpl:(p:Int) < k.more.length:=by omega
        have Vm:decide ((0:Int) < (p:Int)+1)=true:=by simp
        clear g1 g2 hY HC hnc;refine Cl.aV 81 rfl [] (fun _=>True) (fun _=>[]) (fun jq v ww=>match jq with | 0=>v= .pointer (some ⟨wo.heap.size,1,none⟩) | 1=>v= .int .i64 X.2 | 2=>v= .agg #[UV, .slice (some ⟨b2,off2,none⟩) k.more.length vc] | 3=>v= .pointer (some ⟨wo.heap.size,0,none⟩) | 4=>v= .int .i64 X.1 | 5=>v= .int .i64 (aQ k.vec X.1) | 6=>v= .int .i64 (aQ k.vec X.1+1) | 7=>v= .bool false | 8=>v= .bool false | 9=>v= .int .i64 ((p:Int)+1) | 10=>v= .bool true | 11=>v= .bool true | 12=>v= .pointer (some ⟨w.heap.size,1,none⟩) | 13=>v= .slice (some ⟨b2,off2,none⟩) k.more.length vc | 14=>v= .int .i64 ((p:Int)+1) | 15=>v= .int .i64 (p:Nat) | 16=>v= .pointer (some ⟨b2,off2+p*2,none⟩) | 17=>v= .agg #[.int .i64 Y.1, .int .i64 Y.2] | 18=>v= .agg #[.int .i64 X.1, .int .i64 X.2] | 19=>v= .int .i64 (iJ Y X) | 20=>v= .bool (decide (0≤iJ Y X)) | 21=>v= .bool (decide (0≤iJ Y X)) | 22=>v= .bool (decide (0≤iJ Y X)) | _=>True) (fun ww=>Below w2.heap.size w2 ww) (fun jq ww aR=>Below ww.heap.size ww aR) Tryz.mixed (by decide+kernel) (br).drew trivial (fun q r v w w' _ _ _ h _=>h) (fun _ _ _ _ _ _=>trivial) ?_ ?_
        ·refine⟨?_, ?_, ?_, ?_, ?_, ?_, ?_, ?_, ?_, ?_, ?_, ?_, ?_, ?_, ?_, ?_, ?_, ?_, ?_, ?_, ?_, ?_, ?_,trivial⟩
         ·intro x wx hG;have f7:=hG.o 7;replace hG:=hG.g;go_wp2;exact⟨_,rfl,rfl,hG,br⟩
         ·intro x wx hG;have g0:=gr 57 (hG.c 0 _ rfl);replace hG:=hG.g;have Fg:=ah hG Y1.o;go_wp2;exact⟨_,rfl,rfl,hG,br⟩
         ·intro x wx hG;have f1:=hG.o 1;replace hG:=hG.g;have Z8:=ah hG L0.o;have Uz:=ah hG L1.o;go_wp2;exact⟨_,rfl,rfl,hG,br⟩
         ·intro x wx hG;have f7:=hG.o 7;replace hG:=hG.g;go_wp2;exact⟨_,rfl,rfl,hG,br⟩
         ·intro x wx hG;have g3:=gr 60 (hG.c 3 _ rfl);replace hG:=hG.g;have Uy:=ah hG Y0.o;go_wp2;exact⟨_,rfl,rfl,hG,br⟩
         ·intro x wx hG;have g2:=gr 59 (hG.c 2 _ rfl);have g4:=gr 61 (hG.c 4 _ rfl);replace hG:=hG.g;go_wp2_with fail
          (with_reducible refine(Hz _ _ k.vec X.1 _ (HK.o.below hG) hx0).mono ?_);rintro e wq ⟨rfl,hb⟩;go_wp2;exact⟨_,rfl,rfl,aj hG hb,hb⟩
         ·intro x wx hG;have g5:=gr 62 (hG.c 5 _ rfl);replace hG:=hG.g;go_wp2;exact⟨_,rfl,rfl,hG,br⟩
         ·intro x wx hG;have g1:=gr 58 (hG.c 1 _ rfl);have g6:=gr 63 (hG.c 6 _ rfl);replace hG:=hG.g;go_wp2;exact⟨_,rfl,rfl,hG,br⟩
         ·intro x wx hG;have g7:=gr 64 (hG.c 7 _ rfl);replace hG:=hG.g;go_wp2;exact⟨_,rfl,rfl,hG,br⟩
         ·intro x wx hG;have f6:=hG.o 6;have gg:=gr 65 (hG.c 8 _ rfl);replace gg:=hG.q gg;replace hG:=hG.g;go_wp2;exact⟨_,rfl,rfl,hG,br⟩
         ·intro x wx hG;have g9:=gr 66 (hG.c 9 _ rfl);have gg:=gr 65 (hG.c 8 _ rfl);replace gg:=hG.q gg;replace hG:=hG.g;go_wp2;exact⟨_,rfl,rfl,hG,br⟩
         ·intro x wx hG;have g10:=gr 67 (hG.c 10 _ rfl);have gg:=gr 65 (hG.c 8 _ rfl);replace gg:=hG.q gg;replace hG:=hG.g;go_wp2;exact⟨_,rfl,rfl,hG,br⟩
         ·intro x wx hG;have f1:=hG.o 1;have gg:=gr 68 (hG.c 11 _ rfl);replace gg:=hG.q gg;replace hG:=hG.g;go_wp2;exact⟨_,rfl,rfl,hG,br⟩
         ·intro x wx hG;have g12:=gr 69 (hG.c 12 _ rfl);have gg:=gr 68 (hG.c 11 _ rfl);replace gg:=hG.q gg;replace hG:=hG.g;have Uz:=ah hG L1.o;go_wp2;exact⟨_,rfl,rfl,hG,br⟩
         ·intro x wx hG;have f6:=hG.o 6;have gg:=gr 68 (hG.c 11 _ rfl);replace gg:=hG.q gg;replace hG:=hG.g;go_wp2;exact⟨_,rfl,rfl,hG,br⟩
         ·intro x wx hG;have g14:=gr 71 (hG.c 14 _ rfl);have gg:=gr 68 (hG.c 11 _ rfl);replace gg:=hG.q gg;replace hG:=hG.g;go_wp2;exact⟨_,rfl,rfl,hG,br⟩
         ·intro x wx hG;have g13:=gr 70 (hG.c 13 _ rfl);have g15:=gr 72 (hG.c 15 _ rfl);have gg:=gr 68 (hG.c 11 _ rfl);replace gg:=hG.q gg;replace hG:=hG.g;go_wp2;exact⟨_,rfl,rfl,hG,br⟩
         ·intro x wx hG;have g16:=gr 73 (hG.c 16 _ rfl);have gg:=gr 68 (hG.c 11 _ rfl);replace gg:=hG.q gg;replace hG:=hG.g;have c_P0:=ah hG P0.o;have c_P1:=ah hG P1.o;go_wp2;exact⟨_,rfl,rfl,hG,br⟩
         ·intro x wx hG;have f7:=hG.o 7;have gg:=gr 68 (hG.c 11 _ rfl);replace gg:=hG.q gg;replace hG:=hG.g;have Uy:=ah hG Y0.o;have Fg:=ah hG Y1.o;go_wp2;exact⟨_,rfl,rfl,hG,br⟩
         ·intro x wx hG;have g17:=gr 74 (hG.c 17 _ rfl);have g18:=gr 75 (hG.c 18 _ rfl);have gg:=gr 68 (hG.c 11 _ rfl);replace gg:=hG.q gg;replace hG:=hG.g;go_wp2_with fail
          (with_reducible refine(Dz Y X _ (by omega) (by omega) (by omega) (by omega) (by omega) (by omega) (by omega) (by omega)).mono ?_);rintro e wq ⟨rfl,o1,o2,rfl⟩;go_wp2;exact⟨_,rfl,rfl,(hG.alloc hG.size _).alloc (by have:=hG.size;simp;omega) _,(aG _).alloc (by simp) _⟩
         ·intro x wx hG;have g19:=gr 76 (hG.c 19 _ rfl);have gg:=gr 68 (hG.c 11 _ rfl);replace gg:=hG.q gg;replace hG:=hG.g;go_wp2;exact⟨_,rfl,rfl,hG,br⟩
         ·intro x wx hG;have g11:=gr 68 (hG.c 11 _ rfl);have g20:=gr 77 (hG.c 20 _ rfl);have gg:=gr 65 (hG.c 8 _ rfl);replace gg:=hG.q gg;replace hG:=hG.g;go_wp2;exact⟨_,rfl,rfl,hG,br⟩
         ·intro x wx hG;have g8:=gr 65 (hG.c 8 _ rfl);have g21:=gr 78 (hG.c 21 _ rfl);replace hG:=hG.g;go_wp2;exact⟨_,rfl,rfl,hG,br⟩
        ·intro af w3 hg hF;obtain⟨g0,g1,g2,g3,g4,g5,g6,g7,g8,g9,g10,g11,g12,g13,g14,g15,g16,g17,g18,g19,g20,g21,g22, -⟩:=hF;simp only[Cl3.puts,gq (af 0) g0,gq (af 1) g1,gq (af 2) g2,gq (af 3) g3,gq (af 4) g4,gq (af 5) g5,gq (af 6) g6,gq (af 7) g7,gq (af 8) g8,gq (af 9) g9,gq (af 10) g10,gq (af 11) g11,gq (af 12) g12,gq (af 13) g13,gq (af 14) g14,gq (af 15) g15,gq (af 16) g16,gq (af 17) g17,gq (af 18) g18,gq (af 19) g19,gq (af 20) g20,gq (af 21) g21,gq (af 22) g22];clear g0 g1 g2 g3 g4 g5 g6 g7 g8 g9 g10 g11 g12 g13 g14 g15 g16 g17 g18 g19 g20 g21 g22;go_simp
         have HG:=jD hg;clear hg;cases hfin:decide (0≤iJ Y X)
         ·have HR:=jD (HO.o (by rw[abk.o,if_pos (by simp at hfin;exact hfin)]));go_wp2;go_roundw
          case rel=>
           refine⟨p+1+1,by omega,by go_num,HR.o,fun j h hj=> ?_,aj x6.o HG.o⟩;by_cases e:j=p+1
           ·subst e;rw [←HXX.o];exact cz.o
           ·exact HP.o j h (by omega)
          case measure=>simp [intOf];omega
         ·have HR:=jD (HB.o 3 (by rw[abk.o,if_neg (by simp at hfin;omega)]) (by decide));go_wp2;go_ret;exact⟨bw HR.o.symm,aj Cy.o HG.o⟩
     ·obtain rfl:q=k.more.length:=by omega
      have HR:=jD (show bF k=0 by rw[HN.o];simp [dotsFrom]);go_wp2;go_ret;exact⟨bw HR.o.symm,aP.o⟩
def gy (a b:Kn):Int:=if bF a=0 then bF b else bF a
theorem tM {a b:Kn} :gy a b=0↔bF a=0∧bF b=0:=by
 unfold gy;split
 ·rename_i h;simp [h]
 ·rename_i h;simp [h]
theorem PW (ua va ub vb:Value) (a b:Kn) (w:World) (ha:dB w ua va a) (hb:dB w ub vb b):
  Calls Tryz.prog 226 #[.agg #[ua,va], .agg #[ub,vb]] w fun e w'=>e= .returned (.int .i64 (gy a b))∧Below w.heap.size w w':=by
 obtain⟨xa,ca,rfl⟩:=ha.vec.shape;obtain⟨ya,da,rfl⟩:=ha.more.shape;obtain⟨xb,cb,rfl⟩:=hb.vec.shape;obtain⟨yb,db,rfl⟩:=hb.more.shape;have dm:Below w.heap.size w ((w.alloc (.cells #[.slice xa a.vec.length ca, .slice ya a.more.length da] 118)).alloc (.cells #[.slice xb b.vec.length cb, .slice yb b.more.length db] 118)):=(aG _).alloc (by simp) _;have HA:=jD (ha.below dm);have HB:=jD (hb.below dm);have C0:=jD (cat (w.alloc (.cells #[.slice xa a.vec.length ca, .slice ya a.more.length da] 118)) #[.slice xb b.vec.length cb, .slice yb b.more.length db] 118 0 _ rfl (w.heap.size+1) (by simp));have C1:=jD (cat (w.alloc (.cells #[.slice xa a.vec.length ca, .slice ya a.more.length da] 118)) #[.slice xb b.vec.length cb, .slice yb b.more.length db] 118 1 _ rfl (w.heap.size+1) (by simp));have gM:=jD dm;clear ha hb dm;go_enter Tryz.func226,Tryz.ntmps226;go_wp2_with fail
 (with_reducible refine(knChk_c _ _ a _ HA.o).mono ?_);rintro e w1 ⟨rfl,hb1⟩;have c0:=ah hb1 C0.o;have c1:=ah hb1 C1.o;have bh:=jD (HB.o.below hb1);have hbl:=aj gM.o hb1;clear hb1 C0 C1 gM;cases hx:(bF a==0)
 ·have H:=jD (show gy a b=bF a by unfold gy;rw [if_neg (by simpa using hx)]);have h':(bF a != 0)=true:=by simp[bne,hx]
  clear hx;go_wp2;go_ret;exact⟨bw H.o.symm,hbl⟩
 have H:=jD (show gy a b=bF b by unfold gy;rw [if_pos (by simpa using hx)]);have h0:bF a=0:=by simpa using hx
 rw[h0];clear hx h0;go_wp2_with fail
 (with_reducible refine(knChk_c _ _ b _ bh.o).mono ?_);rintro e w2 ⟨rfl,hb2⟩;replace hbl:=aj hbl hb2;clear hb2 c0 c1;go_wp2;go_ret;exact⟨bw H.o.symm,hbl⟩
def pq (k:Kn):Int:=if bF k=0 then k.more.length+k.vec.sum else 0
theorem SB (l:List Int) (i:Nat) (hi:i < l.length):(l.take (i+1)).sum=(l.take i).sum+l[i]:=by
 rw[List.take_succ_eq_append_getElem hi,List.sum_append];simp
theorem Yk (l:List Int) (h: ∀n∈l,0≤n∧n≤1000):0≤l.sum∧l.sum≤1000*l.length:=by
 induction l with
 | nil=>simp
 | cons x l ih=>have:=ih fun n hn=>h n (List.mem_cons_of_mem _ hn);have:=h x List.mem_cons_self;simp only[List.sum_cons,List.length_cons];omega
theorem PX (u v:Value) (k:Kn) (w:World) (hk:dB w u v k):
  Calls Tryz.prog 213 #[.agg #[u,v]] w fun e w'=>e= .returned (.tuple #[.int .i64 (pq k), .int .i64 (bF k)])∧Below w.heap.size w w':=by
 obtain⟨ya,da,rfl⟩:=hk.more.shape;obtain⟨ua,uc,rfl, -,hum, -,qA⟩:=hk.vec.open_;have hbW:Below w.heap.size w (w.alloc (.cells #[.slice ua k.vec.length uc, .slice ya k.more.length da] 118)):=aG _;have K0:=jD (cat w #[.slice ua k.vec.length uc, .slice ya k.more.length da] 118 0 _ rfl _ rfl);have K1:=jD (cat w #[.slice ua k.vec.length uc, .slice ya k.more.length da] 118 1 _ rfl _ rfl);have HK:=jD (hk.below hbW);have ek:=jD hbW;clear hbW hk;go_enter Tryz.func213,Tryz.ntmps213;go_wp2_with fail
 (with_reducible refine(knChk_c _ _ k _ HK.o).mono ?_);rintro e w1 ⟨rfl,hb⟩;have k0:=ah hb K0.o;have k1:=ah hb K1.o;have hbl:=aj ek.o hb;clear hb K0 K1 HK ek;cases hx:(bF k==0)
 ·have H:=jD (show pq k=0 by unfold pq;rw [if_neg (by simpa using hx)]);have h':(bF k != 0)=true:=by simp[bne,hx]
  clear hx qA;go_wp2;go_ret2;exact⟨yR H.o.symm rfl,hbl⟩
 have h0:bF k=0:=by simpa using hx
 obtain⟨ok,fP⟩:=di.1 h0;have H:=jD (show pq k=k.more.length+k.vec.sum by unfold pq;rw [if_pos h0]);have aZ:=jD ok.bd;have h5:=ok.len;have H0:=jD h0;rw[h0];clear hx h0 ok;go_wp2;go_loop [5,19] (fun n i=> ∃q:Nat,q≤k.vec.length∧i= .int .i64 q∧n= .int .i64 (k.more.length+(k.vec.take q).sum)) (fun _ i=>k.vec.length - (intOf i).toNat)
 case atStart=>exact ⟨0,Nat.zero_le _,rfl,by simp⟩
 case round=>
  obtain⟨q,hq,rfl,rfl⟩:=hrel;by_cases hlt:q < k.vec.length
  ·rcases qA with hnil | ⟨b,off,rfl,hb,hc⟩
   ·rw[hnil] at hlt;simp at hlt
   have c1:=(hbl.cell (p:=⟨b,off+q,none⟩) hb).trans (hc q hlt);have HT:=jD (SB k.vec q hlt);obtain⟨x0,x1⟩:=aZ.o _ (List.getElem_mem hlt);obtain⟨s0,s1⟩:=Yk (k.vec.take q) fun n hn=>aZ.o n (List.mem_of_mem_take hn);have hl:(k.vec.take q).length≤5:=by simp;omega
   have s2:(k.vec.take q).sum≤5000:=by omega
   clear hc s1 hl;generalize (k.vec.take q).sum=S at*;generalize k.vec[q]=x at*;go_wp2;go_round
   case rel=>exact ⟨q+1,by omega,by go_num,by rw[HT.o];congr 1;omega⟩
   case measure=>simp [intOf];omega
  ·obtain rfl:q=k.vec.length:=by omega
   go_wp2;go_ret2;exact⟨yR (by rw[H.o]) H0.o.symm,hbl⟩
end Go.Proofs.YtajgndoiddmbmaaGreatDoor
