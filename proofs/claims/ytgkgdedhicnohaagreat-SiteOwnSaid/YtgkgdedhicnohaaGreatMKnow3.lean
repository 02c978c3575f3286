/- What know.In and know.Check do. Written by a small program (gen/know3.py). What know.two, told, Has, Count do. -/
import Derived.Test.YtgkgdedhicnohaaGreatMKnow1
namespace Go.Proofs.YtgkgdedhicnohaaGreat
set_option maxRecDepth 100000
set_option maxHeartbeats 40000000
open Go.RowKit
theorem vecAt_bd {l:List Int} (h:vecChk l=0) (s:Int):0≤vecAt l s∧vecAt l s≤1000:=by
 have h:=vecChk_zero.1 h
 unfold vecAt
 by_cases hs:s.toNat < l.length
 ·rw[List.getD_eq_getElem?_getD,List.getElem?_eq_getElem hs];exact h _ (List.getElem_mem hs)
 ·rw[List.getD_eq_getElem?_getD,List.getElem?_eq_none (by omega)];simp
theorem knIn_c (u v:Value) (k:Kn) (s c:Int) (w:World) (hk:KnAt w u v k) (h0:0≤s) (ho:k.more.Pairwise dlt) (hb:dotBd k.more) (ht:dotBd [(s,c)]):
  Calls Tryz.prog 127 #[.agg #[u,v], .agg #[.int .i64 s, .int .i64 c]] w fun e w'=>e= .returned (.bool (knIn k s c))∧Below w.heap.size w w':=by
 obtain⟨W,hW⟩: ∃W,W=(w.alloc (.cells #[u,v] 73)).alloc (.cells #[.int .i64 s, .int .i64 c] 41):=⟨_,rfl⟩
 have hbW:Below w.heap.size w W:=by rw[hW];exact (bal _).alloc (by simp) _
 have K0:=jD (show W.cell? ⟨w.heap.size,0,none⟩=some u by rw[hW];exact cpast _ (cat _ _ _ 0 _ rfl _ rfl))
 have K1:=jD (show W.cell? ⟨w.heap.size,1,none⟩=some v by rw[hW];exact cpast _ (cat _ _ _ 1 _ rfl _ rfl))
 have S0:=jD (show W.cell? ⟨w.heap.size+1,0,none⟩=some (.int .i64 s) by rw[hW];exact cat _ _ _ 0 _ rfl _ (by simp))
 have S1:=jD (show W.cell? ⟨w.heap.size+1,1,none⟩=some (.int .i64 c) by rw[hW];exact cat _ _ _ 1 _ rfl _ (by simp))
 have HK:=jD (hk.below hbW)
 have HBW:=jD hbW
 have H:=jD (show knIn k s c=(decide (c≤vecAt k.vec s) || decide ((s,c)∈k.more)) from rfl)
 obtain⟨va,vc,hv⟩:=hk.more.shape
 obtain⟨ua,uc,hu⟩:=hk.vec.shape
 subst hv hu
 clear hbW hk
 go_enter Tryz.func127,Tryz.ntmps127
 go_wp2_with fail
 rw[←hW]
 clear hW
 refine Cl.region0 22 rfl [] (fun _=>True) (fun _=>[]) (fun jq v ww=>match jq with | 0=>v= .pointer (some ⟨w.heap.size+1,1,none⟩) | 1=>v= .int .i64 c | 2=>v= .agg #[.slice ua k.vec.length uc, .slice va k.more.length vc] | 3=>v= .pointer (some ⟨w.heap.size+1,0,none⟩) | 4=>v= .int .i64 s | 5=>v= .int .i64 (vecAt k.vec s) | 6=>v= .bool (decide (c≤vecAt k.vec s)) | _=>True) (fun ww=>Below W.heap.size W ww) (fun jq ww ww'=>Below ww.heap.size ww ww') Tryz.mixed (by decide+kernel) (Below.refl _ _).drew trivial (fun q r v w w' _ _ _ h _=>h) (fun _ _ _ _ _ _=>trivial) ?_ ?_
 ·refine⟨?_, ?_, ?_, ?_, ?_, ?_, ?_,trivial⟩
  ·intro x wx hG
   have f3:=hG.o 3
   replace hG:=hG.good
   go_wp2
   exact⟨_,rfl,rfl,hG,Below.refl _ _⟩
  ·intro x wx hG
   have g0:(x.tmps.getD 7 undef)= .pointer (some ⟨w.heap.size+1,1,none⟩):=hG.c 0 _ rfl
   replace hG:=hG.good
   have c_S1:=ckeep hG S1.out
   go_wp2
   exact⟨_,rfl,rfl,hG,Below.refl _ _⟩
  ·intro x wx hG
   have f2:=hG.o 2
   replace hG:=hG.good
   have c_K0:=ckeep hG K0.out
   have c_K1:=ckeep hG K1.out
   go_wp2
   exact⟨_,rfl,rfl,hG,Below.refl _ _⟩
  ·intro x wx hG
   have f3:=hG.o 3
   replace hG:=hG.good
   go_wp2
   exact⟨_,rfl,rfl,hG,Below.refl _ _⟩
  ·intro x wx hG
   have g3:(x.tmps.getD 10 undef)= .pointer (some ⟨w.heap.size+1,0,none⟩):=hG.c 3 _ rfl
   replace hG:=hG.good
   have c_S0:=ckeep hG S0.out
   go_wp2
   exact⟨_,rfl,rfl,hG,Below.refl _ _⟩
  ·intro x wx hG
   have g2:(x.tmps.getD 9 undef)= .agg #[.slice ua k.vec.length uc, .slice va k.more.length vc]:=hG.c 2 _ rfl
   have g4:(x.tmps.getD 11 undef)= .int .i64 s:=hG.c 4 _ rfl
   replace hG:=hG.good
   go_wp2_with fail
   (with_reducible refine(vec_c _ _ k.vec s _ (HK.out.vec.below hG) h0).mono ?_)
   rintro e wq ⟨rfl,hb⟩
   go_wp2
   exact⟨_,rfl,rfl,bstep hG hb,hb⟩
  ·intro x wx hG
   have g1:(x.tmps.getD 8 undef)= .int .i64 c:=hG.c 1 _ rfl
   have g5:(x.tmps.getD 12 undef)= .int .i64 (vecAt k.vec s):=hG.c 5 _ rfl
   replace hG:=hG.good
   go_wp2
   exact⟨_,rfl,rfl,hG,Below.refl _ _⟩
 ·intro vals w1 hg hF
  obtain⟨g0,g1,g2,g3,g4,g5,g6, -⟩:=hF
  have e0:=gq (vals 0) g0
  have e1:=gq (vals 1) g1
  have e2:=gq (vals 2) g2
  have e3:=gq (vals 3) g3
  have e4:=gq (vals 4) g4
  have e5:=gq (vals 5) g5
  have e6:=gq (vals 6) g6
  simp only[Cl.puts,e0,e1,e2,e3,e4,e5,e6]
  clear e0 e1 e2 e3 e4 e5 e6 g0 g1 g2 g3 g4 g5 g6
  go_simp
  have hbl:=HBW.out.trans (hg.mono HBW.out.size)
  have k1:=ckeep hg K1.out
  have s0:=ckeep hg S0.out
  have s1:=ckeep hg S1.out
  have HM:=jD (HK.out.more.below hg)
  clear hg
  cases hd:decide (c≤vecAt k.vec s)
  rotate_left
  ·have HD:=jD hd
   clear hd
   go_wp2
   go_ret
   exact⟨ret_bool (by rw[H.out,HD.out];rfl),hbl⟩
  ·have HD:=jD hd
   clear hd
   go_wp2_with fail
   (with_reducible refine(dsearch_c _ k.more (s,c) _ HM.out ho hb ht).mono ?_)
   rintro e w2 ⟨i,rfl,hi,hb2⟩
   replace hbl:=bstep hbl hb2
   clear hb2 k1 s0 s1
   go_wp2
   go_ret
   exact⟨ret_bool (by rw[H.out,HD.out];rfl),hbl⟩
theorem dotOk_iff' {d:Int×Int} :dotOk d=true↔(0≤d.1∧d.1 < 5)∧1≤d.2∧d.2≤1000:=by
 simp only[dotOk,Bool.and_eq_true,decide_eq_true_eq];omega
def lastAt (l:Dots) (i:Nat):Option (Int×Int):=if i=0 then none else l[i - 1]?
theorem dots_ok {v:List Int} {l:Dots} {i:Nat} (hi:i < l.length) (h:dotChk v (lastAt l i) l[i]=0):dotsFrom v (lastAt l i) (l.drop i)=dotsFrom v (lastAt l (i+1)) (l.drop (i+1)):=by
 rw[List.drop_eq_getElem_cons hi];simp only[dotsFrom];rw [if_pos h];unfold lastAt;simp [hi]
theorem dots_bad {v:List Int} {l:Dots} {i:Nat} {E:Int} (hi:i < l.length) (h:dotChk v (lastAt l i) l[i]=E) (hE:E≠0):dotsFrom v (lastAt l i) (l.drop i)=E:=by
 rw[List.drop_eq_getElem_cons hi];simp only[dotsFrom];rw [if_neg (by rw[h];exact hE),h]
theorem vec_ok {l:List Int} {i:Nat} (hi:i < l.length) (h: ¬(l[i] < 0∨1000 < l[i])):vecChk (l.drop i)=vecChk (l.drop (i+1)):=by
 rw[List.drop_eq_getElem_cons hi];simp only[vecChk];rw [if_neg h]
theorem vec_bad {l:List Int} {i:Nat} (hi:i < l.length) (h:l[i] < 0∨1000 < l[i]):vecChk (l.drop i)=1:=by
 rw[List.drop_eq_getElem_cons hi];simp only[vecChk];rw [if_pos h]
theorem knChk_vec {k:Kn} (h1: ¬5 < k.vec.length) (h2: ¬60 < k.more.length) (h:vecChk k.vec=1):knChk k=1:=by
 unfold knChk;rw [if_neg (by omega),if_pos (by omega)]
theorem knChk_last {k:Kn} (h1: ¬5 < k.vec.length) (h2: ¬60 < k.more.length) (h:vecChk k.vec=0) (hl:k.vec.getLast? =some 0):knChk k=3:=by
 unfold knChk;rw [if_neg (by omega),if_neg (by omega),if_pos hl]
theorem knChk_dots {k:Kn} (h1: ¬5 < k.vec.length) (h2: ¬60 < k.more.length) (h:vecChk k.vec=0) (hl:k.vec.getLast? ≠some 0):knChk k=dotsFrom k.vec (lastAt k.more 0) (k.more.drop 0):=by
 unfold knChk;rw [if_neg (by omega),if_neg (by omega),if_neg hl];rfl
theorem getLast_get {l:List Int} (h:0 < l.length):l.getLast? =some (l[l.length - 1]'(by omega)):=by
 rw[List.getLast?_eq_getElem?,List.getElem?_eq_getElem]
theorem knChk_c (u v:Value) (k:Kn) (w:World) (hk:KnAt w u v k):
  Calls Tryz.prog 119 #[.agg #[u,v]] w fun e w'=>e= .returned (.int .i64 (knChk k))∧Below w.heap.size w w':=by
 obtain⟨ua,uc,rfl, -,hum, -,hul⟩:=hk.vec.open_
 obtain⟨va,vc,rfl, -,hvm, -,hvl⟩:=hk.more.open_
 have HVEC:=jD hk.vec
 clear hk
 by_cases h5:5 < k.vec.length
 ·have H:=jD (show knChk k=2 by unfold knChk;rw [if_pos (.inl h5)])
  clear hul hvl
  go_enter Tryz.func119,Tryz.ntmps119
  go_wp2
  go_ret
  exact⟨ret_int H.out.symm,bal _⟩
 by_cases h60:60 < k.more.length
 ·have H:=jD (show knChk k=2 by unfold knChk;rw [if_pos (.inr h60)])
  clear hul hvl
  go_enter Tryz.func119,Tryz.ntmps119
  go_wp2
  go_ret
  exact⟨ret_int H.out.symm,bal _⟩
 have d5:decide (5 < k.vec.length)=false:=by simpa using h5
 have d60:decide (60 < k.more.length)=false:=by simpa using h60
 obtain⟨W,hW⟩: ∃W,W=w.alloc (.cells #[.slice ua k.vec.length uc, .slice va k.more.length vc] 73):=⟨_,rfl⟩
 have hbW:Below w.heap.size w W:=by rw[hW];exact bal _
 have k0:W.cell? ⟨w.heap.size,0,none⟩=some (.slice ua k.vec.length uc):=by rw[hW];exact cat _ _ _ 0 _ rfl _ rfl
 have k1:W.cell? ⟨w.heap.size,1,none⟩=some (.slice va k.more.length vc):=by rw[hW];exact cat _ _ _ 1 _ rfl _ rfl
 obtain⟨UV,hUV⟩: ∃UV,UV=Value.slice ua k.vec.length uc:=⟨_,rfl⟩
 rw[←hUV] at HVEC
 have K0V:=jD (show W.cell? ⟨w.heap.size,0,none⟩=some UV by rw[hUV];exact k0)
 clear hUV
 have K0:=jD k0
 have K1:=jD k1
 have HBW:=jD hbW
 clear hbW k0 k1
 go_enter Tryz.func119,Tryz.ntmps119
 go_wp2
 rw[←hW]
 clear hW
 go_loop [21] (fun i=> ∃q:Nat,q≤k.vec.length∧i= .int .i64 q∧vecChk k.vec=vecChk (k.vec.drop q)) (fun i=>k.vec.length - (intOf i).toNat)
 case atStart=>exact ⟨0,Nat.zero_le _,rfl,rfl⟩
 case round=>
  obtain⟨q,hq,rfl,hv⟩:=hrel
  have HV:=jD hv
  clear hv
  by_cases hlt:q < k.vec.length
  ·rcases hul with hnil | ⟨b,off,rfl,hb,hc⟩
   ·rw[hnil] at hlt;simp at hlt
   have c1:=(HBW.out.cell (p:=⟨b,off+q,none⟩) hb).trans (hc q hlt)
   clear hc hvl
   have HO:=jD (vec_ok hlt)
   have HB:=jD (vec_bad hlt)
   generalize k.vec[q]=x at*
   by_cases hx:x < 0∨1000 < x
   ·have HR:=jD (knChk_vec h5 h60 (HV.out.trans (HB.out hx)))
    go_wp2
    all_goals
     go_ret
     exact⟨ret_int HR.out.symm,HBW.out⟩
   ·have HR:=jD (HV.out.trans (HO.out hx))
    have hx0: ¬x < 0:=by omega
    have hx1: ¬1000 < x:=by omega
    clear hx
    go_wp2
    go_round
    case rel=>exact ⟨q+1,by omega,by go_num,HR.out⟩
    case measure=>simp [intOf];omega
  ·obtain rfl:q=k.vec.length:=by omega
   have hv0:vecChk k.vec=0:=by rw[HV.out];simp [vecChk]
   have HV0:=jD hv0
   clear hv0 HV
   have k0:=K0.out
   have k1:=K1.out
   by_cases hz:k.vec.length=0
   focus
    have hl:k.vec.getLast? ≠some 0:=by rw[List.eq_nil_of_length_eq_zero hz];simp
    have HD:=jD (knChk_dots h5 h60 HV0.out hl)
    clear hl hul
    rw[hz] at k0 ⊢
    have hz9:=jD hz
    have d9:decide (0 < k.vec.length)=false:=by simp[hz]
    clear hz
    go_wp2
    clear k0 k1 d9
   rotate_left
   focus
    have hpos:0 < k.vec.length:=by omega
    have hln:=getLast_get hpos
    rcases hul with hnil | ⟨b,off,rfl,hb,hc⟩
    ·exact absurd (by rw[hnil];rfl) hz
    have c1:=(HBW.out.cell (p:=⟨b,off+(k.vec.length - 1),none⟩) hb).trans (hc (k.vec.length - 1) (by omega))
    clear hc
    generalize k.vec[k.vec.length - 1]=x at*
    have hw1:=IntWalk.i64_in ((k.vec.length:Int) - 1) (by omega)
    have hnn:0≤(k.vec.length:Int) - 1:=by omega
    have hnt:((k.vec.length:Int) - 1).toNat=k.vec.length - 1:=by omega
    have hnl:(k.vec.length:Int) - 1 < k.vec.length:=by omega
    have d9:decide (0 < k.vec.length)=true:=by simp[hpos]
    by_cases hx:x=0
    ·have HR:=jD (knChk_last h5 h60 HV0.out (by rw[hln,hx]))
     have hx':(x==0)=true:=by simp[hx]
     clear hln hx
     go_wp2
     go_ret
     exact⟨ret_int HR.out.symm,HBW.out⟩
    have HD:=jD (knChk_dots h5 h60 HV0.out (by rw[hln];simpa using hx))
    have hx':(x==0)=false:=by simp[hx]
    clear hln hx
    go_wp2
    clear hw1 hnn hnt hnl hx' c1 k0 k1 d9
   all_goals
    have hvb:=vecAt_bd HV0.out
    go_loopw [49] (fun i wr=> ∃q:Nat,q≤k.more.length∧i= .int .i64 q∧knChk k=dotsFrom k.vec (lastAt k.more q) (k.more.drop q)∧(∀j (h:j < k.more.length),j < q→dotOk k.more[j]=true)∧Below W.heap.size W wr) (fun i _=>k.more.length - (intOf i).toNat)
    case atStart=>exact ⟨0,Nat.zero_le _,rfl,HD.out,fun j _ h=>by omega,Below.refl _ _⟩
    case round=>
     obtain⟨q,hq,rfl,hno,hprev,hbl⟩:=hrel
     obtain⟨wo,hwo⟩: ∃wo,wo=wr:=⟨_,rfl⟩
     subst hwo
     have HN:=jD hno
     have HP:=jD hprev
     clear hno hprev
     have HBL:=jD (HBW.out.trans (hbl.mono HBW.out.size))
     by_cases hlt:q < k.more.length
     ·rcases hvl with hnil | ⟨b2,off2,rfl,hb2,hc⟩
      ·rw[hnil] at hlt;simp at hlt
      have HC:=jD hc
      obtain⟨c1,c2⟩:=hc q hlt
      replace c1:=(HBL.out.cell (p:=⟨b2,off2+q*2,none⟩) hb2).trans c1
      replace c2:=(HBL.out.cell (p:=⟨b2,off2+q*2+1,none⟩) hb2).trans c2
      clear hc
      have HO:=jD (fun h=>HN.out.trans (dots_ok (v:=k.vec) hlt h))
      have HB:=jD (fun E h1 h2=>HN.out.trans (dots_bad (v:=k.vec) (E:=E) hlt h1 h2))
      obtain⟨X,hX⟩: ∃X,X=k.more[q]:=⟨_,rfl⟩
      rw[←hX] at c1 c2 HO HB
      have HXX:=jD hX
      clear hX
      have X0:=jD (cat wo #[.int .i64 X.1, .int .i64 X.2] 41 0 _ rfl _ rfl)
      have X1:=jD (cat wo #[.int .i64 X.1, .int .i64 X.2] 41 1 _ rfl _ rfl)
      have HBA:=jD (bal (W:=wo) (.cells #[.int .i64 X.1, .int .i64 X.2] 41))
      go_wp2_with fail
      (with_reducible refine(dot_c X.1 X.2 _).mono ?_)
      rintro e w2 ⟨rfl,hb3⟩
      have H02:=jD (bstep HBA.out hb3)
      have x0:=ckeep hb3 X0.out
      have x1:=ckeep hb3 X1.out
      have k0:=ckeep H02.out (ckeep hbl K0V.out)
      have k1:=ckeep H02.out (ckeep hbl K1.out)
      have hblx:=bstep hbl H02.out
      have Y0:=jD x0
      have Y1:=jD x1
      have L0:=jD k0
      have L1:=jD k1
      have HBL2:=jD (bstep HBL.out H02.out)
      have HBL3:=jD hblx
      have hz2:=blt x0
      clear c1 c2 hb3 x0 x1 k0 k1 hblx HBA hbl
      cases hok:dotOk (X.1,X.2)
      ·have HR:=jD (HB.out 1 (by unfold dotChk;rw [if_pos hok]) (by decide))
       clear hok
       go_wp2
       go_ret
       exact⟨ret_int HR.out.symm,HBL2.out⟩
      obtain⟨⟨hx0,hx5⟩,hx1,hx1000⟩:=dotOk_iff'.1 hok
      obtain⟨hv0,hv1⟩:=hvb X.1
      have HCK:=jD (show dotChk k.vec (lastAt k.more q) X=if X.2≤vecAt k.vec X.1+1 then 3 else match lastAt k.more q with | none=>0 | some x=>if dcmp x X < 0 then 0 else 3 by unfold dotChk;rw [if_neg (by rw[show X=(X.1,X.2) from rfl,hok];decide)];cases lastAt k.more q <;> rfl)
      have HOK:=jD hok
      clear hok hvb
      go_wp2_with fail
      have HK:=jD (HVEC.out.below HBL2.out)
      have hsum:IntKind.i64.wrap (vecAt k.vec X.1+1)=vecAt k.vec X.1+1:=IntWalk.i64_in _ (by omega)
      cases hcmp:decide (X.2≤vecAt k.vec X.1+1)
      rotate_left
      ·have HR:=jD (HB.out 3 (by rw[HCK.out,if_pos (by simpa using hcmp)]) (by decide))
       refine Cl.region0 81 rfl [] (fun _=>True) (fun _=>[]) (fun jq v ww=>match jq with | 0=>v= .pointer (some ⟨wo.heap.size,1,none⟩) | 1=>v= .int .i64 X.2 | 2=>v= .agg #[UV, .slice (some ⟨b2,off2,none⟩) k.more.length vc] | 3=>v= .pointer (some ⟨wo.heap.size,0,none⟩) | 4=>v= .int .i64 X.1 | 5=>v= .int .i64 (vecAt k.vec X.1) | 6=>v= .int .i64 (vecAt k.vec X.1+1) | 7=>v= .bool true | 8=>v= .bool true | 9=>v=undef | 10=>v=undef | 11=>v=undef | 12=>v=undef | 13=>v=undef | 14=>v=undef | 15=>v=undef | 16=>v=undef | 17=>v=undef | 18=>v=undef | 19=>v=undef | 20=>v=undef | 21=>v=undef | 22=>v= .bool true | _=>True) (fun ww=>Below w2.heap.size w2 ww) (fun jq ww ww'=>Below ww.heap.size ww ww') Tryz.mixed (by decide+kernel) (Below.refl _ _).drew trivial (fun q r v w w' _ _ _ h _=>h) (fun _ _ _ _ _ _=>trivial) ?_ ?_
       ·refine⟨?_, ?_, ?_, ?_, ?_, ?_, ?_, ?_, ?_, ?_, ?_, ?_, ?_, ?_, ?_, ?_, ?_, ?_, ?_, ?_, ?_, ?_, ?_,trivial⟩
        ·intro x wx hG
         have f7:=hG.o 7
         replace hG:=hG.good
         go_wp2
         exact⟨_,rfl,rfl,hG,Below.refl _ _⟩
        ·intro x wx hG
         have g0:(x.tmps.getD 57 undef)= .pointer (some ⟨wo.heap.size,1,none⟩):=hG.c 0 _ rfl
         replace hG:=hG.good
         have c_Y1:=ckeep hG Y1.out
         go_wp2
         exact⟨_,rfl,rfl,hG,Below.refl _ _⟩
        ·intro x wx hG
         have f1:=hG.o 1
         replace hG:=hG.good
         have c_L0:=ckeep hG L0.out
         have c_L1:=ckeep hG L1.out
         go_wp2
         exact⟨_,rfl,rfl,hG,Below.refl _ _⟩
        ·intro x wx hG
         have f7:=hG.o 7
         replace hG:=hG.good
         go_wp2
         exact⟨_,rfl,rfl,hG,Below.refl _ _⟩
        ·intro x wx hG
         have g3:(x.tmps.getD 60 undef)= .pointer (some ⟨wo.heap.size,0,none⟩):=hG.c 3 _ rfl
         replace hG:=hG.good
         have c_Y0:=ckeep hG Y0.out
         go_wp2
         exact⟨_,rfl,rfl,hG,Below.refl _ _⟩
        ·intro x wx hG
         have g2:(x.tmps.getD 59 undef)= .agg #[UV, .slice (some ⟨b2,off2,none⟩) k.more.length vc]:=hG.c 2 _ rfl
         have g4:(x.tmps.getD 61 undef)= .int .i64 X.1:=hG.c 4 _ rfl
         replace hG:=hG.good
         go_wp2_with fail
         (with_reducible refine(vec_c _ _ k.vec X.1 _ (HK.out.below hG) hx0).mono ?_)
         rintro e wq ⟨rfl,hb⟩
         go_wp2
         exact⟨_,rfl,rfl,bstep hG hb,hb⟩
        ·intro x wx hG
         have g5:(x.tmps.getD 62 undef)= .int .i64 (vecAt k.vec X.1):=hG.c 5 _ rfl
         replace hG:=hG.good
         go_wp2
         exact⟨_,rfl,rfl,hG,Below.refl _ _⟩
        ·intro x wx hG
         have g1:(x.tmps.getD 58 undef)= .int .i64 X.2:=hG.c 1 _ rfl
         have g6:(x.tmps.getD 63 undef)= .int .i64 (vecAt k.vec X.1+1):=hG.c 6 _ rfl
         replace hG:=hG.good
         go_wp2
         exact⟨_,rfl,rfl,hG,Below.refl _ _⟩
        ·intro x wx hG
         have g7:(x.tmps.getD 64 undef)= .bool true:=hG.c 7 _ rfl
         replace hG:=hG.good
         go_wp2
         exact⟨_,rfl,rfl,hG,Below.refl _ _⟩
        ·intro x wx hG
         have gg:(x.tmps.getD 65 undef)= .bool true:=hG.c 8 _ rfl
         replace gg:=Cl.opt (hG.size.trans (show _=81 from rfl)) (by decide) gg
         replace hG:=hG.good
         go_wp2
         exact⟨_,rfl,rfl,hG,Below.refl _ _⟩
        ·intro x wx hG
         have gg:(x.tmps.getD 65 undef)= .bool true:=hG.c 8 _ rfl
         replace gg:=Cl.opt (hG.size.trans (show _=81 from rfl)) (by decide) gg
         replace hG:=hG.good
         go_wp2
         exact⟨_,rfl,rfl,hG,Below.refl _ _⟩
        ·intro x wx hG
         have gg:(x.tmps.getD 65 undef)= .bool true:=hG.c 8 _ rfl
         replace gg:=Cl.opt (hG.size.trans (show _=81 from rfl)) (by decide) gg
         replace hG:=hG.good
         go_wp2
         exact⟨_,rfl,rfl,hG,Below.refl _ _⟩
        ·intro x wx hG
         have gg:(x.tmps.getD 68 undef)=undef:=hG.c 11 _ rfl
         replace gg:=Cl.opt (hG.size.trans (show _=81 from rfl)) (by decide) gg
         unfold undef at gg
         replace hG:=hG.good
         go_wp2
         exact⟨_,rfl,rfl,hG,Below.refl _ _⟩
        ·intro x wx hG
         have gg:(x.tmps.getD 68 undef)=undef:=hG.c 11 _ rfl
         replace gg:=Cl.opt (hG.size.trans (show _=81 from rfl)) (by decide) gg
         unfold undef at gg
         replace hG:=hG.good
         go_wp2
         exact⟨_,rfl,rfl,hG,Below.refl _ _⟩
        ·intro x wx hG
         have gg:(x.tmps.getD 68 undef)=undef:=hG.c 11 _ rfl
         replace gg:=Cl.opt (hG.size.trans (show _=81 from rfl)) (by decide) gg
         unfold undef at gg
         replace hG:=hG.good
         go_wp2
         exact⟨_,rfl,rfl,hG,Below.refl _ _⟩
        ·intro x wx hG
         have gg:(x.tmps.getD 68 undef)=undef:=hG.c 11 _ rfl
         replace gg:=Cl.opt (hG.size.trans (show _=81 from rfl)) (by decide) gg
         unfold undef at gg
         replace hG:=hG.good
         go_wp2
         exact⟨_,rfl,rfl,hG,Below.refl _ _⟩
        ·intro x wx hG
         have gg:(x.tmps.getD 68 undef)=undef:=hG.c 11 _ rfl
         replace gg:=Cl.opt (hG.size.trans (show _=81 from rfl)) (by decide) gg
         unfold undef at gg
         replace hG:=hG.good
         go_wp2
         exact⟨_,rfl,rfl,hG,Below.refl _ _⟩
        ·intro x wx hG
         have gg:(x.tmps.getD 68 undef)=undef:=hG.c 11 _ rfl
         replace gg:=Cl.opt (hG.size.trans (show _=81 from rfl)) (by decide) gg
         unfold undef at gg
         replace hG:=hG.good
         go_wp2
         exact⟨_,rfl,rfl,hG,Below.refl _ _⟩
        ·intro x wx hG
         have gg:(x.tmps.getD 68 undef)=undef:=hG.c 11 _ rfl
         replace gg:=Cl.opt (hG.size.trans (show _=81 from rfl)) (by decide) gg
         unfold undef at gg
         replace hG:=hG.good
         go_wp2
         exact⟨_,rfl,rfl,hG,Below.refl _ _⟩
        ·intro x wx hG
         have gg:(x.tmps.getD 68 undef)=undef:=hG.c 11 _ rfl
         replace gg:=Cl.opt (hG.size.trans (show _=81 from rfl)) (by decide) gg
         unfold undef at gg
         replace hG:=hG.good
         go_wp2
         exact⟨_,rfl,rfl,hG,Below.refl _ _⟩
        ·intro x wx hG
         have gg:(x.tmps.getD 68 undef)=undef:=hG.c 11 _ rfl
         replace gg:=Cl.opt (hG.size.trans (show _=81 from rfl)) (by decide) gg
         unfold undef at gg
         replace hG:=hG.good
         go_wp2
         exact⟨_,rfl,rfl,hG,Below.refl _ _⟩
        ·intro x wx hG
         have gg:(x.tmps.getD 65 undef)= .bool true:=hG.c 8 _ rfl
         replace gg:=Cl.opt (hG.size.trans (show _=81 from rfl)) (by decide) gg
         replace hG:=hG.good
         go_wp2
         exact⟨_,rfl,rfl,hG,Below.refl _ _⟩
        ·intro x wx hG
         have g8:(x.tmps.getD 65 undef)= .bool true:=hG.c 8 _ rfl
         have g21:(x.tmps.getD 78 undef)=undef:=hG.c 21 _ rfl
         replace hG:=hG.good
         go_wp2
         exact⟨_,rfl,rfl,hG,Below.refl _ _⟩
       ·intro vals w3 hg hF
        obtain⟨g0,g1,g2,g3,g4,g5,g6,g7,g8,g9,g10,g11,g12,g13,g14,g15,g16,g17,g18,g19,g20,g21,g22, -⟩:=hF
        have e0:=gq (vals 0) g0
        have e1:=gq (vals 1) g1
        have e2:=gq (vals 2) g2
        have e3:=gq (vals 3) g3
        have e4:=gq (vals 4) g4
        have e5:=gq (vals 5) g5
        have e6:=gq (vals 6) g6
        have e7:=gq (vals 7) g7
        have e8:=gq (vals 8) g8
        have e9:=gq (vals 9) g9
        have e10:=gq (vals 10) g10
        have e11:=gq (vals 11) g11
        have e12:=gq (vals 12) g12
        have e13:=gq (vals 13) g13
        have e14:=gq (vals 14) g14
        have e15:=gq (vals 15) g15
        have e16:=gq (vals 16) g16
        have e17:=gq (vals 17) g17
        have e18:=gq (vals 18) g18
        have e19:=gq (vals 19) g19
        have e20:=gq (vals 20) g20
        have e21:=gq (vals 21) g21
        have e22:=gq (vals 22) g22
        simp only[Cl.puts,e0,e1,e2,e3,e4,e5,e6,e7,e8,e9,e10,e11,e12,e13,e14,e15,e16,e17,e18,e19,e20,e21,e22]
        clear e0 e1 e2 e3 e4 e5 e6 e7 e8 e9 e10 e11 e12 e13 e14 e15 e16 e17 e18 e19 e20 e21 e22 g0 g1 g2 g3 g4 g5 g6 g7 g8 g9 g10 g11 g12 g13 g14 g15 g16 g17 g18 g19 g20 g21 g22
        go_simp
        go_wp2
        go_ret
        exact⟨ret_int HR.out.symm,bstep HBL2.out hg⟩
      ·have hnc: ¬X.2≤vecAt k.vec X.1+1:=by simpa using hcmp
       cases q with
       | zero=>
        have HR:=jD (HO.out (by rw[HCK.out,if_neg hnc];rfl))
        clear hnc
        refine Cl.region0 81 rfl [] (fun _=>True) (fun _=>[]) (fun jq v ww=>match jq with | 0=>v= .pointer (some ⟨wo.heap.size,1,none⟩) | 1=>v= .int .i64 X.2 | 2=>v= .agg #[UV, .slice (some ⟨b2,off2,none⟩) k.more.length vc] | 3=>v= .pointer (some ⟨wo.heap.size,0,none⟩) | 4=>v= .int .i64 X.1 | 5=>v= .int .i64 (vecAt k.vec X.1) | 6=>v= .int .i64 (vecAt k.vec X.1+1) | 7=>v= .bool false | 8=>v= .bool false | 9=>v= .int .i64 0 | 10=>v= .bool false | 11=>v= .bool false | 12=>v=undef | 13=>v=undef | 14=>v=undef | 15=>v=undef | 16=>v=undef | 17=>v=undef | 18=>v=undef | 19=>v=undef | 20=>v=undef | 21=>v= .bool false | 22=>v= .bool false | _=>True) (fun ww=>Below w2.heap.size w2 ww) (fun jq ww ww'=>Below ww.heap.size ww ww') Tryz.mixed (by decide+kernel) (Below.refl _ _).drew trivial (fun q r v w w' _ _ _ h _=>h) (fun _ _ _ _ _ _=>trivial) ?_ ?_
        ·refine⟨?_, ?_, ?_, ?_, ?_, ?_, ?_, ?_, ?_, ?_, ?_, ?_, ?_, ?_, ?_, ?_, ?_, ?_, ?_, ?_, ?_, ?_, ?_,trivial⟩
         ·intro x wx hG
          have f7:=hG.o 7
          replace hG:=hG.good
          go_wp2
          exact⟨_,rfl,rfl,hG,Below.refl _ _⟩
         ·intro x wx hG
          have g0:(x.tmps.getD 57 undef)= .pointer (some ⟨wo.heap.size,1,none⟩):=hG.c 0 _ rfl
          replace hG:=hG.good
          have c_Y1:=ckeep hG Y1.out
          go_wp2
          exact⟨_,rfl,rfl,hG,Below.refl _ _⟩
         ·intro x wx hG
          have f1:=hG.o 1
          replace hG:=hG.good
          have c_L0:=ckeep hG L0.out
          have c_L1:=ckeep hG L1.out
          go_wp2
          exact⟨_,rfl,rfl,hG,Below.refl _ _⟩
         ·intro x wx hG
          have f7:=hG.o 7
          replace hG:=hG.good
          go_wp2
          exact⟨_,rfl,rfl,hG,Below.refl _ _⟩
         ·intro x wx hG
          have g3:(x.tmps.getD 60 undef)= .pointer (some ⟨wo.heap.size,0,none⟩):=hG.c 3 _ rfl
          replace hG:=hG.good
          have c_Y0:=ckeep hG Y0.out
          go_wp2
          exact⟨_,rfl,rfl,hG,Below.refl _ _⟩
         ·intro x wx hG
          have g2:(x.tmps.getD 59 undef)= .agg #[UV, .slice (some ⟨b2,off2,none⟩) k.more.length vc]:=hG.c 2 _ rfl
          have g4:(x.tmps.getD 61 undef)= .int .i64 X.1:=hG.c 4 _ rfl
          replace hG:=hG.good
          go_wp2_with fail
          (with_reducible refine(vec_c _ _ k.vec X.1 _ (HK.out.below hG) hx0).mono ?_)
          rintro e wq ⟨rfl,hb⟩
          go_wp2
          exact⟨_,rfl,rfl,bstep hG hb,hb⟩
         ·intro x wx hG
          have g5:(x.tmps.getD 62 undef)= .int .i64 (vecAt k.vec X.1):=hG.c 5 _ rfl
          replace hG:=hG.good
          go_wp2
          exact⟨_,rfl,rfl,hG,Below.refl _ _⟩
         ·intro x wx hG
          have g1:(x.tmps.getD 58 undef)= .int .i64 X.2:=hG.c 1 _ rfl
          have g6:(x.tmps.getD 63 undef)= .int .i64 (vecAt k.vec X.1+1):=hG.c 6 _ rfl
          replace hG:=hG.good
          go_wp2
          exact⟨_,rfl,rfl,hG,Below.refl _ _⟩
         ·intro x wx hG
          have g7:(x.tmps.getD 64 undef)= .bool false:=hG.c 7 _ rfl
          replace hG:=hG.good
          go_wp2
          exact⟨_,rfl,rfl,hG,Below.refl _ _⟩
         ·intro x wx hG
          have f6:=hG.o 6
          have gg:(x.tmps.getD 65 undef)= .bool false:=hG.c 8 _ rfl
          replace gg:=Cl.opt (hG.size.trans (show _=81 from rfl)) (by decide) gg
          replace hG:=hG.good
          go_wp2
          exact⟨_,rfl,rfl,hG,Below.refl _ _⟩
         ·intro x wx hG
          have g9:(x.tmps.getD 66 undef)= .int .i64 0:=hG.c 9 _ rfl
          have gg:(x.tmps.getD 65 undef)= .bool false:=hG.c 8 _ rfl
          replace gg:=Cl.opt (hG.size.trans (show _=81 from rfl)) (by decide) gg
          replace hG:=hG.good
          go_wp2
          exact⟨_,rfl,rfl,hG,Below.refl _ _⟩
         ·intro x wx hG
          have g10:(x.tmps.getD 67 undef)= .bool false:=hG.c 10 _ rfl
          have gg:(x.tmps.getD 65 undef)= .bool false:=hG.c 8 _ rfl
          replace gg:=Cl.opt (hG.size.trans (show _=81 from rfl)) (by decide) gg
          replace hG:=hG.good
          go_wp2
          exact⟨_,rfl,rfl,hG,Below.refl _ _⟩
         ·intro x wx hG
          have gg:(x.tmps.getD 68 undef)= .bool false:=hG.c 11 _ rfl
          replace gg:=Cl.opt (hG.size.trans (show _=81 from rfl)) (by decide) gg
          replace hG:=hG.good
          go_wp2
          exact⟨_,rfl,rfl,hG,Below.refl _ _⟩
         ·intro x wx hG
          have gg:(x.tmps.getD 68 undef)= .bool false:=hG.c 11 _ rfl
          replace gg:=Cl.opt (hG.size.trans (show _=81 from rfl)) (by decide) gg
          replace hG:=hG.good
          go_wp2
          exact⟨_,rfl,rfl,hG,Below.refl _ _⟩
         ·intro x wx hG
          have gg:(x.tmps.getD 68 undef)= .bool false:=hG.c 11 _ rfl
          replace gg:=Cl.opt (hG.size.trans (show _=81 from rfl)) (by decide) gg
          replace hG:=hG.good
          go_wp2
          exact⟨_,rfl,rfl,hG,Below.refl _ _⟩
         ·intro x wx hG
          have gg:(x.tmps.getD 68 undef)= .bool false:=hG.c 11 _ rfl
          replace gg:=Cl.opt (hG.size.trans (show _=81 from rfl)) (by decide) gg
          replace hG:=hG.good
          go_wp2
          exact⟨_,rfl,rfl,hG,Below.refl _ _⟩
         ·intro x wx hG
          have gg:(x.tmps.getD 68 undef)= .bool false:=hG.c 11 _ rfl
          replace gg:=Cl.opt (hG.size.trans (show _=81 from rfl)) (by decide) gg
          replace hG:=hG.good
          go_wp2
          exact⟨_,rfl,rfl,hG,Below.refl _ _⟩
         ·intro x wx hG
          have gg:(x.tmps.getD 68 undef)= .bool false:=hG.c 11 _ rfl
          replace gg:=Cl.opt (hG.size.trans (show _=81 from rfl)) (by decide) gg
          replace hG:=hG.good
          go_wp2
          exact⟨_,rfl,rfl,hG,Below.refl _ _⟩
         ·intro x wx hG
          have gg:(x.tmps.getD 68 undef)= .bool false:=hG.c 11 _ rfl
          replace gg:=Cl.opt (hG.size.trans (show _=81 from rfl)) (by decide) gg
          replace hG:=hG.good
          go_wp2
          exact⟨_,rfl,rfl,hG,Below.refl _ _⟩
         ·intro x wx hG
          have gg:(x.tmps.getD 68 undef)= .bool false:=hG.c 11 _ rfl
          replace gg:=Cl.opt (hG.size.trans (show _=81 from rfl)) (by decide) gg
          replace hG:=hG.good
          go_wp2
          exact⟨_,rfl,rfl,hG,Below.refl _ _⟩
         ·intro x wx hG
          have gg:(x.tmps.getD 68 undef)= .bool false:=hG.c 11 _ rfl
          replace gg:=Cl.opt (hG.size.trans (show _=81 from rfl)) (by decide) gg
          replace hG:=hG.good
          go_wp2
          exact⟨_,rfl,rfl,hG,Below.refl _ _⟩
         ·intro x wx hG
          have g11:(x.tmps.getD 68 undef)= .bool false:=hG.c 11 _ rfl
          have g20:(x.tmps.getD 77 undef)=undef:=hG.c 20 _ rfl
          have gg:(x.tmps.getD 65 undef)= .bool false:=hG.c 8 _ rfl
          replace gg:=Cl.opt (hG.size.trans (show _=81 from rfl)) (by decide) gg
          replace hG:=hG.good
          go_wp2
          exact⟨_,rfl,rfl,hG,Below.refl _ _⟩
         ·intro x wx hG
          have g8:(x.tmps.getD 65 undef)= .bool false:=hG.c 8 _ rfl
          have g21:(x.tmps.getD 78 undef)= .bool false:=hG.c 21 _ rfl
          replace hG:=hG.good
          go_wp2
          exact⟨_,rfl,rfl,hG,Below.refl _ _⟩
        ·intro vals w3 hg hF
         obtain⟨g0,g1,g2,g3,g4,g5,g6,g7,g8,g9,g10,g11,g12,g13,g14,g15,g16,g17,g18,g19,g20,g21,g22, -⟩:=hF
         have e0:=gq (vals 0) g0
         have e1:=gq (vals 1) g1
         have e2:=gq (vals 2) g2
         have e3:=gq (vals 3) g3
         have e4:=gq (vals 4) g4
         have e5:=gq (vals 5) g5
         have e6:=gq (vals 6) g6
         have e7:=gq (vals 7) g7
         have e8:=gq (vals 8) g8
         have e9:=gq (vals 9) g9
         have e10:=gq (vals 10) g10
         have e11:=gq (vals 11) g11
         have e12:=gq (vals 12) g12
         have e13:=gq (vals 13) g13
         have e14:=gq (vals 14) g14
         have e15:=gq (vals 15) g15
         have e16:=gq (vals 16) g16
         have e17:=gq (vals 17) g17
         have e18:=gq (vals 18) g18
         have e19:=gq (vals 19) g19
         have e20:=gq (vals 20) g20
         have e21:=gq (vals 21) g21
         have e22:=gq (vals 22) g22
         simp only[Cl.puts,e0,e1,e2,e3,e4,e5,e6,e7,e8,e9,e10,e11,e12,e13,e14,e15,e16,e17,e18,e19,e20,e21,e22]
         clear e0 e1 e2 e3 e4 e5 e6 e7 e8 e9 e10 e11 e12 e13 e14 e15 e16 e17 e18 e19 e20 e21 e22 g0 g1 g2 g3 g4 g5 g6 g7 g8 g9 g10 g11 g12 g13 g14 g15 g16 g17 g18 g19 g20 g21 g22
         go_simp
         go_wp2
         go_roundw
         case rel=>
          refine⟨1,by omega,by go_num,HR.out,fun j h hj=> ?_,bstep HBL3.out hg⟩
          obtain rfl:j=0:=by omega
          rw[←HXX.out];exact HOK.out
         case measure=>simp [intOf];omega
       | succ p=>
        obtain⟨g1,g2⟩:=HC.out p (by omega)
        have P0:=jD ((HBL2.out.cell (p:=⟨b2,off2+p*2,none⟩) hb2).trans g1)
        have P1:=jD ((HBL2.out.cell (p:=⟨b2,off2+p*2+1,none⟩) hb2).trans g2)
        have HLA:=jD (show lastAt k.more (p+1)=some k.more[p] by unfold lastAt;rw [if_neg (by omega),Nat.add_sub_cancel,List.getElem?_eq_getElem (by omega)])
        obtain⟨⟨hy0,hy5⟩,hy1,hy1000⟩:=dotOk_iff'.1 (HP.out p (by omega) (by omega))
        obtain⟨Y,hY⟩: ∃Y,Y=k.more[p]:=⟨_,rfl⟩
        rw[←hY] at P0 P1 HLA hy0 hy5 hy1 hy1000
        have HCK2:=jD (show dotChk k.vec (lastAt k.more (p+1)) X=if dcmp Y X < 0 then 0 else 3 by rw[HCK.out,if_neg hnc,HLA.out])
        have hp1:IntKind.i64.wrap ((p:Int)+1 - 1)=(p:Int):=by rw[show((p:Int)+1 - 1)=p by omega];exact IntWalk.i64_in _ (by omega)
        have hpl:(p:Int) < k.more.length:=by omega
        have hpg:decide ((0:Int) < (p:Int)+1)=true:=by simp
        clear g1 g2 hY HC hnc
        refine Cl.region0 81 rfl [] (fun _=>True) (fun _=>[]) (fun jq v ww=>match jq with | 0=>v= .pointer (some ⟨wo.heap.size,1,none⟩) | 1=>v= .int .i64 X.2 | 2=>v= .agg #[UV, .slice (some ⟨b2,off2,none⟩) k.more.length vc] | 3=>v= .pointer (some ⟨wo.heap.size,0,none⟩) | 4=>v= .int .i64 X.1 | 5=>v= .int .i64 (vecAt k.vec X.1) | 6=>v= .int .i64 (vecAt k.vec X.1+1) | 7=>v= .bool false | 8=>v= .bool false | 9=>v= .int .i64 ((p:Int)+1) | 10=>v= .bool true | 11=>v= .bool true | 12=>v= .pointer (some ⟨w.heap.size,1,none⟩) | 13=>v= .slice (some ⟨b2,off2,none⟩) k.more.length vc | 14=>v= .int .i64 ((p:Int)+1) | 15=>v= .int .i64 (p:Nat) | 16=>v= .pointer (some ⟨b2,off2+p*2,none⟩) | 17=>v= .agg #[.int .i64 Y.1, .int .i64 Y.2] | 18=>v= .agg #[.int .i64 X.1, .int .i64 X.2] | 19=>v= .int .i64 (dcmp Y X) | 20=>v= .bool (decide (0≤dcmp Y X)) | 21=>v= .bool (decide (0≤dcmp Y X)) | 22=>v= .bool (decide (0≤dcmp Y X)) | _=>True) (fun ww=>Below w2.heap.size w2 ww) (fun jq ww ww'=>Below ww.heap.size ww ww') Tryz.mixed (by decide+kernel) (Below.refl _ _).drew trivial (fun q r v w w' _ _ _ h _=>h) (fun _ _ _ _ _ _=>trivial) ?_ ?_
        ·refine⟨?_, ?_, ?_, ?_, ?_, ?_, ?_, ?_, ?_, ?_, ?_, ?_, ?_, ?_, ?_, ?_, ?_, ?_, ?_, ?_, ?_, ?_, ?_,trivial⟩
         ·intro x wx hG
          have f7:=hG.o 7
          replace hG:=hG.good
          go_wp2
          exact⟨_,rfl,rfl,hG,Below.refl _ _⟩
         ·intro x wx hG
          have g0:(x.tmps.getD 57 undef)= .pointer (some ⟨wo.heap.size,1,none⟩):=hG.c 0 _ rfl
          replace hG:=hG.good
          have c_Y1:=ckeep hG Y1.out
          go_wp2
          exact⟨_,rfl,rfl,hG,Below.refl _ _⟩
         ·intro x wx hG
          have f1:=hG.o 1
          replace hG:=hG.good
          have c_L0:=ckeep hG L0.out
          have c_L1:=ckeep hG L1.out
          go_wp2
          exact⟨_,rfl,rfl,hG,Below.refl _ _⟩
         ·intro x wx hG
          have f7:=hG.o 7
          replace hG:=hG.good
          go_wp2
          exact⟨_,rfl,rfl,hG,Below.refl _ _⟩
         ·intro x wx hG
          have g3:(x.tmps.getD 60 undef)= .pointer (some ⟨wo.heap.size,0,none⟩):=hG.c 3 _ rfl
          replace hG:=hG.good
          have c_Y0:=ckeep hG Y0.out
          go_wp2
          exact⟨_,rfl,rfl,hG,Below.refl _ _⟩
         ·intro x wx hG
          have g2:(x.tmps.getD 59 undef)= .agg #[UV, .slice (some ⟨b2,off2,none⟩) k.more.length vc]:=hG.c 2 _ rfl
          have g4:(x.tmps.getD 61 undef)= .int .i64 X.1:=hG.c 4 _ rfl
          replace hG:=hG.good
          go_wp2_with fail
          (with_reducible refine(vec_c _ _ k.vec X.1 _ (HK.out.below hG) hx0).mono ?_)
          rintro e wq ⟨rfl,hb⟩
          go_wp2
          exact⟨_,rfl,rfl,bstep hG hb,hb⟩
         ·intro x wx hG
          have g5:(x.tmps.getD 62 undef)= .int .i64 (vecAt k.vec X.1):=hG.c 5 _ rfl
          replace hG:=hG.good
          go_wp2
          exact⟨_,rfl,rfl,hG,Below.refl _ _⟩
         ·intro x wx hG
          have g1:(x.tmps.getD 58 undef)= .int .i64 X.2:=hG.c 1 _ rfl
          have g6:(x.tmps.getD 63 undef)= .int .i64 (vecAt k.vec X.1+1):=hG.c 6 _ rfl
          replace hG:=hG.good
          go_wp2
          exact⟨_,rfl,rfl,hG,Below.refl _ _⟩
         ·intro x wx hG
          have g7:(x.tmps.getD 64 undef)= .bool false:=hG.c 7 _ rfl
          replace hG:=hG.good
          go_wp2
          exact⟨_,rfl,rfl,hG,Below.refl _ _⟩
         ·intro x wx hG
          have f6:=hG.o 6
          have gg:(x.tmps.getD 65 undef)= .bool false:=hG.c 8 _ rfl
          replace gg:=Cl.opt (hG.size.trans (show _=81 from rfl)) (by decide) gg
          replace hG:=hG.good
          go_wp2
          exact⟨_,rfl,rfl,hG,Below.refl _ _⟩
         ·intro x wx hG
          have g9:(x.tmps.getD 66 undef)= .int .i64 ((p:Int)+1):=hG.c 9 _ rfl
          have gg:(x.tmps.getD 65 undef)= .bool false:=hG.c 8 _ rfl
          replace gg:=Cl.opt (hG.size.trans (show _=81 from rfl)) (by decide) gg
          replace hG:=hG.good
          go_wp2
          exact⟨_,rfl,rfl,hG,Below.refl _ _⟩
         ·intro x wx hG
          have g10:(x.tmps.getD 67 undef)= .bool true:=hG.c 10 _ rfl
          have gg:(x.tmps.getD 65 undef)= .bool false:=hG.c 8 _ rfl
          replace gg:=Cl.opt (hG.size.trans (show _=81 from rfl)) (by decide) gg
          replace hG:=hG.good
          go_wp2
          exact⟨_,rfl,rfl,hG,Below.refl _ _⟩
         ·intro x wx hG
          have f1:=hG.o 1
          have gg:(x.tmps.getD 68 undef)= .bool true:=hG.c 11 _ rfl
          replace gg:=Cl.opt (hG.size.trans (show _=81 from rfl)) (by decide) gg
          replace hG:=hG.good
          go_wp2
          exact⟨_,rfl,rfl,hG,Below.refl _ _⟩
         ·intro x wx hG
          have g12:(x.tmps.getD 69 undef)= .pointer (some ⟨w.heap.size,1,none⟩):=hG.c 12 _ rfl
          have gg:(x.tmps.getD 68 undef)= .bool true:=hG.c 11 _ rfl
          replace gg:=Cl.opt (hG.size.trans (show _=81 from rfl)) (by decide) gg
          replace hG:=hG.good
          have c_L1:=ckeep hG L1.out
          go_wp2
          exact⟨_,rfl,rfl,hG,Below.refl _ _⟩
         ·intro x wx hG
          have f6:=hG.o 6
          have gg:(x.tmps.getD 68 undef)= .bool true:=hG.c 11 _ rfl
          replace gg:=Cl.opt (hG.size.trans (show _=81 from rfl)) (by decide) gg
          replace hG:=hG.good
          go_wp2
          exact⟨_,rfl,rfl,hG,Below.refl _ _⟩
         ·intro x wx hG
          have g14:(x.tmps.getD 71 undef)= .int .i64 ((p:Int)+1):=hG.c 14 _ rfl
          have gg:(x.tmps.getD 68 undef)= .bool true:=hG.c 11 _ rfl
          replace gg:=Cl.opt (hG.size.trans (show _=81 from rfl)) (by decide) gg
          replace hG:=hG.good
          go_wp2
          exact⟨_,rfl,rfl,hG,Below.refl _ _⟩
         ·intro x wx hG
          have g13:(x.tmps.getD 70 undef)= .slice (some ⟨b2,off2,none⟩) k.more.length vc:=hG.c 13 _ rfl
          have g15:(x.tmps.getD 72 undef)= .int .i64 (p:Nat):=hG.c 15 _ rfl
          have gg:(x.tmps.getD 68 undef)= .bool true:=hG.c 11 _ rfl
          replace gg:=Cl.opt (hG.size.trans (show _=81 from rfl)) (by decide) gg
          replace hG:=hG.good
          go_wp2
          exact⟨_,rfl,rfl,hG,Below.refl _ _⟩
         ·intro x wx hG
          have g16:(x.tmps.getD 73 undef)= .pointer (some ⟨b2,off2+p*2,none⟩):=hG.c 16 _ rfl
          have gg:(x.tmps.getD 68 undef)= .bool true:=hG.c 11 _ rfl
          replace gg:=Cl.opt (hG.size.trans (show _=81 from rfl)) (by decide) gg
          replace hG:=hG.good
          have c_P0:=ckeep hG P0.out
          have c_P1:=ckeep hG P1.out
          go_wp2
          exact⟨_,rfl,rfl,hG,Below.refl _ _⟩
         ·intro x wx hG
          have f7:=hG.o 7
          have gg:(x.tmps.getD 68 undef)= .bool true:=hG.c 11 _ rfl
          replace gg:=Cl.opt (hG.size.trans (show _=81 from rfl)) (by decide) gg
          replace hG:=hG.good
          have c_Y0:=ckeep hG Y0.out
          have c_Y1:=ckeep hG Y1.out
          go_wp2
          exact⟨_,rfl,rfl,hG,Below.refl _ _⟩
         ·intro x wx hG
          have g17:(x.tmps.getD 74 undef)= .agg #[.int .i64 Y.1, .int .i64 Y.2]:=hG.c 17 _ rfl
          have g18:(x.tmps.getD 75 undef)= .agg #[.int .i64 X.1, .int .i64 X.2]:=hG.c 18 _ rfl
          have gg:(x.tmps.getD 68 undef)= .bool true:=hG.c 11 _ rfl
          replace gg:=Cl.opt (hG.size.trans (show _=81 from rfl)) (by decide) gg
          replace hG:=hG.good
          go_wp2_with fail
          (with_reducible refine(dcmp_c Y X _ (by omega) (by omega) (by omega) (by omega) (by omega) (by omega) (by omega) (by omega)).mono ?_)
          rintro e wq ⟨rfl,o1,o2,rfl⟩
          go_wp2
          exact⟨_,rfl,rfl,(hG.alloc hG.size _).alloc (by have:=hG.size;simp;omega) _,(bal _).alloc (by simp) _⟩
         ·intro x wx hG
          have g19:(x.tmps.getD 76 undef)= .int .i64 (dcmp Y X):=hG.c 19 _ rfl
          have gg:(x.tmps.getD 68 undef)= .bool true:=hG.c 11 _ rfl
          replace gg:=Cl.opt (hG.size.trans (show _=81 from rfl)) (by decide) gg
          replace hG:=hG.good
          go_wp2
          exact⟨_,rfl,rfl,hG,Below.refl _ _⟩
         ·intro x wx hG
          have g11:(x.tmps.getD 68 undef)= .bool true:=hG.c 11 _ rfl
          have g20:(x.tmps.getD 77 undef)= .bool (decide (0≤dcmp Y X)):=hG.c 20 _ rfl
          have gg:(x.tmps.getD 65 undef)= .bool false:=hG.c 8 _ rfl
          replace gg:=Cl.opt (hG.size.trans (show _=81 from rfl)) (by decide) gg
          replace hG:=hG.good
          go_wp2
          exact⟨_,rfl,rfl,hG,Below.refl _ _⟩
         ·intro x wx hG
          have g8:(x.tmps.getD 65 undef)= .bool false:=hG.c 8 _ rfl
          have g21:(x.tmps.getD 78 undef)= .bool (decide (0≤dcmp Y X)):=hG.c 21 _ rfl
          replace hG:=hG.good
          go_wp2
          exact⟨_,rfl,rfl,hG,Below.refl _ _⟩
        ·intro vals w3 hg hF
         obtain⟨g0,g1,g2,g3,g4,g5,g6,g7,g8,g9,g10,g11,g12,g13,g14,g15,g16,g17,g18,g19,g20,g21,g22, -⟩:=hF
         have e0:=gq (vals 0) g0
         have e1:=gq (vals 1) g1
         have e2:=gq (vals 2) g2
         have e3:=gq (vals 3) g3
         have e4:=gq (vals 4) g4
         have e5:=gq (vals 5) g5
         have e6:=gq (vals 6) g6
         have e7:=gq (vals 7) g7
         have e8:=gq (vals 8) g8
         have e9:=gq (vals 9) g9
         have e10:=gq (vals 10) g10
         have e11:=gq (vals 11) g11
         have e12:=gq (vals 12) g12
         have e13:=gq (vals 13) g13
         have e14:=gq (vals 14) g14
         have e15:=gq (vals 15) g15
         have e16:=gq (vals 16) g16
         have e17:=gq (vals 17) g17
         have e18:=gq (vals 18) g18
         have e19:=gq (vals 19) g19
         have e20:=gq (vals 20) g20
         have e21:=gq (vals 21) g21
         have e22:=gq (vals 22) g22
         simp only[Cl.puts,e0,e1,e2,e3,e4,e5,e6,e7,e8,e9,e10,e11,e12,e13,e14,e15,e16,e17,e18,e19,e20,e21,e22]
         clear e0 e1 e2 e3 e4 e5 e6 e7 e8 e9 e10 e11 e12 e13 e14 e15 e16 e17 e18 e19 e20 e21 e22 g0 g1 g2 g3 g4 g5 g6 g7 g8 g9 g10 g11 g12 g13 g14 g15 g16 g17 g18 g19 g20 g21 g22
         go_simp
         have HG:=jD hg
         clear hg
         cases hfin:decide (0≤dcmp Y X)
         ·have HR:=jD (HO.out (by rw[HCK2.out,if_pos (by simp at hfin;exact hfin)]))
          go_wp2
          go_roundw
          case rel=>
           refine⟨p+1+1,by omega,by go_num,HR.out,fun j h hj=> ?_,bstep HBL3.out HG.out⟩
           by_cases e:j=p+1
           ·subst e;rw [←HXX.out];exact HOK.out
           ·exact HP.out j h (by omega)
          case measure=>simp [intOf];omega
         ·have HR:=jD (HB.out 3 (by rw[HCK2.out,if_neg (by simp at hfin;omega)]) (by decide))
          go_wp2
          go_ret
          exact⟨ret_int HR.out.symm,bstep HBL2.out HG.out⟩
     ·obtain rfl:q=k.more.length:=by omega
      have HR:=jD (show knChk k=0 by rw[HN.out];simp [dotsFrom])
      go_wp2
      go_ret
      exact⟨ret_int HR.out.symm,HBL.out⟩
def knTwo (a b:Kn):Int:=if knChk a=0 then knChk b else knChk a
theorem knTwo_zero {a b:Kn} :knTwo a b=0↔knChk a=0∧knChk b=0:=by
 unfold knTwo;split
 ·rename_i h;simp [h]
 ·rename_i h;simp [h]
theorem ktwo_c (ua va ub vb:Value) (a b:Kn) (w:World) (ha:KnAt w ua va a) (hb:KnAt w ub vb b):
  Calls Tryz.prog 195 #[.agg #[ua,va], .agg #[ub,vb]] w fun e w'=>e= .returned (.int .i64 (knTwo a b))∧Below w.heap.size w w':=by
 obtain⟨xa,ca,rfl⟩:=ha.vec.shape
 obtain⟨ya,da,rfl⟩:=ha.more.shape
 obtain⟨xb,cb,rfl⟩:=hb.vec.shape
 obtain⟨yb,db,rfl⟩:=hb.more.shape
 have hbx:Below w.heap.size w ((w.alloc (.cells #[.slice xa a.vec.length ca, .slice ya a.more.length da] 73)).alloc (.cells #[.slice xb b.vec.length cb, .slice yb b.more.length db] 73)):=(bal _).alloc (by simp) _
 have HA:=jD (ha.below hbx)
 have HB:=jD (hb.below hbx)
 have C0:=jD (cat (w.alloc (.cells #[.slice xa a.vec.length ca, .slice ya a.more.length da] 73)) #[.slice xb b.vec.length cb, .slice yb b.more.length db] 73 0 _ rfl (w.heap.size+1) (by simp))
 have C1:=jD (cat (w.alloc (.cells #[.slice xa a.vec.length ca, .slice ya a.more.length da] 73)) #[.slice xb b.vec.length cb, .slice yb b.more.length db] 73 1 _ rfl (w.heap.size+1) (by simp))
 have HBX:=jD hbx
 clear ha hb hbx
 go_enter Tryz.func195,Tryz.ntmps195
 go_wp2_with fail
 (with_reducible refine(knChk_c _ _ a _ HA.out).mono ?_)
 rintro e w1 ⟨rfl,hb1⟩
 have c0:=ckeep hb1 C0.out
 have c1:=ckeep hb1 C1.out
 have HB1:=jD (HB.out.below hb1)
 have hbl:=bstep HBX.out hb1
 clear hb1 C0 C1 HBX
 cases hx:(knChk a==0)
 ·have H:=jD (show knTwo a b=knChk a by unfold knTwo;rw [if_neg (by simpa using hx)])
  have h':(knChk a != 0)=true:=by simp[bne,hx]
  clear hx
  go_wp2
  go_ret
  exact⟨ret_int H.out.symm,hbl⟩
 have H:=jD (show knTwo a b=knChk b by unfold knTwo;rw [if_pos (by simpa using hx)])
 have h0:knChk a=0:=by simpa using hx
 rw[h0]
 clear hx h0
 go_wp2_with fail
 (with_reducible refine(knChk_c _ _ b _ HB1.out).mono ?_)
 rintro e w2 ⟨rfl,hb2⟩
 replace hbl:=bstep hbl hb2
 clear hb2 c0 c1
 go_wp2
 go_ret
 exact⟨ret_int H.out.symm,hbl⟩
def knCount (k:Kn):Int:=if knChk k=0 then k.more.length+k.vec.sum else 0
theorem sum_take (l:List Int) (i:Nat) (hi:i < l.length):(l.take (i+1)).sum=(l.take i).sum+l[i]:=by
 rw[List.take_succ_eq_append_getElem hi,List.sum_append];simp
theorem sum_bd (l:List Int) (h: ∀n∈l,0≤n∧n≤1000):0≤l.sum∧l.sum≤1000*l.length:=by
 induction l with
 | nil=>simp
 | cons x l ih=>have:=ih fun n hn=>h n (List.mem_cons_of_mem _ hn);have:=h x List.mem_cons_self;simp only[List.sum_cons,List.length_cons];omega
theorem knCount_c (u v:Value) (k:Kn) (w:World) (hk:KnAt w u v k):
  Calls Tryz.prog 180 #[.agg #[u,v]] w fun e w'=>e= .returned (.tuple #[.int .i64 (knCount k), .int .i64 (knChk k)])∧Below w.heap.size w w':=by
 obtain⟨ya,da,rfl⟩:=hk.more.shape
 obtain⟨ua,uc,rfl, -,hum, -,hul⟩:=hk.vec.open_
 have hbW:Below w.heap.size w (w.alloc (.cells #[.slice ua k.vec.length uc, .slice ya k.more.length da] 73)):=bal _
 have K0:=jD (cat w #[.slice ua k.vec.length uc, .slice ya k.more.length da] 73 0 _ rfl _ rfl)
 have K1:=jD (cat w #[.slice ua k.vec.length uc, .slice ya k.more.length da] 73 1 _ rfl _ rfl)
 have HK:=jD (hk.below hbW)
 have HBW:=jD hbW
 clear hbW hk
 go_enter Tryz.func180,Tryz.ntmps180
 go_wp2_with fail
 (with_reducible refine(knChk_c _ _ k _ HK.out).mono ?_)
 rintro e w1 ⟨rfl,hb⟩
 have k0:=ckeep hb K0.out
 have k1:=ckeep hb K1.out
 have hbl:=bstep HBW.out hb
 clear hb K0 K1 HK HBW
 cases hx:(knChk k==0)
 ·have H:=jD (show knCount k=0 by unfold knCount;rw [if_neg (by simpa using hx)])
  have h':(knChk k != 0)=true:=by simp[bne,hx]
  clear hx hul
  go_wp2
  go_ret2
  exact⟨ret_ie H.out.symm rfl,hbl⟩
 have h0:knChk k=0:=by simpa using hx
 obtain⟨ok,h60⟩:=knChk_zero.1 h0
 have H:=jD (show knCount k=k.more.length+k.vec.sum by unfold knCount;rw [if_pos h0])
 have HBD:=jD ok.bd
 have h5:=ok.len
 have H0:=jD h0
 rw[h0]
 clear hx h0 ok
 go_wp2
 go_loop [5,19] (fun n i=> ∃q:Nat,q≤k.vec.length∧i= .int .i64 q∧n= .int .i64 (k.more.length+(k.vec.take q).sum)) (fun _ i=>k.vec.length - (intOf i).toNat)
 case atStart=>exact ⟨0,Nat.zero_le _,rfl,by simp⟩
 case round=>
  obtain⟨q,hq,rfl,rfl⟩:=hrel
  by_cases hlt:q < k.vec.length
  ·rcases hul with hnil | ⟨b,off,rfl,hb,hc⟩
   ·rw[hnil] at hlt;simp at hlt
   have c1:=(hbl.cell (p:=⟨b,off+q,none⟩) hb).trans (hc q hlt)
   have HT:=jD (sum_take k.vec q hlt)
   obtain⟨x0,x1⟩:=HBD.out _ (List.getElem_mem hlt)
   obtain⟨s0,s1⟩:=sum_bd (k.vec.take q) fun n hn=>HBD.out n (List.mem_of_mem_take hn)
   have hl:(k.vec.take q).length≤5:=by simp;omega
   have s2:(k.vec.take q).sum≤5000:=by omega
   clear hc s1 hl
   generalize (k.vec.take q).sum=S at*
   generalize k.vec[q]=x at*
   go_wp2
   go_round
   case rel=>exact ⟨q+1,by omega,by go_num,by rw[HT.out];congr 1;omega⟩
   case measure=>simp [intOf];omega
  ·obtain rfl:q=k.vec.length:=by omega
   go_wp2
   go_ret2
   exact⟨ret_ie (by rw[H.out]) H0.out.symm,hbl⟩
end Go.Proofs.YtgkgdedhicnohaaGreat
