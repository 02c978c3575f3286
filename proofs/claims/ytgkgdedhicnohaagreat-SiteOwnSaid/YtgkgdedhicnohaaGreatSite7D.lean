/- What a site takes, and where what it holds then lies. Printed by gen/site7d.py out of XSite7. -/
import Derived.Test.YtgkgdedhicnohaaGreatMSiteC
namespace Go.Proofs.YtgkgdedhicnohaaGreat
set_option maxRecDepth 100000
set_option maxHeartbeats 40000000
open Go.RowKit
structure VO2 (w:World) (b base:Nat) (l0:Value) (L0:List Ver) (lv:Value) (L:List Ver):Prop where
 own:VOwn w b lv L
 or:(lv=l0∧L=L0)∨VOwn w base lv L
theorem VO2.below {w w':World} {b base:Nat} {l0:Value} {L0:List Ver} {lv:Value} {L:List Ver} (h:VO2 w b base l0 L0 lv L) (hb:Below w.heap.size w w'):VO2 w' b base l0 L0 lv L:=⟨h.own.below hb,h.or.imp (fun h=>h) fun h=>h.below hb⟩
def TakePost2 (wz:World) (b g:Nat) (s:SiteS) (bt:BtS) (f0 l0 p0:Value) (e:Ending) (w':World):Prop:=
 e= .returned (.int .i64 (tookE s bt))∧SiteOk (tookS s bt)∧(∃l' p',SiteV w' b g (tookS s bt) f0 l' p'∧((l'=l0∧(tookS s bt).L=s.L)∨VOwn w' wz.heap.size l' (tookS s bt).L)∧((p'=p0∧(tookS s bt).S=s.S)∨PtsOwnA w' wz.heap.size p' (tookS s bt).S))∧Stp (fun q=>q=g) wz w'
theorem take_no2 {wz w':World} {b g:Nat} {s:SiteS} {bt:BtS} {E:Int} {f0 l0 p0:Value} (h:SiteAt wz b g s) (v:SiteV wz b g s f0 l0 p0) (he:tookE s bt=E) (h0:E≠0) (hb:Below wz.heap.size wz w'):TakePost2 wz b g s bt f0 l0 p0 (.returned (.int .i64 E)) w':=by
 have h1:tookE s bt≠0:=by omega
 have h2:tookS s bt=s:=by unfold tookS;rw [if_neg h1]
 refine⟨by rw[he],by rw[h2];exact h.ok,⟨l0,p0,by rw[h2];exact v.below hb, .inl ⟨rfl,by rw[h2]⟩, .inl ⟨rfl,by rw[h2]⟩⟩,Stp.of_below hb⟩
theorem take_yes2 {wz w7:World} {b g:Nat} {s:SiteS} {bt:BtS} {f l p l0 p0 l2 p2:Value} (h:SiteAt wz b g s) (hbt:BtSOk bt) (he:tookE s bt=0) (v:SiteV w7 b g s f l p) (hb:Below wz.heap.size wz w7) (hl:VO2 w7 b wz.heap.size l0 s.L l2 (dropsL (laidOn s.L bt.V) bt.G)) (hp:PtsOwnA w7 b p2 (fewS (s.S++bt.S))) (hp2:PtsOwnA w7 wz.heap.size p2 (fewS (s.S++bt.S))):
  TakePost2 wz b g s bt f l0 p0 (.returned (.int .i64 0)) ((w7.setCell ⟨g,4,none⟩ l2).setCell ⟨g,5,none⟩ p2):=by
 have d1:dataT 128=false:=by decide
 have b0:=v.blk
 have b1:=heap_set_same (j:=4) (v:=l2) b0
 have b2:=heap_set_same (j:=5) (v:=p2) b1
 have S7:Stp (fun q=>q=g) w7 ((w7.setCell ⟨g,4,none⟩ l2).setCell ⟨g,5,none⟩ p2):=Stp.sets (G:=fun q=>q=g) (Stp.sets (G:=fun q=>q=g) (Stp.refl _ _) b0 d1 rfl) b1 d1 rfl
 have eS:tookS s bt= { s with L:=dropsL (laidOn s.L bt.V) bt.G,S:=fewS (s.S++bt.S) } :=by unfold tookS;rw [if_pos he]
 refine⟨by rw[he],tookS_ok h.ok hbt,⟨l2,p2,⟨?_, ?_, ?_, ?_⟩, ?_, ?_⟩,(Stp.of_below hb).trans S7⟩
 ·rw[b2,eS];rfl
 ·rw[eS];exact v.f.stp S7
 ·rw[eS];exact hl.own.stp S7
 ·rw[eS];exact hp.stp S7
 ·rw[eS];exact hl.or.imp (fun h=>h) fun h=>h.stp S7
 ·rw[eS];exact .inr (hp2.stp S7)
theorem stake2_c (g b:Nat) (s:SiteS) (bt:BtS) (A:List Pt) (vv gv pv f0 l0 p0:Value) (wz:World) (h:SiteAt wz b g s) (hV0:SiteV wz b g s f0 l0 p0) (hbt:BtSOk bt) (hv:RowAt verE wz vv bt.V) (hgn:RowAt goneE wz gv bt.G) (hA:RowAt partE wz pv A) (hAok: ∀x∈A,PtOk x) (hAS:A.map sem=bt.S):
  Calls Tryz.prog 23 #[.pointer (some ⟨g,0,none⟩), .agg #[.int .i64 bt.site, .int .i64 bt.stamp,vv,gv,pv]] wz (TakePost2 wz b g s bt f0 l0 p0):=by
 obtain⟨va,vc,rfl⟩:=hv.shape
 obtain⟨ga,gc,rfl⟩:=hgn.shape
 obtain⟨pa,pc,rfl⟩:=hA.shape
 have hv60:=hbt.lv
 have hg60:=hbt.lg
 have hAl:A.length≤30:=by have:=hbt.ls;rw [←hAS,List.length_map] at this;exact this
 obtain⟨BX,hBX⟩: ∃BX,BX=wz.heap.size:=⟨_,rfl⟩
 obtain⟨W,hW⟩: ∃W,W=wz.alloc (.cells #[.int .i64 bt.site, .int .i64 bt.stamp, .slice va bt.V.length vc, .slice ga bt.G.length gc, .slice pa A.length pc] 52):=⟨_,rfl⟩
 have hbW:Below wz.heap.size wz W:=by rw[hW];exact bal _
 have HX:=jD (show W.heap[BX]? =some (Obj.cells #[.int .i64 bt.site, .int .i64 bt.stamp, .slice va bt.V.length vc, .slice ga bt.G.length gc, .slice pa A.length pc] 52 (0,0)) by rw[hW];exact alloc_new _ _ _ _ hBX)
 have HS:=jD h
 have HV:=jD hv
 have HG:=jD hgn
 have HA:=jD hA
 have HAO:=jD hAok
 have HAS:=jD hAS
 have HBT:=jD hbt
 have HB:=jD hbW
 have HCK:=jD (sbChk_ok hbt hAok hAl)
 have HSB:=jD (sbatch_c _ _ _ ⟨bt.site,bt.stamp,bt.V,bt.G,A⟩ W ⟨hv.below hbW,hgn.below hbW,hA.below hbW⟩)
 have H1:=jD (show bt.site≠s.me→tookE s bt=1 from fun h=>by unfold tookE;rw [if_pos h])
 have H6:=jD (show bt.site=s.me→bt.stamp≠s.stamp→tookE s bt=6 from fun h h2=>by unfold tookE;rw [if_neg (by omega),if_pos h2])
 have HP:=jD (show bt.site=s.me→bt.stamp=s.stamp→putsE s.L bt.V≠0→tookE s bt=putsE s.L bt.V from fun h h2 h3=>by unfold tookE;rw [if_neg (by omega),if_neg (by omega),if_pos h3])
 have HQ:=jD (show bt.site=s.me→bt.stamp=s.stamp→putsE s.L bt.V=0→tookE s bt=if 30≤(fewS (s.S++bt.S)).length then 2 else 0 from fun h h2 h3=>by unfold tookE;rw [if_neg (by omega),if_neg (by omega),if_neg (by omega)])
 obtain⟨hblk,hf,hl,hpp⟩:=hV0
 obtain⟨la,lc,hlv⟩:=hl.shape
 subst hlv
 have HV0:=jD (show SiteV wz b g s f0 (.slice la s.L.length lc) p0 from⟨hblk,hf,hl,hpp⟩)
 have V:=jD (SiteV.below (show SiteV wz b g s f0 (.slice la s.L.length lc) p0 from⟨hblk,hf,hl,hpp⟩) hbW)
 have hll:=h.ok.L.len
 have x0:=cell_of_block (j:=0) HX.out rfl
 have x1:=cell_of_block (j:=1) HX.out rfl
 have x2:=cell_of_block (j:=2) HX.out rfl
 have x3:=cell_of_block (j:=3) HX.out rfl
 have x4:=cell_of_block (j:=4) HX.out rfl
 have xl:=hlt_of HX.out
 rw[hW,hBX] at x0 x1 x2 x3 x4 xl
 clear h hv hgn hA hAok hAS hbt hbW hblk hf hl hpp
 go_enter Tryz.func23,Tryz.ntmps23
 go_wp2_with fail
 rw[←hW,←hBX]
 clear hW hBX x0 x1 x2 x3 x4 xl
 (with_reducible refine(HSB.out).mono ?_)
 rintro e w1 ⟨rfl,hb1⟩
 rw[HCK.out]
 replace HX:=jD (below_keep hb1 HX.out)
 replace V:=jD (V.out.below hb1)
 replace HB:=jD (bstep HB.out hb1)
 have x0:=cell_of_block (j:=0) HX.out rfl
 have xl:=hlt_of HX.out
 have c0:w1.cell? ⟨g,0,none⟩=some (.int .i64 s.me):=cell_of_block (j:=0) V.out.blk rfl
 have gl:=hlt_of V.out.blk
 clear hb1 HSB HCK
 by_cases hs:bt.site=s.me
 rotate_left
 ·have hE:=jD (H1.out hs)
  have hd:(bt.site != s.me)=true:=bne_iff_ne.2 hs
  have hd2:decide (bt.site=s.me)=false:=by simpa using hs
  clear H1 H6 HP HQ
  go_wp2
  go_region
  go_wp2
  go_ret
  exact take_no2 HS.out HV0.out hE.out (by decide) HB.out.drew
 have HSS:=jD hs
 have hd:(bt.site != s.me)=false:=by simpa using hs
 have hd2:decide (bt.site=s.me)=true:=by simpa using hs
 clear hs
 go_wp2
 go_region
 obtain⟨w2,hw2⟩: ∃w2,w2=w1.drew:=⟨_,rfl⟩
 have hb2:Below w1.heap.size w1 w2:=by rw[hw2];exact (Below.refl _ _).drew
 rw[←hw2]
 replace HX:=jD (below_keep hb2 HX.out)
 replace V:=jD (V.out.below hb2)
 replace HB:=jD (bstep HB.out hb2)
 clear hw2 hb2 x0 xl c0 gl hd hd2 H1
 have x1:=cell_of_block (j:=1) HX.out rfl
 have xl:=hlt_of HX.out
 have c2:w2.cell? ⟨g,2,none⟩=some (.int .i64 s.stamp):=cell_of_block (j:=2) V.out.blk rfl
 have gl:=hlt_of V.out.blk
 by_cases ht:bt.stamp=s.stamp
 rotate_left
 ·have hE:=jD (H6.out HSS.out ht)
  have hd:(bt.stamp != s.stamp)=true:=bne_iff_ne.2 ht
  have hd2:decide (bt.stamp=s.stamp)=false:=by simpa using ht
  clear H6 HP HQ
  go_wp2
  go_region
  go_wp2
  go_ret
  exact take_no2 HS.out HV0.out hE.out (by decide) HB.out.drew
 have HTT:=jD ht
 have hd:(bt.stamp != s.stamp)=false:=by simpa using ht
 have hd2:decide (bt.stamp=s.stamp)=true:=by simpa using ht
 clear ht
 go_wp2
 go_region
 obtain⟨w3,hw3⟩: ∃w3,w3=w2.drew:=⟨_,rfl⟩
 have hb3:Below w2.heap.size w2 w3:=by rw[hw3];exact (Below.refl _ _).drew
 rw[←hw3]
 replace HX:=jD (below_keep hb3 HX.out)
 replace V:=jD (V.out.below hb3)
 replace HB:=jD (bstep HB.out hb3)
 clear hw3 hb3 x1 xl c2 gl hd hd2 H6
 have x2:=cell_of_block (j:=2) HX.out rfl
 have xl:=hlt_of HX.out
 have c4:w3.cell? ⟨g,4,none⟩=some (.slice la s.L.length lc):=cell_of_block (j:=4) V.out.blk rfl
 have gl:=hlt_of V.out.blk
 have HP2:=jD (fun h=>HP.out HSS.out HTT.out h)
 have HQ2:=jD (fun h=>HQ.out HSS.out HTT.out h)
 have HVL:=jD (show VO2 w3 b wz.heap.size (.slice la s.L.length lc) s.L (.slice la s.L.length lc) s.L from⟨V.out.l, .inl ⟨rfl,rfl⟩⟩)
 clear HP HQ
 go_wp2
 clear x2 xl c4 gl
 go_loopw [41,6] (fun i lv wr=> ∃k:Nat,k≤bt.V.length∧i= .int .i64 k∧putsE s.L (bt.V.take k)=0∧VO2 wr b wz.heap.size (.slice la s.L.length lc) s.L lv (laidOn s.L (bt.V.take k))∧Below w3.heap.size w3 wr) (fun i _ _=>bt.V.length - (intOf i).toNat)
 case atStart=>exact ⟨0,Nat.zero_le _,rfl,rfl,HVL.out,Below.refl _ _⟩
 case round=>
  obtain⟨k,hk,rfl,hpe,hvo,hbl⟩:=hrel
  obtain⟨oa,on,oc,hov⟩:=sl3 hvo.own.shape
  subst hov
  have HSH:=jD (laidOn_ok HS.out.ok.L hpe)
  by_cases hlt:k < bt.V.length
  ·have hltb:decide ((k:Int) < (bt.V.length:Int))=true:=by simp;omega
   have HVr:=jD (HV.out.below (bstep HB.out hbl))
   have HBr:=jD hbl
   have HLO:=jD (hvo.own.at_ (shok_bd HSH.out.ok) (by have:=HSH.out.len;omega))
   have HBAD:=jD (putsE_bad hlt hpe)
   have HNX:=jD (putsE_next hlt hpe)
   have HLN:=jD (laidOn_next (L:=s.L) hlt)
   obtain⟨a',cap',ha', -, -, -,hvl2⟩:=HVr.out.open_
   simp only[Value.slice.injEq,true_and] at ha'
   obtain⟨ha',rfl⟩:=ha'
   rcases hvl2 with hnil | ⟨b7,off,rfl,hb,hc⟩
   ·rw[hnil] at hlt;simp at hlt
   subst ha'
   obtain⟨c,⟨u,x,rfl,hk2⟩,hcc⟩:=hc k hlt
   obtain⟨ua,uc,rfl⟩:=hk2.vec.shape
   obtain⟨xa,xc,rfl⟩:=hk2.more.shape
   have hcl:=fun (i:Nat) (y:Value) (hy:(verC bt.V[k] (.slice ua bt.V[k].past.vec.length uc) (.slice xa bt.V[k].past.more.length xc)).toList[i]? =some y)=>row8 (b:=b7) (off:=off) (i:=k) hcc hy
   have c0:=hcl 0 _ rfl
   have c1:=hcl 1 _ rfl
   have c2:=hcl 2 _ rfl
   have c3:=hcl 3 _ rfl
   have c4:=hcl 4 _ rfl
   have c5:=hcl 5 _ rfl
   have c6:=hcl 6 _ rfl
   have c7:=hcl 7 _ rfl
   rw[Nat.add_zero] at c0
   clear hc hcc hcl hbl hvo hpe HVL
   generalize bt.V[k]=v1 at*
   generalize laidOn s.L (bt.V.take k)=LK at*
   obtain⟨W1,hW1⟩: ∃W1,W1=wr.alloc (.cells #[.string v1.id, .int .i64 v1.ds, .int .i64 v1.dc, .int .i64 v1.tg, .int .i64 v1.nm, .int .i64 v1.bd, .slice ua v1.past.vec.length uc, .slice xa v1.past.more.length xc] 75):=⟨_,rfl⟩
   have hb1:Below wr.heap.size wr W1:=by rw[hW1];exact bal _
   have HC:=jD (put_c _ LK v1 _ _ W1 (HLO.out.below hb1) (hk2.below hb1))
   unfold verC at HC
   replace HBr:=jD (bstep HBr.out hb1)
   clear hk2 hb1 HLO HVr
   go_wp2_with fail
   rw[←hW1]
   clear hW1
   (with_reducible refine(HC.out).mono ?_)
   rintro e w5 ⟨ov,rfl,ho,hb5⟩
   obtain⟨qa,qc,hq⟩:=ho.shape
   subst hq
   have HO:=jD ho
   have HB5:=jD (bstep HBr.out hb5)
   have hbs:b≤W1.heap.size:=by have h1:=HS.out.ge;have h2:=HS.out.lt;have h3:=HB.out.size;have h4:=HBr.out.size;omega
   have hbz:wz.heap.size≤W1.heap.size:=by have h3:=HB.out.size;have h4:=HBr.out.size;omega
   clear ho hb5 HC HBr c0 c1 c2 c3 c4 c5 c6 c7 hb
   by_cases hz:putE LK v1=0
   ·have HO2:=jD (show VO2 _ b wz.heap.size (.slice la s.L.length lc) s.L _ _ from⟨VOwn.mono HO.out hbs, .inr (VOwn.mono HO.out hbz)⟩)
    have HR:=jD (putR_ok hz)
    have HZ:=jD hz
    rw[HR.out] at HO2
    rw[hz]
    clear HO hz
    go_wp2
    go_roundw
    case rel=>exact ⟨k+1,by omega,by go_num,HNX.out HZ.out,by rw[HLN.out,←HR.out];rw [HR.out];exact HO2.out,HB5.out⟩
    case measure=>simp [intOf] <;> omega
   ·have hE:=jD ((HP2.out (by rw[HBAD.out hz];exact hz)).trans (HBAD.out hz))
    have HZ:=jD hz
    have hd:decide (putE LK v1=0)=false:=by simpa using hz
    have hd2:(putE LK v1 != 0)=true:=bne_iff_ne.2 hz
    have HFB:=jD (bstep HB.out HB5.out)
    clear HO hz HBAD HNX HP2 HQ2
    generalize putE LK v1=q at*
    go_wp2
    go_ret
    exact take_no2 HS.out HV0.out hE.out HZ.out HFB.out
  ·obtain rfl:k=bt.V.length:=by omega
   rw[List.take_length] at hpe hvo HSH
   have hkb:decide ((bt.V.length:Int) < (bt.V.length:Int))=false:=by simp
   have HQ3:=jD (HQ2.out hpe)
   obtain⟨w4,hw4⟩: ∃w4,w4=wr:=⟨_,rfl⟩
   rw[←hw4] at hvo hbl ⊢
   replace HX:=jD (below_keep hbl HX.out)
   replace V:=jD (V.out.below hbl)
   replace HB:=jD (bstep HB.out hbl)
   have HVO:=jD hvo
   have x3:=cell_of_block (j:=3) HX.out rfl
   have xl:=hlt_of HX.out
   clear hw4 hbl hvo hpe HP2 HQ2 HVL HV
   go_wp2
   clear x3 xl
   go_loopw [58,6] (fun i lv wr=> ∃k:Nat,k≤bt.G.length∧i= .int .i64 k∧VO2 wr b wz.heap.size (.slice la s.L.length lc) s.L lv (dropsL (laidOn s.L bt.V) (bt.G.take k))∧Below w4.heap.size w4 wr) (fun i _ _=>bt.G.length - (intOf i).toNat)
   case atStart=>exact ⟨0,Nat.zero_le _,rfl,HVO.out,Below.refl _ _⟩
   case round=>
    obtain⟨k,hk,rfl,hvo,hbl⟩:=hrel
    obtain⟨oa,on,oc,hov⟩:=sl3 hvo.own.shape
    subst hov
    have HSD:=jD (dropsL_ok HSH.out (bt.G.take k))
    by_cases hlt:k < bt.G.length
    ·have hltb:decide ((k:Int) < (bt.G.length:Int))=true:=by simp;omega
     have HGr:=jD (HG.out.below (bstep HB.out hbl))
     have HBr:=jD hbl
     have HLO:=jD (hvo.own.at_ (shok_bd HSD.out.ok) (by have:=HSD.out.len;omega))
     have HDZ:=jD (drop_ok HSD.out (HBT.out.G _ (List.getElem_mem hlt)))
     have HDN:=jD (dropsL_next (L:=laidOn s.L bt.V) hlt)
     obtain⟨a',cap',ha', -, -, -,hvl2⟩:=HGr.out.open_
     simp only[Value.slice.injEq,true_and] at ha'
     obtain⟨ha',rfl⟩:=ha'
     rcases hvl2 with hnil | ⟨b7,off,rfl,hb,hc⟩
     ·rw[hnil] at hlt;simp at hlt
     subst ha'
     obtain⟨c,hE7,hcc⟩:=hc k hlt
     obtain⟨u,x,d0,d1,d2,hk2⟩:=gone_cells hb (Below.refl _ _) hE7 hcc
     obtain⟨ua,uc,rfl⟩:=hk2.vec.shape
     obtain⟨xa,xc,rfl⟩:=hk2.more.shape
     clear hc hcc hE7 hbl hvo HVO
     generalize bt.G[k]=g1 at*
     generalize dropsL (laidOn s.L bt.V) (bt.G.take k)=LK at*
     obtain⟨W1,hW1⟩: ∃W1,W1=wr.alloc (.cells #[.string g1.id, .slice ua g1.past.vec.length uc, .slice xa g1.past.more.length xc] 101):=⟨_,rfl⟩
     have hb1:Below wr.heap.size wr W1:=by rw[hW1];exact bal _
     have HC:=jD (drop_c _ LK g1.id g1.past _ _ W1 (HLO.out.below hb1) (hk2.below hb1))
     replace HBr:=jD (bstep HBr.out hb1)
     clear hk2 hb1 HLO HGr
     go_wp2_with fail
     rw[←hW1]
     clear hW1
     (with_reducible refine(HC.out).mono ?_)
     rintro e w5 ⟨ov,rfl,ho,hb5⟩
     obtain⟨qa,qc,hq⟩:=ho.shape
     subst hq
     have hbs:b≤W1.heap.size:=by have h1:=HS.out.ge;have h2:=HS.out.lt;have h3:=HB.out.size;have h4:=HBr.out.size;omega
     have hbz:wz.heap.size≤W1.heap.size:=by have h3:=HB.out.size;have h4:=HBr.out.size;omega
     have HO:=jD (show VO2 w5 b wz.heap.size (.slice la s.L.length lc) s.L (.slice qa (dropR LK g1.id g1.past).length qc) (dropL LK g1.id g1.past) by
      have h1:=VOwn.mono ho hbs
      have h2:=VOwn.mono ho hbz
      rw[dropR_ok HDZ.out] at h1 h2 ⊢
      exact⟨h1, .inr h2⟩)
     have HB5:=jD (bstep HBr.out hb5)
     have hz:=HDZ.out
     rw[hz]
     clear ho hb5 HC HBr d0 d1 d2 hb hz
     go_wp2
     go_roundw
     case rel=>exact ⟨k+1,by omega,by go_num,by rw[HDN.out];exact HO.out,HB5.out⟩
     case measure=>simp [intOf] <;> omega
    ·obtain rfl:k=bt.G.length:=by omega
     rw[List.take_length] at hvo HSD
     have hkb:decide ((bt.G.length:Int) < (bt.G.length:Int))=false:=by simp
     obtain⟨w5,hw5⟩: ∃w5,w5=wr:=⟨_,rfl⟩
     rw[←hw5] at hvo hbl ⊢
     replace HX:=jD (below_keep hbl HX.out)
     replace V:=jD (V.out.below hbl)
     replace HB:=jD (bstep HB.out hbl)
     replace HVO:=jD hvo
     obtain⟨lst,hp1,hp2,hp3⟩:=V.out.p
     have hlen:lst.length≤29:=by have:=HS.out.ok.len;rw [←hp3,List.length_map] at this;exact this
     obtain⟨pa9,pc9,hpv⟩:=hp1.shape
     subst hpv
     have HC5:=jD (cell_of_block (j:=5) V.out.blk rfl:w5.cell? ⟨g,5,none⟩=some (.slice pa9 lst.length pc9))
     have HX4:=jD (cell_of_block (j:=4) HX.out rfl:w5.cell? ⟨BX,4,none⟩=some (.slice pa A.length pc))
     have HRW:=jD (hp1.at_ (fun q hq=>(hp2 q hq).1) (by omega))
     have HRA:=jD (HA.out.below HB.out)
     have HPJ:=jD (show pjE lst A=if 30 < (fewS (s.S++bt.S)).length then 2 else 0 by
      rw[pjE_few (ptsChk_zero.2 ⟨by omega,fun q hq=>(hp2 q hq).1⟩) (ptsChk_zero.2 ⟨hAl,HAO.out⟩),hp3,HAS.out])
     have HSM:=jD (show(lst++A).map sem=s.S++bt.S by rw[List.map_append,hp3,HAS.out])
     have HBZ:=jD HB.out.size
     have HBS:=jD (show b≤w5.heap.size by have h1:=HS.out.ge;have h2:=HS.out.lt;have h3:=HB.out.size;omega)
     clear hw5 hbl hvo hp1 hp2 hp3 HG
     go_wp2_with fail
     refine Cl.region0 96 rfl [] (fun _=>True) (fun _=>[]) (fun jq v ww=>match jq with | 0=>v= .pointer (some ⟨g,0,none⟩) | 1=>v= .pointer (some ⟨g,0,none⟩) | 2=>v= .pointer (some ⟨g,5,none⟩) | 3=>v= .slice pa9 lst.length pc9 | 4=>v= .pointer (some ⟨BX,4,none⟩) | 5=>v= .slice pa A.length pc | 6=>JoTup ww w5.heap.size (pjE lst A) (fewS (s.S++bt.S)) v | 7=>JoTup ww w5.heap.size (pjE lst A) (fewS (s.S++bt.S)) v | 8=>JoSl ww w5.heap.size (pjE lst A) (fewS (s.S++bt.S)) v | 9=>v= .int .i64 (pjE lst A) | 10=>JoSl ww w5.heap.size (pjE lst A) (fewS (s.S++bt.S)) v | 11=>v= .int .i64 (pjE lst A) | _=>True) (fun ww=>Below w5.heap.size w5 ww) (fun jq ww ww'=>Below ww.heap.size ww ww') Tryz.mixed (by decide+kernel) (Below.refl _ _).drew trivial ?_ (fun _ _ _ _ _ _=>trivial) ?_ ?_
     ·intro q r v w w' hne hk hlt h hR
      match r,hk,hlt,h,hne with
      | 0,_,_,h,_=>exact h
      | 1,_,_,h,_=>exact h
      | 2,_,_,h,_=>exact h
      | 3,_,_,h,_=>exact h
      | 4,_,_,h,_=>exact h
      | 5,_,_,h,_=>exact h
      | 6,_,_,h,_=>exact h.below hR
      | 7,_,_,h,_=>exact h.below hR
      | 8,_,_,h,_=>exact h.below hR
      | 9,_,_,h,_=>exact h
      | 10,_,_,h,_=>exact h.below hR
      | 11,_,_,h,_=>exact h
      | _+12,_,_,_,_=>trivial
     ·refine⟨?_, ?_, ?_, ?_, ?_, ?_, ?_, ?_, ?_, ?_, ?_, ?_,trivial⟩
      ·intro x wx hG
       have f0:=hG.o 0
       replace hG:=hG.good
       go_wp2
       exact⟨_,rfl,rfl,hG,Below.refl _ _⟩
      ·intro x wx hG
       have g0:(x.tmps.getD 73 undef)= .pointer (some ⟨g,0,none⟩):=hG.c 0 _ rfl
       replace hG:=hG.good
       go_wp2
       exact⟨_,rfl,rfl,hG,Below.refl _ _⟩
      ·intro x wx hG
       have g1:(x.tmps.getD 74 undef)= .pointer (some ⟨g,0,none⟩):=hG.c 1 _ rfl
       replace hG:=hG.good
       go_wp2
       exact⟨_,rfl,rfl,hG,Below.refl _ _⟩
      ·intro x wx hG
       have g2:(x.tmps.getD 75 undef)= .pointer (some ⟨g,5,none⟩):=hG.c 2 _ rfl
       replace hG:=hG.good
       have c_HC5:=ckeep hG HC5.out
       go_wp2
       exact⟨_,rfl,rfl,hG,Below.refl _ _⟩
      ·intro x wx hG
       have f3:=hG.o 3
       replace hG:=hG.good
       go_wp2
       exact⟨_,rfl,rfl,hG,Below.refl _ _⟩
      ·intro x wx hG
       have g4:(x.tmps.getD 77 undef)= .pointer (some ⟨BX,4,none⟩):=hG.c 4 _ rfl
       replace hG:=hG.good
       have c_HX4:=ckeep hG HX4.out
       go_wp2
       exact⟨_,rfl,rfl,hG,Below.refl _ _⟩
      ·intro x wx hG
       have g3:(x.tmps.getD 76 undef)= .slice pa9 lst.length pc9:=hG.c 3 _ rfl
       have g5:(x.tmps.getD 78 undef)= .slice pa A.length pc:=hG.c 5 _ rfl
       replace hG:=hG.good
       have HN:=jD (pjoin_a _ _ lst A wx (HRW.out.below hG) (HRA.out.below hG))
       go_wp2_with fail
       (with_reducible refine(HN.out).mono ?_)
       rintro e wq ⟨ov,rfl,ho,hb⟩
       rw[HSM.out] at ho
       obtain⟨qa8,qn8,qc8,hov⟩:=PResA.shape ho
       subst hov
       have HO8:=jD (PResA.mono ho hG.size)
       have HBB:=jD hb
       clear ho hb HN
       go_wp2
       exact⟨_,rfl,⟨_,_,_,rfl,HO8.out⟩,bstep hG HBB.out,HBB.out⟩
      ·intro x wx hG
       have g6:JoTup wx w5.heap.size (pjE lst A) (fewS (s.S++bt.S)) (x.tmps.getD 79 undef):=hG.c 6 _ rfl
       replace hG:=hG.good
       obtain⟨oa8,on8,oc8,hv,ho⟩:=g6
       have HO8:=jD ho
       have hvb:=hv
       rw[Array.getD_eq_getD_getElem?] at hvb
       clear ho
       go_wp2
       exact⟨_,rfl,⟨_,_,_,rfl,HO8.out⟩,hG,Below.refl _ _⟩
      ·intro x wx hG
       have g7:JoTup wx w5.heap.size (pjE lst A) (fewS (s.S++bt.S)) (x.tmps.getD 72 undef):=hG.c 7 _ rfl
       replace hG:=hG.good
       obtain⟨oa8,on8,oc8,hv,ho⟩:=g7
       have HO8:=jD ho
       have hvb:=hv
       rw[Array.getD_eq_getD_getElem?] at hvb
       clear ho
       go_wp2
       exact⟨_,rfl,⟨_,_,_,rfl,HO8.out⟩,hG,Below.refl _ _⟩
      ·intro x wx hG
       have g7:JoTup wx w5.heap.size (pjE lst A) (fewS (s.S++bt.S)) (x.tmps.getD 72 undef):=hG.c 7 _ rfl
       replace hG:=hG.good
       obtain⟨oa8,on8,oc8,hv,ho⟩:=g7
       have HO8:=jD ho
       have hvb:=hv
       rw[Array.getD_eq_getD_getElem?] at hvb
       clear ho
       go_wp2
       exact⟨_,rfl,rfl,hG,Below.refl _ _⟩
      ·intro x wx hG
       have g8:JoSl wx w5.heap.size (pjE lst A) (fewS (s.S++bt.S)) (x.tmps.getD 80 undef):=hG.c 8 _ rfl
       replace hG:=hG.good
       obtain⟨oa8,on8,oc8,hv,ho⟩:=g8
       have HO8:=jD ho
       have hvb:=hv
       rw[Array.getD_eq_getD_getElem?] at hvb
       clear ho
       go_wp2
       exact⟨_,rfl,⟨_,_,_,rfl,HO8.out⟩,hG,Below.refl _ _⟩
      ·intro x wx hG
       have g9:(x.tmps.getD 81 undef)= .int .i64 (pjE lst A):=hG.c 9 _ rfl
       replace hG:=hG.good
       go_wp2
       exact⟨_,rfl,rfl,hG,Below.refl _ _⟩
     ·intro vals w6 hg hF
      obtain⟨g0,g1,g2,g3,g4,g5,g6,g7,g8,g9,g10,g11, -⟩:=hF
      have e0:=gq (vals 0) g0
      have e1:=gq (vals 1) g1
      have e2:=gq (vals 2) g2
      have e3:=gq (vals 3) g3
      have e4:=gq (vals 4) g4
      have e5:=gq (vals 5) g5
      have e9:=gq (vals 9) g9
      replace g10:JoSl w6 w5.heap.size (pjE lst A) (fewS (s.S++bt.S)) (vals 10):=g10 rfl
      have e11:=gq (vals 11) g11
      simp only[Cl.puts,e0,e1,e2,e3,e4,e5,e9,e11]
      clear e0 e1 e2 e3 e4 e5 e9 e11 g0 g1 g2 g3 g4 g5 g6 g7 g8 g9 g11
      go_simp
      generalize vals 10=jv at*
      obtain⟨ja,jn,jc,hjv,hjo⟩:=g10
      subst hjv
      replace V:=jD (V.out.below hg)
      replace HB:=jD (bstep HB.out hg)
      replace HVO:=jD (HVO.out.below hg)
      have HJO:=jD hjo
      clear hg hjo HX HC5 HX4 HRW HRA HA HAO
      generalize vals 6=j6 at*
      generalize vals 7=j7 at*
      generalize vals 8=j8 at*
      obtain⟨n,hn⟩: ∃n,n=(fewS (s.S++bt.S)).length:=⟨_,rfl⟩
      rw[←hn] at HPJ HQ3
      by_cases h30:30 < n
      ·have hE:=jD (HQ3.out.trans (if_pos (by omega)))
       have hq:=HPJ.out.trans (if_pos h30)
       rw[hq]
       clear HPJ HQ3 HJO hn h30 hq
       go_wp2
       go_ret
       exact take_no2 HS.out HV0.out hE.out (by decide) HB.out
      have hq:=HPJ.out.trans (if_neg h30)
      rw[hq] at HJO
      have hjo:=HJO.out.1 rfl
      obtain⟨ja2,jc2,hj2⟩:=hjo.shape
      simp only[Value.slice.injEq] at hj2
      obtain⟨rfl,hjn,rfl⟩:=hj2
      rw[←hn] at hjn
      subst hjn
      have HJ:=jD (PtsOwnA.mono hjo HBS.out)
      have HJ2:=jD (PtsOwnA.mono hjo HBZ.out)
      rw[hq]
      clear HJO hjo HPJ hq
      have HN:=jD hn
      clear hn
      by_cases he:jn=30
      ·have hE:=jD (HQ3.out.trans (if_pos (by omega)))
       have hd:decide ((jn:Int)=30)=true:=by simp;omega
       have hd2:((jn:Int)==30)=true:=by simp;omega
       clear HQ3 HJ h30 he HN
       go_wp2
       go_ret
       exact take_no2 HS.out HV0.out hE.out (by decide) HB.out
      have hE:=jD (HQ3.out.trans (if_neg (by omega)))
      have hd:decide ((jn:Int)=30)=false:=by simp;omega
      have hd2:((jn:Int)==30)=false:=by simp;omega
      have s4:w6.cell? ⟨g,4,none⟩=some (.slice la s.L.length lc):=cell_of_block (j:=4) V.out.blk rfl
      have s5:w6.cell? ⟨g,5,none⟩=some (.slice pa9 lst.length pc9):=cell_of_block (j:=5) V.out.blk rfl
      have t4:=free_of_block (j:=4) V.out.blk
      have t5:=free_of_block (j:=5) V.out.blk
      have gl:=hlt_of V.out.blk
      clear HQ3 h30 he
      go_wp2
      go_ret
      exact take_yes2 HS.out HBT.out hE.out V.out HB.out HVO.out HJ.out HJ2.out
end Go.Proofs.YtgkgdedhicnohaaGreat
