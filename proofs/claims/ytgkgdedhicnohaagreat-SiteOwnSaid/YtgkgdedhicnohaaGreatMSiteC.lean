/- What site.batch does: as wire.Check, but for how large a stamp may be. Written by a small program (gen/site2.py). What a site takes. Written by a small program (gen/site7.py). What a site gives. Written by a small program (gen/site6.py). What stays of a site when a new dot is written into a cell of its own; the law's world. No walk here. -/
import Derived.Test.YtgkgdedhicnohaaGreatMSiteB
import Derived.Test.YtgkgdedhicnohaaGreatMWireU
namespace Go.Proofs.YtgkgdedhicnohaaGreat
set_option maxRecDepth 100000
set_option maxHeartbeats 40000000
open Go.RowKit
def headBad2 (s t:Int):Bool:=(decide (s < 0) || decide (5≤s)) || decide (t < 0)
def sbChk (b:Bt):Int:=
 if headBad2 b.site b.stamp=true then 1
 else if 60 < b.vers.length∨60 < b.gone.length then 2
 else if firstE verChk b.vers≠0 then firstE verChk b.vers
 else if firstE goneChk b.gone≠0 then firstE goneChk b.gone
 else ptsChk b.parts
theorem sbatch_c (vv gv pv:Value) (b:Bt) (w:World) (hb:BtAt w vv gv pv b):
  Calls Tryz.prog 74 #[.agg #[.int .i64 b.site, .int .i64 b.stamp,vv,gv,pv]] w fun e w'=>e= .returned (.int .i64 (sbChk b))∧Below w.heap.size w w':=by
 obtain⟨va,vc,rfl⟩:=hb.vers.shape
 obtain⟨ga,gc,rfl⟩:=hb.gone.shape
 obtain⟨pa,pc,rfl⟩:=hb.parts.shape
 obtain⟨s,t,V,G,P⟩:=b
 simp only at hb ⊢
 obtain⟨W,hW⟩: ∃W,W=w.alloc (.cells #[.int .i64 s, .int .i64 t, .slice va V.length vc, .slice ga G.length gc, .slice pa P.length pc] 52):=⟨_,rfl⟩
 have hbW:Below w.heap.size w W:=by rw[hW];exact bal _
 have hbk:W.heap[w.heap.size]? =some (Obj.cells #[.int .i64 s, .int .i64 t, .slice va V.length vc, .slice ga G.length gc, .slice pa P.length pc] 52 (0,0)):=by rw[hW];exact alloc_new _ _ _ _ rfl
 have HBK:=jD hbk
 have HBV:=jD (show RowAt verE W (.slice va V.length vc) V from(hb.below hbW).vers)
 have HBG:=jD (show RowAt goneE W (.slice ga G.length gc) G from(hb.below hbW).gone)
 have HBP:=jD (show RowAt partE W (.slice pa P.length pc) P from(hb.below hbW).parts)
 have HB:=jD hbW
 have H0:=jD (show sbChk ⟨s,t,V,G,P⟩=if headBad2 s t=true then 1 else if 60 < V.length∨60 < G.length then 2 else if firstE verChk V≠0 then firstE verChk V else if firstE goneChk G≠0 then firstE goneChk G else ptsChk P from rfl)
 have HHB:=jD (show headBad2 s t=((decide (s < 0) || decide (5≤s)) || decide (t < 0)) from rfl)
 clear hb hbk hbW
 go_enter Tryz.func74,Tryz.ntmps74
 have k0:=cell_of_block (j:=0) HBK.out rfl
 have k1:=cell_of_block (j:=1) HBK.out rfl
 have k2:=cell_of_block (j:=2) HBK.out rfl
 have k3:=cell_of_block (j:=3) HBK.out rfl
 have hkl:=hlt_of HBK.out
 rw[hW] at k0 k1 k2 k3 hkl
 cases hh:headBad2 s t
 rotate_left
 ·have hq:=HHB.out.symm.trans hh
  have H1:=jD (show sbChk ⟨s,t,V,G,P⟩=1 by rw[H0.out,if_pos hh])
  have HB2:=HB.out
  rw[hW] at HB2
  clear H0 HHB hh hW
  go_wp2
  all_goals go_ret
  all_goals exact⟨by rw[H1.out];rfl,HB2⟩
 have hq:=HHB.out.symm.trans hh
 rw[Bool.or_eq_false_iff,Bool.or_eq_false_iff] at hq
 obtain⟨⟨e1,e2⟩,e3⟩:=hq
 cases hz:(decide (60 < (V.length:Int)) || decide (60 < (G.length:Int)))
 rotate_left
 ·have H1:=jD (show sbChk ⟨s,t,V,G,P⟩=2 by
   rw[H0.out,if_neg (by rw[hh];decide),if_pos]
   simp only[Bool.or_eq_true,decide_eq_true_eq] at hz;omega)
  have HB2:=HB.out
  rw[hW] at HB2
  clear H0 HHB hh hW
  go_wp2
  all_goals go_ret
  all_goals exact⟨by rw[H1.out];rfl,HB2⟩
 have hvl:V.length≤60:=by simp only[Bool.or_eq_false_iff,decide_eq_false_iff_not] at hz;omega
 have hgl:G.length≤60:=by simp only[Bool.or_eq_false_iff,decide_eq_false_iff_not] at hz;omega
 have H1:=jD (show sbChk ⟨s,t,V,G,P⟩=if firstE verChk V≠0 then firstE verChk V else if firstE goneChk G≠0 then firstE goneChk G else ptsChk P by
  rw[H0.out,if_neg (by rw[hh];decide),if_neg (by omega)])
 rw[Bool.or_eq_false_iff] at hz
 obtain⟨e5,e6⟩:=hz
 clear H0 HHB hh
 have hWH:=jD hW
 clear hW
 go_wp2
 rw[←hWH.out]
 obtain⟨BB,hBB⟩: ∃BB,BB=w.heap.size:=⟨_,rfl⟩
 rw[←hBB] at HBK ⊢
 clear hBB hWH k0 k1 k2 k3 hkl e1 e2 e3 e5 e6
 go_loopw [35] (fun i wr=> ∃k:Nat,k≤V.length∧i= .int .i64 k∧firstE verChk V=firstE verChk (V.drop k)∧Below W.heap.size W wr) (fun i _=>V.length - (intOf i).toNat)
 case atStart=>exact ⟨0,Nat.zero_le _,rfl,rfl,Below.refl _ _⟩
 case round=>
  obtain⟨k,hk,rfl,hf,hbl⟩:=hrel
  by_cases hlt:k < V.length
  ·have HVr:=jD (HBV.out.below hbl)
   have HF:=jD (hf.trans (firstE_step verChk hlt))
   have HBr:=jD hbl
   obtain⟨a',cap',ha', -, -, -,hvl2⟩:=HVr.out.open_
   simp only[Value.slice.injEq,true_and] at ha'
   obtain⟨ha',rfl⟩:=ha'
   rcases hvl2 with hnil | ⟨b,off,rfl,hb,hc⟩
   ·rw[hnil] at hlt;simp at hlt
   subst ha'
   obtain⟨c,⟨u,x,rfl,hk2⟩,hcc⟩:=hc k hlt
   obtain⟨ua,uc,rfl⟩:=hk2.vec.shape
   obtain⟨xa,xc,rfl⟩:=hk2.more.shape
   have hcl:=fun (i:Nat) (y:Value) (hy:(verC V[k] (.slice ua V[k].past.vec.length uc) (.slice xa V[k].past.more.length xc)).toList[i]? =some y)=>row8 (b:=b) (off:=off) (i:=k) hcc hy
   have c0:=hcl 0 _ rfl
   have c1:=hcl 1 _ rfl
   have c2:=hcl 2 _ rfl
   have c3:=hcl 3 _ rfl
   have c4:=hcl 4 _ rfl
   have c5:=hcl 5 _ rfl
   have c6:=hcl 6 _ rfl
   have c7:=hcl 7 _ rfl
   rw[Nat.add_zero] at c0
   clear hc hcc hcl hf hbl
   generalize V[k]=v1 at*
   obtain⟨W1,hW1⟩: ∃W1,W1=wr.alloc (.cells #[.string v1.id, .int .i64 v1.ds, .int .i64 v1.dc, .int .i64 v1.tg, .int .i64 v1.nm, .int .i64 v1.bd, .slice ua v1.past.vec.length uc, .slice xa v1.past.more.length xc] 75):=⟨_,rfl⟩
   have hb1:Below wr.heap.size wr W1:=by rw[hW1];exact bal _
   have HB1:=jD (bstep HBr.out hb1)
   have HC:=jD (one_c v1 _ _ W1 (hk2.below hb1))
   unfold verC at HC
   have hltb:decide ((k:Int) < (V.length:Int))=true:=by simp;omega
   clear hk2 hb1
   go_wp2_with fail
   rw[←hW1]
   clear hW1
   (with_reducible refine(HC.out).mono ?_)
   rintro e w2 ⟨rfl,hb2⟩
   have HB2:=jD (bstep HB1.out hb2)
   clear hb2 HC c0 c1 c2 c3 c4 c5 c6 c7 hb HB1
   by_cases hz:verChk v1=0
   ·have HF2:=jD (show firstE verChk V=firstE verChk (V.drop (k+1)) by rw[HF.out,if_neg (by omega)])
    clear HF
    rw[hz]
    go_wp2
    go_roundw
    case rel=>exact ⟨k+1,by omega,by go_num,HF2.out,HB2.out⟩
    case measure=>simp [intOf] <;> omega
   ·have H2:=jD (show sbChk ⟨s,t,V,G,P⟩=verChk v1 by
     rw[H1.out,HF.out,if_pos hz,if_pos hz])
    have hd:decide (verChk v1=0)=false:=by simpa using hz
    have hd2:(verChk v1 != 0)=true:=bne_iff_ne.2 hz
    have hfin:=bstep HB.out HB2.out
    clear HF
    generalize verChk v1=q at*
    go_wp2
    go_ret
    exact⟨by rw[H2.out];rfl,hfin⟩
  ·obtain rfl:k=V.length:=by omega
   rw[List.drop_length] at hf
   have H2:=jD (show sbChk ⟨s,t,V,G,P⟩=if firstE goneChk G≠0 then firstE goneChk G else ptsChk P by rw[H1.out,hf];rfl)
   have hfin0:=bstep HB.out hbl
   obtain⟨w3,hw3⟩: ∃w3,w3=wr:=⟨_,rfl⟩
   rw[←hw3] at hbl hfin0 ⊢
   have HBG3:=jD (HBG.out.below hbl)
   have HBP3:=jD (HBP.out.below hbl)
   have HBK3:=jD (below_keep hbl HBK.out)
   have HB3:=jD hfin0
   clear hw3 hf hbl hfin0 HBV HBG HBP HBK H1
   have k3:=cell_of_block (j:=3) HBK3.out rfl
   go_wp2
   clear k3
   go_loopw [48] (fun i wr=> ∃k:Nat,k≤G.length∧i= .int .i64 k∧firstE goneChk G=firstE goneChk (G.drop k)∧Below w3.heap.size w3 wr) (fun i _=>G.length - (intOf i).toNat)
   case atStart=>exact ⟨0,Nat.zero_le _,rfl,rfl,Below.refl _ _⟩
   case round=>
    obtain⟨k,hk,rfl,hf,hbl⟩:=hrel
    by_cases hlt:k < G.length
    ·have HF:=jD (hf.trans (firstE_step goneChk hlt))
     have HBr:=jD hbl
     obtain⟨a',cap',ha', -, -, -,hvl2⟩:=HBG3.out.open_
     simp only[Value.slice.injEq,true_and] at ha'
     obtain⟨ha',rfl⟩:=ha'
     rcases hvl2 with hnil | ⟨b,off,rfl,hb,hc⟩
     ·rw[hnil] at hlt;simp at hlt
     subst ha'
     obtain⟨c,hE,hcc⟩:=hc k hlt
     obtain⟨u,x,d0,d1,d2,hk2⟩:=gone_cells hb HBr.out hE hcc
     obtain⟨ua,uc,rfl⟩:=hk2.vec.shape
     obtain⟨xa,xc,rfl⟩:=hk2.more.shape
     clear hc hcc hE hf hbl
     generalize G[k]=g1 at*
     obtain⟨BG,hBG⟩: ∃BG,BG=wr.heap.size:=⟨_,rfl⟩
     obtain⟨W1,hW1⟩: ∃W1,W1=wr.alloc (.cells #[.string g1.id, .slice ua g1.past.vec.length uc, .slice xa g1.past.more.length xc] 101):=⟨_,rfl⟩
     have hb1:Below wr.heap.size wr W1:=by rw[hW1];exact bal _
     have HKG:=jD (show W1.heap[BG]? =some (Obj.cells #[.string g1.id, .slice ua g1.past.vec.length uc, .slice xa g1.past.more.length xc] 101 (0,0)) by rw[hW1];exact alloc_new _ _ _ _ hBG)
     have HB1:=jD (bstep HBr.out hb1)
     have HID:=jD (id_c g1.id W1)
     have HC:=jD (knChk_c _ _ g1.past W1 (hk2.below hb1))
     have hltb:decide ((k:Int) < (G.length:Int))=true:=by simp;omega
     clear hk2 hb1
     go_wp2_with fail
     rw[←hBG,←hW1]
     clear hBG hW1 d0 d1 d2 hb
     (with_reducible refine(HID.out).mono ?_)
     rintro e w4 ⟨rfl,rfl⟩
     cases hid:idOk g1.id
     ·have H3:=jD (show sbChk ⟨s,t,V,G,P⟩=3 by
       have h9:firstE goneChk G=3:=(by have h8:goneChk g1=3:=(by unfold goneChk;rw [if_pos hid]);rw [HF.out,h8,if_pos (by decide)])
       rw[H2.out,h9,if_pos (by decide)])
      have hfin:=bstep HB3.out HB1.out
      clear hid HF HC
      go_wp2
      go_ret
      exact⟨by rw[H3.out];rfl,hfin⟩
     have HGC:=jD (show goneChk g1=knChk g1.past by unfold goneChk;rw [if_neg (by rw[hid];decide)])
     have g1c:=cell_of_block (j:=1) HKG.out rfl
     have g2c:=cell_of_block (j:=2) HKG.out rfl
     have hgl2:=hlt_of HKG.out
     clear hid
     go_wp2_with fail
     (with_reducible refine(HC.out).mono ?_)
     rintro e w5 ⟨rfl,hb2⟩
     have HB2:=jD (bstep HB1.out hb2)
     clear hb2 HC g1c g2c hgl2 HB1
     by_cases hz:knChk g1.past=0
     ·have HF2:=jD (show firstE goneChk G=firstE goneChk (G.drop (k+1)) by rw[HF.out,HGC.out,if_neg (by omega)])
      clear HF
      rw[hz]
      go_wp2
      go_roundw
      case rel=>exact ⟨k+1,by omega,by go_num,HF2.out,HB2.out⟩
      case measure=>simp [intOf] <;> omega
     ·have H3:=jD (show sbChk ⟨s,t,V,G,P⟩=knChk g1.past by
       rw[H2.out,HF.out,HGC.out,if_pos hz,if_pos hz])
      have hd:decide (knChk g1.past=0)=false:=by simpa using hz
      have hd2:(knChk g1.past != 0)=true:=bne_iff_ne.2 hz
      have hfin:=bstep HB3.out HB2.out
      clear HF HGC
      generalize knChk g1.past=q at*
      go_wp2
      go_ret
      exact⟨by rw[H3.out];rfl,hfin⟩
    ·obtain rfl:k=G.length:=by omega
     rw[List.drop_length] at hf
     have H3:=jD (show sbChk ⟨s,t,V,G,P⟩=ptsChk P by rw[H2.out,hf];rfl)
     have HC:=jD (ptsChk_c _ P wr (HBP3.out.below hbl))
     have k4:=cell_of_block (j:=4) (below_keep hbl HBK3.out) rfl
     have HB4:=jD (bstep HB3.out hbl)
     clear hf hbl
     go_wp2_with fail
     (with_reducible refine(HC.out).mono ?_)
     rintro e w6 ⟨rfl,hb6⟩
     have hfin:=bstep HB4.out hb6
     clear hb6 HC k4
     go_wp2
     go_ret
     exact⟨by rw[H3.out];rfl,hfin⟩
theorem putsE_bad {L V:List Ver} : ∀ {k:Nat} (hk:k < V.length),putsE L (V.take k)=0→putE (laidOn L (V.take k)) V[k]≠0→putsE L V=putE (laidOn L (V.take k)) V[k]:=by
 induction V generalizing L with
 | nil=>intro k hk;simp at hk
 | cons v V ih=>
  intro k hk h0 h1
  cases k with
  | zero=>
   have h1:putE L v≠0:=h1
   show(if putE L v≠0 then putE L v else putsE (putL L v) V)=putE L v
   rw[if_pos h1]
  | succ k=>
   have h0:(if putE L v≠0 then putE L v else putsE (putL L v) (V.take k))=0:=h0
   by_cases hv:putE L v≠0
   ·rw[if_pos hv] at h0;exact absurd h0 hv
   ·rw[if_neg hv] at h0
    show(if putE L v≠0 then putE L v else putsE (putL L v) V)=_
    rw[if_neg hv]
    exact ih (by simpa using hk) h0 h1
theorem putsE_next {L V:List Ver} {k:Nat} (hk:k < V.length) (h0:putsE L (V.take k)=0) (h1:putE (laidOn L (V.take k)) V[k]=0):putsE L (V.take (k+1))=0:=by
 rw[List.take_succ_eq_append_getElem hk,putsE_append,if_neg (by omega)];exact h1
theorem laidOn_next {L V:List Ver} {k:Nat} (hk:k < V.length):laidOn L (V.take (k+1))=putL (laidOn L (V.take k)) V[k]:=by
 rw[List.take_succ_eq_append_getElem hk];unfold laidOn;rw [List.foldl_append];rfl
theorem dropsL_next {L:List Ver} {G:List Gn} {k:Nat} (hk:k < G.length):dropsL L (G.take (k+1))=dropL (dropsL L (G.take k)) G[k].id G[k].past:=by
 rw[List.take_succ_eq_append_getElem hk];unfold dropsL;rw [List.foldl_append];rfl
theorem drop_ok {l:List Ver} {g:Gn} (h:ShOk l) (hg:goneChk g=0):dropE l g.id g.past=0:=by
 unfold goneChk at hg
 cases hi:idOk g.id
 ·rw[if_pos hi] at hg;exact absurd hg (by decide)
 ·rw[if_neg (by rw[hi];decide)] at hg
  exact drop_zero h hi hg
theorem sbChk_ok {b:BtS} {A:List Pt} (hb:BtSOk b) (hA: ∀x∈A,PtOk x) (hl:A.length≤30):sbChk ⟨b.site,b.stamp,b.V,b.G,A⟩=0:=by
 have h1:=hb.site
 have h2:=hb.stamp
 have h3:=hb.lv
 have h4:=hb.lg
 have hh:headBad2 b.site b.stamp=false:=by
  unfold headBad2
  simp only[Bool.or_eq_false_iff,decide_eq_false_iff_not];omega
 have e1:firstE verChk b.V=0:=(firstE_zero _).2 fun v hv=>verChk_zero.2 (hb.V v hv)
 have e2:firstE goneChk b.G=0:=(firstE_zero _).2 hb.G
 unfold sbChk
 simp only
 rw[hh,if_neg (by decide),if_neg (by omega),e1,if_neg (by decide),e2,if_neg (by decide),ptsChk_zero.2 ⟨hl,hA⟩]
theorem pjE_few {a c:List Pt} (ha:ptsChk a=0) (hc:ptsChk c=0):pjE a c=if 30 < (fewS (a.map sem++c.map sem)).length then 2 else 0:=by
 unfold pjE
 rw[if_neg (by omega),if_neg (by omega),List.map_append]
theorem sl3 {v:Value} {k:Nat} (h: ∃a c,v= .slice a k c): ∃a n c,v= .slice a n c:=by
 obtain⟨a,c,h⟩:=h;exact ⟨a,k,c,h⟩
theorem PResA.shape {w:World} {base:Nat} {v:Value} {E:Int} {S:List SP} (h:PResA w base v E S): ∃a n c,v= .slice a n c:=by
 by_cases he:E=0
 ·obtain⟨a,c,hv⟩:=(h.1 he).shape;exact ⟨a,_,c,hv⟩
 ·exact⟨none,0,0,h.2 he⟩
theorem PResA.mono {w:World} {base base':Nat} {v:Value} {E:Int} {S:List SP} (h:PResA w base v E S) (hb:base'≤base):PResA w base' v E S:=⟨fun e=>(h.1 e).mono hb,h.2⟩
theorem PResA.below {w w':World} {base:Nat} {v:Value} {E:Int} {S:List SP} (h:PResA w base v E S) (hb:Below w.heap.size w w'):PResA w' base v E S:=⟨fun e=>(h.1 e).below hb,h.2⟩
def JoTup (w:World) (base:Nat) (E:Int) (S:List SP) (v:Value):Prop:= ∃a n c,v= .tuple #[.slice a n c, .int .i64 E]∧PResA w base (.slice a n c) E S
theorem JoTup.below {w w':World} {base:Nat} {E:Int} {S:List SP} {v:Value} (h:JoTup w base E S v) (hb:Below w.heap.size w w'):JoTup w' base E S v:=by
 obtain⟨a,n,c,h1,h2⟩:=h;exact ⟨a,n,c,h1,h2.below hb⟩
def JoSl (w:World) (base:Nat) (E:Int) (S:List SP) (v:Value):Prop:= ∃a n c,v= .slice a n c∧PResA w base (.slice a n c) E S
theorem JoSl.below {w w':World} {base:Nat} {E:Int} {S:List SP} {v:Value} (h:JoSl w base E S v) (hb:Below w.heap.size w w'):JoSl w' base E S v:=by
 obtain⟨a,n,c,h1,h2⟩:=h;exact ⟨a,n,c,h1,h2.below hb⟩
def TakePost (wz:World) (b g:Nat) (s:SiteS) (bt:BtS) (e:Ending) (w':World):Prop:=e= .returned (.int .i64 (tookE s bt))∧SiteAt w' b g (tookS s bt)∧Stp (fun q=>q=g) wz w'
theorem take_no {wz w':World} {b g:Nat} {s:SiteS} {bt:BtS} {E:Int} (h:SiteAt wz b g s) (he:tookE s bt=E) (h0:E≠0) (hb:Below wz.heap.size wz w'):TakePost wz b g s bt (.returned (.int .i64 E)) w':=by
 have h1:tookE s bt≠0:=by omega
 have h2:tookS s bt=s:=by unfold tookS;rw [if_neg h1]
 exact⟨by rw[he],by rw[h2];exact h.below hb,Stp.of_below hb⟩
theorem take_yes {wz w7:World} {b g:Nat} {s:SiteS} {bt:BtS} {f l p l2 p2:Value} (h:SiteAt wz b g s) (hbt:BtSOk bt) (he:tookE s bt=0) (v:SiteV w7 b g s f l p) (hb:Below wz.heap.size wz w7) (hl:VOwn w7 b l2 (dropsL (laidOn s.L bt.V) bt.G)) (hp:PtsOwnA w7 b p2 (fewS (s.S++bt.S))):
  TakePost wz b g s bt (.returned (.int .i64 0)) ((w7.setCell ⟨g,4,none⟩ l2).setCell ⟨g,5,none⟩ p2):=by
 have d1:dataT 128=false:=by decide
 have b0:=v.blk
 have b1:=heap_set_same (j:=4) (v:=l2) b0
 have b2:=heap_set_same (j:=5) (v:=p2) b1
 have S7:Stp (fun q=>q=g) w7 ((w7.setCell ⟨g,4,none⟩ l2).setCell ⟨g,5,none⟩ p2):=Stp.sets (G:=fun q=>q=g) (Stp.sets (G:=fun q=>q=g) (Stp.refl _ _) b0 d1 rfl) b1 d1 rfl
 have eS:tookS s bt= { s with L:=dropsL (laidOn s.L bt.V) bt.G,S:=fewS (s.S++bt.S) } :=by unfold tookS;rw [if_pos he]
 refine⟨by rw[he],⟨tookS_ok h.ok hbt,h.ge,f,l2,p2, ?_, ?_, ?_, ?_⟩,(Stp.of_below hb).trans S7⟩
 ·rw[b2,eS];rfl
 ·rw[eS];exact v.f.stp S7
 ·rw[eS];exact hl.stp S7
 ·rw[eS];exact hp.stp S7
theorem stake_c (g b:Nat) (s:SiteS) (bt:BtS) (A:List Pt) (vv gv pv:Value) (wz:World) (h:SiteAt wz b g s) (hbt:BtSOk bt) (hv:RowAt verE wz vv bt.V) (hgn:RowAt goneE wz gv bt.G) (hA:RowAt partE wz pv A) (hAok: ∀x∈A,PtOk x) (hAS:A.map sem=bt.S):
  Calls Tryz.prog 23 #[.pointer (some ⟨g,0,none⟩), .agg #[.int .i64 bt.site, .int .i64 bt.stamp,vv,gv,pv]] wz (TakePost wz b g s bt):=by
 obtain⟨va,vc,rfl⟩:=hv.shape
 obtain⟨ga,gc,rfl⟩:=hgn.shape
 obtain⟨pa,pc,rfl⟩:=hA.shape
 have hv60:=hbt.lv
 have hg60:=hbt.lg
 have hAl:A.length≤30:=by have:=hbt.ls;rw [←hAS,List.length_map] at this;exact this
 obtain⟨BX,hBX⟩: ∃BX,BX=wz.heap.size:=⟨_,rfl⟩
 obtain⟨W,hW⟩: ∃W,W=wz.alloc (.cells #[.int .i64 bt.site, .int .i64 bt.stamp, .slice va bt.V.length vc, .slice ga bt.G.length gc, .slice pa A.length pc] 52):=⟨_,rfl⟩
 have hbW:Below wz.heap.size wz W:=by rw[hW];exact bal _
 have HX:=jD (show W.heap[BX]? =some (Obj.cells #[.int .i64 bt.site, .int .i64 bt.stamp, .slice va bt.V.length vc, .slice ga bt.G.length gc, .slice pa A.length pc] 52 (0,0)) by rw[hW];exact alloc_new _ _ _ _ hBX)
 have HS:=jD h
 have HV:=jD hv
 have HG:=jD hgn
 have HA:=jD hA
 have HAO:=jD hAok
 have HAS:=jD hAS
 have HBT:=jD hbt
 have HB:=jD hbW
 have HCK:=jD (sbChk_ok hbt hAok hAl)
 have HSB:=jD (sbatch_c _ _ _ ⟨bt.site,bt.stamp,bt.V,bt.G,A⟩ W ⟨hv.below hbW,hgn.below hbW,hA.below hbW⟩)
 have H1:=jD (show bt.site≠s.me→tookE s bt=1 from fun h=>by unfold tookE;rw [if_pos h])
 have H6:=jD (show bt.site=s.me→bt.stamp≠s.stamp→tookE s bt=6 from fun h h2=>by unfold tookE;rw [if_neg (by omega),if_pos h2])
 have HP:=jD (show bt.site=s.me→bt.stamp=s.stamp→putsE s.L bt.V≠0→tookE s bt=putsE s.L bt.V from fun h h2 h3=>by unfold tookE;rw [if_neg (by omega),if_neg (by omega),if_pos h3])
 have HQ:=jD (show bt.site=s.me→bt.stamp=s.stamp→putsE s.L bt.V=0→tookE s bt=if 30≤(fewS (s.S++bt.S)).length then 2 else 0 from fun h h2 h3=>by unfold tookE;rw [if_neg (by omega),if_neg (by omega),if_neg (by omega)])
 obtain⟨f0,l0,p0,hblk,hf,hl,hpp⟩:=h.cells
 obtain⟨la,lc,hlv⟩:=hl.shape
 subst hlv
 have V:=jD (SiteV.below (show SiteV wz b g s f0 (.slice la s.L.length lc) p0 from⟨hblk,hf,hl,hpp⟩) hbW)
 have hll:=h.ok.L.len
 have x0:=cell_of_block (j:=0) HX.out rfl
 have x1:=cell_of_block (j:=1) HX.out rfl
 have x2:=cell_of_block (j:=2) HX.out rfl
 have x3:=cell_of_block (j:=3) HX.out rfl
 have x4:=cell_of_block (j:=4) HX.out rfl
 have xl:=hlt_of HX.out
 rw[hW,hBX] at x0 x1 x2 x3 x4 xl
 clear h hv hgn hA hAok hAS hbt hbW hblk hf hl hpp
 go_enter Tryz.func23,Tryz.ntmps23
 go_wp2_with fail
 rw[←hW,←hBX]
 clear hW hBX x0 x1 x2 x3 x4 xl
 (with_reducible refine(HSB.out).mono ?_)
 rintro e w1 ⟨rfl,hb1⟩
 rw[HCK.out]
 replace HX:=jD (below_keep hb1 HX.out)
 replace V:=jD (V.out.below hb1)
 replace HB:=jD (bstep HB.out hb1)
 have x0:=cell_of_block (j:=0) HX.out rfl
 have xl:=hlt_of HX.out
 have c0:w1.cell? ⟨g,0,none⟩=some (.int .i64 s.me):=cell_of_block (j:=0) V.out.blk rfl
 have gl:=hlt_of V.out.blk
 clear hb1 HSB HCK
 by_cases hs:bt.site=s.me
 rotate_left
 ·have hE:=jD (H1.out hs)
  have hd:(bt.site != s.me)=true:=bne_iff_ne.2 hs
  have hd2:decide (bt.site=s.me)=false:=by simpa using hs
  clear H1 H6 HP HQ
  go_wp2
  go_region
  go_wp2
  go_ret
  exact take_no HS.out hE.out (by decide) HB.out.drew
 have HSS:=jD hs
 have hd:(bt.site != s.me)=false:=by simpa using hs
 have hd2:decide (bt.site=s.me)=true:=by simpa using hs
 clear hs
 go_wp2
 go_region
 obtain⟨w2,hw2⟩: ∃w2,w2=w1.drew:=⟨_,rfl⟩
 have hb2:Below w1.heap.size w1 w2:=by rw[hw2];exact (Below.refl _ _).drew
 rw[←hw2]
 replace HX:=jD (below_keep hb2 HX.out)
 replace V:=jD (V.out.below hb2)
 replace HB:=jD (bstep HB.out hb2)
 clear hw2 hb2 x0 xl c0 gl hd hd2 H1
 have x1:=cell_of_block (j:=1) HX.out rfl
 have xl:=hlt_of HX.out
 have c2:w2.cell? ⟨g,2,none⟩=some (.int .i64 s.stamp):=cell_of_block (j:=2) V.out.blk rfl
 have gl:=hlt_of V.out.blk
 by_cases ht:bt.stamp=s.stamp
 rotate_left
 ·have hE:=jD (H6.out HSS.out ht)
  have hd:(bt.stamp != s.stamp)=true:=bne_iff_ne.2 ht
  have hd2:decide (bt.stamp=s.stamp)=false:=by simpa using ht
  clear H6 HP HQ
  go_wp2
  go_region
  go_wp2
  go_ret
  exact take_no HS.out hE.out (by decide) HB.out.drew
 have HTT:=jD ht
 have hd:(bt.stamp != s.stamp)=false:=by simpa using ht
 have hd2:decide (bt.stamp=s.stamp)=true:=by simpa using ht
 clear ht
 go_wp2
 go_region
 obtain⟨w3,hw3⟩: ∃w3,w3=w2.drew:=⟨_,rfl⟩
 have hb3:Below w2.heap.size w2 w3:=by rw[hw3];exact (Below.refl _ _).drew
 rw[←hw3]
 replace HX:=jD (below_keep hb3 HX.out)
 replace V:=jD (V.out.below hb3)
 replace HB:=jD (bstep HB.out hb3)
 clear hw3 hb3 x1 xl c2 gl hd hd2 H6
 have x2:=cell_of_block (j:=2) HX.out rfl
 have xl:=hlt_of HX.out
 have c4:w3.cell? ⟨g,4,none⟩=some (.slice la s.L.length lc):=cell_of_block (j:=4) V.out.blk rfl
 have gl:=hlt_of V.out.blk
 have HP2:=jD (fun h=>HP.out HSS.out HTT.out h)
 have HQ2:=jD (fun h=>HQ.out HSS.out HTT.out h)
 have HVL:=jD V.out.l
 clear HP HQ
 go_wp2
 clear x2 xl c4 gl
 go_loopw [41,6] (fun i lv wr=> ∃k:Nat,k≤bt.V.length∧i= .int .i64 k∧putsE s.L (bt.V.take k)=0∧VOwn wr b lv (laidOn s.L (bt.V.take k))∧Below w3.heap.size w3 wr) (fun i _ _=>bt.V.length - (intOf i).toNat)
 case atStart=>exact ⟨0,Nat.zero_le _,rfl,rfl,HVL.out,Below.refl _ _⟩
 case round=>
  obtain⟨k,hk,rfl,hpe,hvo,hbl⟩:=hrel
  obtain⟨oa,on,oc,hov⟩:=sl3 hvo.shape
  subst hov
  have HSH:=jD (laidOn_ok HS.out.ok.L hpe)
  by_cases hlt:k < bt.V.length
  ·have hltb:decide ((k:Int) < (bt.V.length:Int))=true:=by simp;omega
   have HVr:=jD (HV.out.below (bstep HB.out hbl))
   have HBr:=jD hbl
   have HLO:=jD (hvo.at_ (shok_bd HSH.out.ok) (by have:=HSH.out.len;omega))
   have HBAD:=jD (putsE_bad hlt hpe)
   have HNX:=jD (putsE_next hlt hpe)
   have HLN:=jD (laidOn_next (L:=s.L) hlt)
   obtain⟨a',cap',ha', -, -, -,hvl2⟩:=HVr.out.open_
   simp only[Value.slice.injEq,true_and] at ha'
   obtain⟨ha',rfl⟩:=ha'
   rcases hvl2 with hnil | ⟨b7,off,rfl,hb,hc⟩
   ·rw[hnil] at hlt;simp at hlt
   subst ha'
   obtain⟨c,⟨u,x,rfl,hk2⟩,hcc⟩:=hc k hlt
   obtain⟨ua,uc,rfl⟩:=hk2.vec.shape
   obtain⟨xa,xc,rfl⟩:=hk2.more.shape
   have hcl:=fun (i:Nat) (y:Value) (hy:(verC bt.V[k] (.slice ua bt.V[k].past.vec.length uc) (.slice xa bt.V[k].past.more.length xc)).toList[i]? =some y)=>row8 (b:=b7) (off:=off) (i:=k) hcc hy
   have c0:=hcl 0 _ rfl
   have c1:=hcl 1 _ rfl
   have c2:=hcl 2 _ rfl
   have c3:=hcl 3 _ rfl
   have c4:=hcl 4 _ rfl
   have c5:=hcl 5 _ rfl
   have c6:=hcl 6 _ rfl
   have c7:=hcl 7 _ rfl
   rw[Nat.add_zero] at c0
   clear hc hcc hcl hbl hvo hpe HVL
   generalize bt.V[k]=v1 at*
   generalize laidOn s.L (bt.V.take k)=LK at*
   obtain⟨W1,hW1⟩: ∃W1,W1=wr.alloc (.cells #[.string v1.id, .int .i64 v1.ds, .int .i64 v1.dc, .int .i64 v1.tg, .int .i64 v1.nm, .int .i64 v1.bd, .slice ua v1.past.vec.length uc, .slice xa v1.past.more.length xc] 75):=⟨_,rfl⟩
   have hb1:Below wr.heap.size wr W1:=by rw[hW1];exact bal _
   have HC:=jD (put_c _ LK v1 _ _ W1 (HLO.out.below hb1) (hk2.below hb1))
   unfold verC at HC
   replace HBr:=jD (bstep HBr.out hb1)
   clear hk2 hb1 HLO HVr
   go_wp2_with fail
   rw[←hW1]
   clear hW1
   (with_reducible refine(HC.out).mono ?_)
   rintro e w5 ⟨ov,rfl,ho,hb5⟩
   obtain⟨qa,qc,hq⟩:=ho.shape
   subst hq
   have HO:=jD ho
   have HB5:=jD (bstep HBr.out hb5)
   have hbs:b≤W1.heap.size:=by have h1:=HS.out.ge;have h2:=HS.out.lt;have h3:=HB.out.size;have h4:=HBr.out.size;omega
   clear ho hb5 HC HBr c0 c1 c2 c3 c4 c5 c6 c7 hb
   by_cases hz:putE LK v1=0
   ·have HO2:=jD (VOwn.mono HO.out hbs)
    have HR:=jD (putR_ok hz)
    have HZ:=jD hz
    rw[HR.out] at HO2
    rw[hz]
    clear HO hz
    go_wp2
    go_roundw
    case rel=>exact ⟨k+1,by omega,by go_num,HNX.out HZ.out,by rw[HLN.out,←HR.out];rw [HR.out];exact HO2.out,HB5.out⟩
    case measure=>simp [intOf] <;> omega
   ·have hE:=jD ((HP2.out (by rw[HBAD.out hz];exact hz)).trans (HBAD.out hz))
    have HZ:=jD hz
    have hd:decide (putE LK v1=0)=false:=by simpa using hz
    have hd2:(putE LK v1 != 0)=true:=bne_iff_ne.2 hz
    have HFB:=jD (bstep HB.out HB5.out)
    clear HO hz HBAD HNX HP2 HQ2
    generalize putE LK v1=q at*
    go_wp2
    go_ret
    exact take_no HS.out hE.out HZ.out HFB.out
  ·obtain rfl:k=bt.V.length:=by omega
   rw[List.take_length] at hpe hvo HSH
   have hkb:decide ((bt.V.length:Int) < (bt.V.length:Int))=false:=by simp
   have HQ3:=jD (HQ2.out hpe)
   obtain⟨w4,hw4⟩: ∃w4,w4=wr:=⟨_,rfl⟩
   rw[←hw4] at hvo hbl ⊢
   replace HX:=jD (below_keep hbl HX.out)
   replace V:=jD (V.out.below hbl)
   replace HB:=jD (bstep HB.out hbl)
   have HVO:=jD hvo
   have x3:=cell_of_block (j:=3) HX.out rfl
   have xl:=hlt_of HX.out
   clear hw4 hbl hvo hpe HP2 HQ2 HVL HV
   go_wp2
   clear x3 xl
   go_loopw [58,6] (fun i lv wr=> ∃k:Nat,k≤bt.G.length∧i= .int .i64 k∧VOwn wr b lv (dropsL (laidOn s.L bt.V) (bt.G.take k))∧Below w4.heap.size w4 wr) (fun i _ _=>bt.G.length - (intOf i).toNat)
   case atStart=>exact ⟨0,Nat.zero_le _,rfl,HVO.out,Below.refl _ _⟩
   case round=>
    obtain⟨k,hk,rfl,hvo,hbl⟩:=hrel
    obtain⟨oa,on,oc,hov⟩:=sl3 hvo.shape
    subst hov
    have HSD:=jD (dropsL_ok HSH.out (bt.G.take k))
    by_cases hlt:k < bt.G.length
    ·have hltb:decide ((k:Int) < (bt.G.length:Int))=true:=by simp;omega
     have HGr:=jD (HG.out.below (bstep HB.out hbl))
     have HBr:=jD hbl
     have HLO:=jD (hvo.at_ (shok_bd HSD.out.ok) (by have:=HSD.out.len;omega))
     have HDZ:=jD (drop_ok HSD.out (HBT.out.G _ (List.getElem_mem hlt)))
     have HDN:=jD (dropsL_next (L:=laidOn s.L bt.V) hlt)
     obtain⟨a',cap',ha', -, -, -,hvl2⟩:=HGr.out.open_
     simp only[Value.slice.injEq,true_and] at ha'
     obtain⟨ha',rfl⟩:=ha'
     rcases hvl2 with hnil | ⟨b7,off,rfl,hb,hc⟩
     ·rw[hnil] at hlt;simp at hlt
     subst ha'
     obtain⟨c,hE7,hcc⟩:=hc k hlt
     obtain⟨u,x,d0,d1,d2,hk2⟩:=gone_cells hb (Below.refl _ _) hE7 hcc
     obtain⟨ua,uc,rfl⟩:=hk2.vec.shape
     obtain⟨xa,xc,rfl⟩:=hk2.more.shape
     clear hc hcc hE7 hbl hvo HVO
     generalize bt.G[k]=g1 at*
     generalize dropsL (laidOn s.L bt.V) (bt.G.take k)=LK at*
     obtain⟨W1,hW1⟩: ∃W1,W1=wr.alloc (.cells #[.string g1.id, .slice ua g1.past.vec.length uc, .slice xa g1.past.more.length xc] 101):=⟨_,rfl⟩
     have hb1:Below wr.heap.size wr W1:=by rw[hW1];exact bal _
     have HC:=jD (drop_c _ LK g1.id g1.past _ _ W1 (HLO.out.below hb1) (hk2.below hb1))
     replace HBr:=jD (bstep HBr.out hb1)
     clear hk2 hb1 HLO HGr
     go_wp2_with fail
     rw[←hW1]
     clear hW1
     (with_reducible refine(HC.out).mono ?_)
     rintro e w5 ⟨ov,rfl,ho,hb5⟩
     obtain⟨qa,qc,hq⟩:=ho.shape
     subst hq
     have hbs:b≤W1.heap.size:=by have h1:=HS.out.ge;have h2:=HS.out.lt;have h3:=HB.out.size;have h4:=HBr.out.size;omega
     have HO:=jD (show VOwn w5 b (.slice qa (dropR LK g1.id g1.past).length qc) (dropL LK g1.id g1.past) by
      have h1:=VOwn.mono ho hbs
      rw[dropR_ok HDZ.out] at h1 ⊢
      exact h1)
     have HB5:=jD (bstep HBr.out hb5)
     have hz:=HDZ.out
     rw[hz]
     clear ho hb5 HC HBr d0 d1 d2 hb hz
     go_wp2
     go_roundw
     case rel=>exact ⟨k+1,by omega,by go_num,by rw[HDN.out];exact HO.out,HB5.out⟩
     case measure=>simp [intOf] <;> omega
    ·obtain rfl:k=bt.G.length:=by omega
     rw[List.take_length] at hvo HSD
     have hkb:decide ((bt.G.length:Int) < (bt.G.length:Int))=false:=by simp
     obtain⟨w5,hw5⟩: ∃w5,w5=wr:=⟨_,rfl⟩
     rw[←hw5] at hvo hbl ⊢
     replace HX:=jD (below_keep hbl HX.out)
     replace V:=jD (V.out.below hbl)
     replace HB:=jD (bstep HB.out hbl)
     replace HVO:=jD hvo
     obtain⟨lst,hp1,hp2,hp3⟩:=V.out.p
     have hlen:lst.length≤29:=by have:=HS.out.ok.len;rw [←hp3,List.length_map] at this;exact this
     obtain⟨pa9,pc9,hpv⟩:=hp1.shape
     subst hpv
     have HC5:=jD (cell_of_block (j:=5) V.out.blk rfl:w5.cell? ⟨g,5,none⟩=some (.slice pa9 lst.length pc9))
     have HX4:=jD (cell_of_block (j:=4) HX.out rfl:w5.cell? ⟨BX,4,none⟩=some (.slice pa A.length pc))
     have HRW:=jD (hp1.at_ (fun q hq=>(hp2 q hq).1) (by omega))
     have HRA:=jD (HA.out.below HB.out)
     have HPJ:=jD (show pjE lst A=if 30 < (fewS (s.S++bt.S)).length then 2 else 0 by
      rw[pjE_few (ptsChk_zero.2 ⟨by omega,fun q hq=>(hp2 q hq).1⟩) (ptsChk_zero.2 ⟨hAl,HAO.out⟩),hp3,HAS.out])
     have HSM:=jD (show(lst++A).map sem=s.S++bt.S by rw[List.map_append,hp3,HAS.out])
     have HBS:=jD (show b≤w5.heap.size by have h1:=HS.out.ge;have h2:=HS.out.lt;have h3:=HB.out.size;omega)
     clear hw5 hbl hvo hp1 hp2 hp3 HG
     go_wp2_with fail
     refine Cl.region0 96 rfl [] (fun _=>True) (fun _=>[]) (fun jq v ww=>match jq with | 0=>v= .pointer (some ⟨g,0,none⟩) | 1=>v= .pointer (some ⟨g,0,none⟩) | 2=>v= .pointer (some ⟨g,5,none⟩) | 3=>v= .slice pa9 lst.length pc9 | 4=>v= .pointer (some ⟨BX,4,none⟩) | 5=>v= .slice pa A.length pc | 6=>JoTup ww w5.heap.size (pjE lst A) (fewS (s.S++bt.S)) v | 7=>JoTup ww w5.heap.size (pjE lst A) (fewS (s.S++bt.S)) v | 8=>JoSl ww w5.heap.size (pjE lst A) (fewS (s.S++bt.S)) v | 9=>v= .int .i64 (pjE lst A) | 10=>JoSl ww w5.heap.size (pjE lst A) (fewS (s.S++bt.S)) v | 11=>v= .int .i64 (pjE lst A) | _=>True) (fun ww=>Below w5.heap.size w5 ww) (fun jq ww ww'=>Below ww.heap.size ww ww') Tryz.mixed (by decide+kernel) (Below.refl _ _).drew trivial ?_ (fun _ _ _ _ _ _=>trivial) ?_ ?_
     ·intro q r v w w' hne hk hlt h hR
      match r,hk,hlt,h,hne with
      | 0,_,_,h,_=>exact h
      | 1,_,_,h,_=>exact h
      | 2,_,_,h,_=>exact h
      | 3,_,_,h,_=>exact h
      | 4,_,_,h,_=>exact h
      | 5,_,_,h,_=>exact h
      | 6,_,_,h,_=>exact h.below hR
      | 7,_,_,h,_=>exact h.below hR
      | 8,_,_,h,_=>exact h.below hR
      | 9,_,_,h,_=>exact h
      | 10,_,_,h,_=>exact h.below hR
      | 11,_,_,h,_=>exact h
      | _+12,_,_,_,_=>trivial
     ·refine⟨?_, ?_, ?_, ?_, ?_, ?_, ?_, ?_, ?_, ?_, ?_, ?_,trivial⟩
      ·intro x wx hG
       have f0:=hG.o 0
       replace hG:=hG.good
       go_wp2
       exact⟨_,rfl,rfl,hG,Below.refl _ _⟩
      ·intro x wx hG
       have g0:(x.tmps.getD 73 undef)= .pointer (some ⟨g,0,none⟩):=hG.c 0 _ rfl
       replace hG:=hG.good
       go_wp2
       exact⟨_,rfl,rfl,hG,Below.refl _ _⟩
      ·intro x wx hG
       have g1:(x.tmps.getD 74 undef)= .pointer (some ⟨g,0,none⟩):=hG.c 1 _ rfl
       replace hG:=hG.good
       go_wp2
       exact⟨_,rfl,rfl,hG,Below.refl _ _⟩
      ·intro x wx hG
       have g2:(x.tmps.getD 75 undef)= .pointer (some ⟨g,5,none⟩):=hG.c 2 _ rfl
       replace hG:=hG.good
       have c_HC5:=ckeep hG HC5.out
       go_wp2
       exact⟨_,rfl,rfl,hG,Below.refl _ _⟩
      ·intro x wx hG
       have f3:=hG.o 3
       replace hG:=hG.good
       go_wp2
       exact⟨_,rfl,rfl,hG,Below.refl _ _⟩
      ·intro x wx hG
       have g4:(x.tmps.getD 77 undef)= .pointer (some ⟨BX,4,none⟩):=hG.c 4 _ rfl
       replace hG:=hG.good
       have c_HX4:=ckeep hG HX4.out
       go_wp2
       exact⟨_,rfl,rfl,hG,Below.refl _ _⟩
      ·intro x wx hG
       have g3:(x.tmps.getD 76 undef)= .slice pa9 lst.length pc9:=hG.c 3 _ rfl
       have g5:(x.tmps.getD 78 undef)= .slice pa A.length pc:=hG.c 5 _ rfl
       replace hG:=hG.good
       have HN:=jD (pjoin_a _ _ lst A wx (HRW.out.below hG) (HRA.out.below hG))
       go_wp2_with fail
       (with_reducible refine(HN.out).mono ?_)
       rintro e wq ⟨ov,rfl,ho,hb⟩
       rw[HSM.out] at ho
       obtain⟨qa8,qn8,qc8,hov⟩:=PResA.shape ho
       subst hov
       have HO8:=jD (PResA.mono ho hG.size)
       have HBB:=jD hb
       clear ho hb HN
       go_wp2
       exact⟨_,rfl,⟨_,_,_,rfl,HO8.out⟩,bstep hG HBB.out,HBB.out⟩
      ·intro x wx hG
       have g6:JoTup wx w5.heap.size (pjE lst A) (fewS (s.S++bt.S)) (x.tmps.getD 79 undef):=hG.c 6 _ rfl
       replace hG:=hG.good
       obtain⟨oa8,on8,oc8,hv,ho⟩:=g6
       have HO8:=jD ho
       have hvb:=hv
       rw[Array.getD_eq_getD_getElem?] at hvb
       clear ho
       go_wp2
       exact⟨_,rfl,⟨_,_,_,rfl,HO8.out⟩,hG,Below.refl _ _⟩
      ·intro x wx hG
       have g7:JoTup wx w5.heap.size (pjE lst A) (fewS (s.S++bt.S)) (x.tmps.getD 72 undef):=hG.c 7 _ rfl
       replace hG:=hG.good
       obtain⟨oa8,on8,oc8,hv,ho⟩:=g7
       have HO8:=jD ho
       have hvb:=hv
       rw[Array.getD_eq_getD_getElem?] at hvb
       clear ho
       go_wp2
       exact⟨_,rfl,⟨_,_,_,rfl,HO8.out⟩,hG,Below.refl _ _⟩
      ·intro x wx hG
       have g7:JoTup wx w5.heap.size (pjE lst A) (fewS (s.S++bt.S)) (x.tmps.getD 72 undef):=hG.c 7 _ rfl
       replace hG:=hG.good
       obtain⟨oa8,on8,oc8,hv,ho⟩:=g7
       have HO8:=jD ho
       have hvb:=hv
       rw[Array.getD_eq_getD_getElem?] at hvb
       clear ho
       go_wp2
       exact⟨_,rfl,rfl,hG,Below.refl _ _⟩
      ·intro x wx hG
       have g8:JoSl wx w5.heap.size (pjE lst A) (fewS (s.S++bt.S)) (x.tmps.getD 80 undef):=hG.c 8 _ rfl
       replace hG:=hG.good
       obtain⟨oa8,on8,oc8,hv,ho⟩:=g8
       have HO8:=jD ho
       have hvb:=hv
       rw[Array.getD_eq_getD_getElem?] at hvb
       clear ho
       go_wp2
       exact⟨_,rfl,⟨_,_,_,rfl,HO8.out⟩,hG,Below.refl _ _⟩
      ·intro x wx hG
       have g9:(x.tmps.getD 81 undef)= .int .i64 (pjE lst A):=hG.c 9 _ rfl
       replace hG:=hG.good
       go_wp2
       exact⟨_,rfl,rfl,hG,Below.refl _ _⟩
     ·intro vals w6 hg hF
      obtain⟨g0,g1,g2,g3,g4,g5,g6,g7,g8,g9,g10,g11, -⟩:=hF
      have e0:=gq (vals 0) g0
      have e1:=gq (vals 1) g1
      have e2:=gq (vals 2) g2
      have e3:=gq (vals 3) g3
      have e4:=gq (vals 4) g4
      have e5:=gq (vals 5) g5
      have e9:=gq (vals 9) g9
      replace g10:JoSl w6 w5.heap.size (pjE lst A) (fewS (s.S++bt.S)) (vals 10):=g10 rfl
      have e11:=gq (vals 11) g11
      simp only[Cl.puts,e0,e1,e2,e3,e4,e5,e9,e11]
      clear e0 e1 e2 e3 e4 e5 e9 e11 g0 g1 g2 g3 g4 g5 g6 g7 g8 g9 g11
      go_simp
      generalize vals 10=jv at*
      obtain⟨ja,jn,jc,hjv,hjo⟩:=g10
      subst hjv
      replace V:=jD (V.out.below hg)
      replace HB:=jD (bstep HB.out hg)
      replace HVO:=jD (VOwn.below HVO.out hg)
      have HJO:=jD hjo
      clear hg hjo HX HC5 HX4 HRW HRA HA HAO
      generalize vals 6=j6 at*
      generalize vals 7=j7 at*
      generalize vals 8=j8 at*
      obtain⟨n,hn⟩: ∃n,n=(fewS (s.S++bt.S)).length:=⟨_,rfl⟩
      rw[←hn] at HPJ HQ3
      by_cases h30:30 < n
      ·have hE:=jD (HQ3.out.trans (if_pos (by omega)))
       have hq:=HPJ.out.trans (if_pos h30)
       rw[hq]
       clear HPJ HQ3 HJO hn h30 hq
       go_wp2
       go_ret
       exact take_no HS.out hE.out (by decide) HB.out
      have hq:=HPJ.out.trans (if_neg h30)
      rw[hq] at HJO
      have hjo:=HJO.out.1 rfl
      obtain⟨ja2,jc2,hj2⟩:=hjo.shape
      simp only[Value.slice.injEq] at hj2
      obtain⟨rfl,hjn,rfl⟩:=hj2
      rw[←hn] at hjn
      subst hjn
      have HJ:=jD (PtsOwnA.mono hjo HBS.out)
      rw[hq]
      clear HJO hjo HPJ hq
      have HN:=jD hn
      clear hn
      by_cases he:jn=30
      ·have hE:=jD (HQ3.out.trans (if_pos (by omega)))
       have hd:decide ((jn:Int)=30)=true:=by simp;omega
       have hd2:((jn:Int)==30)=true:=by simp;omega
       clear HQ3 HJ h30 he HN
       go_wp2
       go_ret
       exact take_no HS.out hE.out (by decide) HB.out
      have hE:=jD (HQ3.out.trans (if_neg (by omega)))
      have hd:decide ((jn:Int)=30)=false:=by simp;omega
      have hd2:((jn:Int)==30)=false:=by simp;omega
      have s4:w6.cell? ⟨g,4,none⟩=some (.slice la s.L.length lc):=cell_of_block (j:=4) V.out.blk rfl
      have s5:w6.cell? ⟨g,5,none⟩=some (.slice pa9 lst.length pc9):=cell_of_block (j:=5) V.out.blk rfl
      have t4:=free_of_block (j:=4) V.out.blk
      have t5:=free_of_block (j:=5) V.out.blk
      have gl:=hlt_of V.out.blk
      clear HQ3 h30 he
      go_wp2
      go_ret
      exact take_yes HS.out HBT.out hE.out V.out HB.out HVO.out HJ.out
theorem giveV_snoc (L:List Ver) (v:Ver) (p:Nat→Nat→Bool) (A:List SP):giveV (L++[v]) p A=if (inP p v&& !knV A v)=true then giveV L p A++[v] else giveV L p A:=by
 unfold giveV
 rw[List.filter_append]
 split
 ·rename_i h;rw [List.filter_cons_of_pos (by exact h),List.filter_nil]
 ·rename_i h;rw [List.filter_cons_of_neg (by exact h),List.filter_nil,List.append_nil]
theorem giveG_snoc (L:List Ver) (v:Ver) (p:Nat→Nat→Bool):giveG (L++[v]) p=if (!inP p v)=true then giveG L p++[⟨v.id,v.past⟩] else giveG L p:=by
 unfold giveG
 rw[List.filter_append]
 split
 ·rename_i h;rw [List.filter_cons_of_pos (by exact h),List.filter_nil,List.map_append];rfl
 ·rename_i h;rw [List.filter_cons_of_neg (by exact h),List.filter_nil,List.append_nil]
theorem inP_of {F:Bxs} {v:Ver} (h:VerOk v):inF F v.tg v.nm=inP (ptsOf F) v:=by
 obtain⟨h1,h2,h3,h4⟩:=pt_rng h.pt
 unfold inP
 rw[ptsOf_in (by omega) (by omega),Int.toNat_of_nonneg h1,Int.toNat_of_nonneg h3]
theorem knV_of {A:List Pt} {v:Ver} (h:VerOk v):ptsIn A v.tg v.nm v.ds v.dc=knV (A.map sem) v:=by
 obtain⟨h1,h2,h3,h4⟩:=pt_rng h.pt
 unfold knV
 have:=pts_knows (l:=A) (t:=v.tg.toNat) (n:=v.nm.toNat) (by omega) (by omega) v.ds v.dc
 rw[Int.toNat_of_nonneg h1,Int.toNat_of_nonneg h3] at this
 exact this
theorem VOwn.row_lt {w:World} {base:Nat} {v:Value} {l:List Ver} (h:VOwn w base v l) (q:Nat) (hq:v.ownBlock=some q):base≤q∧q < w.heap.size:=by
 obtain⟨css, -,h2⟩:=h;exact h2.lt q hq
def VRow (w:World) (b1 b2:Nat) (v:Value) (l:List Ver):Prop:= ∃css,VE w b2 l css∧w.ownsRow b1 75 8 v l.length css.flatten
theorem VRow.nil (w:World) (b1 b2:Nat):VRow w b1 b2 (.slice none 0 0) []:=⟨[],trivial,World.ownsRow_nil _ _ _ _⟩
theorem VRow.below {w w':World} {b1 b2:Nat} {v:Value} {l:List Ver} (h:VRow w b1 b2 v l) (hb:Below w.heap.size w w'):VRow w' b1 b2 v l:=by
 obtain⟨css,h1,h2⟩:=h
 exact⟨css,h1.map fun _ _ _ h=>h.below hb,owns_below h2 hb⟩
theorem VRow.own {w:World} {b1 b2:Nat} {v:Value} {l:List Ver} (h:VRow w b1 b2 v l) (hb:b2≤b1):VOwn w b2 v l:=by
 obtain⟨css,h1,h2⟩:=h
 exact⟨css,h1,owns_mono h2 hb⟩
theorem VRow.shape {w:World} {b1 b2:Nat} {v:Value} {l:List Ver} (h:VRow w b1 b2 v l): ∃a c,v= .slice a l.length c:=by
 obtain⟨css,h1,h2⟩:=h;exact owns_slice h2
theorem VRow.tk {T:Nat→Bool} {w w':World} {b1 b2:Nat} {v:Value} {l:List Ver} (h:VRow w b1 b2 v l) (hk:TKeep T w w') (h1:T 3=true) (h2:T 41=true) (h3:T 75=true):VRow w' b1 b2 v l:=by
 obtain⟨css,a,b⟩:=h
 exact⟨css,a.map fun _ _ _ h=>h.tk hk h1 h2,hk.owns b h3⟩
structure GiSt (wz:World) (b1 BA BB:Nat) (st sm:Int) (fv pv cv vv gv:Value) (L V:List Ver) (G:List Gn) (w:World):Prop where
 ba:w.heap[BA]? =some (Obj.cells #[.int .i64 st, .int .i64 sm,fv,pv] 56 (0,0))
 br:w.heap[BA+1]? =some (Obj.cells #[.int .i64 0, .int .i64 0, .slice none 0 0, .slice none 0 0, .slice none 0 0] 52 (0,0))
 bb:w.heap[BB]? =some (Obj.cells #[.int .i64 st, .int .i64 sm,vv,gv, .slice none 0 0] 52 (0,0))
 c:VOwn w wz.heap.size cv L
 cb: ∀q,cv.ownBlock=some q→q < b1
 v:VRow w b1 wz.heap.size vv V
 g:GOwn w wz.heap.size gv G
 bel:Below wz.heap.size wz w
 hb1:wz.heap.size≤b1∧b1≤w.heap.size
 ord:BA=wz.heap.size∧BA+1 < BB
theorem GiSt.below {wz:World} {b1 BA BB:Nat} {st sm:Int} {fv pv cv vv gv:Value} {L V:List Ver} {G:List Gn} {w w':World} (h:GiSt wz b1 BA BB st sm fv pv cv vv gv L V G w) (hb:Below w.heap.size w w'):GiSt wz b1 BA BB st sm fv pv cv vv gv L V G w':=
 ⟨below_keep hb h.ba,below_keep hb h.br,below_keep hb h.bb,h.c.below hb,h.cb,h.v.below hb,h.g.below hb,bstep h.bel hb,⟨h.hb1.1,Nat.le_trans h.hb1.2 hb.size⟩,h.ord⟩
theorem GiSt.gone {wz:World} {b1 BA BB:Nat} {st sm:Int} {fv pv cv vv gv gv':Value} {L V:List Ver} {G:List Gn} {w w':World} {g1:Gn} {u x:Value} {css:List (List Value)} (h:GiSt wz b1 BA BB st sm fv pv cv vv gv L V G w) (e1:GE w wz.heap.size G css) (e2:w.ownsRow wz.heap.size 101 3 gv G.length css.flatten)
  (hk:KnOwn w wz.heap.size u x g1.past) (ho:w'.ownsRow wz.heap.size 101 3 gv' (G.length+1) (css.flatten++[.string g1.id,u,x])) (hg:w.grownBy w' gv.ownBlock):
  w'.heap[BB]? =some (Obj.cells #[.int .i64 st, .int .i64 sm,vv,gv, .slice none 0 0] 52 (0,0))∧GiSt wz b1 BA BB st sm fv pv cv vv gv' L V (G++[g1]) (w'.setCell ⟨BB,3,none⟩ gv'):=by
 have TA:TKeep (fun t=>t != 101) w w':=TKeep.of_app e2 hg (by decide)
 have bb':=TA.blk _ _ _ h.bb (by decide)
 have TB:TKeep (fun t=>t != 52) w' (w'.setCell ⟨BB,3,none⟩ gv'):=TKeep.of_set bb' (by decide)
 have hsz:=hg.size
 have ho1:=h.ord.1
 have ho2:=h.ord.2
 refine⟨bb', ?_, ?_,by rw[heap_set_same bb'];rfl,(h.c.tk TA (by decide) (by decide) (by decide)).tk TB (by decide) (by decide) (by decide),h.cb,(h.v.tk TA (by decide) (by decide) (by decide)).tk TB (by decide) (by decide) (by decide),(GOwn.push e1 e2 hk ho hg).tk TB (by decide) (by decide) (by decide),(h.bel.grown hg h.bel.size fun q hq=>(e2.lt q hq).1).setCell (p:=⟨BB,3,none⟩) (show wz.heap.size≤BB by omega) _,⟨h.hb1.1,by have:=h.hb1.2;simp;omega⟩,h.ord⟩
 ·rw[heap_set_other (by omega)];exact TA.blk _ _ _ h.ba (by decide)
 ·rw[heap_set_other (by omega)];exact TA.blk _ _ _ h.br (by decide)
theorem GiSt.ver {wz:World} {b1 BA BB:Nat} {st sm:Int} {fv pv cv vv vv' gv:Value} {L V:List Ver} {G:List Gn} {w w':World} {v1:Ver} {a b:Option Addr} {n d m e:Nat} {css:List (List Value)} (h:GiSt wz b1 BA BB st sm fv pv cv vv gv L V G w) (e1:VE w wz.heap.size V css) (e2:w.ownsRow b1 75 8 vv V.length css.flatten)
  (hk:KnOwn w wz.heap.size (.slice a n d) (.slice b m e) v1.past) (ho:w'.ownsRow b1 75 8 vv' (V.length+1) (css.flatten++(verC v1 (.slice a n d) (.slice b m e)).toList)) (hg:w.grownBy w' vv.ownBlock):
  w'.heap[BB]? =some (Obj.cells #[.int .i64 st, .int .i64 sm,vv,gv, .slice none 0 0] 52 (0,0))∧GiSt wz b1 BA BB st sm fv pv cv vv' gv L (V++[v1]) G (w'.setCell ⟨BB,2,none⟩ vv'):=by
 have TA:TKeep (fun t=>t != 75) w w':=TKeep.of_app e2 hg (by decide)
 have bb':=TA.blk _ _ _ h.bb (by decide)
 have TB:TKeep (fun t=>t != 52) w' (w'.setCell ⟨BB,2,none⟩ vv'):=TKeep.of_set bb' (by decide)
 have hsz:=hg.size
 have ho1:=h.ord.1
 have ho2:=h.ord.2
 have hc:VOwn w' wz.heap.size cv L:=by
  obtain⟨cs,k1,k2⟩:=h.c
  refine⟨cs,k1.map fun _ _ _ hh=>hh.tk TA (by decide) (by decide),k2.kept hg ?_⟩
  cases hq:cv.ownBlock with
  | none=>exact .inl rfl
  | some q=>
   right
   intro eq
   have:=h.cb q hq
   have:=(e2.lt q eq.symm).1
   omega
 refine⟨bb', ?_, ?_,by rw[heap_set_same bb'];rfl,hc.tk TB (by decide) (by decide) (by decide),h.cb, ?_,(h.g.tk TA (by decide) (by decide) (by decide)).tk TB (by decide) (by decide) (by decide),(h.bel.grown hg h.bel.size fun q hq=>Nat.le_trans h.hb1.1 (e2.lt q hq).1).setCell (p:=⟨BB,2,none⟩) (show wz.heap.size≤BB by omega) _,⟨h.hb1.1,by have:=h.hb1.2;simp;omega⟩,h.ord⟩
 ·rw[heap_set_other (by omega)];exact TA.blk _ _ _ h.ba (by decide)
 ·rw[heap_set_other (by omega)];exact TA.blk _ _ _ h.br (by decide)
 ·refine VRow.tk (T:=fun t=>t != 52) ⟨css++[(verC v1 (.slice a n d) (.slice b m e)).toList],VE.snoc (e1.map fun _ _ _ hh=>hh.tk TA (by decide) (by decide)) ⟨⟨a,n,d,b,m,e,rfl,hk.tk TA (by decide) (by decide)⟩,trivial⟩, ?_⟩ TB (by decide) (by decide) (by decide)
  rw[List.flatten_append,List.length_append]
  simpa using ho
def GiFin (wz:World) (BA BB:Nat) (st sm:Int) (vv gv:Value) (V:List Ver) (G:List Gn) (S:List SP) (w:World):Prop:=
 ∃a n c,w.heap[BB]? =some (Obj.cells #[.int .i64 st, .int .i64 sm,vv,gv, .slice a n c] 52 (0,0))∧w.heap[BA+1]? =some (Obj.cells #[.int .i64 0, .int .i64 0, .slice none 0 0, .slice none 0 0, .slice none 0 0] 52 (0,0))∧
  VOwn w wz.heap.size vv V∧GOwn w wz.heap.size gv G∧PtsOwnA w wz.heap.size (.slice a n c) S
theorem GiFin.below {wz:World} {BA BB:Nat} {st sm:Int} {vv gv:Value} {V:List Ver} {G:List Gn} {S:List SP} {w w':World} (h:GiFin wz BA BB st sm vv gv V G S w) (hb:Below w.heap.size w w'):GiFin wz BA BB st sm vv gv V G S w':=by
 obtain⟨a,n,c,h1,h2,h3,h4,h5⟩:=h
 exact⟨a,n,c,below_keep hb h1,below_keep hb h2,h3.below hb,h4.below hb,h5.below hb⟩
theorem GiFin.of {wz:World} {b1 BA BB:Nat} {st sm:Int} {fv pv cv vv gv:Value} {L V:List Ver} {G:List Gn} {S:List SP} {w:World} {a:Option Addr} {n c:Nat} (h:GiSt wz b1 BA BB st sm fv pv cv vv gv L V G w) (hp:PtsOwnA w wz.heap.size (.slice a n c) S):GiFin wz BA BB st sm vv gv V G S (w.setCell ⟨BB,4,none⟩ (.slice a n c)):=by
 have hs:Stp (fun q=>q=BB) w (w.setCell ⟨BB,4,none⟩ (.slice a n c)):=Stp.set h.bb (by decide)
 have ho:=h.ord.2
 exact⟨a,n,c,by rw[heap_set_same h.bb];rfl,hs.block h.br (by omega),(h.v.own h.hb1.1).stp hs,h.g.stp hs,hp.stp hs⟩
theorem PtsOwnA.tk {T:Nat→Bool} {w w':World} {base:Nat} {v:Value} {S:List SP} (h:PtsOwnA w base v S) (hk:TKeep T w w') (h1:T 3=true) (h2:T 41=true) (h3:T 124=true) (h4:T 119=true) (h5:T 105=true):PtsOwnA w' base v S:=by
 obtain⟨l,a,b⟩:=h;exact ⟨l,a.tk hk h1 h2 h3 h4 h5,b⟩
def GivePost (wz:World) (s:SiteS) (st sm:Int) (p:Nat→Nat→Bool) (A:List SP) (e:Ending) (w':World):Prop:=
 ∃vv gv pv,e= .returned (.tuple #[.agg #[.int .i64 st, .int .i64 sm,vv,gv,pv], .int .i64 0])∧BtOwn w' wz.heap.size vv gv pv (giveB s st sm p A)∧Below wz.heap.size wz w'
theorem sgive_c (g b:Nat) (s:SiteS) (st sm:Int) (fv pv:Value) (F:Bxs) (A:List Pt) (wz:World) (h:SiteAt wz b g s) (hst:0≤st∧st < 5) (hsm:0≤sm) (hF:BxsAt wz fv F) (hc:fChk F=0) (hA:RowAt partE wz pv A) (hAc:ptsChk A=0):
  Calls Tryz.prog 21 #[.pointer (some ⟨g,0,none⟩), .agg #[.int .i64 st, .int .i64 sm,fv,pv]] wz (GivePost wz s st sm (ptsOf F) (A.map sem)):=by
 obtain⟨fa,fc,rfl⟩:=hF.shape
 obtain⟨pa,pc,rfl⟩:=hA.shape
 obtain⟨BA,hBA⟩: ∃BA,BA=wz.heap.size:=⟨_,rfl⟩
 obtain⟨W,hW⟩: ∃W,W=(wz.alloc (.cells #[.int .i64 st, .int .i64 sm, .slice fa F.length fc, .slice pa A.length pc] 56)).alloc (.cells #[.int .i64 0, .int .i64 0, .slice none 0 0, .slice none 0 0, .slice none 0 0] 52):=⟨_,rfl⟩
 have hbW:Below wz.heap.size wz W:=by rw[hW];exact (bal _).alloc (by simp) _
 have HA0:=jD (show W.heap[BA]? =some (Obj.cells #[.int .i64 st, .int .i64 sm, .slice fa F.length fc, .slice pa A.length pc] 56 (0,0)) by rw[hW];exact alloc_keep _ (alloc_new _ _ _ _ hBA))
 have HR0:=jD (show W.heap[BA+1]? =some (Obj.cells #[.int .i64 0, .int .i64 0, .slice none 0 0, .slice none 0 0, .slice none 0 0] 52 (0,0)) by rw[hW];exact alloc_new _ _ _ _ (by rw[World.size_alloc,hBA]))
 have HS:=jD h
 have HF:=jD hF
 have HP:=jD hA
 have HCF:=jD hc
 have HCP:=jD hAc
 have HPO:=jD (ptsChk_zero.1 hAc)
 have HB:=jD hbW
 have HBA:=jD hBA
 have d1:decide (st < 0)=false:=by simp;omega
 have d2:decide (5≤st)=false:=by simp;omega
 have d3:decide (sm < 0)=false:=by simp;omega
 have HST:=jD hst
 clear h hF hA hbW hc hAc
 have k0:=cell_of_block (j:=0) HA0.out rfl
 have k1:=cell_of_block (j:=1) HA0.out rfl
 have k2:=cell_of_block (j:=2) HA0.out rfl
 have hkl:=hlt_of HA0.out
 rw[hW,hBA] at k0 k1 k2 hkl
 go_enter Tryz.func21,Tryz.ntmps21
 go_wp2_with fail
 rw[←hW,←hBA]
 clear hW hBA k0 k1 k2 hkl d1 d2 d3
 (with_reducible refine(fChk_c _ F W (HF.out.below HB.out)).mono ?_)
 rintro e w1 ⟨rfl,hb1⟩
 rw[HCF.out]
 replace HA0:=jD (below_keep hb1 HA0.out)
 replace HR0:=jD (below_keep hb1 HR0.out)
 replace HB:=jD (bstep HB.out hb1)
 have k3:=cell_of_block (j:=3) HA0.out rfl
 clear hb1
 go_wp2_with fail
 (with_reducible refine(ptsChk_c _ A w1 (HP.out.below HB.out)).mono ?_)
 rintro e w2 ⟨rfl,hb2⟩
 rw[HCP.out]
 replace HA0:=jD (below_keep hb2 HA0.out)
 replace HR0:=jD (below_keep hb2 HR0.out)
 replace HB:=jD (bstep HB.out hb2)
 have k0:=cell_of_block (j:=0) HA0.out rfl
 have k1:=cell_of_block (j:=1) HA0.out rfl
 have hkl:=hlt_of HA0.out
 obtain⟨BB,hBB⟩: ∃BB,BB=w2.heap.size:=⟨_,rfl⟩
 obtain⟨W3,hW3⟩: ∃W3,W3=w2.alloc (.cells #[.int .i64 st, .int .i64 sm, .slice none 0 0, .slice none 0 0, .slice none 0 0] 52):=⟨_,rfl⟩
 have hb3:Below w2.heap.size w2 W3:=by rw[hW3];exact bal _
 have HB3:=jD (show W3.heap[BB]? =some (Obj.cells #[.int .i64 st, .int .i64 sm, .slice none 0 0, .slice none 0 0, .slice none 0 0] 52 (0,0)) by rw[hW3];exact alloc_new _ _ _ _ hBB)
 have HBO:=jD (show BA+1 < BB by have:=hlt_of HR0.out;omega)
 obtain⟨f0,l0,p0,hblk,hf,hl,hpp⟩:=(HS.out.below (bstep HB.out hb3)).cells
 obtain⟨la,lc,hlv⟩:=hl.shape
 subst hlv
 have HLB:=jD (shok_bd HS.out.ok.L.ok)
 have hll:=HS.out.ok.L.len
 have hgs:=HS.out.lt
 have hgs2:g < w2.heap.size:=Nat.lt_of_lt_of_le hgs HB.out.size
 have hc4:w2.cell? ⟨g,4,none⟩=some (.slice la s.L.length lc):=by
  have h1:W3.cell? ⟨g,4,none⟩=some (.slice la s.L.length lc):=cell_of_block (j:=4) hblk rfl
  rw[←h1];exact (hb3.cell (p:=⟨g,4,none⟩) hgs2).symm
 have HCO:=jD (vcopied_c _ s.L W3 (hl.at_ HLB.out (by omega)) HLB.out (by omega))
 replace HA0:=jD (below_keep hb3 HA0.out)
 replace HR0:=jD (below_keep hb3 HR0.out)
 replace HB:=jD (bstep HB.out hb3)
 clear hb2 hb3 k3 hblk hf hl hpp hgs
 go_wp2_with fail
 rw[←hW3,←hBB]
 clear hW3 hBB k0 k1 hkl hc4 hgs2
 (with_reducible refine(HCO.out).mono ?_)
 rintro e w4 ⟨cv,rfl,hcv,hb4⟩
 obtain⟨ca,cc,hcvs⟩:=hcv.shape
 subst hcvs
 have M:=jD (show GiSt wz w4.heap.size BA BB st sm (.slice fa F.length fc) (.slice pa A.length pc) (.slice ca s.L.length cc) (.slice none 0 0) (.slice none 0 0) s.L [] [] w4 from
  ⟨below_keep hb4 HA0.out,below_keep hb4 HR0.out,below_keep hb4 HB3.out,VOwn.mono hcv HB.out.size,fun q hq=>(hcv.row_lt q hq).2,VRow.nil _ _ _,GOwn.nil _ _,bstep HB.out hb4,⟨Nat.le_trans HB.out.size hb4.size,Nat.le_refl _⟩,HBA.out,HBO.out⟩)
 obtain⟨b1,hb1⟩: ∃b1,b1=w4.heap.size:=⟨_,rfl⟩
 rw[←hb1] at M
 have HVK:=jD HS.out.ok.L.ok
 clear hcv hb4 hb1 HCO HA0 HR0 HB HB3 HBO
 go_wp2
 go_loopw [50] (fun i wr=> ∃k:Nat,k≤s.L.length∧i= .int .i64 k∧ ∃vv gv,GiSt wz b1 BA BB st sm (.slice fa F.length fc) (.slice pa A.length pc) (.slice ca s.L.length cc) vv gv s.L (giveV (s.L.take k) (ptsOf F) (A.map sem)) (giveG (s.L.take k) (ptsOf F)) wr) (fun i _=>s.L.length - (intOf i).toNat)
 case atStart=>exact ⟨0,Nat.zero_le _,rfl,_,_,M.out⟩
 case round=>
  clear M
  obtain⟨k,hk,rfl,vv,gv,hst⟩:=hrel
  obtain⟨va,vc,hvv⟩:=hst.v.shape
  subst hvv
  obtain⟨ga,gc,hgv⟩:=GOwn.shape hst.g
  subst hgv
  have M:=jD hst
  by_cases hlt:k < s.L.length
  rotate_left
  ·obtain rfl:k=s.L.length:=by omega
   rw[List.take_length] at M
   have hkb:decide ((s.L.length:Int) < (s.L.length:Int))=false:=by simp
   have HL1:=jD (show(giveV s.L (ptsOf F) (A.map sem)).length=(giveV s.L (ptsOf F) (A.map sem)).length from rfl)
   have HC2:=jD (cell_of_block (j:=2) M.out.ba rfl:wr.cell? ⟨BA,2,none⟩=some (.slice fa F.length fc))
   have HKS:=jD (show ∀x∈knownS s,SPOk x from HS.out.ok.known)
   clear hst HVK
   generalize hLV:giveV s.L (ptsOf F) (A.map sem)=LV at*
   generalize hLG:giveG s.L (ptsOf F)=LG at*
   have HLV:=jD hLV
   have HLG:=jD hLG
   clear hLV hLG HL1
   go_wp2_with fail
   refine Cl.region0 97 rfl [9] (fun w=>Below wr.heap.size wr w) (fun _=>[]) (fun jq v ww=>match jq with | 0=>v= .pointer (some ⟨g,0,none⟩) | 1=>NarSl ww wz.heap.size (knownS s) v | 2=>v= .pointer (some ⟨BA,2,none⟩) | 3=>v= .slice fa F.length fc | 4=>NarTup ww wz.heap.size (narrowS (knownS s) (ptsOf F)) v | 5=>NarTup ww wz.heap.size (narrowS (knownS s) (ptsOf F)) v | 6=>NarSl ww wz.heap.size (narrowS (knownS s) (ptsOf F)) v | 7=>v= .int .i64 0 | 8=>v= .pointer (some ⟨BB,4,none⟩) | 9=>GiFin wz BA BB st sm (.slice va LV.length vc) (.slice ga LG.length gc) LV LG (narrowS (knownS s) (ptsOf F)) ww | _=>True) (fun ww=>Below wz.heap.size wz ww) (fun jq ww ww'=>Stp (fun qq=>qq=BB) ww ww'∧(jq≠9→Below ww.heap.size ww ww')) Tryz.mixed (by decide+kernel) M.out.bel.drew ((Below.refl _ _).drew) ?_ (fun q w w' hk h hR=>bstep h (hR.2 (by intro e;subst e;exact absurd hk (by decide)))) ?_ ?_
   ·intro q r v w w' hne hk hlt h hR
    match r,hk,hlt,h,hne with
    | 0,_,_,h,_=>exact h
    | 1,_,_,h,_=>exact h.stp hR.1
    | 2,_,_,h,_=>exact h
    | 3,_,_,h,_=>exact h
    | 4,_,_,h,_=>exact h.stp hR.1
    | 5,_,_,h,_=>exact h.stp hR.1
    | 6,_,_,h,_=>exact h.stp hR.1
    | 7,_,_,h,_=>exact h
    | 8,_,_,h,_=>exact h
    | 9,_,hlt,h,hne=>exact h.below (hR.2 (by exact hne))
    | _+10,_,_,_,_=>trivial
   ·refine⟨?_, ?_, ?_, ?_, ?_, ?_, ?_, ?_, ?_, ?_,trivial⟩
    ·intro x wx hG
     have f0:=hG.o 0
     replace hG:=hG.good
     go_wp2
     exact⟨_,rfl,rfl,hG,⟨Stp.refl _ _,fun _=>Below.refl _ _⟩⟩
    ·intro x wx hG
     have g0:(x.tmps.getD 88 undef)= .pointer (some ⟨g,0,none⟩):=hG.c 0 _ rfl
     replace hG:=hG.good
     have HN:=jD (known_c g b s wx (HS.out.below hG))
     go_wp2_with fail
     (with_reducible refine(HN.out).mono ?_)
     rintro e wq ⟨ov,rfl,ho,hb⟩
     obtain⟨oa,oc,hov⟩:=ho.shape
     subst hov
     have HO:=jD (PtsOwnA.mono ho hG.size)
     have HBB:=jD hb
     clear ho hb HN
     go_wp2
     exact⟨_,rfl,⟨_,_,_,rfl,HO.out⟩,bstep hG HBB.out,Stp.of_below HBB.out,fun _=>HBB.out⟩
    ·intro x wx hG
     have f3:=hG.o 3
     replace hG:=hG.good
     go_wp2
     exact⟨_,rfl,rfl,hG,⟨Stp.refl _ _,fun _=>Below.refl _ _⟩⟩
    ·intro x wx hG
     have g2:(x.tmps.getD 90 undef)= .pointer (some ⟨BA,2,none⟩):=hG.c 2 _ rfl
     have hp:=hG.p
     replace hG:=hG.good
     have c_HC2:=ckeep hp HC2.out
     go_wp2
     exact⟨_,rfl,rfl,hG,⟨Stp.refl _ _,fun _=>Below.refl _ _⟩⟩
    ·intro x wx hG
     have g1:NarSl wx wz.heap.size (knownS s) (x.tmps.getD 89 undef):=hG.c 1 _ rfl
     have g3:(x.tmps.getD 91 undef)= .slice fa F.length fc:=hG.c 3 _ rfl
     replace hG:=hG.good
     obtain⟨oa,on,oc,hv,⟨lst,q1,q2,q3⟩⟩:=g1
     have hvb:=hv
     rw[Array.getD_eq_getD_getElem?] at hvb
     have hl30:lst.length≤30:=by have:=HS.out.ok.klen;rw [←q3,List.length_map] at this;exact this
     have HNE:=jD (show pnE lst F=0 by unfold pnE;rw [if_neg (by rw[ptsChk_zero.2 ⟨hl30,fun z hz=>(q2 z hz).1⟩];decide),HCF.out])
     have HN:=jD (pnarrow_a _ _ lst F wx (q1.at_ (fun z hz=>(q2 z hz).1) (by omega)) (HF.out.below hG))
     have HQ3:=jD q3
     clear q1 q2 q3
     go_wp2_with fail
     (with_reducible refine(HN.out).mono ?_)
     rintro e wq ⟨ov,rfl,ho,hb⟩
     rw[HNE.out] at ho ⊢
     have ho1:=ho.1 rfl
     rw[HQ3.out] at ho1
     obtain⟨pa9,pc9,hov⟩:=ho1.shape
     subst hov
     have HO:=jD (PtsOwnA.mono ho1 hG.size)
     have HBB:=jD hb
     clear ho ho1 hb HN
     go_wp2
     exact⟨_,rfl,⟨_,_,_,rfl,HO.out⟩,bstep hG HBB.out,Stp.of_below HBB.out,fun _=>HBB.out⟩
    ·intro x wx hG
     have g4:NarTup wx wz.heap.size (narrowS (knownS s) (ptsOf F)) (x.tmps.getD 92 undef):=hG.c 4 _ rfl
     replace hG:=hG.good
     obtain⟨oa,on,oc,hv,ho⟩:=g4
     have HO:=jD ho
     have hvb:=hv
     rw[Array.getD_eq_getD_getElem?] at hvb
     clear ho
     go_wp2
     exact⟨_,rfl,⟨_,_,_,rfl,HO.out⟩,hG,⟨Stp.refl _ _,fun _=>Below.refl _ _⟩⟩
    ·intro x wx hG
     have g5:NarTup wx wz.heap.size (narrowS (knownS s) (ptsOf F)) (x.tmps.getD 87 undef):=hG.c 5 _ rfl
     replace hG:=hG.good
     obtain⟨oa,on,oc,hv,ho⟩:=g5
     have HO:=jD ho
     have hvb:=hv
     rw[Array.getD_eq_getD_getElem?] at hvb
     clear ho
     go_wp2
     exact⟨_,rfl,⟨_,_,_,rfl,HO.out⟩,hG,⟨Stp.refl _ _,fun _=>Below.refl _ _⟩⟩
    ·intro x wx hG
     have g5:NarTup wx wz.heap.size (narrowS (knownS s) (ptsOf F)) (x.tmps.getD 87 undef):=hG.c 5 _ rfl
     replace hG:=hG.good
     obtain⟨oa,on,oc,hv,ho⟩:=g5
     have HO:=jD ho
     have hvb:=hv
     rw[Array.getD_eq_getD_getElem?] at hvb
     clear ho
     go_wp2
     exact⟨_,rfl,rfl,hG,⟨Stp.refl _ _,fun _=>Below.refl _ _⟩⟩
    ·intro x wx hG
     have f8:=hG.o 8
     replace hG:=hG.good
     go_wp2
     exact⟨_,rfl,rfl,hG,⟨Stp.refl _ _,fun _=>Below.refl _ _⟩⟩
    ·intro x wx hG
     have g8:(x.tmps.getD 95 undef)= .pointer (some ⟨BB,4,none⟩):=hG.c 8 _ rfl
     have g6:NarSl wx wz.heap.size (narrowS (knownS s) (ptsOf F)) (x.tmps.getD 93 undef):=hG.c 6 _ rfl
     have hp:=hG.p
     replace hG:=hG.good
     obtain⟨oa,on,oc,hv,ho⟩:=g6
     have HO:=jD ho
     have hvb:=hv
     rw[Array.getD_eq_getD_getElem?] at hvb
     have HM:=jD (M.out.below hp)
     have r5:=cell_of_block (j:=4) HM.out.bb rfl
     have q5:=free_of_block (j:=4) HM.out.bb
     have hRl:=hlt_of HM.out.bb
     clear ho
     go_wp2
     have hBB:=HM.out.ord.2
     have hBA:=HM.out.ord.1
     exact⟨undef,rfl,GiFin.of HM.out HO.out,hG.setCell (p:=⟨BB,4,none⟩) (show wz.heap.size≤BB by omega) _,Stp.set HM.out.bb (by decide),fun h=>absurd rfl h⟩
   ·intro vals w7 hg hF
    obtain⟨g0,g1,g2,g3,g4,g5,g6,g7,g8,g9, -⟩:=hF
    have e0:=gq (vals 0) g0
    have e2:=gq (vals 2) g2
    have e3:=gq (vals 3) g3
    have e7:=gq (vals 7) g7
    have e8:=gq (vals 8) g8
    replace g9:GiFin wz BA BB st sm (.slice va LV.length vc) (.slice ga LG.length gc) LV LG (narrowS (knownS s) (ptsOf F)) w7:=g9 rfl
    simp only[Cl.puts,e0,e2,e3,e7,e8]
    clear e0 e2 e3 e7 e8 g0 g1 g2 g3 g4 g5 g6 g7 g8
    go_simp
    obtain⟨qa,qn,qc,hbb,hbr,hv9,hg9,hp9⟩:=g9
    have y0:=cell_of_block (j:=0) hbb rfl
    have y1:=cell_of_block (j:=1) hbb rfl
    have y2:=cell_of_block (j:=2) hbb rfl
    have y3:=cell_of_block (j:=3) hbb rfl
    have y4:=cell_of_block (j:=4) hbb rfl
    have hy:=hlt_of hbb
    have z0:=cell_of_block (j:=0) hbr rfl
    have z1:=cell_of_block (j:=1) hbr rfl
    have z2:=cell_of_block (j:=2) hbr rfl
    have z3:=cell_of_block (j:=3) hbr rfl
    have z4:=cell_of_block (j:=4) hbr rfl
    have f0:=free_of_block (j:=0) hbr
    have f1:=free_of_block (j:=1) hbr
    have f2:=free_of_block (j:=2) hbr
    have f3:=free_of_block (j:=3) hbr
    have f4:=free_of_block (j:=4) hbr
    have hz:=hlt_of hbr
    have HBR:=jD hbr
    have HV9:=jD hv9
    have HG9:=jD hg9
    have HP9:=jD hp9
    have HG:=jD hg
    clear hbb hbr hv9 hg9 hp9 hg
    go_wp2
    refine bodyPost_ret (v:= .tuple #[.agg #[.int .i64 st, .int .i64 sm, .slice va LV.length vc, .slice ga LG.length gc, .slice qa qn qc], .int .i64 0]) (by simp[results,Tryz.results21,go_sem, *]) rfl ?_
    have hBA:=M.out.ord.1
    have hle:wz.heap.size≤BA+1:=by omega
    have ht:=TKeep.set5 (T:=fun t=>t != 52) (x0:= .int .i64 st) (x1:= .int .i64 sm) (x2:= .slice va LV.length vc) (x3:= .slice ga LG.length gc) (x4:= .slice qa qn qc) HBR.out (by decide)
    exact⟨_,_,_,rfl,(show BtOwn _ wz.heap.size (.slice va LV.length vc) (.slice ga LG.length gc) (.slice qa qn qc) (giveB s st sm (ptsOf F) (A.map sem)) by
     have e:giveB s st sm (ptsOf F) (A.map sem)=⟨st,sm,LV,LG,narrowS (knownS s) (ptsOf F)⟩:=by unfold giveB;rw [HLV.out,HLG.out];rfl
     rw[e]
     exact⟨HV9.out.tk ht (by decide) (by decide) (by decide),HG9.out.tk ht (by decide) (by decide) (by decide),PtsOwnA.tk HP9.out ht (by decide) (by decide) (by decide) (by decide) (by decide)⟩),((((HG.out.setCell (p:=⟨BA+1,0,none⟩) hle _).setCell (p:=⟨BA+1,1,none⟩) hle _).setCell (p:=⟨BA+1,2,none⟩) hle _).setCell (p:=⟨BA+1,3,none⟩) hle _).setCell (p:=⟨BA+1,4,none⟩) hle _⟩
  obtain⟨cg,cap,a,n,d,b8,m,e8,hvv,hcap,hgs,hcl,hkn⟩:=hst.c.cellsAt k hlt
  simp only[Value.slice.injEq,true_and] at hvv
  obtain⟨rfl,rfl⟩:=hvv
  have d0:wr.cell? ⟨cg,k*8,none⟩=some (.string s.L[k].id):=hcl 0 _ rfl
  have d1:=hcl 1 _ rfl
  have d2:=hcl 2 _ rfl
  have d3:=hcl 3 _ rfl
  have d4:=hcl 4 _ rfl
  have d5:=hcl 5 _ rfl
  have d6:=hcl 6 _ rfl
  have d7:=hcl 7 _ rfl
  have HOK:=jD (HVK.out s.L[k] (List.getElem_mem hlt))
  have HTV:=jD (show giveV (s.L.take (k+1)) (ptsOf F) (A.map sem)=(if (inP (ptsOf F) s.L[k]&& !knV (A.map sem) s.L[k])=true then giveV (s.L.take k) (ptsOf F) (A.map sem)++[s.L[k]] else giveV (s.L.take k) (ptsOf F) (A.map sem)) by rw[List.take_succ_eq_append_getElem hlt,giveV_snoc])
  have HTG:=jD (show giveG (s.L.take (k+1)) (ptsOf F)=(if (!inP (ptsOf F) s.L[k])=true then giveG (s.L.take k) (ptsOf F)++[⟨s.L[k].id,s.L[k].past⟩] else giveG (s.L.take k) (ptsOf F)) by rw[List.take_succ_eq_append_getElem hlt,giveG_snoc])
  have HKN:=jD hkn
  have hkb:decide ((k:Int) < (s.L.length:Int))=true:=by simp;omega
  have HVL:=jD (show(giveV (s.L.take k) (ptsOf F) (A.map sem)).length≤k by have:=List.length_filter_le (fun v=>inP (ptsOf F) v&& !knV (A.map sem) v) (s.L.take k);unfold giveV;rw [List.length_take] at this;omega)
  have HGL:=jD (show(giveG (s.L.take k) (ptsOf F)).length≤k by have:=List.length_filter_le (fun v=> !inP (ptsOf F) v) (s.L.take k);unfold giveG;rw [List.length_map];rw [List.length_take] at this;omega)
  clear hst hcl hkn
  generalize s.L[k]=v1 at*
  generalize giveV (s.L.take k) (ptsOf F) (A.map sem)=LV at*
  generalize giveG (s.L.take k) (ptsOf F)=LG at*
  obtain⟨BV,hBV⟩: ∃BV,BV=wr.heap.size:=⟨_,rfl⟩
  obtain⟨W1,hW1⟩: ∃W1,W1=wr.alloc (.cells (verC v1 (.slice a n d) (.slice b8 m e8)) 75):=⟨_,rfl⟩
  have hb1:Below wr.heap.size wr W1:=by rw[hW1];exact bal _
  have HV1:=jD (show W1.heap[BV]? =some (Obj.cells (verC v1 (.slice a n d) (.slice b8 m e8)) 75 (0,0)) by rw[hW1];exact alloc_new _ _ _ _ hBV)
  have k2:=cell_of_block (j:=2) M.out.ba rfl
  have hkl:=hlt_of M.out.ba
  replace M:=jD (M.out.below hb1)
  replace HKN:=jD (KnOwn.below HKN.out hb1)
  clear hb1
  have HB0:=jD (show W1=wr.alloc (.cells #[.string v1.id, .int .i64 v1.ds, .int .i64 v1.dc, .int .i64 v1.tg, .int .i64 v1.nm, .int .i64 v1.bd, .slice a n d, .slice b8 m e8] 75) from hW1)
  go_wp2_with fail
  rw[←HB0.out,←hBV]
  clear HB0 hW1 hBV k2 hkl d0 d1 d2 d3 d4 d5 d6 d7
  (with_reducible refine(inf_c _ F v1.tg v1.nm W1 (HF.out.below M.out.bel)).mono ?_)
  rintro e w5 ⟨rfl,hb5⟩
  replace M:=jD (M.out.below hb5)
  replace HKN:=jD (KnOwn.below HKN.out hb5)
  replace HV1:=jD (below_keep hb5 HV1.out)
  rw[inP_of HOK.out]
  clear hb5
  cases hin:inP (ptsOf F) v1
  ·have HTV2:=jD (show giveV (s.L.take (k+1)) (ptsOf F) (A.map sem)=LV by rw[HTV.out,if_neg (by rw[hin];simp)])
   have HTG2:=jD (show giveG (s.L.take (k+1)) (ptsOf F)=LG++[⟨v1.id,v1.past⟩] by rw[HTG.out,if_pos (by rw[hin];decide)])
   have e0:w5.cell? ⟨BV,0,none⟩=some (.string v1.id):=cell_of_block (j:=0) HV1.out rfl
   have e6:w5.cell? ⟨BV,6,none⟩=some (.slice a n d):=cell_of_block (j:=6) HV1.out rfl
   have e7:w5.cell? ⟨BV,7,none⟩=some (.slice b8 m e8):=cell_of_block (j:=7) HV1.out rfl
   have e9:=hlt_of HV1.out
   have z3:=cell_of_block (j:=3) M.out.bb rfl
   have zl:=hlt_of M.out.bb
   have M6:=jD (M.out.below (bal (.cells #[.string v1.id, .slice a n d, .slice b8 m e8] 101)))
   have HK6:=jD (KnOwn.below HKN.out (bal (.cells #[.string v1.id, .slice a n d, .slice b8 m e8] 101)))
   clear M HKN HV1 HTV HTG hin
   go_wp2_with (at_builtin;apply Classical.byContradiction;intro hcon)
   have ROW:=jD (CellsAt.mk (w:=w5.alloc (.cells #[.string v1.id, .slice a n d, .slice b8 m e8] 101)) (b:=w5.heap.size) (off:=0) (n:=1) (cap:=1) (xs:=[.string v1.id, .slice a n d, .slice b8 m e8]) (Nat.le_refl _) (by decide) (by simp) (fun j x hj=>by
    rw[Nat.zero_add,World.cell?_alloc_at _ _ _ _ (by simp)];simpa using hj))
   obtain⟨css,x1,x2⟩:=M6.out.g
   have E1:=jD x1
   have E2:=jD x2
   have hsz:=M6.out.bel.size
   clear x1 x2
   refine hcon ?_
   (refine wpList_append_cells2 rfl (.tmp 62) (.tmp 68) 49 rfl wz.heap.size 101 _ 3 64 Tryz.underlying49 GoneTy.info rfl (by decide) (.slice ga LG.length gc) LG.length _ (by simp[go_sem]) E2.out _ 1 _ (by simp[go_sem]) ROW.out rfl (by intro z hz;simp at hz;rcases hz with rfl | rfl | rfl <;> rfl) hsz (by unfold maxLen;have:=HGL.out;omega) (by have:=HGL.out;omega) ?_)
   intro v9 w9 ho hgr
   obtain⟨qa,qc,hq⟩:=owns_slice ho
   subst hq
   obtain⟨bb9,M9⟩:=M6.out.gone (g1:=⟨v1.id,v1.past⟩) E1.out E2.out HK6.out ho hgr
   have M9:=jD M9
   have z4:=cell_of_block (j:=3) bb9 rfl
   have z5:=free_of_block (j:=3) bb9
   have z6:=hlt_of bb9
   clear ho hgr hcon z3 zl hsz bb9 e0 e6 e7 e9
   go_wp2
   go_roundw
   case rel=>exact ⟨k+1,by omega,by go_num,_,_,by rw[HTV2.out,HTG2.out];exact M9.out⟩
   case measure=>simp [intOf] <;> omega
  have e1:w5.cell? ⟨BV,1,none⟩=some (.int .i64 v1.ds):=cell_of_block (j:=1) HV1.out rfl
  have e2:w5.cell? ⟨BV,2,none⟩=some (.int .i64 v1.dc):=cell_of_block (j:=2) HV1.out rfl
  have e3:w5.cell? ⟨BV,3,none⟩=some (.int .i64 v1.tg):=cell_of_block (j:=3) HV1.out rfl
  have e4:w5.cell? ⟨BV,4,none⟩=some (.int .i64 v1.nm):=cell_of_block (j:=4) HV1.out rfl
  have e9:=hlt_of HV1.out
  have k3:=cell_of_block (j:=3) M.out.ba rfl
  have hkl:=hlt_of M.out.ba
  go_wp2_with fail
  clear e1 e2 e3 e4 e9 k3 hkl
  (with_reducible refine(ptsIn_c _ A v1.tg v1.nm v1.ds v1.dc w5 (HP.out.below M.out.bel) HPO.out.2 HOK.out.dot).mono ?_)
  rintro e w6 ⟨rfl,hb6⟩
  replace M:=jD (M.out.below hb6)
  replace HKN:=jD (KnOwn.below HKN.out hb6)
  replace HV1:=jD (below_keep hb6 HV1.out)
  rw[knV_of HOK.out]
  clear hb6
  have HTG2:=jD (show giveG (s.L.take (k+1)) (ptsOf F)=LG by rw[HTG.out,if_neg (by rw[hin];decide)])
  cases hkn:knV (A.map sem) v1
  rotate_left
  ·have HTV2:=jD (show giveV (s.L.take (k+1)) (ptsOf F) (A.map sem)=LV by rw[HTV.out,if_neg (by rw[hin,hkn];decide)])
   clear HTV HTG HV1 HKN hin hkn
   go_wp2
   go_roundw
   case rel=>exact ⟨k+1,by omega,by go_num,_,_,by rw[HTV2.out,HTG2.out];exact M.out⟩
   case measure=>simp [intOf] <;> omega
  have HTV2:=jD (show giveV (s.L.take (k+1)) (ptsOf F) (A.map sem)=LV++[v1] by rw[HTV.out,if_pos (by rw[hin,hkn];decide)])
  have e0:w6.cell? ⟨BV,0,none⟩=some (.string v1.id):=cell_of_block (j:=0) HV1.out rfl
  have e1:w6.cell? ⟨BV,1,none⟩=some (.int .i64 v1.ds):=cell_of_block (j:=1) HV1.out rfl
  have e2:w6.cell? ⟨BV,2,none⟩=some (.int .i64 v1.dc):=cell_of_block (j:=2) HV1.out rfl
  have e3:w6.cell? ⟨BV,3,none⟩=some (.int .i64 v1.tg):=cell_of_block (j:=3) HV1.out rfl
  have e4:w6.cell? ⟨BV,4,none⟩=some (.int .i64 v1.nm):=cell_of_block (j:=4) HV1.out rfl
  have e5:w6.cell? ⟨BV,5,none⟩=some (.int .i64 v1.bd):=cell_of_block (j:=5) HV1.out rfl
  have e6:w6.cell? ⟨BV,6,none⟩=some (.slice a n d):=cell_of_block (j:=6) HV1.out rfl
  have e7:w6.cell? ⟨BV,7,none⟩=some (.slice b8 m e8):=cell_of_block (j:=7) HV1.out rfl
  have e9:=hlt_of HV1.out
  have z3:=cell_of_block (j:=2) M.out.bb rfl
  have zl:=hlt_of M.out.bb
  have hbx:=bal (W:=w6) (.cells #[.string v1.id, .int .i64 v1.ds, .int .i64 v1.dc, .int .i64 v1.tg, .int .i64 v1.nm, .int .i64 v1.bd, .slice a n d, .slice b8 m e8] 75)
  have M6:=jD (M.out.below hbx)
  have HK6:=jD (KnOwn.below HKN.out hbx)
  clear M HKN HV1 HTV HTG hin hkn hbx
  go_wp2_with (at_builtin;apply Classical.byContradiction;intro hcon)
  have ROW:=jD (CellsAt.mk (w:=w6.alloc (.cells #[.string v1.id, .int .i64 v1.ds, .int .i64 v1.dc, .int .i64 v1.tg, .int .i64 v1.nm, .int .i64 v1.bd, .slice a n d, .slice b8 m e8] 75)) (b:=w6.heap.size) (off:=0) (n:=1) (cap:=1) (xs:=[.string v1.id, .int .i64 v1.ds, .int .i64 v1.dc, .int .i64 v1.tg, .int .i64 v1.nm, .int .i64 v1.bd, .slice a n d, .slice b8 m e8]) (Nat.le_refl _) (by decide) (by simp) (fun j x hj=>by
   rw[Nat.zero_add,World.cell?_alloc_at _ _ _ _ (by simp)];simpa using hj))
  obtain⟨css,x1,x2⟩:=M6.out.v
  have E1:=jD x1
  have E2:=jD x2
  have hsz:=M6.out.hb1.2
  clear x1 x2
  refine hcon ?_
  (refine wpList_append_cells2 rfl (.tmp 81) (.tmp 83) 48 rfl b1 75 _ 8 104 Tryz.underlying48 VTy.info rfl (by decide) (.slice va LV.length vc) LV.length _ (by simp[go_sem]) E2.out _ 1 _ (by simp[go_sem]) ROW.out rfl (by intro z hz;simp at hz;rcases hz with rfl | rfl | rfl | rfl | rfl | rfl | rfl | rfl <;> rfl) hsz (by unfold maxLen;have:=HVL.out;omega) (by have:=HVL.out;omega) ?_)
  intro v9 w9 ho hgr
  obtain⟨qa,qc,hq⟩:=owns_slice ho
  subst hq
  obtain⟨bb9,M9⟩:=M6.out.ver (v1:=v1) E1.out E2.out HK6.out ho hgr
  have M9:=jD M9
  have z4:=cell_of_block (j:=2) bb9 rfl
  have z5:=free_of_block (j:=2) bb9
  have z6:=hlt_of bb9
  clear ho hgr hcon z3 zl hsz bb9 e0 e1 e2 e3 e4 e5 e6 e7 e9
  go_wp2
  go_roundw
  case rel=>exact ⟨k+1,by omega,by go_num,_,_,by rw[HTV2.out,HTG2.out];exact M9.out⟩
  case measure=>simp [intOf] <;> omega
def DotSet (lo:Nat) (w w':World):Prop:= ∃(q:Nat) (x y:Value),lo≤q∧w.heap[q]? =some (Obj.cells #[.int .i64 0, .int .i64 0] 41 (0,0))∧w'=(w.setCell ⟨q,0,none⟩ x).setCell ⟨q,1,none⟩ y
theorem dot_row {w:World} {base q n:Nat} {v x y:Value} {d:Dots} (hq:w.heap[q]? =some (Obj.cells #[.int .i64 0, .int .i64 0] 41 (0,0))) (h:w.ownsRow base 41 2 v n (spansCells d)) (hd: ∀z∈d,z.2≠0):((w.setCell ⟨q,0,none⟩ x).setCell ⟨q,1,none⟩ y).ownsRow base 41 2 v n (spansCells d):=by
 refine⟨h.1, ?_⟩
 rcases h.2 with h0 | ⟨g,cap,cur,h1,h2,h3,h4,h5,h6,h7⟩
 ·exact .inl h0
 ·by_cases hg:g=q
  ·subst hg
   rw[hq] at h3
   simp only[Option.some.injEq,Obj.cells.injEq,and_true] at h3
   obtain⟨rfl, -⟩:=h3
   have hn:n=0:=by
    cases d with
    | nil=>have:=h.1;simp [spansCells] at this;omega
    | cons z d=>
     exfalso
     have hz:=hd z (by simp)
     have hn0:n≠0:=by intro e;have:=h.1;rw [e] at this;simp [spansCells] at this
     have h9:=congrArg (·[1]?) h7
     have e1:(spansCells (z::d))[1]? =some (.int .i64 z.2):=by simp[spansCells]
     have e2:((#[Value.int IntKind.i64 0,Value.int IntKind.i64 0]:Array Value).toList.take (n*2))[1]? =some (.int .i64 0):=by
      rw[List.getElem?_take_of_lt (by omega)];rfl
     rw[e1] at h9
     rw[e2] at h9
     simp only[Option.some.injEq,Value.int.injEq,true_and] at h9
     exact hz h9.symm
   subst hn
   have hx:spansCells d=[]:=List.eq_nil_of_length_eq_zero (by simpa using h.1)
   refine .inr ⟨g,cap,_,h1,h2,heap_set_same (heap_set_same hq),h4,h5,by simpa using h6, ?_⟩
   rw[hx];simp
  ·exact .inr ⟨g,cap,cur,h1,h2,by rw[heap_set_other hg,heap_set_other hg];exact h3,h4,h5,h6,h7⟩
theorem other_row {w:World} {base e size q n:Nat} {v x y:Value} {xs:List Value} {cs:Array Value} (hq:w.heap[q]? =some (Obj.cells cs 41 (0,0))) (h:w.ownsRow base e size v n xs) (he:e≠41):((w.setCell ⟨q,0,none⟩ x).setCell ⟨q,1,none⟩ y).ownsRow base e size v n xs:=by
 have h1:TKeep (fun t=>t != 41) w (w.setCell ⟨q,0,none⟩ x):=TKeep.of_set hq (by decide)
 have h2:TKeep (fun t=>t != 41) (w.setCell ⟨q,0,none⟩ x) ((w.setCell ⟨q,0,none⟩ x).setCell ⟨q,1,none⟩ y):=TKeep.of_set (heap_set_same hq) (by decide)
 exact(h1.trans h2).owns h (by simpa using he)
theorem dots_ne {k:Kn} (h:KnOk k): ∀z∈k.more,z.2≠0:=fun z hz=>by
 have:=dot_rng (h.dots z hz).1;omega
theorem KnOwn.dot {w:World} {base q:Nat} {u v x y:Value} {k:Kn} (hq:w.heap[q]? =some (Obj.cells #[.int .i64 0, .int .i64 0] 41 (0,0))) (h:KnOwn w base u v k) (hk:KnOk k):KnOwn ((w.setCell ⟨q,0,none⟩ x).setCell ⟨q,1,none⟩ y) base u v k:=
 ⟨other_row hq h.vec (by decide),dot_row hq h.more (dots_ne hk)⟩
theorem FOwn.dot {w:World} {base q:Nat} {v x y:Value} {l:Bxs} {cs:Array Value} (hq:w.heap[q]? =some (Obj.cells cs 41 (0,0))) (h:FOwn w base v l):FOwn ((w.setCell ⟨q,0,none⟩ x).setCell ⟨q,1,none⟩ y) base v l:=by
 obtain⟨us,h1,h2,h3⟩:=h
 exact⟨us,h1,other_row hq h2 (by decide),fun i a b=>other_row hq (h3 i a b) (by decide)⟩
theorem VE.dot {w:World} {base q:Nat} {x y:Value} (hq:w.heap[q]? =some (Obj.cells #[.int .i64 0, .int .i64 0] 41 (0,0))): ∀ {l:List Ver} {cs:List (List Value)},VE w base l cs→(∀v∈l,VerOk v)→VE ((w.setCell ⟨q,0,none⟩ x).setCell ⟨q,1,none⟩ y) base l cs
 | [],[],_,_=>trivial
 | v::l,c::cs,⟨⟨a,n,d,b,m,e,h1,h2⟩,h3⟩,hv=>⟨⟨a,n,d,b,m,e,h1,h2.dot hq (hv v (by simp)).past⟩,VE.dot hq h3 fun z hz=>hv z (by simp[hz])⟩
 | [],_::_,h,_=>h.elim
 | _::_,[],h,_=>h.elim
theorem VOwn.dot {w:World} {base q:Nat} {v x y:Value} {l:List Ver} (hq:w.heap[q]? =some (Obj.cells #[.int .i64 0, .int .i64 0] 41 (0,0))) (h:VOwn w base v l) (hv: ∀v∈l,VerOk v):VOwn ((w.setCell ⟨q,0,none⟩ x).setCell ⟨q,1,none⟩ y) base v l:=by
 obtain⟨css,h1,h2⟩:=h
 exact⟨css,h1.dot hq hv,other_row hq h2 (by decide)⟩
theorem PtsOwnA.dot {w:World} {base q:Nat} {v x y:Value} {S:List SP} (hq:w.heap[q]? =some (Obj.cells #[.int .i64 0, .int .i64 0] 41 (0,0))) (h:PtsOwnA w base v S):PtsOwnA ((w.setCell ⟨q,0,none⟩ x).setCell ⟨q,1,none⟩ y) base v S:=by
 obtain⟨l,⟨css,Ss,h⟩,hok,hs⟩:=h
 refine⟨l,⟨css,Ss,h.lc,h.ls,other_row hq h.row (by decide),fun i a b c=> ?_,h.apart,fun i hi z hz=>by simpa using h.low i hi z hz⟩,hok,hs⟩
 obtain⟨f,u,z,us,h1,h2,h3,h4,h5,h6⟩:=h.each i a b c
 exact⟨f,u,z,us,h1,h2,other_row hq h3 (by decide),fun j d e=>other_row hq (h4 j d e) (by decide),h5.dot hq (knChk_zero.1 (hok _ (List.getElem_mem a)).1.k).1,h6⟩
theorem SiteAt.dot {lo:Nat} {w w':World} {b g:Nat} {s:SiteS} (h:SiteAt w b g s) (hd:DotSet lo w w') (hg:g < lo):SiteAt w' b g s:=by
 obtain⟨q,x,y,hq,hb,rfl⟩:=hd
 obtain⟨f,l,p,h1,⟨fl,h2,h3⟩,h4,h5⟩:=h.cells
 exact⟨h.ok,h.ge,f,l,p,by rw[heap_set_other (by omega),heap_set_other (by omega)];exact h1,⟨fl,FOwn.dot hb h2,h3⟩,h4.dot hb h.ok.L.ok,h5.dot hb⟩
theorem DotSet.stp {G:Nat→Prop} {w0 w w':World} (h:Stp G w0 w) (hd:DotSet w0.heap.size w w'):Stp G w0 w':=by
 obtain⟨q,x,y,hq,hb,rfl⟩:=hd
 exact(h.new hb hq).new (heap_set_same hb) hq
def Lw (W w:World):Prop:=Stp (fun q=>W.heap.size≤q) W w
theorem Lw.refl (W:World):Lw W W:=Stp.refl _ _
theorem Lw.size {W w:World} (h:Lw W w):W.heap.size≤w.heap.size:=Stp.size h
theorem Lw.below {W w w':World} (h:Lw W w) (hb:Below w.heap.size w w'):Lw W w':=Stp.below h hb
theorem Lw.step {W w w':World} {G:Nat→Prop} (h:Lw W w) (hs:Stp G w w') (hG: ∀q,G q→W.heap.size≤q):Lw W w':=Stp.trans h (hs.mono hG)
theorem Lw.one {W w w':World} {g:Nat} (h:Lw W w) (hs:Stp (fun q=>q=g) w w') (hG:W.heap.size≤g):Lw W w':=h.step hs fun q hq=>by rw[hq];exact hG
theorem Lw.toBelow {W w:World} (h:Lw W w):Below W.heap.size W w:=h.sp.toBelow (fun _ hq=>hq) (Nat.le_refl _)
theorem Lw.sub {W w:World} (h:Lw W w):Sub W w:=⟨h.size,fun p v hp=>by
 have hlt:=World.block_lt_of_cell? W p hp
 rw[h.sp.cell hlt (by omega)];exact hp⟩
end Go.Proofs.YtgkgdedhicnohaaGreat
