/- Who wants what another one does not: what each has then. Written by a small program (gen/topless.py). What TopLess does. Written by a small program (gen/topless.py). -/
import Derived.Test.YtgkgdedhicnohaaGreatMTopP
namespace Go.Proofs.YtgkgdedhicnohaaGreat
set_option maxRecDepth 100000
set_option maxHeartbeats 40000000
open Go.RowKit
theorem less_took {U:List Ver} {C:SiteS} {q p:Nat→Nat→Bool} {k:Nat} {me:Int} (hG:Grow [] (newS 2 q) U C k) (hk:k≤15) (hC:SiteOk C) (hm:0≤me∧me < 5):
  tookE (newS me p) (giveB C (newS me p).me (newS me p).stamp (newS me p).P (knownS (newS me p)))=0∧(tookS (newS me p) (giveB C (newS me p).me (newS me p).stamp (newS me p).P (knownS (newS me p)))).L=C.L.filter (inP p):=by
 have hl:=hG.len
 have hU:=hG.made.hx.uni (by have:=hl.1;simp at this;omega)
 have hCS:C.S=[]:=hG.S
 have S:=sync_took hU (newS_ok hm p) hC (by intro x hx;simp [newS] at hx) hG.made.sub (by rw[hCS];exact Nat.zero_le _)
 refine⟨S.e, ?_⟩
 show(tookS (newS me p) (syncB (newS me p) C)).L=_
 have hT:=S.L
 have hg:giveV C.L (newS me p).P (knownS (newS me p))=C.L.filter (inP p):=by
  unfold giveV
  refine List.filter_congr fun v hv=> ?_
  have hok:=hC.L.ok v hv
  rw[knV_eq (newS_ok hm p) hok]
  obtain⟨d1,d2,d3,d4⟩:=dot_rng hok.dot
  have h1:decide (v.dc≤(newS me p).made)=false:=by
   show decide (v.dc≤0)=false
   simp;omega
  rw[h1]
  show(inP p v&& !(_&&false || knV [] v))=_
  simp[knV,knowsS]
 rw[hg] at hT
 refine vsorted_ext hT.ok.ord (hC.L.filter _).ord fun x=> ?_
 rw[hT.mem]
 constructor
 ·rintro⟨h1 | h1, -⟩
  ·simp[newS] at h1
  ·exact h1
 ·intro h1
  have h2:=(List.mem_filter.1 h1).1
  exact⟨.inr h1,by intro b hb;simp [newS] at hb,fun b hb=>hC.L.free x h2 b (List.mem_filter.1 hb).1,fun b hb=>hC.L.free x h2 b (List.mem_filter.1 hb).1⟩
theorem less_any {L:List Ver} {p:Ver→Bool} {v:Ver} (hv:v∈L):(L.filter p).any (fun x=>sameVB v x)=p v:=by
 rw[Bool.eq_iff_iff,List.any_eq_true]
 constructor
 ·rintro⟨x,hx,hs⟩
  obtain rfl:=(sameVB_iff v x).1 hs
  exact(List.mem_filter.1 hx).2
 ·intro h
  exact⟨v,List.mem_filter.2 ⟨hv,h⟩,(sameVB_iff v v).2 rfl⟩
theorem less_len {p q:Ver→Bool} : ∀ {L:List Ver},(∀v∈L,q v= !p v)→(L.filter p).length+(L.filter q).length=L.length
 | [],_=>rfl
 | v::L,h=>by
  have h1:=less_len (L:=L) fun x hx=>h x (by simp[hx])
  have h2:=h v (by simp)
  cases hp:p v
  ·rw[List.filter_cons,List.filter_cons,h2,hp];simp;omega
  ·rw[List.filter_cons,List.filter_cons,h2,hp];simp;omega
theorem less_not {f G:Bxs} (h: ∀k n:Nat,k < 16→n < 32→inF G k n=(inF everyB k n&& !inF f k n)) {v:Ver} (hv:VerOk v):inP (ptsOf G) v= !inP (ptsOf f) v:=by
 obtain⟨p1,p2,p3,p4⟩:=pt_rng hv.pt
 have h1:v.tg.toNat < 16:=by omega
 have h2:v.nm.toNat < 32:=by omega
 have h3:=inP_ever hv
 unfold inP at h3 ⊢
 rw[ptsOf_in h1 h2,ptsOf_in h1 h2,h _ _ h1 h2,←ptsOf_in (f:=everyB) h1 h2,everP_every,h3,Bool.true_and]
theorem less1_p (B:Nat) (v:Ver) (y z:Value) (w:World) (hB:w.heap[B]? =some (Obj.cells (verC v y z) 75 (0,0))) (hk:KnAt w y z v.past) (hd:dotOk (v.ds,v.dc)=true):
  PredV VerOk 33 #[.pointer (some ⟨B,0,none⟩)] (fun x=>sameVB v x) w:=by
 refine⟨enters_of Tryz.func33 (by kernel_rfl) rfl,fun a u x W hok hbl ha=> ?_⟩
 show Calls Tryz.prog 33 #[.agg (verC a u x), .pointer (some ⟨B,0,none⟩)] W _
 have HB:=jD (below_keep hbl hB)
 have HK:=jD (hk.below hbl)
 clear hbl hB hk
 obtain⟨xa,ca,rfl⟩:=ha.vec.shape
 obtain⟨ya,da,rfl⟩:=ha.more.shape
 obtain⟨xb,cb,hxb⟩:=HK.out.vec.shape
 obtain⟨yb,db,hyb⟩:=HK.out.more.shape
 subst hxb hyb
 have hbel:=bal (W:=W) (.cells (verC a (.slice xa a.past.vec.length ca) (.slice ya a.past.more.length da)) 75)
 have HA:=jD (ha.below hbel)
 have HK2:=jD (HK.out.below hbel)
 have HO:=jD (sameV_c v a _ _ _ _ _ HK2.out HA.out)
 have hB2:=below_keep hbel HB.out
 have c0:=cell_of_block (j:=0) hB2 rfl
 have c1:=cell_of_block (j:=1) hB2 rfl
 have c2:=cell_of_block (j:=2) hB2 rfl
 have c3:=cell_of_block (j:=3) hB2 rfl
 have c4:=cell_of_block (j:=4) hB2 rfl
 have c5:=cell_of_block (j:=5) hB2 rfl
 have c6:=cell_of_block (j:=6) hB2 rfl
 have c7:=cell_of_block (j:=7) hB2 rfl
 clear ha hB2 HB HK
 unfold verC at*
 go_enter Tryz.func33,Tryz.ntmps33
 go_wp2_with fail
 (with_reducible refine(HO.out).mono ?_)
 rintro e w1 ⟨rfl,hb1⟩
 replace hbel:=bstep hbel hb1
 clear hb1 c0 c1 c2 c3 c4 c5 c6 c7 HO
 go_wp2
 go_ret
 exact⟨rfl,hbel⟩
theorem less2_p (B:Nat) (v:Ver) (y z:Value) (w:World) (hB:w.heap[B]? =some (Obj.cells (verC v y z) 75 (0,0))) (hk:KnAt w y z v.past) (hd:dotOk (v.ds,v.dc)=true):
  PredV VerOk 35 #[.pointer (some ⟨B,0,none⟩)] (fun x=>sameVB v x) w:=by
 refine⟨enters_of Tryz.func35 (by kernel_rfl) rfl,fun a u x W hok hbl ha=> ?_⟩
 show Calls Tryz.prog 35 #[.agg (verC a u x), .pointer (some ⟨B,0,none⟩)] W _
 have HB:=jD (below_keep hbl hB)
 have HK:=jD (hk.below hbl)
 clear hbl hB hk
 obtain⟨xa,ca,rfl⟩:=ha.vec.shape
 obtain⟨ya,da,rfl⟩:=ha.more.shape
 obtain⟨xb,cb,hxb⟩:=HK.out.vec.shape
 obtain⟨yb,db,hyb⟩:=HK.out.more.shape
 subst hxb hyb
 have hbel:=bal (W:=W) (.cells (verC a (.slice xa a.past.vec.length ca) (.slice ya a.past.more.length da)) 75)
 have HA:=jD (ha.below hbel)
 have HK2:=jD (HK.out.below hbel)
 have HO:=jD (sameV_c v a _ _ _ _ _ HK2.out HA.out)
 have hB2:=below_keep hbel HB.out
 have c0:=cell_of_block (j:=0) hB2 rfl
 have c1:=cell_of_block (j:=1) hB2 rfl
 have c2:=cell_of_block (j:=2) hB2 rfl
 have c3:=cell_of_block (j:=3) hB2 rfl
 have c4:=cell_of_block (j:=4) hB2 rfl
 have c5:=cell_of_block (j:=5) hB2 rfl
 have c6:=cell_of_block (j:=6) hB2 rfl
 have c7:=cell_of_block (j:=7) hB2 rfl
 clear ha hB2 HB HK
 unfold verC at*
 go_enter Tryz.func35,Tryz.ntmps35
 go_wp2_with fail
 (with_reducible refine(HO.out).mono ?_)
 rintro e w1 ⟨rfl,hb1⟩
 replace hbel:=bstep hbel hb1
 clear hb1 c0 c1 c2 c3 c4 c5 c6 c7 HO
 go_wp2
 go_ret
 exact⟨rfl,hbel⟩
theorem TopLess_walk (fv lv:Value) (f:Bxs) (l:List (List Int)) (w:World) (hF:BxsAt w fv f) (hl:RowAt vecE w lv l):
  Calls Tryz.prog 4 #[fv,lv] w fun e w'=>e= .returned (.bool true)∧Below w.heap.size w w':=by
 obtain⟨fa,fc,rfl⟩:=hF.shape
 obtain⟨la,lc,hlv,hlcap,hlm, -, -⟩:=hl.open_
 subst hlv
 obtain⟨BB,hBB⟩: ∃BB,BB=w.heap.size:=⟨_,rfl⟩
 have HBB:=jD hBB
 have HF:=jD hF
 have HL:=jD hl
 clear hF hl hBB
 go_enter Tryz.func4,Tryz.ntmps4
 go_wp2_with fail
 (with_reducible refine(topBegun_c w).mono ?_)
 rintro e w1 ⟨rfl,hb⟩
 have HB1:=jD hb
 clear hb
 go_wp2_with fail
 (with_reducible refine(fChk_c _ f w1 (HF.out.below HB1.out)).mono ?_)
 rintro e w2 ⟨rfl,hb⟩
 have HB2:=jD (bstep HB1.out hb)
 clear hb
 by_cases hz:fChk f=0
 rotate_left
 ·have hd:(fChk f != 0)=true:=by simpa using hz
  have hd2:decide (fChk f=0)=false:=by simpa using hz
  go_wp2
  go_ret
  exact⟨rfl,HB2.out⟩
 have HZ:=jD hz
 rw[hz]
 clear hz
 go_wp2_with fail
 (with_reducible refine(everyS w2).mono ?_)
 rintro e w3 ⟨ev,rfl,hev,hb⟩
 have HEV:=jD (hev.at_ok every_chk)
 obtain⟨ea,ec,hevs⟩:=HEV.out.shape
 subst hevs
 have HB3:=jD (bstep HB2.out hb)
 have HLS:=jD (lessO _ _ (fun k n=>inF everyB k n) (fun k n=>inF f k n) w3 ⟨everyB,HEV.out,every_chk,fun _ _ _ _=>rfl⟩ ⟨f,HF.out.below HB3.out,HZ.out,fun _ _ _ _=>rfl⟩)
 clear hb hev
 go_wp2_with fail
 (with_reducible refine(HLS.out).mono ?_)
 rintro e w4 ⟨gv,rfl,hgv,hb⟩
 obtain⟨G,hg1,hg2,hg3⟩:=hgv
 have HGV:=jD (FOwn.at_ok hg1 hg2)
 obtain⟨ga0,gc0,hgs⟩:=HGV.out.shape
 subst hgs
 have HG2:=jD hg2
 have HG3:=jD hg3
 have HB4:=jD (bstep HB3.out hb)
 clear hb hg1 hg2 hg3 HLS HEV
 go_wp2_with fail
 (with_reducible refine(snew_c 0 _ f w4 (by decide) (HF.out.below HB4.out) HZ.out).mono ?_)
 rintro e w5 ⟨ga,rfl,hsa,hb⟩
 have HB5:=jD (bstep HB4.out hb)
 have HSA:=jD (SiteAt.mono hsa (show BB≤w4.heap.size by rw[HBB.out];exact HB4.out.size))
 have HGV5:=jD (HGV.out.below hb)
 clear hb hsa HGV
 go_wp2_with fail
 (with_reducible refine(snew_c 1 _ G w5 (by decide) HGV5.out HG2.out).mono ?_)
 rintro e w6 ⟨gb,rfl,hsb,hb⟩
 have HB6:=jD (bstep HB5.out hb)
 have HSB:=jD (SiteAt.mono hsb (show BB≤w5.heap.size by rw[HBB.out];exact HB5.out.size))
 have HSA6:=jD (HSA.out.below hb)
 have hlt1:ga < gb:=Nat.lt_of_lt_of_le HSA.out.lt hsb.ge
 clear hb hsb HGV5 HSA
 go_wp2_with fail
 (with_reducible refine(everyS w6).mono ?_)
 rintro e w7 ⟨ev,rfl,hev,hb⟩
 have HEV:=jD (hev.at_ok every_chk)
 obtain⟨ea7,ec7,hevs⟩:=HEV.out.shape
 subst hevs
 have HB7:=jD (bstep HB6.out hb)
 have HSA7:=jD (HSA6.out.below hb)
 have HSB7:=jD (HSB.out.below hb)
 clear hb hev HSA6 HSB
 go_wp2_with fail
 (with_reducible refine(snew_c 2 _ everyB w7 (by decide) HEV.out every_chk).mono ?_)
 rintro e w8 ⟨gc,rfl,hsc,hb⟩
 have HB8:=jD (bstep HB7.out hb)
 have HSC:=jD (SiteAt.mono hsc (show BB≤w7.heap.size by rw[HBB.out];exact HB7.out.size))
 have HSA8:=jD (HSA7.out.below hb)
 have HSB8:=jD (HSB7.out.below hb)
 have hlt2:gb < gc:=Nat.lt_of_lt_of_le HSB7.out.lt hsc.ge
 have HNE:=jD (show ga≠gb∧ga≠gc∧gb≠gc by omega)
 clear hb hsc HSA7 HSB7 HEV hlt1 hlt2
 have HBS:=jD (fun w' (hs:Stp (fun q=>BB≤q) w8 w')=>show Below w.heap.size w w' from((Stp.of_below (G:=fun q=>w.heap.size≤q) HB8.out).trans (hs.mono fun q hq=>by rw[HBB.out] at hq;exact hq)).sp.toBelow (base:=w.heap.size) (fun q hq=>hq) (Nat.le_refl _))
 have HCW:=jD (show ∀q,q=gc→BB≤q from fun q hq=>by rw[hq];exact HSC.out.ge)
 obtain⟨n,hn⟩: ∃n,n=min l.length 15:=⟨_,rfl⟩
 have hn1:n≤l.length:=by omega
 have hn2:n≤15:=by omega
 have hn3:n≤lc:=by omega
 have hmin:min (l.length:Int) 15=(n:Int):=by omega
 have HLT:=jD (RowAt.take HL.out n hn1)
 have HM0:=jD (Grow.refl (made_new [] 2 (ptsOf everyB) Hx.nil (by simp)))
 clear hn HL
 go_wp2
 go_loopw [71] (fun i wr=> ∃k:Nat,k≤n∧i= .int .i64 k∧ ∃U C,Grow [] (newS 2 (ptsOf everyB)) U C k∧SiteAt wr BB gc C∧Stp (fun q=>q=gc) w8 wr) (fun i _=>n - (intOf i).toNat)
 case atStart=>exact ⟨0,Nat.zero_le _,rfl,_,_,HM0.out,HSC.out,Stp.refl _ _⟩
 case round=>
  clear HM0 HSC
  obtain⟨k,hk,rfl,U,C,hgr,hsa,hst⟩:=hrel
  by_cases hlt:k < n
  rotate_left
  ·obtain rfl:k=n:=by omega
   have hkb:decide ((k:Int) < (k:Int))=false:=by simp
   have HGR:=jD (hgr.up hn2)
   have HSC:=jD hsa
   have HST:=jD hst
   have HCO:=jD hsa.ok
   obtain⟨ea,hea⟩:=less_took (p:=ptsOf f) (me:=0) (hgr.up hn2) (Nat.le_refl _) hsa.ok (by decide)
   obtain⟨eb,heb⟩:=less_took (p:=ptsOf G) (me:=1) (hgr.up hn2) (Nat.le_refl _) hsa.ok (by decide)
   obtain⟨ba,hba⟩: ∃ba,ba=giveB C (newS 0 (ptsOf f)).me (newS 0 (ptsOf f)).stamp (newS 0 (ptsOf f)).P (knownS (newS 0 (ptsOf f))):=⟨_,rfl⟩
   obtain⟨bb,hbb⟩: ∃bb,bb=giveB C (newS 1 (ptsOf G)).me (newS 1 (ptsOf G)).stamp (newS 1 (ptsOf G)).P (knownS (newS 1 (ptsOf G))):=⟨_,rfl⟩
   rw[←hba] at ea hea
   rw[←hbb] at eb heb
   obtain⟨A,hA⟩: ∃A,A=tookS (newS 0 (ptsOf f)) ba:=⟨_,rfl⟩
   obtain⟨B,hB⟩: ∃B,B=tookS (newS 1 (ptsOf G)) bb:=⟨_,rfl⟩
   rw[←hA] at hea
   rw[←hB] at heb
   have HEA:=jD hea
   have HEB:=jD heb
   have HK1:=jD (fun (wx:World) (hx:SiteAt wx BB ga (newS 0 (ptsOf f))) (hy:SiteAt wx BB gc C)=>show Calls Tryz.prog 31 #[.pointer (some ⟨ga,0,none⟩), .pointer (some ⟨gc,0,none⟩)] wx fun e w'=>e= .returned (.tuple #[.bool true, .bool false])∧SiteAt w' BB ga A∧Stp (fun qq=>qq=ga) wx w' from by
    have:=asked_c ga gc BB _ _ ba wx hx hy hba
    rw[ea,←hA] at this;exact this)
   have HK2:=jD (fun (wx:World) (hx:SiteAt wx BB gb (newS 1 (ptsOf G))) (hy:SiteAt wx BB gc C)=>show Calls Tryz.prog 31 #[.pointer (some ⟨gb,0,none⟩), .pointer (some ⟨gc,0,none⟩)] wx fun e w'=>e= .returned (.tuple #[.bool true, .bool false])∧SiteAt w' BB gb B∧Stp (fun qq=>qq=gb) wx w' from by
    have:=asked_c gb gc BB _ _ bb wx hx hy hbb
    rw[eb,←hB] at this;exact this)
   have HSA9:=jD (HSA8.out.stp hst fun e=>HNE.out.2.1 e)
   have HSB9:=jD (HSB8.out.stp hst fun e=>HNE.out.2.2 e)
   clear hgr hsa hst ea hea eb heb hba hbb hA hB
   go_wp2_with fail
   obtain⟨W1,hW1⟩: ∃W1,W1=wr.alloc (.cells #[.pointer (some ⟨ga,0,none⟩), .pointer (some ⟨gb,0,none⟩)] 43):=⟨_,rfl⟩
   have hb1:Below wr.heap.size wr W1:=by rw[hW1];exact bal _
   have HBK:=jD (show W1.heap[wr.heap.size]? =some (Obj.cells #[.pointer (some ⟨ga,0,none⟩), .pointer (some ⟨gb,0,none⟩)] 43 (0,0)) by rw[hW1];exact alloc_new _ _ _ _ rfl)
   rw[←hW1]
   obtain⟨gp,hgp⟩: ∃gp,gp=wr.heap.size:=⟨_,rfl⟩
   rw[←hgp] at HBK ⊢
   have HGP:=jD hgp
   have HB1x:=jD hb1
   have HSA1:=jD (HSA9.out.below hb1)
   have HSB1:=jD (HSB9.out.below hb1)
   have HSC1:=jD (HSC.out.below hb1)
   clear hb1 hW1 HSA9 HSB9 HSC hgp
   refine wp_loop_rounds 3 ?_
   have p0:=cell_of_block (j:=0) HBK.out rfl
   rw[rounds_succ]
   go_wp2_with fail
   clear p0
   (with_reducible refine(HK1.out W1 HSA1.out HSC1.out).mono ?_)
   rintro e v2 ⟨rfl,hs,hp⟩
   have HA2:=jD hs
   have HP2:=jD hp
   have HSB2:=jD (HSB1.out.stp hp fun e=>HNE.out.1 e.symm)
   have HSC2:=jD (HSC1.out.stp hp fun e=>HNE.out.2.1 e.symm)
   have HBK2:=jD (hp.block HBK.out (fun e=>by obtain⟨cs,hc⟩:=HSA1.out.ty;have e:=id e;rw [←e] at hc;exact absurd (heap_ty hc HBK.out) (by decide)))
   clear hs hp HSA1 HSB1 HSC1 HBK HK1
   go_wp2_with fail
   have p1:=cell_of_block (j:=1) HBK2.out rfl
   rw[rounds_succ]
   go_wp2_with fail
   clear p1
   (with_reducible refine(HK2.out v2 HSB2.out HSC2.out).mono ?_)
   rintro e v3 ⟨rfl,hs,hp⟩
   have HB3x:=jD hs
   have HA3:=jD (HA2.out.stp hp fun e=>HNE.out.1 e)
   have HC3:=jD (HSC2.out.stp hp fun e=>HNE.out.2.2 e.symm)
   have HBL:=jD (HBS.out v3 ((((HST.out.mono HCW.out).below HB1x.out).trans (HP2.out.mono fun q hq=>by rw[hq];exact HA2.out.ge)).trans (hp.mono fun q hq=>by rw[hq];exact hs.ge)))
   clear hs hp HA2 HSB2 HSC2 HBK2 HK2 HP2 HST HB1x
   go_wp2_with fail
   rw[rounds_succ]
   go_wp2_with fail
   (with_reducible refine(sshelf_c gc _ C v3 HC3.out).mono ?_)
   rintro e w9 ⟨xa,xc,rfl,hx,hb9⟩
   have HX:=jD hx
   have HB9:=jD (bstep HBL.out hb9)
   have HA9:=jD (HA3.out.below hb9)
   have HB9x:=jD (HB3x.out.below hb9)
   have HC9:=jD (HC3.out.below hb9)
   have hcl60:=HCO.out.L.len
   clear hx hb9 HA3 HB3x HC3
   go_wp2
   go_loopw [122] (fun i wr=> ∃k:Nat,k≤C.L.length∧i= .int .i64 k∧Below w9.heap.size w9 wr) (fun i _=>C.L.length - (intOf i).toNat)
   case atStart=>exact ⟨0,Nat.zero_le _,rfl,Below.refl _ _⟩
   case round=>
    obtain⟨m,hm,rfl,hbl⟩:=hrel
    have HBR:=jD hbl
    by_cases hml:m < C.L.length
    rotate_left
    ·obtain rfl:m=C.L.length:=by omega
     have hmb:decide ((C.L.length:Int) < (C.L.length:Int))=false:=by simp
     clear hbl
     go_wp2_with fail
     (with_reducible refine(sshelf_c ga _ A _ (HA9.out.below HBR.out)).mono ?_)
     rintro e w10 ⟨ya,yc,rfl, -,hb10⟩
     have HB10:=jD (bstep HBR.out hb10)
     clear hb10
     go_wp2_with fail
     (with_reducible refine(sshelf_c gb _ B _ (HB9x.out.below HB10.out)).mono ?_)
     rintro e w11 ⟨za,zc,rfl, -,hb11⟩
     have HB11:=jD (bstep HB10.out hb11)
     clear hb11
     have hal:A.L.length≤60:=HA9.out.ok.L.len
     have hbl2:B.L.length≤60:=HB9x.out.ok.L.len
     have hsum:A.L.length+B.L.length=C.L.length:=by
      rw[HEA.out,HEB.out]
      exact less_len fun v hv=>less_not HG3.out (HCO.out.L.ok v hv)
     have hwr:IntKind.i64.wrap ((A.L.length:Int)+(B.L.length:Int))=(C.L.length:Int):=by rw[IntKind.wrap_i64];omega
     have hwr2:wrap64 ((A.L.length:Int)+(B.L.length:Int))=(C.L.length:Int):=by unfold wrap64;omega
     go_wp2_with fail
     (with_reducible refine(sshelf_c gc _ C _ (HC9.out.below HB11.out)).mono ?_)
     rintro e w12 ⟨ua,uc,rfl, -,hb12⟩
     have HB12:=jD (bstep HB11.out hb12)
     clear hb12 hal hbl2 hsum
     go_wp2
     go_ret
     exact⟨by simp,bstep HB9.out HB12.out⟩
    have hmb:decide ((m:Int) < (C.L.length:Int))=true:=by simp;omega
    have HXR:=jD (HX.out.stp (Stp.of_below (G:=fun _=>False) hbl))
    obtain⟨gx,cx,a1,n1,d1,a2,n2,d2,hsx,hgx,hkn,hcl⟩:=HXR.out.cell hml
    simp only[Value.slice.injEq,true_and] at hsx
    obtain⟨rfl,rfl⟩:=hsx
    have HVOK:=jD (HCO.out.L.ok _ (List.getElem_mem hml))
    have HMEM:=jD (List.getElem_mem hml)
    generalize C.L[m]=v1 at*
    have c0:=hcl 0 _ rfl
    have c1:=hcl 1 _ rfl
    have c2:=hcl 2 _ rfl
    have c3:=hcl 3 _ rfl
    have c4:=hcl 4 _ rfl
    have c5:=hcl 5 _ rfl
    have c6:=hcl 6 _ rfl
    have c7:=hcl 7 _ rfl
    rw[Nat.add_zero] at c0
    obtain⟨BV,hBV⟩: ∃BV,BV=wr.heap.size:=⟨_,rfl⟩
    obtain⟨V1,hV1⟩: ∃V1,V1=wr.alloc (.cells #[.string v1.id, .int .i64 v1.ds, .int .i64 v1.dc, .int .i64 v1.tg, .int .i64 v1.nm, .int .i64 v1.bd, .slice a1 n1 d1, .slice a2 n2 d2] 75):=⟨_,rfl⟩
    have hb1:Below wr.heap.size wr V1:=by rw[hV1];exact bal _
    have HV1:=jD (show V1.heap[BV]? =some (Obj.cells #[.string v1.id, .int .i64 v1.ds, .int .i64 v1.dc, .int .i64 v1.tg, .int .i64 v1.nm, .int .i64 v1.bd, .slice a1 n1 d1, .slice a2 n2 d2] 75 (0,0)) by rw[hV1];exact alloc_new _ _ _ _ hBV)
    have HKA:=jD ((hkn.below hb1).at_ HVOK.out.past.len (by have:=HVOK.out.len;omega))
    have HBV:=jD (bstep HBR.out hb1)
    clear hkn hcl hb1 hbl hgx
    go_wp2_with fail
    rw[←hV1,←hBV]
    clear hV1 hBV c0 c1 c2 c3 c4 c5 c6 c7
    (with_reducible refine(sshelf_c ga _ A V1 (HA9.out.below HBV.out)).mono ?_)
    rintro e w10 ⟨ya,yc,rfl,hy,hb10⟩
    have HB10:=jD (bstep HBV.out hb10)
    have HV10:=jD (below_keep hb10 HV1.out)
    have HK10:=jD (HKA.out.below hb10)
    have HC1:=jD (containsV_c VerOk _ A.L _ _ _ w10 (hy.at_ (shok_bd HA9.out.ok.L.ok) (by have:=HA9.out.ok.L.len;omega)) HA9.out.ok.L.ok (less1_p BV v1 (.slice a1 n1 d1) (.slice a2 n2 d2) w10 HV10.out HK10.out HVOK.out.dot))
    rw[show A.L.any (fun x=>sameVB v1 x)=inP (ptsOf f) v1 by rw[HEA.out,less_any HMEM.out]] at HC1
    clear hy hb10 HKA HV1
    go_wp2_with fail
    (with_reducible refine(HC1.out).mono ?_)
    rintro e w11 ⟨rfl,hb11⟩
    have HB11:=jD (bstep HB10.out hb11)
    have HV11:=jD (below_keep hb11 HV10.out)
    have HK11:=jD (HK10.out.below hb11)
    clear hb11 HC1 HV10 HK10
    go_wp2_with fail
    (with_reducible refine(sshelf_c gb _ B w11 (HB9x.out.below HB11.out)).mono ?_)
    rintro e w12 ⟨za,zc,rfl,hy,hb12⟩
    have HB12:=jD (bstep HB11.out hb12)
    have HC2:=jD (containsV_c VerOk _ B.L _ _ _ w12 (hy.at_ (shok_bd HB9x.out.ok.L.ok) (by have:=HB9x.out.ok.L.len;omega)) HB9x.out.ok.L.ok (less2_p BV v1 (.slice a1 n1 d1) (.slice a2 n2 d2) w12 (below_keep hb12 HV11.out) (HK11.out.below hb12) HVOK.out.dot))
    rw[show B.L.any (fun x=>sameVB v1 x)= !inP (ptsOf f) v1 by rw[HEB.out,less_any HMEM.out,less_not HG3.out HVOK.out]] at HC2
    obtain⟨x9,hx9⟩: ∃x9,x9=inP (ptsOf f) v1:=⟨_,rfl⟩
    rw[←hx9] at HC2
    rw[←hx9]
    clear hy hb12 HV11 HK11 hx9
    cases x9
    all_goals
     go_wp2_with fail
     (with_reducible refine(HC2.out).mono ?_)
     rintro e w13 ⟨rfl,hb13⟩
     have HB13:=jD (bstep HB12.out hb13)
     clear hb13
     go_wp2
     go_roundw
     case rel=>exact ⟨m+1,by omega,by go_num,HB13.out⟩
     case measure=>simp [intOf] <;> omega
  have hkb:decide ((k:Int) < (n:Int))=true:=by simp;omega
  have HBR:=jD (HBS.out wr (hst.mono HCW.out))
  obtain⟨a',cap',ha', -, -, -,hvl2⟩:=HLT.out.open_
  simp only[Value.slice.injEq] at ha'
  obtain⟨hla, -,hlc2⟩:=ha'
  have hltk:k < (l.take n).length:=by rw[List.length_take];omega
  rcases hvl2 with hnil | ⟨b7,off,ha7,hb,hc⟩
  ·rw[hnil] at hltk;simp at hltk
  rw[ha7] at hla
  subst hla
  obtain⟨c,⟨u,rfl,hu⟩,hcc⟩:=hc k hltk
  have c1:wr.cell? ⟨b7,off+k,none⟩=some u:=ckeep HBR.out (by have:=hcc 0 u rfl;simpa [vecE] using this)
  generalize (l.take n)[k]=cs at*
  obtain⟨ua,uc,hus⟩:=hu.shape
  subst hus
  have HU:=jD hu
  have HSA:=jD hsa
  have HGR:=jD hgr
  have HST:=jD hst
  clear hc hcc hu ha7 hlc2 hsa hgr hst
  by_cases h3:cs.length < 3
  ·have hd:decide ((cs.length:Int) < 3)=true:=by simp;omega
   go_wp2
   go_roundw
   case rel=>exact ⟨k+1,by omega,by go_num,U,C,HGR.out.up (by omega),HSA.out,HST.out⟩
   case measure=>simp [intOf] <;> omega
  have hd:decide ((cs.length:Int) < 3)=false:=by simp;omega
  obtain⟨cb,coff,cc,hcs,hcb,x0,x1,x2,q0,q1,q2, -⟩:=three_ints HU.out (by omega)
  simp only[Value.slice.injEq,true_and] at hcs
  obtain⟨rfl,rfl⟩:=hcs
  obtain⟨k0,hk0⟩: ∃k0,k0=wiN x0 4:=⟨_,rfl⟩
  obtain⟨k1,hk1⟩: ∃k1,k1=wiN x1 16:=⟨_,rfl⟩
  obtain⟨k2,hk2⟩: ∃k2,k2=wiN x2 32:=⟨_,rfl⟩
  have hk04:k0 < 4:=by rw[hk0];exact wiN_lt x0 4 (by decide)
  have hk116:k1 < 16:=by rw[hk1];exact wiN_lt x1 16 (by decide)
  have hk232:k2 < 32:=by rw[hk2];exact wiN_lt x2 32 (by decide)
  have HW0:=jD (fun (y:World)=>wiN_c x0 4 y (by decide) (by decide))
  have HW1:=jD (fun (y:World)=>wiN_c x1 16 y (by decide) (by decide))
  have HW2:=jD (fun (y:World)=>wiN_c x2 32 y (by decide) (by decide))
  rw[←hk0] at HW0
  rw[←hk1] at HW1
  rw[←hk2] at HW2
  have HK0:=jD hk04
  have HNM:=jD (names4 hk04)
  have HX0:=jD (ckeep HBR.out q0)
  have HX1:=jD (ckeep HBR.out q1)
  have HX2:=jD (ckeep HBR.out q2)
  have hgl:=HGR.out.len
  have hgl2:U.length≤k:=by have:=hgl.1;simp at this;omega
  have hgl3:C.made≤k:=by have:=hgl.2.2;simp [newS] at this;omega
  obtain⟨hez,hstep⟩:=HGR.out.step HSA.out.ok (by omega) (by omega) (sidA_ok k0) (madeB_ok hk116 hk232 (show 1≤1000000 by omega))
  obtain⟨d0,hd0⟩: ∃d0,d0=C.me:=⟨_,rfl⟩
  obtain⟨d1,hd1⟩: ∃d1,d1=C.made+1:=⟨_,rfl⟩
  obtain⟨s9,hs9⟩: ∃s9,s9=madeS C (sidA k0) k1 k2 ((1:Nat):Int):=⟨_,rfl⟩
  have HMK:=jD (fun (wx:World) (hx:SiteAt wx BB gc C)=>show Calls Tryz.prog 17 #[.pointer (some ⟨gc,0,none⟩), .string (sidA k0), .agg #[.int .i64 (k1:Nat), .int .i64 (k2:Nat)], .int .i64 1] wx fun e w'=>e= .returned (.tuple #[.agg #[.int .i64 d0, .int .i64 d1], .int .i64 0])∧SiteAt w' BB gc s9∧Stp (fun qq=>qq=gc) wx w' from
   (smake_c gc BB C (sidA k0) k1 k2 ((1:Nat):Int) wx hx).mono fun e w' hh=>by
    obtain⟨h1,h2,h3⟩:=hh
    rw[if_pos hez,if_pos hez,hez,←hd0,←hd1] at h1
    rw[←hs9] at h2
    exact⟨h1,h2,h3⟩)
  rw[←hs9] at hstep
  have HSTEP:=jD hstep
  have HS:=jD HSA.out
  have HLTG:=jD HSA.out.lt
  have HLT':=HLT
  clear HLT
  have HLT:=HLTG
  clear hez hstep hd0 hd1 hs9 hk0 hk1 hk2 q0 q1 q2 hk04 hk116 hk232 hgl hgl2 hgl3 HSA HGR HU
  go_wp2_with fail
  refine Cl2.region0 149 rfl [17,22] (fun w=>Below wr.heap.size wr w) (fun jq=>match jq with | 1=>[17,22] | 6=>[17,22] | 21=>[22] | _=>[]) (fun jq v ww=>match jq with | 0=>v= .pointer (some ⟨gc,0,none⟩) | 1=>StrRow ww wr.heap.size 4 #[.string { data:= #[97] }, .string { data:= #[98] }, .string { data:= #[99] }, .string { data:= #[100] }] v | 2=>v= .slice (some ⟨cb,coff,none⟩) cs.length uc | 3=>v= .pointer (some ⟨cb,coff,none⟩) | 4=>v= .int .i64 x0 | 5=>v= .int .i64 (k0:Nat) | 6=>StrPt ww wr.heap.size k0 #[.string { data:= #[97] }, .string { data:= #[98] }, .string { data:= #[99] }, .string { data:= #[100] }] v | 7=>v= .string (sidA k0) | 8=>v= .slice (some ⟨cb,coff,none⟩) cs.length uc | 9=>v= .pointer (some ⟨cb,coff+1,none⟩) | 10=>v= .int .i64 x1 | 11=>v= .int .i64 (k1:Nat) | 12=>v= .slice (some ⟨cb,coff,none⟩) cs.length uc | 13=>v= .pointer (some ⟨cb,coff+2,none⟩) | 14=>v= .int .i64 x2 | 15=>v= .int .i64 (k2:Nat) | 16=>v= .agg #[.int .i64 (k1:Nat), .int .i64 (k2:Nat)] | 17=>SiteAt ww BB gc s9∧v= .tuple #[.agg #[.int .i64 d0, .int .i64 d1], .int .i64 0] | 18=>v= .tuple #[.agg #[.int .i64 d0, .int .i64 d1], .int .i64 0] | 19=>v= .agg #[.int .i64 d0, .int .i64 d1] | 20=>v= .int .i64 0 | 21=>DotNew ww wr.heap.size v | 22=>DotIs ww wr.heap.size d0 d1 v | 23=>v= .int .i64 0 | _=>True) (fun ww=>Stp (fun qq=>qq=gc) wr ww) (fun jq ww ww'=>(jq≠17→jq≠22→Below ww.heap.size ww ww')∧(jq=17→Stp (fun qq=>qq=gc) ww ww')∧(jq=22→DotSet wr.heap.size ww ww')) Tryz.mixed (by decide+kernel) (Stp.refl _ _).drew ((Below.refl _ _).drew) ?_ (fun q w w' hk h hR=>bstep h (hR.1 (by intro e;subst e;exact absurd hk (by decide)) (by intro e;subst e;exact absurd hk (by decide)))) ?_ ?_
  ·intro q r v w w' hne hk hlt h hR
   match r,hk,hlt,h,hne with
   | 0,_,_,h,_=>exact h
   | 1,hk,hlt,h,hne=>
    exact h.below (hR.1 (by intro e;subst e;first | exact absurd hlt (by decide+kernel) | exact absurd rfl hne | simp at hk) (by intro e;subst e;first | exact absurd hlt (by decide+kernel) | exact absurd rfl hne | simp at hk))
   | 2,_,_,h,_=>exact h
   | 3,_,_,h,_=>exact h
   | 4,_,_,h,_=>exact h
   | 5,_,_,h,_=>exact h
   | 6,hk,hlt,h,hne=>
    exact h.below (hR.1 (by intro e;subst e;first | exact absurd hlt (by decide+kernel) | exact absurd rfl hne | simp at hk) (by intro e;subst e;first | exact absurd hlt (by decide+kernel) | exact absurd rfl hne | simp at hk))
   | 7,_,_,h,_=>exact h
   | 8,_,_,h,_=>exact h
   | 9,_,_,h,_=>exact h
   | 10,_,_,h,_=>exact h
   | 11,_,_,h,_=>exact h
   | 12,_,_,h,_=>exact h
   | 13,_,_,h,_=>exact h
   | 14,_,_,h,_=>exact h
   | 15,_,_,h,_=>exact h
   | 16,_,_,h,_=>exact h
   | 17,hk,hlt,h,hne=>
    by_cases e:q=22
    ·exact⟨h.1.dot (hR.2.2 e) (by exact HLT.out),h.2⟩
    ·exact⟨h.1.below (hR.1 (by exact hne) e),h.2⟩
   | 18,_,_,h,_=>exact h
   | 19,_,_,h,_=>exact h
   | 20,_,_,h,_=>exact h
   | 21,hk,hlt,h,hne=>
    by_cases e:q=17
    ·exact h.stp (hR.2.1 e) (by exact HLT.out)
    ·exact h.below (hR.1 e (by simpa using hk))
   | 22,hk,hlt,h,hne=>
    exact h.below (hR.1 (by intro e;subst e;first | exact absurd hlt (by decide+kernel) | exact absurd rfl hne | simp at hk) (by intro e;subst e;first | exact absurd hlt (by decide+kernel) | exact absurd rfl hne | simp at hk))
   | 23,_,_,h,_=>exact h
   | _+24,_,_,_,_=>trivial
  ·refine⟨?_, ?_, ?_, ?_, ?_, ?_, ?_, ?_, ?_, ?_, ?_, ?_, ?_, ?_, ?_, ?_, ?_, ?_, ?_, ?_, ?_, ?_, ?_, ?_,trivial⟩
   ·intro x wx hG
    have f11:=hG.o 11
    replace hG:=hG.good
    go_wp2
    exact⟨_,rfl,rfl,hG,⟨fun _ _=>Below.refl _ _,fun h=>zd h,fun h=>zd h⟩⟩
   ·intro x wx hG
    have hp:=hG.p
    replace hG:=hG.good
    go_wp2
    exact⟨_,rfl,⟨_,rfl,alloc_new _ _ _ _ rfl,hp.size⟩,hG.below (bal _),⟨fun _ _=>bal _,fun h=>zd h,fun h=>zd h⟩⟩
   ·intro x wx hG
    have f14:=hG.o 14
    replace hG:=hG.good
    go_wp2
    exact⟨_,rfl,rfl,hG,⟨fun _ _=>Below.refl _ _,fun h=>zd h,fun h=>zd h⟩⟩
   ·intro x wx hG
    have g2:(x.tmps.getD 81 undef)= .slice (some ⟨cb,coff,none⟩) cs.length uc:=hG.c 2 _ rfl
    have g2b:=gd g2
    replace hG:=hG.good
    go_wp2
    exact⟨_,rfl,rfl,hG,⟨fun _ _=>Below.refl _ _,fun h=>zd h,fun h=>zd h⟩⟩
   ·intro x wx hG
    have g3:(x.tmps.getD 82 undef)= .pointer (some ⟨cb,coff,none⟩):=hG.c 3 _ rfl
    have g3b:=gd g3
    have hp:=hG.p
    replace hG:=hG.good
    have c_HX0:=ckeep hp HX0.out
    go_wp2
    exact⟨_,rfl,rfl,hG,⟨fun _ _=>Below.refl _ _,fun h=>zd h,fun h=>zd h⟩⟩
   ·intro x wx hG
    have g4:(x.tmps.getD 83 undef)= .int .i64 x0:=hG.c 4 _ rfl
    have g4b:=gd g4
    replace hG:=hG.good
    go_wp2_with fail
    (with_reducible refine(HW0.out wx).mono ?_)
    rintro e wq ⟨rfl,hb⟩
    have HBB:=jD hb
    clear hb
    go_wp2
    exact⟨_,rfl,rfl,hG.below HBB.out,⟨fun _ _=>HBB.out,fun h=>zd h,fun h=>zd h⟩⟩
   ·intro x wx hG
    have g1:StrRow wx wr.heap.size 4 #[.string { data:= #[97] }, .string { data:= #[98] }, .string { data:= #[99] }, .string { data:= #[100] }] (x.tmps.getD 80 undef):=hG.c 1 _ rfl
    have g5:(x.tmps.getD 84 undef)= .int .i64 (k0:Nat):=hG.c 5 _ rfl
    have g5b:=gd g5
    replace hG:=hG.good
    obtain⟨q,hv,hq,hlo⟩:=g1
    have hvb:=hv
    rw[Array.getD_eq_getD_getElem?] at hvb
    have hk0:=HK0.out
    have hk1:(k0:Int) < 4:=by omega
    have HQ:=jD (And.intro hq hlo)
    clear hq hlo
    go_wp2
    exact⟨_,rfl,⟨q,by simp,HQ.out.1,HQ.out.2⟩,hG,⟨fun _ _=>Below.refl _ _,fun h=>zd h,fun h=>zd h⟩⟩
   ·intro x wx hG
    have g6:StrPt wx wr.heap.size k0 #[.string { data:= #[97] }, .string { data:= #[98] }, .string { data:= #[99] }, .string { data:= #[100] }] (x.tmps.getD 85 undef):=hG.c 6 _ rfl
    replace hG:=hG.good
    obtain⟨q,hv,hq,hlo⟩:=g6
    have hvb:=hv
    rw[Array.getD_eq_getD_getElem?] at hvb
    have hcq:=cell_of_block (j:=k0) hq HNM.out
    clear hq hlo
    go_wp2
    exact⟨_,rfl,rfl,hG,⟨fun _ _=>Below.refl _ _,fun h=>zd h,fun h=>zd h⟩⟩
   ·intro x wx hG
    have f14:=hG.o 14
    replace hG:=hG.good
    go_wp2
    exact⟨_,rfl,rfl,hG,⟨fun _ _=>Below.refl _ _,fun h=>zd h,fun h=>zd h⟩⟩
   ·intro x wx hG
    have g8:(x.tmps.getD 87 undef)= .slice (some ⟨cb,coff,none⟩) cs.length uc:=hG.c 8 _ rfl
    have g8b:=gd g8
    replace hG:=hG.good
    go_wp2
    exact⟨_,rfl,rfl,hG,⟨fun _ _=>Below.refl _ _,fun h=>zd h,fun h=>zd h⟩⟩
   ·intro x wx hG
    have g9:(x.tmps.getD 88 undef)= .pointer (some ⟨cb,coff+1,none⟩):=hG.c 9 _ rfl
    have g9b:=gd g9
    have hp:=hG.p
    replace hG:=hG.good
    have c_HX1:=ckeep hp HX1.out
    go_wp2
    exact⟨_,rfl,rfl,hG,⟨fun _ _=>Below.refl _ _,fun h=>zd h,fun h=>zd h⟩⟩
   ·intro x wx hG
    have g10:(x.tmps.getD 89 undef)= .int .i64 x1:=hG.c 10 _ rfl
    have g10b:=gd g10
    replace hG:=hG.good
    go_wp2_with fail
    (with_reducible refine(HW1.out wx).mono ?_)
    rintro e wq ⟨rfl,hb⟩
    have HBB:=jD hb
    clear hb
    go_wp2
    exact⟨_,rfl,rfl,hG.below HBB.out,⟨fun _ _=>HBB.out,fun h=>zd h,fun h=>zd h⟩⟩
   ·intro x wx hG
    have f14:=hG.o 14
    replace hG:=hG.good
    go_wp2
    exact⟨_,rfl,rfl,hG,⟨fun _ _=>Below.refl _ _,fun h=>zd h,fun h=>zd h⟩⟩
   ·intro x wx hG
    have g12:(x.tmps.getD 91 undef)= .slice (some ⟨cb,coff,none⟩) cs.length uc:=hG.c 12 _ rfl
    have g12b:=gd g12
    replace hG:=hG.good
    go_wp2
    exact⟨_,rfl,rfl,hG,⟨fun _ _=>Below.refl _ _,fun h=>zd h,fun h=>zd h⟩⟩
   ·intro x wx hG
    have g13:(x.tmps.getD 92 undef)= .pointer (some ⟨cb,coff+2,none⟩):=hG.c 13 _ rfl
    have g13b:=gd g13
    have hp:=hG.p
    replace hG:=hG.good
    have c_HX2:=ckeep hp HX2.out
    go_wp2
    exact⟨_,rfl,rfl,hG,⟨fun _ _=>Below.refl _ _,fun h=>zd h,fun h=>zd h⟩⟩
   ·intro x wx hG
    have g14:(x.tmps.getD 93 undef)= .int .i64 x2:=hG.c 14 _ rfl
    have g14b:=gd g14
    replace hG:=hG.good
    go_wp2_with fail
    (with_reducible refine(HW2.out wx).mono ?_)
    rintro e wq ⟨rfl,hb⟩
    have HBB:=jD hb
    clear hb
    go_wp2
    exact⟨_,rfl,rfl,hG.below HBB.out,⟨fun _ _=>HBB.out,fun h=>zd h,fun h=>zd h⟩⟩
   ·intro x wx hG
    have g11:(x.tmps.getD 90 undef)= .int .i64 (k1:Nat):=hG.c 11 _ rfl
    have g11b:=gd g11
    have g15:(x.tmps.getD 94 undef)= .int .i64 (k2:Nat):=hG.c 15 _ rfl
    have g15b:=gd g15
    replace hG:=hG.good
    go_wp2
    exact⟨_,rfl,rfl,hG,⟨fun _ _=>Below.refl _ _,fun h=>zd h,fun h=>zd h⟩⟩
   ·intro x wx hG
    have g0:(x.tmps.getD 79 undef)= .pointer (some ⟨gc,0,none⟩):=hG.c 0 _ rfl
    have g0b:=gd g0
    have g7:(x.tmps.getD 86 undef)= .string (sidA k0):=hG.c 7 _ rfl
    have g7b:=gd g7
    have g16:(x.tmps.getD 95 undef)= .agg #[.int .i64 (k1:Nat), .int .i64 (k2:Nat)]:=hG.c 16 _ rfl
    have g16b:=gd g16
    have hp:=hG.p
    replace hG:=hG.good
    have HN:=jD (HMK.out wx (HS.out.below hp))
    go_wp2_with fail
    (with_reducible refine(HN.out).mono ?_)
    rintro e wq ⟨rfl,h1,h2⟩
    have H1:=jD h1
    have H2:=jD h2
    clear h1 h2 HN
    go_wp2
    exact⟨_,rfl,⟨H1.out,rfl⟩,hG.trans H2.out,⟨fun h _=>absurd rfl h,fun _=>H2.out,fun h=>zd h⟩⟩
   ·intro x wx hG
    have g17:SiteAt wx BB gc s9∧(x.tmps.getD 96 undef)= .tuple #[.agg #[.int .i64 d0, .int .i64 d1], .int .i64 0]:=hG.c 17 _ rfl
    replace hG:=hG.good
    have g17v:=g17.2
    have g17vb:=g17v
    rw[Array.getD_eq_getD_getElem?] at g17vb
    go_wp2
    exact⟨_,rfl,rfl,hG,⟨fun _ _=>Below.refl _ _,fun h=>zd h,fun h=>zd h⟩⟩
   ·intro x wx hG
    have g18:(x.tmps.getD 78 undef)= .tuple #[.agg #[.int .i64 d0, .int .i64 d1], .int .i64 0]:=hG.c 18 _ rfl
    have g18b:=gd g18
    replace hG:=hG.good
    go_wp2
    exact⟨_,rfl,rfl,hG,⟨fun _ _=>Below.refl _ _,fun h=>zd h,fun h=>zd h⟩⟩
   ·intro x wx hG
    have g18:(x.tmps.getD 78 undef)= .tuple #[.agg #[.int .i64 d0, .int .i64 d1], .int .i64 0]:=hG.c 18 _ rfl
    have g18b:=gd g18
    replace hG:=hG.good
    go_wp2
    exact⟨_,rfl,rfl,hG,⟨fun _ _=>Below.refl _ _,fun h=>zd h,fun h=>zd h⟩⟩
   ·intro x wx hG
    replace hG:=hG.good
    go_wp2
    exact⟨_,rfl,⟨_,rfl,alloc_new _ _ _ _ rfl,hG.size⟩,hG.below (bal _),⟨fun _ _=>bal _,fun h=>zd h,fun h=>zd h⟩⟩
   ·intro x wx hG
    have g21:DotNew wx wr.heap.size (x.tmps.getD 15 undef):=hG.c 21 _ rfl
    have g19:(x.tmps.getD 97 undef)= .agg #[.int .i64 d0, .int .i64 d1]:=hG.c 19 _ rfl
    have g19b:=gd g19
    replace hG:=hG.good
    obtain⟨q,hv,hq,hlo⟩:=g21
    have HV:=jD hv
    have hvb:=hv
    rw[Array.getD_eq_getD_getElem?] at hvb
    have gxb:=g19
    rw[Array.getD_eq_getD_getElem?] at gxb
    have r0:=cell_of_block (j:=0) hq rfl
    have r1:=cell_of_block (j:=1) hq rfl
    have q0:=free_of_block (j:=0) hq
    have q1:=free_of_block (j:=1) hq
    have hRl:=hlt_of hq
    have HQ:=jD hq
    have HLO:=jD hlo
    clear hq hlo
    go_wp2
    exact⟨undef,rfl,⟨q,Eq.trans (by kernel_rfl) HV.out,by rw[heap_set_same (heap_set_same HQ.out)];rfl,HLO.out⟩,DotSet.stp hG ⟨q,_,_,HLO.out,HQ.out,rfl⟩,⟨fun _ h=>absurd rfl h,fun h=>zd h,fun _=>⟨q,_,_,HLO.out,HQ.out,rfl⟩⟩⟩
   ·intro x wx hG
    have g20:(x.tmps.getD 98 undef)= .int .i64 0:=hG.c 20 _ rfl
    have g20b:=gd g20
    replace hG:=hG.good
    go_wp2
    exact⟨_,rfl,rfl,hG,⟨fun _ _=>Below.refl _ _,fun h=>zd h,fun h=>zd h⟩⟩
  ·intro vals w9 hg hF
   obtain⟨g0,g1,g2,g3,g4,g5,g6,g7,g8,g9,g10,g11,g12,g13,g14,g15,g16,g17,g18,g19,g20,g21,g22,g23, -⟩:=hF
   have e0:=gq (vals 0) g0
   have e2:=gq (vals 2) g2
   have e3:=gq (vals 3) g3
   have e4:=gq (vals 4) g4
   have e5:=gq (vals 5) g5
   have e7:=gq (vals 7) g7
   have e8:=gq (vals 8) g8
   have e9:=gq (vals 9) g9
   have e10:=gq (vals 10) g10
   have e11:=gq (vals 11) g11
   have e12:=gq (vals 12) g12
   have e13:=gq (vals 13) g13
   have e14:=gq (vals 14) g14
   have e15:=gq (vals 15) g15
   have e16:=gq (vals 16) g16
   replace g17:SiteAt w9 BB gc s9∧(vals 17)= .tuple #[.agg #[.int .i64 d0, .int .i64 d1], .int .i64 0]:=g17 rfl
   have e18:=gq (vals 18) g18
   have e19:=gq (vals 19) g19
   have e20:=gq (vals 20) g20
   have g22:=g22 rfl
   have e23:=gq (vals 23) g23
   simp only[Cl2.puts,e0,e2,e3,e4,e5,e7,e8,e9,e10,e11,e12,e13,e14,e15,e16,e18,e19,e20,e23]
   clear e0 e2 e3 e4 e5 e7 e8 e9 e10 e11 e12 e13 e14 e15 e16 e18 e19 e20 e23 g0 g1 g2 g3 g4 g5 g6 g7 g8 g9 g10 g11 g12 g13 g14 g15 g16 g18 g19 g20 g21 g23
   go_simp
   generalize vals 17=mk9 at*
   have HSA:=jD g17.1
   have HST2:=jD (HST.out.trans hg)
   clear g17 hg c1
   generalize vals 1=j1 at*
   generalize vals 6=j6 at*
   generalize vals 21=j9 at*
   go_wp2
   go_roundw
   case rel=>exact ⟨k+1,by omega,by go_num,_,s9,HSTEP.out,HSA.out,HST2.out⟩
   case measure=>simp [intOf] <;> omega
end Go.Proofs.YtgkgdedhicnohaaGreat
