/- What SiteWants does. Written by a small program (gen/sl.py). -/
import Derived.Test.YtgkgdedhicnohaaGreatRef9
import Derived.Test.YtgkgdedhicnohaaGreatTown0
namespace Go.Proofs.YtgkgdedhicnohaaGreat
set_option maxRecDepth 100000
set_option maxHeartbeats 40000000
open Go.RowKit
theorem filt_snoc {p:Ver→Bool} (L:List Ver) (v:Ver):(L++[v]).filter p=if p v=true then L.filter p++[v] else L.filter p:=by
 rw[List.filter_append]
 split
 ·rename_i h;rw [List.filter_cons_of_pos (by exact h),List.filter_nil]
 ·rename_i h;rw [List.filter_cons_of_neg (by exact h),List.filter_nil,List.append_nil]
structure WantsOk (a b a1:SiteS) (q:Nat→Nat→Bool):Prop where
 e:tookE a (syncB a b)=0
 st:a1.stamp=0
 me:a1.me=0
 len:(knownS a1).length≤30
 len2:(knownS (wantS a1 q)).length≤30
 kn: ∀t n i:Nat,t < 16→n < 32→1≤i→i≤1000→knowsS (knownS a1) t n ((1:Nat):Int) i=knowsS a1.S t n ((1:Nat):Int) i
 now: ∀t n i:Nat,t < 16→n < 32→1≤i→i≤1000→knowsS (knownS (wantS a1 q)) t n ((1:Nat):Int) i=(knowsS a1.S t n ((1:Nat):Int) i&&q t n)
theorem wants_ok {U:List Ver} {a b:SiteS} {q:Nat→Nat→Bool} (hU:Uni U) (ha:SiteOk a) (hb:SiteOk b) (haU: ∀x∈a.L,x∈U) (hbU: ∀x∈b.L,x∈U) (hla:a.S=[]) (hlb:b.S=[]) (hma:a.me=0) (hst:a.stamp=0):
  WantsOk a b (tookS a (syncB a b)) q:=by
 have h:=sync_took hU ha hb haU hbU (by rw[hla,hlb];decide)
 have ok1:SiteOk (tookS a (syncB a b)):=tookS_ok ha (syncB_ok ha hb)
 have e2:=h.me
 have e3:=h.stamp
 have e4:=h.e
 generalize tookS a (syncB a b)=a1 at*
 have hs1:a1.stamp=0:=by rw[e3,hst]
 have hm1:a1.me=0:=by rw[e2,hma]
 have ok2:SiteOk (wantS a1 q):=wantS_ok ok1 q (by omega)
 refine⟨e4,hs1,hm1,ok1.klen,ok2.klen,fun t n i ht hn h1 h2=> ?_,fun t n i ht hn h1 h2=> ?_⟩
 ·rw[knows_known ok1 ht hn (by decide) (by decide) (by omega) (by omega),hm1,decide_eq_false (show ¬((1:Nat):Int)=0 by decide),Bool.false_and,Bool.false_or]
 ·rw[knows_known ok2 ht hn (by decide) (by decide) (by omega) (by omega)]
  show((decide (((1:Nat):Int)=a1.me)&&decide ((i:Int)≤a1.made)) || knowsS (narrowS a1.S q) t n ((1:Nat):Int) i)=_
  rw[hm1,decide_eq_false (show ¬((1:Nat):Int)=0 by decide),Bool.false_and,Bool.false_or,narrow_knows ok1.S t n _ _ ht hn (by decide) (by decide) (by omega) (by omega)]
theorem SiteWants_walk (fv gv lv mv:Value) (F G:Bxs) (l m:List (List Int)) (pt pn:Int) (w:World) (hF:BxsAt w fv F) (hG:BxsAt w gv G) (hl:RowAt vecE w lv l) (hm:RowAt vecE w mv m):
  Calls Tryz.prog 7 #[fv,gv,lv,mv, .agg #[.int .i64 pt, .int .i64 pn]] w fun e w'=>e= .returned (.bool true)∧Below w.heap.size w w':=by
 obtain⟨fa,fc,rfl⟩:=hF.shape
 obtain⟨ga0,gc0,rfl⟩:=hG.shape
 obtain⟨la,lc,rfl⟩:=hl.shape
 obtain⟨ma,mc,rfl⟩:=hm.shape
 have HF:=jD hF
 have HG:=jD hG
 have HL:=jD hl
 have HM:=jD hm
 clear hF hG hl hm
 obtain⟨B9,hB9⟩: ∃B,B=w.heap.size:=⟨_,rfl⟩
 obtain⟨W0,hW0⟩: ∃W0,W0=w.alloc (.cells #[.int .i64 pt, .int .i64 pn] 39):=⟨_,rfl⟩
 have HP9:=jD (show W0.heap[B9]? =some (Obj.cells #[.int .i64 pt, .int .i64 pn] 39 (0,0)) by rw[hW0];exact alloc_new _ _ _ _ hB9)
 have HW0:=jD hW0
 have HB9:=jD hB9
 have hb:=jD (show Below w.heap.size w W0 by rw[hW0];exact bal _)
 clear hW0 hB9
 have LW:=jD (Lw.refl w)
 replace LW:=jD (LW.out.below hb.out)
 clear hb
 go_enter Tryz.func7,Tryz.ntmps7
 go_wp2_with fail
 rw[←HW0.out,←HB9.out]
 clear HW0 HB9
 (with_reducible refine(siteBegun_c W0).mono ?_)
 rintro e w1 ⟨rfl,hb⟩
 replace HP9:=jD (below_keep hb HP9.out)
 replace LW:=jD (LW.out.below hb)
 clear hb
 go_wp2_with fail
 (with_reducible refine(fChk_c _ F w1 (BxsAt.sub HF.out LW.out.sub)).mono ?_)
 rintro e w2 ⟨rfl,hb⟩
 replace HP9:=jD (below_keep hb HP9.out)
 replace LW:=jD (LW.out.below hb)
 clear hb
 by_cases hz:fChk F=0
 rotate_left
 ·have hd:decide (fChk F=0)=false:=by simpa using hz
  have hd2:(fChk F != 0)=true:=bne_iff_ne.2 hz
  have HB:=jD LW.out.toBelow
  go_wp2
  go_ret
  exact⟨rfl,HB.out⟩
 have ZF:=jD hz
 rw[hz]
 clear hz
 go_wp2_with fail
 (with_reducible refine(fChk_c _ G w2 (BxsAt.sub HG.out LW.out.sub)).mono ?_)
 rintro e w3 ⟨rfl,hb⟩
 replace HP9:=jD (below_keep hb HP9.out)
 replace LW:=jD (LW.out.below hb)
 clear hb
 by_cases hz:fChk G=0
 rotate_left
 ·have hd:decide (fChk G=0)=false:=by simpa using hz
  have hd2:(fChk G != 0)=true:=bne_iff_ne.2 hz
  have HB:=jD LW.out.toBelow
  go_wp2
  go_ret
  exact⟨rfl,HB.out⟩
 have ZG:=jD hz
 rw[hz]
 clear hz
 have k0:=cell_of_block (j:=0) HP9.out rfl
 have k1:=cell_of_block (j:=1) HP9.out rfl
 go_wp2_with fail
 (with_reducible refine(point_c pt pn w3).mono ?_)
 rintro e w4 ⟨rfl,hb⟩
 replace HP9:=jD (below_keep hb HP9.out)
 replace LW:=jD (LW.out.below hb)
 clear hb k0 k1
 cases hpt:ptOk pt pn
 ·have HB:=jD LW.out.toBelow
  go_wp2
  go_ret
  exact⟨rfl,HB.out⟩
 obtain⟨r1,r2,r3,r4⟩:=pt_rng hpt
 obtain⟨t,ht⟩: ∃t:Nat,pt=(t:Int):=⟨pt.toNat,by omega⟩
 obtain⟨n,hn⟩: ∃n:Nat,pn=(n:Int):=⟨pn.toNat,by omega⟩
 subst ht
 subst hn
 have HT16:=jD (show t < 16 by omega)
 have HN32:=jD (show n < 32 by omega)
 have HPT:=jD hpt
 clear hpt r1 r2 r3 r4
 go_wp2_with fail
 (with_reducible refine(everyS w4).mono ?_)
 rintro e w5 ⟨ev,rfl,hev,hb⟩
 obtain⟨eva,evc,hev⟩:=(hev.at_ok every_chk).shape
 subst hev
 have HEVev:=jD hev
 replace HP9:=jD (below_keep hb HP9.out)
 replace LW:=jD (LW.out.below hb)
 clear hb hev
 go_wp2_with fail
 (with_reducible refine(stwo_c _ _ F everyB w5 (BxsAt.sub HF.out LW.out.sub) (HEVev.out.at_ok every_chk) ZF.out every_chk).mono ?_)
 rintro e w6 ⟨ga,gb,rfl,hsa,hsb,hlt,hb⟩
 have HS0:=jD LW.out.size
 have SA:=jD (SiteAt.mono hsa HS0.out)
 have SB:=jD (SiteAt.mono hsb HS0.out)
 have GEga:=jD SA.out.ge
 have GEgb:=jD SB.out.ge
 have NEgagb:=jD hlt
 have HLSAP:=jD (show B9 < ga from Nat.lt_of_lt_of_le (hlt_of HP9.out) hsa.ge)
 have HLSBP:=jD (show B9 < gb from Nat.lt_of_lt_of_le (hlt_of HP9.out) hsb.ge)
 clear hsa hsb hlt HS0
 replace HP9:=jD (below_keep hb HP9.out)
 replace HEVev:=jD (BxsOwn.below HEVev.out hb)
 replace LW:=jD (LW.out.below hb)
 clear hb
 clear HEVev
 have HMA:=jD (show(newS 0 (ptsOf F)).made≤900 from(by decide:(0:Int)≤900))
 have HMB:=jD (show(newS 1 (ptsOf everyB)).made≤900 from(by decide:(0:Int)≤900))
 have M0:=jD (made_new [] 0 (ptsOf F) Hx.nil (by simp))
 go_wp2_with fail
 (with_reducible refine(smakes_c ga _ (newS 0 (ptsOf F)) [] _ m w6 SA.out M0.out (by simp) HMA.out (fun w' hs=>HM.out.sub (LW.out.one hs GEga.out).sub)).mono ?_)
 rintro e w7 ⟨U1,s1,rfl,hgr,hs,hp⟩
 have Gs1:=jD hgr
 clear hgr
 replace SA:=jD hs
 replace HP9:=jD (hp.block HP9.out (by have:=HLSAP.out;omega))
 replace SB:=jD (SB.out.stp hp (fun e=>by have:=NEgagb.out;omega))
 replace LW:=jD (LW.out.one hp GEga.out)
 clear hs hp
 have M1:=jD (made_other Gs1.out 1 (ptsOf everyB) (by exact(by decide:(0:Int)≠1)))
 have HU1:=jD (show U1.length≤47 by have:=Gs1.out.len.1;simp at this;omega)
 go_wp2_with fail
 (with_reducible refine(smakes_c gb _ (newS 1 (ptsOf everyB)) U1 _ l w7 SB.out M1.out HU1.out HMB.out (fun w' hs=>HL.out.sub (LW.out.one hs GEgb.out).sub)).mono ?_)
 rintro e w8 ⟨U2,s2,rfl,hgr,hs,hp⟩
 have Gs2:=jD hgr
 clear hgr
 replace SB:=jD hs
 replace HP9:=jD (hp.block HP9.out (by have:=HLSBP.out;omega))
 replace SA:=jD (SA.out.stp hp (fun e=>by have:=NEgagb.out;omega))
 replace LW:=jD (LW.out.one hp GEgb.out)
 clear hs hp
 have HUN:=jD (show Uni U2 from Gs2.out.made.hx.uni (by have h1:=Gs1.out.len.1;have h2:=Gs2.out.len.1;simp at h1;omega))
 have HSUB:=jD (show ∀x∈s1.L,x∈U2 from fun x hx=>Gs2.out.sub_of x (Gs1.out.made.sub x hx))
 have HB12:=jD (show s2.made≤12 by have:=Gs2.out.len.2.2;simp [newS] at this;omega)
 have HKO:=jD (wants_ok (q:=ptsOf G) HUN.out SA.out.ok SB.out.ok HSUB.out Gs2.out.made.sub Gs1.out.S Gs2.out.S Gs1.out.me Gs1.out.stamp)
 have HMB0:=jD SB.out.ok.made.1
 go_wp2_with fail
 (with_reducible refine(sync_ok ga gb _ s1 s2 w8 SA.out SB.out (by have:=NEgagb.out;omega) HKO.out.e).mono ?_)
 rintro e w9 ⟨rfl,hs,hr,hp⟩
 replace SA:=jD hs
 replace SB:=jD hr
 replace HP9:=jD (hp.block HP9.out (by have:=HLSAP.out;omega))
 replace LW:=jD (LW.out.one hp GEga.out)
 clear hs hr hp
 generalize ha1:tookS s1 (syncB s1 s2)=a1 at*
 have HEa1:=jD ha1
 clear ha1
 have HL1:=jD SA.out.ok.L
 go_wp2_with fail
 (with_reducible refine(sshelf_c ga _ _ w9 SA.out).mono ?_)
 rintro e w10 ⟨sha,shc,rfl,hv,hb⟩
 have shV:=jD (VOwn.mono hv (Nat.zero_le _))
 replace HP9:=jD (below_keep hb HP9.out)
 replace SA:=jD (SA.out.below hb)
 replace SB:=jD (SB.out.below hb)
 replace LW:=jD (LW.out.below hb)
 clear hv hb
 have HK30:=jD HKO.out.len
 have HK31:=jD HKO.out.len2
 go_wp2_with fail
 (with_reducible refine(parts_c ga _ a1 w10 SA.out).mono ?_)
 rintro e w11 ⟨pv,rfl,hpv,hb⟩
 obtain⟨AP,hA1,hA2,hA3⟩:=hpv
 have hA30:AP.length≤30:=by have:=HK30.out;rw [←hA3,List.length_map] at this;exact this
 obtain⟨pa,pc,hpv⟩:=hA1.shape
 subst hpv
 have HA3:=jD hA3
 have HMEAN:=jD (rmean_o _ AP w11 (hA1.at_ (fun z hz=>(hA2 z hz).1) (by omega)) (fun z hz=>(hA2 z hz).1) hA30)
 have HAL:=jD hA30
 clear hA1 hA2 hA3 hA30
 replace HP9:=jD (below_keep hb HP9.out)
 replace SA:=jD (SA.out.below hb)
 replace SB:=jD (SB.out.below hb)
 replace shV:=jD (VOwn.below shV.out hb)
 replace LW:=jD (LW.out.below hb)
 clear hb
 go_wp2_with fail
 (with_reducible refine(HMEAN.out).mono ?_)
 rintro e w12 ⟨KRa,KRc,KR,rfl,hrow,hlen,hmean,hb⟩
 replace HP9:=jD (below_keep hb HP9.out)
 replace SA:=jD (SA.out.below hb)
 replace SB:=jD (SB.out.below hb)
 replace shV:=jD (VOwn.below shV.out hb)
 replace LW:=jD (LW.out.below hb)
 have HKRW:=jD (mean_word hlen hmean)
 have HKR30:=jD (show KR.length≤30 by have:=HAL.out;omega)
 have HKRK:=jD (fun (s c:Nat) (hs:s < 5) (h1:1≤c) (hc:c < 1024)=>show mnK KR t n s c=knowsS (knownS a1) t n s c by rw[mean_knows hlen hmean HT16.out HN32.out hs h1 hc,HA3.out])
 have HKRR:=jD hrow
 clear hb hrow hlen hmean HMEAN HA3 HAL
 have HTY:=jD SA.out.ty
 go_wp2_with fail
 (with_reducible refine(swant_c ga _ a1 _ G w12 SA.out (fun w' hs=>BxsAt.sub HG.out (LW.out.one hs GEga.out).sub) ZG.out (by rw[HKO.out.st];decide)).mono ?_)
 rintro e w13 ⟨rfl,hs,hp⟩
 replace HKRR:=jD (owns_stp HKRR.out hp (fun q cs hq hc=>by subst hq;obtain ⟨ds,hd⟩:=HTY.out;exact absurd (heap_ty hc hd) (by decide)))
 replace SA:=jD hs
 replace HP9:=jD (hp.block HP9.out (by have:=HLSAP.out;omega))
 replace SB:=jD (SB.out.stp hp (fun e=>by have:=NEgagb.out;omega))
 replace shV:=jD (VOwn.stp shV.out hp)
 replace LW:=jD (LW.out.one hp GEga.out)
 clear hs hp
 clear HTY
 generalize hg9:wantS a1 (ptsOf G)=a2 at*
 have HEa2:=jD hg9
 clear hg9
 have HA1K:=jD (fun (i:Nat) (h1:1≤i) (h2:i≤1000)=>HKO.out.kn t n i HT16.out HN32.out h1 h2)
 have HA2K:=jD (fun (i:Nat) (h1:1≤i) (h2:i≤1000)=>show knowsS (knownS a2) t n ((1:Nat):Int) i=(knowsS a1.S t n ((1:Nat):Int) i&&ptsOf G t n) from by rw[←HEa2.out];exact HKO.out.now t n i HT16.out HN32.out h1 h2)
 have HK32:=jD (show(knownS a2).length≤30 from HK31.out)
 have HKB:=jD (show a2.L=a1.L.filter (keepB a1 (ptsOf G)) by rw[←HEa2.out];rfl)
 have HME:=jD HKO.out.me
 have HST:=jD (show a2.stamp=1 by rw[←HEa2.out];show a1.stamp+1=1;rw [HKO.out.st];rfl)
 have HLO:=jD (show ShOk a1.L from HL1.out)
 obtain⟨p,hp⟩: ∃p,p=keepB a1 (ptsOf G):=⟨_,rfl⟩
 rw[←hp] at HKB
 have HPD:=jD hp
 generalize a1.L=L1 at*
 clear hp HK30 HK31 HKO Gs1 Gs2 HUN HSUB M0 M1 HU1 HMA HMB
 have HL60:=jD HLO.out.len
 have HWR:=jD (shV.out.at_ (shok_bd HLO.out.ok) (by have:=HL60.out;omega))
 replace HKRR:=jD (mn_row HKRR.out HKR30.out)
 have HGS:=jD (BxsAt.sub HG.out LW.out.sub)
 obtain⟨sha',shc',hsh', -, -, -,hvl⟩:=HWR.out.open_
 simp only[Value.slice.injEq] at hsh'
 obtain⟨rfl, -,rfl⟩:=hsh'
 have HVL:=jD hvl
 clear hvl
 go_wp2
 clear shV
 go_loopw [83,16] (fun i ov wr=> ∃k:Nat,k≤L1.length∧i= .int .i64 k∧RowOwn verE w13 wr w13.heap.size 75 ov ((L1.take k).filter p)∧Below w13.heap.size w13 wr) (fun i _ _=>L1.length - (intOf i).toNat)
 case atStart=>exact ⟨0,Nat.zero_le _,rfl,RowOwn.nil _ _ _ _,Below.refl _ _⟩
 case round=>
  obtain⟨k,hk,rfl,hown,hbl⟩:=hrel
  obtain⟨oa,oc,hov⟩:=hown.shape
  subst hov
  have HOW:=jD hown
  have HBL:=jD hbl
  by_cases hlt:k < L1.length
  rotate_left
  ·obtain rfl:k=L1.length:=by omega
   rw[List.take_length] at HOW
   have hkb:decide ((L1.length:Int) < (L1.length:Int))=false:=by simp
   have hwl:(L1.filter p).length≤L1.length:=List.length_filter_le _ _
   have HWANT:=jD (HOW.out.at_ (Sub.of_below hbl) (by have:=HL60.out;omega))
   clear hown HOW HWR HVL HGS
   rw[List.take_length]
   have hb:=hbl
   clear hbl HBL
   replace HP9:=jD (below_keep hb HP9.out)
   replace SB:=jD (SB.out.below hb)
   replace SA:=jD (SA.out.below hb)
   replace HKRR:=jD (RowAt.below HKRR.out hb)
   replace LW:=jD (LW.out.below hb)
   clear hb hwl
   go_wp2_with fail
   (with_reducible refine(parts_c ga _ a2 wr SA.out).mono ?_)
   rintro e w14 ⟨pv,rfl,hpv,hb⟩
   obtain⟨AP,hA1,hA2,hA3⟩:=hpv
   have hA30:AP.length≤30:=by have:=HK32.out;rw [←hA3,List.length_map] at this;exact this
   obtain⟨pa,pc,hpv⟩:=hA1.shape
   subst hpv
   have HA3:=jD hA3
   have HMEAN:=jD (rmean_o _ AP w14 (hA1.at_ (fun z hz=>(hA2 z hz).1) (by omega)) (fun z hz=>(hA2 z hz).1) hA30)
   have HAL:=jD hA30
   clear hA1 hA2 hA3 hA30
   replace HP9:=jD (below_keep hb HP9.out)
   replace SB:=jD (SB.out.below hb)
   replace SA:=jD (SA.out.below hb)
   replace HKRR:=jD (RowAt.below HKRR.out hb)
   replace HWANT:=jD (RowAt.below HWANT.out hb)
   replace LW:=jD (LW.out.below hb)
   clear hb
   go_wp2_with fail
   (with_reducible refine(HMEAN.out).mono ?_)
   rintro e w15 ⟨KNa,KNc,KN,rfl,hrow,hlen,hmean,hb⟩
   replace HP9:=jD (below_keep hb HP9.out)
   replace SB:=jD (SB.out.below hb)
   replace SA:=jD (SA.out.below hb)
   replace HKRR:=jD (RowAt.below HKRR.out hb)
   replace HWANT:=jD (RowAt.below HWANT.out hb)
   replace LW:=jD (LW.out.below hb)
   have HKNW:=jD (mean_word hlen hmean)
   have HKN30:=jD (show KN.length≤30 by have:=HAL.out;omega)
   have HKNK:=jD (fun (s c:Nat) (hs:s < 5) (h1:1≤c) (hc:c < 1024)=>show mnK KN t n s c=knowsS (knownS a2) t n s c by rw[mean_knows hlen hmean HT16.out HN32.out hs h1 hc,HA3.out])
   have HKNR:=jD hrow
   clear hb hrow hlen hmean HMEAN HA3 HAL
   replace HKNR:=jD (mn_row HKNR.out HKN30.out)
   obtain⟨X,hX⟩: ∃X,X=ptsOf G t n:=⟨_,rfl⟩
   have HX:=jD hX
   clear hX
   have k0:=cell_of_block (j:=0) HP9.out rfl
   have k1:=cell_of_block (j:=1) HP9.out rfl
   go_wp2_with fail
   (with_reducible refine(hasf_c _ G t n w15 (BxsAt.sub HG.out LW.out.sub)).mono ?_)
   rintro e w16 ⟨rfl,hb⟩
   rw[(hasB_pts9 ZG.out HPT.out).1,(hasB_pts9 ZG.out HPT.out).2,←HX.out]
   replace HP9:=jD (below_keep hb HP9.out)
   replace SB:=jD (SB.out.below hb)
   replace SA:=jD (SA.out.below hb)
   replace HKRR:=jD (RowAt.below HKRR.out hb)
   replace HWANT:=jD (RowAt.below HWANT.out hb)
   replace HKNR:=jD (RowAt.below HKNR.out hb)
   replace LW:=jD (LW.out.below hb)
   clear hb k0 k1
   obtain⟨tn,htn⟩: ∃tn:Nat,s2.made=(tn:Int):=⟨s2.made.toNat,by have:=HMB0.out;omega⟩
   have HTN:=jD htn
   have htn12:tn≤12:=by have:=HB12.out;omega
   clear htn
   go_wp2_with fail
   (with_reducible refine(smade_c gb _ s2 w16 SB.out).mono ?_)
   rintro e w17 ⟨rfl,hb⟩
   rw[HTN.out]
   replace HP9:=jD (below_keep hb HP9.out)
   replace SB:=jD (SB.out.below hb)
   replace SA:=jD (SA.out.below hb)
   replace HKRR:=jD (RowAt.below HKRR.out hb)
   replace HWANT:=jD (RowAt.below HWANT.out hb)
   replace HKNR:=jD (RowAt.below HKNR.out hb)
   replace LW:=jD (LW.out.below hb)
   clear hb
   have CKR:=jD (fun (wx:World) (c:Nat) (b:Bool) (h1:1≤c) (hc:c < 1000) (hwx:Below w17.heap.size w17 wx) (hb:knowsS (knownS a1) t n ((1:Nat):Int) c=b)=>show Calls Tryz.prog 46 #[.slice KRa KR.length KRc, .agg #[.int .i64 t, .int .i64 n], .agg #[.int .i64 1, .int .i64 (c:Int)]] wx fun e w'=>e= .returned (.bool b)∧Below wx.heap.size wx w' from by
    have h:=rknows_c _ KR t n 1 c wx (HKRR.out.below hwx) HKRW.out HT16.out HN32.out (by decide) (by omega)
    rw[HKRK.out 1 c (by decide) h1 (by omega),hb] at h
    exact h)
   have CKN:=jD (fun (wx:World) (c:Nat) (b:Bool) (h1:1≤c) (hc:c < 1000) (hwx:Below w17.heap.size w17 wx) (hb:knowsS (knownS a2) t n ((1:Nat):Int) c=b)=>show Calls Tryz.prog 46 #[.slice KNa KN.length KNc, .agg #[.int .i64 t, .int .i64 n], .agg #[.int .i64 1, .int .i64 (c:Int)]] wx fun e w'=>e= .returned (.bool b)∧Below wx.heap.size wx w' from by
    have h:=rknows_c _ KN t n 1 c wx (HKNR.out.below hwx) HKNW.out HT16.out HN32.out (by decide) (by omega)
    rw[HKNK.out 1 c (by decide) h1 (by omega),hb] at h
    exact h)
   have HPB:=jD HP9.out
   go_wp2
   go_loopw [26] (fun i wr=> ∃k:Nat,1≤k∧k≤tn+1∧i= .int .i64 k∧Below w17.heap.size w17 wr) (fun i _=>tn+1 - (intOf i).toNat)
   case atStart=>exact ⟨1,by omega,by omega,rfl,Below.refl _ _⟩
   case round=>
    obtain⟨k,hk1,hk,rfl,hbl⟩:=hrel
    have HBL:=jD hbl
    have hkI:(k:Int)≤13:=by omega
    by_cases hlt:k≤tn
    rotate_left
    ·have hkb:decide ((k:Int)≤(tn:Int))=false:=by simp;omega
     have hb:=hbl
     clear hbl HBL HPB CKR CKN
     clear HP9 HKRR HKNR
     replace SB:=jD (SB.out.below hb)
     replace SA:=jD (SA.out.below hb)
     replace HWANT:=jD (RowAt.below HWANT.out hb)
     replace LW:=jD (LW.out.below hb)
     clear hb
     go_wp2_with fail
     (with_reducible refine(smade_c ga _ a2 wr SA.out).mono ?_)
     rintro e w18 ⟨rfl,hb⟩
     rw[HST.out]
     replace SB:=jD (SB.out.below hb)
     replace SA:=jD (SA.out.below hb)
     replace HWANT:=jD (RowAt.below HWANT.out hb)
     replace LW:=jD (LW.out.below hb)
     clear hb
     go_wp2_with fail
     (with_reducible refine(sshelf_c ga _ _ w18 SA.out).mono ?_)
     rintro e w19 ⟨ya,yc,rfl,hv,hb⟩
     have yV:=jD (VOwn.mono hv (Nat.zero_le _))
     replace SB:=jD (SB.out.below hb)
     replace SA:=jD (SA.out.below hb)
     replace HWANT:=jD (RowAt.below HWANT.out hb)
     replace LW:=jD (LW.out.below hb)
     clear hv hb
     have hao:=SA.out.ok.L
     have HSM:=jD (sameS_c _ _ a2.L (L1.filter p) w19 (yV.out.at_ (shok_bd hao.ok) (by have:=hao.len;omega)) HWANT.out)
     clear hao
     clear yV
     go_wp2_with fail
     (with_reducible refine(HSM.out).mono ?_)
     rintro e w20 ⟨q,rfl,hq,hb⟩
     obtain rfl:q=true:=hq.2 HKB.out
     clear hq HSM HWANT
     replace SB:=jD (SB.out.below hb)
     replace SA:=jD (SA.out.below hb)
     replace LW:=jD (LW.out.below hb)
     clear hb
     have HB:=jD LW.out.toBelow
     go_wp2
     go_ret
     exact⟨rfl,HB.out⟩
    have hkb:decide ((k:Int)≤(tn:Int))=true:=by simp;omega
    have hbx:=bal (W:=wr) (.cells #[.int .i64 1, .int .i64 k] 41)
    have HBX:=jD (bstep hbl hbx)
    have hpb:=below_keep HBX.out HPB.out
    have k0:=cell_of_block (j:=0) hpb rfl
    have k1:=cell_of_block (j:=1) hpb rfl
    have d0:(wr.alloc (.cells #[.int .i64 1, .int .i64 k] 41)).cell? ⟨wr.heap.size,0,none⟩=some (.int .i64 1):=cell_of_block (j:=0) (alloc_new _ _ _ _ rfl) rfl
    have d1:(wr.alloc (.cells #[.int .i64 1, .int .i64 k] 41)).cell? ⟨wr.heap.size,1,none⟩=some (.int .i64 k):=cell_of_block (j:=1) (alloc_new _ _ _ _ rfl) rfl
    have HDB:=jD (show(wr.alloc (.cells #[.int .i64 1, .int .i64 k] 41)).heap[wr.heap.size]? =some (Obj.cells #[.int .i64 1, .int .i64 k] 41 (0,0)) from alloc_new _ _ _ _ rfl)
    obtain⟨KB,hKB⟩: ∃KB,KB=knowsS a1.S t n ((1:Nat):Int) k:=⟨_,rfl⟩
    have HKBB:=jD hKB
    clear hpb hbx hbl hKB
    obtain⟨W5,hW5⟩: ∃W5,W5=wr.alloc (.cells #[.int .i64 1, .int .i64 k] 41):=⟨_,rfl⟩
    have HW5:=jD hW5
    clear hW5
    cases X
    ·have HN:=jD (CKN.out W5 k false hk1 (by omega) (by rw[HW5.out];exact HBX.out) (by rw[HA2K.out k hk1 (by omega),←HX.out,←HKBB.out];exact Bool.and_false _))
     go_wp2_with fail
     rw[←HW5.out]
     (with_reducible refine(HN.out).mono ?_)
     rintro e w8 ⟨rfl,hb8⟩
     have HB8:=jD (bstep (show Below w17.heap.size w17 W5 by rw[HW5.out];exact HBX.out) hb8)
     have HB9:=HB8
     clear hb8 HN k0 k1 d0 d1
     go_wp2
     go_roundw
     case rel=>exact ⟨k+1,by omega,by omega,by go_num,HB9.out⟩
     case measure=>simp [intOf] <;> omega
    ·have HN:=jD (CKN.out W5 k KB hk1 (by omega) (by rw[HW5.out];exact HBX.out) (by rw[HA2K.out k hk1 (by omega),←HX.out,←HKBB.out];exact Bool.and_true _))
     go_wp2_with fail
     rw[←HW5.out]
     (with_reducible refine(HN.out).mono ?_)
     rintro e w8 ⟨rfl,hb8⟩
     have HB8:=jD (bstep (show Below w17.heap.size w17 W5 by rw[HW5.out];exact HBX.out) hb8)
     have hpb:=below_keep HB8.out HPB.out
     replace k0:=cell_of_block (j:=0) hpb rfl
     replace k1:=cell_of_block (j:=1) hpb rfl
     have hdb:w8.heap[wr.heap.size]? =some (Obj.cells #[.int .i64 1, .int .i64 k] 41 (0,0)):=below_keep hb8 (by rw[HW5.out];exact HDB.out)
     replace d0:=cell_of_block (j:=0) hdb rfl
     replace d1:=cell_of_block (j:=1) hdb rfl
     have HM9:=jD (CKR.out w8 k KB hk1 (by omega) HB8.out (by rw[HA1K.out k hk1 (by omega)];exact HKBB.out.symm))
     clear hpb hdb hb8 HN
     go_wp2_with fail
     (with_reducible refine(HM9.out).mono ?_)
     rintro e w9 ⟨rfl,hb9⟩
     have HB9:=jD (bstep HB8.out hb9)
     have hxx:(KB != KB)=false:=by simp
     clear hb9 HM9 k0 k1 d0 d1
     go_wp2
     go_roundw
     case rel=>exact ⟨k+1,by omega,by omega,by go_num,HB9.out⟩
     case measure=>simp [intOf] <;> omega
  rcases HVL.out with hnil | ⟨b7,off,rfl,hb,hc⟩
  ·rw[hnil] at hlt;simp at hlt
  obtain⟨c,⟨u,x,rfl,hk2⟩,hcc⟩:=hc k hlt
  obtain⟨ua,uc,rfl⟩:=hk2.vec.shape
  obtain⟨xa,xc,rfl⟩:=hk2.more.shape
  have hcl:=fun (i:Nat) (y:Value) (hy:(verC L1[k] (.slice ua L1[k].past.vec.length uc) (.slice xa L1[k].past.more.length xc)).toList[i]? =some y)=>row8 (w:=wr) (b:=b7) (off:=off) (i:=k) (fun j y hy=>(hbl.cell (p:=⟨b7,off+(k*verE.size+j),none⟩) hb).trans (hcc j y hy)) hy
  have c0:=hcl 0 _ rfl
  have c1:=hcl 1 _ rfl
  have c2:=hcl 2 _ rfl
  have c3:=hcl 3 _ rfl
  have c4:=hcl 4 _ rfl
  have c5:=hcl 5 _ rfl
  have c6:=hcl 6 _ rfl
  have c7:=hcl 7 _ rfl
  rw[Nat.add_zero] at c0
  have hltb:decide ((k:Int) < (L1.length:Int))=true:=by simp;omega
  have HT:=jD (show(L1.take (k+1)).filter p=if p L1[k]=true then(L1.take k).filter p++[L1[k]] else(L1.take k).filter p by rw[List.take_succ_eq_append_getElem hlt,filt_snoc])
  have HWL:=jD (show((L1.take k).filter p).length≤k by have h1:((L1.take k).filter p).length≤(L1.take k).length:=List.length_filter_le _ _;rw [List.length_take] at h1;omega)
  have HL60':=HL60.out
  have HVK:=jD (HLO.out.ok L1[k] (List.getElem_mem hlt))
  have HKN:=jD hk2
  clear hc hcc hcl hk2 hown hbl
  generalize L1[k]=v1 at*
  generalize (L1.take k).filter p=LF at*
  have HPV:=jD (show p v1=(decide (v1.ds=0) || inP (ptsOf G) v1) by rw[HPD.out];unfold keepB;rw [HME.out])
  obtain⟨BV,hBV⟩: ∃BV,BV=wr.heap.size:=⟨_,rfl⟩
  obtain⟨W1,hW1⟩: ∃W1,W1=wr.alloc (.cells #[.string v1.id, .int .i64 v1.ds, .int .i64 v1.dc, .int .i64 v1.tg, .int .i64 v1.nm, .int .i64 v1.bd, .slice ua v1.past.vec.length uc, .slice xa v1.past.more.length xc] 75):=⟨_,rfl⟩
  have hb1:Below wr.heap.size wr W1:=by rw[hW1];exact bal _
  have HV1:=jD (show W1.heap[BV]? =some (Obj.cells #[.string v1.id, .int .i64 v1.ds, .int .i64 v1.dc, .int .i64 v1.tg, .int .i64 v1.nm, .int .i64 v1.bd, .slice ua v1.past.vec.length uc, .slice xa v1.past.more.length xc] 75 (0,0)) by rw[hW1];exact alloc_new _ _ _ _ hBV)
  replace HOW:=jD (HOW.out.below hb1)
  replace HBL:=jD (bstep HBL.out hb1)
  clear hb1
  go_wp2_with fail
  rw[←hW1,←hBV]
  clear hW1 hBV c0 c1 c2 c3 c4 c5 c6 c7
  (with_reducible refine(hasf_c _ G v1.tg v1.nm W1 (HGS.out.below HBL.out)).mono ?_)
  rintro e w2' ⟨rfl,hb2⟩
  obtain⟨hh1,hh2⟩:=has_ok ZG.out HVK.out
  rw[hh1,hh2]
  replace HOW:=jD (HOW.out.below hb2)
  replace HBL:=jD (bstep HBL.out hb2)
  replace HV1:=jD (below_keep hb2 HV1.out)
  clear hb2 hh1 hh2
  have e0:=cell_of_block (j:=0) HV1.out rfl
  have e1:=cell_of_block (j:=1) HV1.out rfl
  have e2:=cell_of_block (j:=2) HV1.out rfl
  have e3:=cell_of_block (j:=3) HV1.out rfl
  have e4:=cell_of_block (j:=4) HV1.out rfl
  have e5:=cell_of_block (j:=5) HV1.out rfl
  have e6:=cell_of_block (j:=6) HV1.out rfl
  have e7:=cell_of_block (j:=7) HV1.out rfl
  have e9:=hlt_of HV1.out
  have hbx:=bal (W:=w2') (.cells #[.string v1.id, .int .i64 v1.ds, .int .i64 v1.dc, .int .i64 v1.tg, .int .i64 v1.nm, .int .i64 v1.bd, .slice ua v1.past.vec.length uc, .slice xa v1.past.more.length xc] 75)
  have HO6:=jD (HOW.out.below hbx)
  have HB6:=jD (bstep HBL.out hbx)
  clear hbx
  cases hin:inP (ptsOf G) v1
  ·by_cases hds:v1.ds=0
   rotate_left
   ·have HT2:=jD (show(L1.take (k+1)).filter p=LF by rw[HT.out,if_neg (by rw[HPV.out,hin,decide_eq_false hds];decide)])
    have hd1:(v1.ds==0)=false:=by simpa using hds
    have hd2:decide (v1.ds=0)=false:=decide_eq_false hds
    clear HT hin hds HPV
    go_wp2
    go_roundw
    case rel=>exact ⟨k+1,by omega,by go_num,by rw[HT2.out];exact HOW.out,HBL.out⟩
    case measure=>simp [intOf] <;> omega
   have HT2:=jD (show(L1.take (k+1)).filter p=LF++[v1] by rw[HT.out,if_pos (by rw[HPV.out,hin,decide_eq_true hds];rfl)])
   have hd1:(v1.ds==0)=true:=by simpa using hds
   have hd2:decide (v1.ds=0)=true:=decide_eq_true hds
   clear hin hds HPV
   clear HOW HBL HV1 HT
   go_wp2_with (at_builtin;apply Classical.byContradiction;intro hcon)
   have ROW:=jD (CellsAt.mk (w:=w2'.alloc (.cells #[.string v1.id, .int .i64 v1.ds, .int .i64 v1.dc, .int .i64 v1.tg, .int .i64 v1.nm, .int .i64 v1.bd, .slice ua v1.past.vec.length uc, .slice xa v1.past.more.length xc] 75)) (b:=w2'.heap.size) (off:=0) (n:=1) (cap:=1) (xs:=[.string v1.id, .int .i64 v1.ds, .int .i64 v1.dc, .int .i64 v1.tg, .int .i64 v1.nm, .int .i64 v1.bd, .slice ua v1.past.vec.length uc, .slice xa v1.past.more.length xc]) (Nat.le_refl _) (by decide) (by simp) (fun j x hj=>by
    rw[Nat.zero_add,World.cell?_alloc_at _ _ _ _ (by simp)];simpa using hj))
   obtain⟨css,x1,x2⟩:=HO6.out
   have E1:=jD x1
   have E2:=jD x2
   have hsz:=HB6.out.size
   clear x1 x2
   refine hcon ?_
   (refine wpList_append_cells2 rfl (.tmp 105) (.tmp 107) 48 rfl w13.heap.size 75 _ 8 104 Tryz.underlying48 VTy.info rfl (by decide) (.slice oa LF.length oc) LF.length _ (by simp[go_sem]) E2.out _ 1 _ (by simp[go_sem]) ROW.out rfl (by intro z hz;simp at hz;rcases hz with rfl | rfl | rfl | rfl | rfl | rfl | rfl | rfl <;> rfl) hsz (by unfold maxLen;have:=HWL.out;omega) (by have:=HWL.out;omega) ?_)
   intro v9 w9' ho hgr
   obtain⟨qa,qc,hq⟩:=owns_slice ho
   subst hq
   have HB9:=jD (HB6.out.grown hgr hsz (fun q hq=>(E2.out.lt q hq).1))
   have HO9:=jD (show RowOwn verE w13 w9' w13.heap.size 75 (.slice qa (LF.length+1) qc) (LF++[v1]) from⟨css++[(verC v1 (.slice ua v1.past.vec.length uc) (.slice xa v1.past.more.length xc)).toList],E1.out.append (Els.single ⟨_,_,rfl,HKN.out⟩),by rw[List.length_append,List.flatten_append];simp only[List.flatten_cons,List.flatten_nil,List.append_nil,List.length_cons,List.length_nil];exact ho⟩)
   clear ho hgr hcon hsz e0 e1 e2 e3 e4 e5 e6 e7 e9
   go_wp2
   go_roundw
   case rel=>exact ⟨k+1,by omega,by go_num,by rw[HT2.out];exact HO9.out,HB9.out⟩
   case measure=>simp [intOf] <;> omega
  have HT2:=jD (show(L1.take (k+1)).filter p=LF++[v1] by rw[HT.out,if_pos (by rw[HPV.out,hin];simp)])
  clear hin HPV
  clear HOW HBL HV1 HT
  go_wp2_with (at_builtin;apply Classical.byContradiction;intro hcon)
  have ROW:=jD (CellsAt.mk (w:=w2'.alloc (.cells #[.string v1.id, .int .i64 v1.ds, .int .i64 v1.dc, .int .i64 v1.tg, .int .i64 v1.nm, .int .i64 v1.bd, .slice ua v1.past.vec.length uc, .slice xa v1.past.more.length xc] 75)) (b:=w2'.heap.size) (off:=0) (n:=1) (cap:=1) (xs:=[.string v1.id, .int .i64 v1.ds, .int .i64 v1.dc, .int .i64 v1.tg, .int .i64 v1.nm, .int .i64 v1.bd, .slice ua v1.past.vec.length uc, .slice xa v1.past.more.length xc]) (Nat.le_refl _) (by decide) (by simp) (fun j x hj=>by
   rw[Nat.zero_add,World.cell?_alloc_at _ _ _ _ (by simp)];simpa using hj))
  obtain⟨css,x1,x2⟩:=HO6.out
  have E1:=jD x1
  have E2:=jD x2
  have hsz:=HB6.out.size
  clear x1 x2
  refine hcon ?_
  (refine wpList_append_cells2 rfl (.tmp 105) (.tmp 107) 48 rfl w13.heap.size 75 _ 8 104 Tryz.underlying48 VTy.info rfl (by decide) (.slice oa LF.length oc) LF.length _ (by simp[go_sem]) E2.out _ 1 _ (by simp[go_sem]) ROW.out rfl (by intro z hz;simp at hz;rcases hz with rfl | rfl | rfl | rfl | rfl | rfl | rfl | rfl <;> rfl) hsz (by unfold maxLen;have:=HWL.out;omega) (by have:=HWL.out;omega) ?_)
  intro v9 w9' ho hgr
  obtain⟨qa,qc,hq⟩:=owns_slice ho
  subst hq
  have HB9:=jD (HB6.out.grown hgr hsz (fun q hq=>(E2.out.lt q hq).1))
  have HO9:=jD (show RowOwn verE w13 w9' w13.heap.size 75 (.slice qa (LF.length+1) qc) (LF++[v1]) from⟨css++[(verC v1 (.slice ua v1.past.vec.length uc) (.slice xa v1.past.more.length xc)).toList],E1.out.append (Els.single ⟨_,_,rfl,HKN.out⟩),by rw[List.length_append,List.flatten_append];simp only[List.flatten_cons,List.flatten_nil,List.append_nil,List.length_cons,List.length_nil];exact ho⟩)
  clear ho hgr hcon hsz e0 e1 e2 e3 e4 e5 e6 e7 e9
  go_wp2
  go_roundw
  case rel=>exact ⟨k+1,by omega,by go_num,by rw[HT2.out];exact HO9.out,HB9.out⟩
  case measure=>simp [intOf] <;> omega
end Go.Proofs.YtgkgdedhicnohaaGreat
