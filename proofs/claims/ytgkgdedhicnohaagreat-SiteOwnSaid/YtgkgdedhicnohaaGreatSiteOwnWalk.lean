/- What SiteOwn does. Written by a small program (gen/sl.py). -/
import Derived.Test.YtgkgdedhicnohaaGreatSo1
import Derived.Test.YtgkgdedhicnohaaGreatSite10D
namespace Go.Proofs.YtgkgdedhicnohaaGreat
set_option maxRecDepth 100000
set_option maxHeartbeats 40000000
open Go.RowKit
theorem SiteOwn_walk (fv lv mv:Value) (F:Bxs) (l m:List (List Int)) (w:World) (hF:BxsAt w fv F) (hl:RowAt vecE w lv l) (hm:RowAt vecE w mv m):
  Calls Tryz.prog 8 #[fv,lv,mv] w fun e w'=>e= .returned (.bool true)∧Below w.heap.size w w':=by
 obtain⟨fa,fc,rfl⟩:=hF.shape
 obtain⟨la,lc,rfl⟩:=hl.shape
 obtain⟨ma,mc,rfl⟩:=hm.shape
 have HF:=jD hF
 have HL:=jD hl
 have HM:=jD hm
 clear hF hl hm
 have LW:=jD (Lw.refl w)
 go_enter Tryz.func8,Tryz.ntmps8
 go_wp2_with fail
 (with_reducible refine(siteBegun_c w).mono ?_)
 rintro e w1 ⟨rfl,hb⟩
 replace LW:=jD (LW.out.below hb)
 clear hb
 go_wp2_with fail
 (with_reducible refine(townBegun_c w1).mono ?_)
 rintro e w2 ⟨rfl,hb⟩
 replace LW:=jD (LW.out.below hb)
 clear hb
 go_wp2_with fail
 (with_reducible refine(fChk_c _ F w2 (BxsAt.sub HF.out LW.out.sub)).mono ?_)
 rintro e w3 ⟨rfl,hb⟩
 replace LW:=jD (LW.out.below hb)
 clear hb
 by_cases hz:fChk F=0
 rotate_left
 ·have hd:decide (fChk F=0)=false:=by simpa using hz
  have hd2:(fChk F != 0)=true:=bne_iff_ne.2 hz
  have HB:=jD LW.out.toBelow
  go_wp2
  go_ret
  exact⟨rfl,HB.out⟩
 have ZF:=jD hz
 have ZS:=jD (SzF.of_ok' hz)
 rw[hz]
 clear hz
 go_wp2_with fail
 (with_reducible refine(room_c _ F w3 (BxsAt.sub HF.out LW.out.sub) ZS.out).mono ?_)
 rintro e w4 ⟨iv,rfl,hin,hb⟩
 obtain⟨NR,hNR⟩: ∃N,N=w3.heap.size:=⟨_,rfl⟩
 rw[←hNR] at hin
 have ZR:=jD (show w.heap.size≤NR by rw[hNR];exact LW.out.size)
 have HIN:=jD hin
 have HOW:=jD (show OwnF w4 NR w4.heap.size iv F by rw[hNR];exact OwnF.of_own (hNR ▸ hin.own))
 obtain⟨NI,hNI⟩: ∃N,N=w4.heap.size:=⟨_,rfl⟩
 rw[←hNI] at HOW
 have HNI:=jD (show NI≤w4.heap.size by omega)
 obtain⟨ia,ic,hiv⟩:=(hin.at_ ZS.out.l ZS.out.s).shape
 subst hiv
 clear hin
 replace LW:=jD (LW.out.below hb)
 clear hb hNR hNI
 go_wp2_with fail
 (with_reducible refine(everyS w4).mono ?_)
 rintro e w5 ⟨ev,rfl,hev,hb⟩
 obtain⟨eva,evc,hevs⟩:=(hev.at_ok every_chk).shape
 subst hevs
 have HEV:=jD hev
 replace HIN:=jD (RoomF.below HIN.out hb)
 replace HOW:=jD (OwnF.below HOW.out hb)
 replace HNI:=jD (Nat.le_trans HNI.out hb.size)
 replace LW:=jD (LW.out.below hb)
 clear hb hev
 go_wp2_with fail
 (with_reducible refine(stwo_c _ _ F everyB w5 (HIN.out.at_ ZS.out.l ZS.out.s) (HEV.out.at_ok every_chk) ZF.out every_chk).mono ?_)
 rintro e w6 ⟨ga,gb,rfl,hsa,hsb,hlt,hb⟩
 obtain⟨B2,hB2⟩: ∃N,N=w5.heap.size:=⟨_,rfl⟩
 rw[←hB2] at hsa hsb
 have ZI:=jD (show NI≤B2 by rw[hB2];exact HNI.out)
 have ZB:=jD (show w.heap.size≤B2 by rw[hB2];exact LW.out.size)
 have ZB2:=jD (show B2≤w5.heap.size by omega)
 have SA:=jD hsa
 have SB:=jD hsb
 have GEga:=jD (Nat.le_trans ZB.out SA.out.ge)
 have GEgb:=jD (Nat.le_trans ZB.out SB.out.ge)
 have GBa:=jD SA.out.ge
 have GBb:=jD SB.out.ge
 have NEab:=jD hlt
 clear hsa hsb hlt hB2
 clear HEV HNI
 replace HIN:=jD (RoomF.below HIN.out hb)
 replace HOW:=jD (OwnF.below HOW.out hb)
 replace ZB2:=jD (Nat.le_trans ZB2.out hb.size)
 replace LW:=jD (LW.out.below hb)
 clear hb
 go_wp2_with fail
 (with_reducible refine(snew_c 0 _ F w6 ⟨by decide,by decide⟩ (BxsAt.sub HF.out LW.out.sub) ZF.out).mono ?_)
 rintro e w7 ⟨gc,rfl,hsc,hb⟩
 have NEac:=jD (show ga < gc from Nat.lt_of_lt_of_le SA.out.lt hsc.ge)
 have NEbc:=jD (show gb < gc from Nat.lt_of_lt_of_le SB.out.lt hsc.ge)
 have SC:=jD (SiteAt.mono hsc ZB2.out)
 have GEgc:=jD (Nat.le_trans ZB.out SC.out.ge)
 have GBc:=jD SC.out.ge
 clear hsc
 replace HIN:=jD (RoomF.below HIN.out hb)
 replace HOW:=jD (OwnF.below HOW.out hb)
 replace ZB2:=jD (Nat.le_trans ZB2.out hb.size)
 replace SA:=jD (SA.out.below hb)
 replace SB:=jD (SB.out.below hb)
 replace LW:=jD (LW.out.below hb)
 clear hb
 go_wp2_with fail
 (with_reducible refine(kept_c _ _ NR F w7 HIN.out (BxsAt.sub HF.out LW.out.sub) ZS.out).mono ?_)
 rintro e w8 ⟨rfl,hb⟩
 replace HIN:=jD (RoomF.below HIN.out hb)
 replace HOW:=jD (OwnF.below HOW.out hb)
 replace ZB2:=jD (Nat.le_trans ZB2.out hb.size)
 replace SA:=jD (SA.out.below hb)
 replace SB:=jD (SB.out.below hb)
 replace SC:=jD (SC.out.below hb)
 replace LW:=jD (LW.out.below hb)
 clear hb
 clear HIN
 go_wp2_with fail
 (with_reducible refine(waste_c _ NR NI F w8 HOW.out ZS.out).mono ?_)
 rintro e w9 ⟨rfl,hs⟩
 have HNS:=jD (show NS (fun k=>NR≤k∧k < NI) w8 B2 from ns_base fun q hq=>Nat.lt_of_lt_of_le hq.2 ZI.out)
 replace SA:=jD (SA.out.ns hs (fun h=>by have:=ZI.out;have:=GBa.out;omega) HNS.out)
 replace SB:=jD (SB.out.ns hs (fun h=>by have:=ZI.out;have:=GBb.out;omega) HNS.out)
 replace SC:=jD (SC.out.ns hs (fun h=>by have:=ZI.out;have:=GBc.out;omega) HNS.out)
 replace ZB2:=jD (Nat.le_trans ZB2.out hs.size)
 replace LW:=jD (LW.out.spx hs fun q hq=>Nat.le_trans ZR.out hq.1)
 clear hs HNS HOW
 have HMA:=jD (show(newS 0 (ptsOf F)).made≤900 from(by decide:(0:Int)≤900))
 have HMB:=jD (show(newS 1 (ptsOf everyB)).made≤900 from(by decide:(0:Int)≤900))
 have M0:=jD (made_new [] 1 (ptsOf everyB) Hx.nil (by simp))
 have hty:=SB.out.ty
 go_wp2_with fail
 (with_reducible refine(smakes_c gb _ (newS 1 (ptsOf everyB)) [] _ l w9 SB.out M0.out (by simp) HMB.out (fun w' hs=>HL.out.sub (LW.out.one hs GEgb.out).sub)).mono ?_)
 rintro e w10 ⟨U1,sb,rfl,hgr,hs,hp⟩
 have Gsb:=jD hgr
 clear hgr
 replace SB:=jD hs
 replace ZB2:=jD (Nat.le_trans ZB2.out hp.size)
 replace SA:=jD (SA.out.stp hp (fun e=>by have:=NEab.out;omega))
 replace SC:=jD (SC.out.stp hp (fun e=>by have:=NEbc.out;omega))
 replace LW:=jD (LW.out.one hp GEgb.out)
 clear hs hp hty
 have M1:=jD (made_other Gsb.out 0 (ptsOf F) (by exact(by decide:(1:Int)≠0)))
 have HU1:=jD (show U1.length≤47 by have:=Gsb.out.len.1;simp at this;omega)
 have hty:=SA.out.ty
 go_wp2_with fail
 (with_reducible refine(smakesd_c ga _ (newS 0 (ptsOf F)) U1 _ m w10 SA.out M1.out HU1.out HMA.out (fun w' hs=>HM.out.sub (LW.out.one hs GEga.out).sub)).mono ?_)
 rintro e w11 ⟨U2,sa,rfl,hgr,hmk,hs,hp⟩
 have Gsa:=jD hgr
 have HMK:=jD hmk
 clear hgr hmk
 replace SA:=jD hs
 replace ZB2:=jD (Nat.le_trans ZB2.out hp.size)
 replace SC:=jD (SC.out.stp hp (fun e=>by have:=NEac.out;omega))
 replace SB:=jD (SB.out.stp hp (fun e=>by have:=NEab.out;omega))
 replace LW:=jD (LW.out.one hp GEga.out)
 clear hs hp hty
 have hty:=SC.out.ty
 go_wp2_with fail
 (with_reducible refine(smakesd_c gc _ (newS 0 (ptsOf F)) U1 _ m w11 SC.out M1.out HU1.out HMA.out (fun w' hs=>HM.out.sub (LW.out.one hs GEgc.out).sub)).mono ?_)
 rintro e w12 ⟨U3,sc,rfl,hgr,hmk,hs,hp⟩
 obtain rfl:sa=sc:=HMK.out.trans hmk.symm
 clear hgr hmk HMK
 replace SC:=jD hs
 replace ZB2:=jD (Nat.le_trans ZB2.out hp.size)
 replace SB:=jD (SB.out.stp hp (fun e=>by have:=NEbc.out;omega))
 replace SA:=jD (SA.out.stp hp (fun e=>by have:=NEac.out;omega))
 replace LW:=jD (LW.out.one hp GEgc.out)
 clear hs hp hty
 have HUN:=jD (show Uni U2 from Gsa.out.made.hx.uni (by have h1:=Gsb.out.len.1;have h2:=Gsa.out.len.1;simp at h1;omega))
 have HSY:=jD (sync_took HUN.out SA.out.ok SB.out.ok Gsa.out.made.sub (fun x hx=>Gsa.out.sub_of x (Gsb.out.made.sub x hx)) (by rw[Gsa.out.S,Gsb.out.S];exact (by decide:(0:Nat)≤28)))
 have HOKA:=jD SA.out.ok
 have HOKB:=jD SB.out.ok
 have HBO:=jD (syncB_ok SA.out.ok SB.out.ok)
 clear HUN M0 M1 HU1 HMA HMB Gsb Gsa
 obtain⟨N5,hN5⟩: ∃N,N=w12.heap.size:=⟨_,rfl⟩
 obtain⟨f0a,l0a,p0a,hva⟩:=SA.out.open_
 obtain⟨f0c,l0c,p0c,hvc⟩:=SC.out.open_
 have VA5:=jD hva
 have VC5:=jD hvc
 have VA:=jD hva
 have VC:=jD hvc
 have ZG:=jD (show ga < N5∧gb < N5∧gc < N5 by rw[hN5];exact ⟨SA.out.lt,SB.out.lt,SC.out.lt⟩)
 have K5:=jD (Sp.refl (fun q=>q=ga∨q=gc∨N5≤q) w12)
 have Z5:=jD (show N5≤w12.heap.size by omega)
 have ZB5:=jD (show B2≤N5 by rw[hN5];exact ZB2.out)
 have E5:=jD hN5
 clear hva hvc
 clear SA
 clear SC
 clear ZB2
 go_wp2_with fail
 (with_reducible refine(ask_c ga _ sa w12 (VA.out.close HOKA.out GBa.out)).mono ?_)
 rintro e w13 ⟨afx,apx,rfl,hf,hp,hb⟩
 rw[←hN5] at hf hp
 have HAF:=jD (show ShF (fun q=>N5≤q∧q < w13.heap.size) w13 afx from ShF.fo hf fun q h1 h2=>⟨h1,h2⟩)
 have HAP:=jD (show PartSh (fun q=>N5≤q∧q < w13.heap.size) w13 apx (knownS sa).length from PartSh.of hp fun q h1 h2=>⟨h1,h2⟩)
 obtain⟨NA,hNA⟩: ∃N,N=w13.heap.size:=⟨_,rfl⟩
 rw[←hNA] at HAF HAP
 have ZA:=jD (show NA≤w13.heap.size by omega)
 obtain⟨al,hl1,hl2,hl3⟩:=hf
 obtain⟨AP,hA1,hA2,hA3⟩:=hp
 have hA30:AP.length≤30:=by have:=HOKA.out.klen;rw [←hA3,List.length_map] at this;exact this
 have hAPl:(knownS sa).length=AP.length:=by rw[←hA3,List.length_map]
 obtain⟨afa,afc,hfv⟩:=(FOwn.at_ok hl1 hl2).shape
 subst hfv
 obtain⟨apa,apc,hpv⟩:=hA1.shape
 subst hpv
 have HEQ:=jD (show giveB sb sa.me sa.stamp (ptsOf al) (AP.map sem)=syncB sa sb by
  unfold syncB;rw [hA3]
  exact giveB_congr HOKB.out fun t n ht hn=>by rw[ptsOf_in ht hn];exact hl3 t n ht hn)
 have HAT:=jD (FOwn.at_ok hl1 hl2)
 have HRW:=jD (hA1.at_ (fun z hz=>(hA2 z hz).1) (by omega))
 have HPC:=jD (ptsChk_zero.2 ⟨hA30,fun z hz=>(hA2 z hz).1⟩)
 have HFC:=jD hl2
 have HAPL:=jD hAPl
 clear hl1 hl2 hl3 hA1 hA2 hA3 hA30 hAPl
 replace SB:=jD (SB.out.below hb)
 replace K5:=jD (K5.out.trans (Sp.of_below hb))
 replace Z5:=jD (Nat.le_trans Z5.out hb.size)
 replace VA:=jD (SiteV.below VA.out hb)
 replace VC:=jD (SiteV.below VC.out hb)
 replace LW:=jD (LW.out.below hb)
 clear hb hN5 hNA
 obtain⟨BA,hBA⟩: ∃B,B=w13.heap.size:=⟨_,rfl⟩
 obtain⟨w14,hwA⟩: ∃wB,wB=w13.alloc (.cells #[.int .i64 sa.me, .int .i64 sa.stamp, .slice afa al.length afc, .slice apa AP.length apc] 56):=⟨_,rfl⟩
 have hb:Below w13.heap.size w13 w14:=by rw[hwA];exact bal _
 have HBA:=jD (show w14.heap[BA]? =some (Obj.cells #[.int .i64 sa.me, .int .i64 sa.stamp, .slice afa al.length afc, .slice apa AP.length apc] 56 (0,0)) by rw[hwA];exact alloc_new _ _ _ _ hBA)
 have HATn:=jD (HAT.out.below hb)
 have HRWn:=jD (HRW.out.below hb)
 clear HAT HRW
 replace SB:=jD (SB.out.below hb)
 replace K5:=jD (K5.out.trans (Sp.of_below hb))
 replace Z5:=jD (Nat.le_trans Z5.out hb.size)
 replace VA:=jD (SiteV.below VA.out hb)
 replace VC:=jD (SiteV.below VC.out hb)
 replace HAF:=jD (HAF.out.below hb)
 replace HAP:=jD (HAP.out.below hb)
 replace ZA:=jD (Nat.le_trans ZA.out hb.size)
 replace LW:=jD (LW.out.below hb)
 clear hb
 have HGV:=jD (sgive_c gb _ sb sa.me sa.stamp (.slice afa al.length afc) (.slice apa AP.length apc) al AP w14 SB.out HOKA.out.me HOKA.out.stamp.1 HATn.out HFC.out HRWn.out HPC.out)
 have k0:=cell_of_block (j:=0) HBA.out rfl
 have k1:=cell_of_block (j:=1) HBA.out rfl
 have k2:=cell_of_block (j:=2) HBA.out rfl
 have k3:=cell_of_block (j:=3) HBA.out rfl
 have kl:=hlt_of HBA.out
 rw[hwA,hBA] at k0 k1 k2 k3 kl
 clear HATn HRWn HPC HFC
 go_wp2_with fail
 rw[←hwA,←hBA]
 clear hwA hBA k0 k1 k2 k3 kl
 (with_reducible refine(HGV.out).mono ?_)
 rintro e w15 ⟨vvx,gvx,pvx,rfl,hbt,hb⟩
 rw[HEQ.out] at hbt
 obtain⟨vxa,vxc,hvv⟩:=hbt.vers.shape
 obtain⟨gxa,gxc,hgv⟩:=GOwn.shape hbt.gone
 obtain⟨pxa,pxc,hpv⟩:=hbt.parts.shape
 subst hvv hgv hpv
 obtain⟨NX,hNX⟩: ∃N,N=w14.heap.size:=⟨_,rfl⟩
 rw[←hNX] at hbt
 have Z5X:=jD (show N5≤NX by rw[hNX];exact Z5.out)
 obtain⟨MX,hMX⟩: ∃N,N=w15.heap.size:=⟨_,rfl⟩
 have HXV:=jD (show OwnV w15 NX MX (.slice vxa (syncB sa sb).V.length vxc) (syncB sa sb).V by rw[hMX];exact OwnV.of_own hbt.vers)
 have HXG:=jD (show GoneSh (fun q=>N5≤q∧q < MX) w15 (.slice gxa (syncB sa sb).G.length gxc) (syncB sa sb).G.length from GoneSh.of hbt.gone fun q h1 h2=>⟨Nat.le_trans Z5X.out h1,by rw[hMX];exact h2⟩)
 have HXP:=jD (show PartSh (fun q=>N5≤q∧q < MX) w15 (.slice pxa (syncB sa sb).S.length pxc) (syncB sa sb).S.length from PartSh.of hbt.parts fun q h1 h2=>⟨Nat.le_trans Z5X.out h1,by rw[hMX];exact h2⟩)
 have ZX:=jD (show MX≤w15.heap.size by omega)
 have HBTx:=jD hbt
 clear hbt hNX hMX HGV HEQ
 replace SB:=jD (SB.out.below hb)
 replace K5:=jD (K5.out.trans (Sp.of_below hb))
 replace Z5:=jD (Nat.le_trans Z5.out hb.size)
 replace VA:=jD (SiteV.below VA.out hb)
 replace VC:=jD (SiteV.below VC.out hb)
 replace HAF:=jD (HAF.out.below hb)
 replace HAP:=jD (HAP.out.below hb)
 replace ZA:=jD (Nat.le_trans ZA.out hb.size)
 replace HBA:=jD (below_keep hb HBA.out)
 replace LW:=jD (LW.out.below hb)
 clear hb
 obtain⟨BXx,hBXx⟩: ∃B,B=w15.heap.size:=⟨_,rfl⟩
 obtain⟨w16,hwXx⟩: ∃wB,wB=w15.alloc (.cells #[.int .i64 sa.me, .int .i64 sa.stamp, .slice vxa (syncB sa sb).V.length vxc, .slice gxa (syncB sa sb).G.length gxc, .slice pxa (syncB sa sb).S.length pxc] 52):=⟨_,rfl⟩
 have hb:Below w15.heap.size w15 w16:=by rw[hwXx];exact bal _
 have HBXx:=jD (show w16.heap[BXx]? =some (Obj.cells #[.int .i64 sa.me, .int .i64 sa.stamp, .slice vxa (syncB sa sb).V.length vxc, .slice gxa (syncB sa sb).G.length gxc, .slice pxa (syncB sa sb).S.length pxc] 52 (0,0)) by rw[hwXx];exact alloc_new _ _ _ _ hBXx)
 replace SB:=jD (SB.out.below hb)
 replace K5:=jD (K5.out.trans (Sp.of_below hb))
 replace Z5:=jD (Nat.le_trans Z5.out hb.size)
 replace VA:=jD (SiteV.below VA.out hb)
 replace VC:=jD (SiteV.below VC.out hb)
 replace HAF:=jD (HAF.out.below hb)
 replace HAP:=jD (HAP.out.below hb)
 replace ZA:=jD (Nat.le_trans ZA.out hb.size)
 replace HBA:=jD (below_keep hb HBA.out)
 replace HXV:=jD (HXV.out.below hb)
 replace HXG:=jD (HXG.out.sp (S:=fun _=>False) (Sp.of_below hb) (fun _ _ h=>h.elim))
 replace HXP:=jD (HXP.out.below hb)
 replace ZX:=jD (Nat.le_trans ZX.out hb.size)
 replace HBTx:=jD (BtOwn.below HBTx.out hb)
 replace LW:=jD (LW.out.below hb)
 clear hb
 go_wp2_with fail
 rw[←hwXx,←hBXx]
 clear hwXx hBXx
 (with_reducible refine(ask_c gc _ sa w16 (VC.out.close HOKA.out GBc.out)).mono ?_)
 rintro e w17 ⟨af,ap,rfl,hf,hp,hb⟩
 obtain⟨aly,hl1,hl2,hl3⟩:=hf
 obtain⟨APy,hA1,hA2,hA3⟩:=hp
 have hA30:APy.length≤30:=by have:=HOKA.out.klen;rw [←hA3,List.length_map] at this;exact this
 replace SB:=jD (SB.out.below hb)
 replace K5:=jD (K5.out.trans (Sp.of_below hb))
 replace Z5:=jD (Nat.le_trans Z5.out hb.size)
 replace VA:=jD (SiteV.below VA.out hb)
 replace VC:=jD (SiteV.below VC.out hb)
 replace HAF:=jD (HAF.out.below hb)
 replace HAP:=jD (HAP.out.below hb)
 replace ZA:=jD (Nat.le_trans ZA.out hb.size)
 replace HBA:=jD (below_keep hb HBA.out)
 replace HXV:=jD (HXV.out.below hb)
 replace HXG:=jD (HXG.out.sp (S:=fun _=>False) (Sp.of_below hb) (fun _ _ h=>h.elim))
 replace HXP:=jD (HXP.out.below hb)
 replace ZX:=jD (Nat.le_trans ZX.out hb.size)
 replace HBTx:=jD (BtOwn.below HBTx.out hb)
 replace HBXx:=jD (below_keep hb HBXx.out)
 replace LW:=jD (LW.out.below hb)
 have HGV:=jD (sgive_c gb _ sb sa.me sa.stamp af ap aly APy w17 SB.out HOKA.out.me HOKA.out.stamp.1 (FOwn.at_ok hl1 hl2) hl2 (hA1.at_ (fun z hz=>(hA2 z hz).1) (by omega)) (ptsChk_zero.2 ⟨hA30,fun z hz=>(hA2 z hz).1⟩))
 have HEQ:=jD (show giveB sb sa.me sa.stamp (ptsOf aly) (APy.map sem)=syncB sa sb by
  unfold syncB;rw [hA3]
  exact giveB_congr HOKB.out fun t n ht hn=>by rw[ptsOf_in ht hn];exact hl3 t n ht hn)
 obtain⟨f8a,f8c,hfv⟩:=(FOwn.at_ok hl1 hl2).shape
 subst hfv
 obtain⟨p8a,p8c,hpv⟩:=hA1.shape
 subst hpv
 clear hl1 hl2 hl3 hA1 hA2 hA3 hb hA30
 go_wp2_with fail
 (with_reducible refine(HGV.out).mono ?_)
 rintro e w18 ⟨vv,gv,pv,rfl,hbt,hb⟩
 rw[HEQ.out] at hbt
 obtain⟨vya,vyc,hvv⟩:=hbt.vers.shape
 obtain⟨gya,gyc,hgv⟩:=GOwn.shape hbt.gone
 obtain⟨pya,pyc,hpv⟩:=hbt.parts.shape
 subst hvv hgv hpv
 have HBTy:=jD hbt
 clear hbt HGV HEQ
 replace SB:=jD (SB.out.below hb)
 replace K5:=jD (K5.out.trans (Sp.of_below hb))
 replace Z5:=jD (Nat.le_trans Z5.out hb.size)
 replace VA:=jD (SiteV.below VA.out hb)
 replace VC:=jD (SiteV.below VC.out hb)
 replace HAF:=jD (HAF.out.below hb)
 replace HAP:=jD (HAP.out.below hb)
 replace ZA:=jD (Nat.le_trans ZA.out hb.size)
 replace HBA:=jD (below_keep hb HBA.out)
 replace HXV:=jD (HXV.out.below hb)
 replace HXG:=jD (HXG.out.sp (S:=fun _=>False) (Sp.of_below hb) (fun _ _ h=>h.elim))
 replace HXP:=jD (HXP.out.below hb)
 replace ZX:=jD (Nat.le_trans ZX.out hb.size)
 replace HBTx:=jD (BtOwn.below HBTx.out hb)
 replace HBXx:=jD (below_keep hb HBXx.out)
 replace LW:=jD (LW.out.below hb)
 clear hb
 obtain⟨BXy,hBXy⟩: ∃B,B=w18.heap.size:=⟨_,rfl⟩
 obtain⟨w19,hwXy⟩: ∃wB,wB=w18.alloc (.cells #[.int .i64 sa.me, .int .i64 sa.stamp, .slice vya (syncB sa sb).V.length vyc, .slice gya (syncB sa sb).G.length gyc, .slice pya (syncB sa sb).S.length pyc] 52):=⟨_,rfl⟩
 have hb:Below w18.heap.size w18 w19:=by rw[hwXy];exact bal _
 have HBXy:=jD (show w19.heap[BXy]? =some (Obj.cells #[.int .i64 sa.me, .int .i64 sa.stamp, .slice vya (syncB sa sb).V.length vyc, .slice gya (syncB sa sb).G.length gyc, .slice pya (syncB sa sb).S.length pyc] 52 (0,0)) by rw[hwXy];exact alloc_new _ _ _ _ hBXy)
 replace SB:=jD (SB.out.below hb)
 replace K5:=jD (K5.out.trans (Sp.of_below hb))
 replace Z5:=jD (Nat.le_trans Z5.out hb.size)
 replace VA:=jD (SiteV.below VA.out hb)
 replace VC:=jD (SiteV.below VC.out hb)
 replace HAF:=jD (HAF.out.below hb)
 replace HAP:=jD (HAP.out.below hb)
 replace ZA:=jD (Nat.le_trans ZA.out hb.size)
 replace HBA:=jD (below_keep hb HBA.out)
 replace HXV:=jD (HXV.out.below hb)
 replace HXG:=jD (HXG.out.sp (S:=fun _=>False) (Sp.of_below hb) (fun _ _ h=>h.elim))
 replace HXP:=jD (HXP.out.below hb)
 replace ZX:=jD (Nat.le_trans ZX.out hb.size)
 replace HBTx:=jD (BtOwn.below HBTx.out hb)
 replace HBXx:=jD (below_keep hb HBXx.out)
 replace HBTy:=jD (BtOwn.below HBTy.out hb)
 replace LW:=jD (LW.out.below hb)
 clear hb
 go_wp2_with fail
 rw[←hwXy,←hBXy]
 clear hwXy hBXy
 (with_reducible refine(sshelf_c gb _ _ w19 SB.out).mono ?_)
 rintro e w20 ⟨sha,shc,rfl,hv,hb⟩
 have HWS:=jD (wasteShelf2_c _ _ _ sb.L w20 (OwnV.of_own hv) (SzV.of_ok' HOKB.out.L.ok (by have:=HOKB.out.L.len;omega)))
 have HB0:=jD hb
 clear hb hv
 go_wp2_with fail
 (with_reducible refine(HWS.out).mono ?_)
 rintro e w21 ⟨rfl,hs, -⟩
 have hb:Below w19.heap.size w19 w21:=((Sp.of_below (S:=fun q=>w19.heap.size≤q) HB0.out).trans (hs.mono fun q hq=>hq.1.1)).toBelow (fun _ h=>h) (Nat.le_refl _)
 clear hs HB0 HWS
 replace SB:=jD (SB.out.below hb)
 replace K5:=jD (K5.out.trans (Sp.of_below hb))
 replace Z5:=jD (Nat.le_trans Z5.out hb.size)
 replace VA:=jD (SiteV.below VA.out hb)
 replace VC:=jD (SiteV.below VC.out hb)
 replace HAF:=jD (HAF.out.below hb)
 replace HAP:=jD (HAP.out.below hb)
 replace ZA:=jD (Nat.le_trans ZA.out hb.size)
 replace HBA:=jD (below_keep hb HBA.out)
 replace HXV:=jD (HXV.out.below hb)
 replace HXG:=jD (HXG.out.sp (S:=fun _=>False) (Sp.of_below hb) (fun _ _ h=>h.elim))
 replace HXP:=jD (HXP.out.below hb)
 replace ZX:=jD (Nat.le_trans ZX.out hb.size)
 replace HBTx:=jD (BtOwn.below HBTx.out hb)
 replace HBXx:=jD (below_keep hb HBXx.out)
 replace HBTy:=jD (BtOwn.below HBTy.out hb)
 replace HBXy:=jD (below_keep hb HBXy.out)
 replace LW:=jD (LW.out.below hb)
 clear hb
 go_wp2_with fail
 (with_reducible refine(ask_c gc _ sa w21 (VC.out.close HOKA.out GBc.out)).mono ?_)
 rintro e w22 ⟨af,ap,rfl,hf,hp,hb⟩
 obtain⟨alz,hl1,hl2,hl3⟩:=hf
 obtain⟨APz,hA1,hA2,hA3⟩:=hp
 have hA30:APz.length≤30:=by have:=HOKA.out.klen;rw [←hA3,List.length_map] at this;exact this
 replace SB:=jD (SB.out.below hb)
 replace K5:=jD (K5.out.trans (Sp.of_below hb))
 replace Z5:=jD (Nat.le_trans Z5.out hb.size)
 replace VA:=jD (SiteV.below VA.out hb)
 replace VC:=jD (SiteV.below VC.out hb)
 replace HAF:=jD (HAF.out.below hb)
 replace HAP:=jD (HAP.out.below hb)
 replace ZA:=jD (Nat.le_trans ZA.out hb.size)
 replace HBA:=jD (below_keep hb HBA.out)
 replace HXV:=jD (HXV.out.below hb)
 replace HXG:=jD (HXG.out.sp (S:=fun _=>False) (Sp.of_below hb) (fun _ _ h=>h.elim))
 replace HXP:=jD (HXP.out.below hb)
 replace ZX:=jD (Nat.le_trans ZX.out hb.size)
 replace HBTx:=jD (BtOwn.below HBTx.out hb)
 replace HBXx:=jD (below_keep hb HBXx.out)
 replace HBTy:=jD (BtOwn.below HBTy.out hb)
 replace HBXy:=jD (below_keep hb HBXy.out)
 replace LW:=jD (LW.out.below hb)
 have HGV:=jD (sgive_c gb _ sb sa.me sa.stamp af ap alz APz w22 SB.out HOKA.out.me HOKA.out.stamp.1 (FOwn.at_ok hl1 hl2) hl2 (hA1.at_ (fun z hz=>(hA2 z hz).1) (by omega)) (ptsChk_zero.2 ⟨hA30,fun z hz=>(hA2 z hz).1⟩))
 have HEQ:=jD (show giveB sb sa.me sa.stamp (ptsOf alz) (APz.map sem)=syncB sa sb by
  unfold syncB;rw [hA3]
  exact giveB_congr HOKB.out fun t n ht hn=>by rw[ptsOf_in ht hn];exact hl3 t n ht hn)
 obtain⟨f8a,f8c,hfv⟩:=(FOwn.at_ok hl1 hl2).shape
 subst hfv
 obtain⟨p8a,p8c,hpv⟩:=hA1.shape
 subst hpv
 clear hl1 hl2 hl3 hA1 hA2 hA3 hb hA30
 go_wp2_with fail
 (with_reducible refine(HGV.out).mono ?_)
 rintro e w23 ⟨vv,gv,pv,rfl,hbt,hb⟩
 rw[HEQ.out] at hbt
 obtain⟨vza,vzc,hvv⟩:=hbt.vers.shape
 obtain⟨gza,gzc,hgv⟩:=GOwn.shape hbt.gone
 obtain⟨pza,pzc,hpv⟩:=hbt.parts.shape
 subst hvv hgv hpv
 have HBTz:=jD hbt
 clear hbt HGV HEQ
 replace SB:=jD (SB.out.below hb)
 replace K5:=jD (K5.out.trans (Sp.of_below hb))
 replace Z5:=jD (Nat.le_trans Z5.out hb.size)
 replace VA:=jD (SiteV.below VA.out hb)
 replace VC:=jD (SiteV.below VC.out hb)
 replace HAF:=jD (HAF.out.below hb)
 replace HAP:=jD (HAP.out.below hb)
 replace ZA:=jD (Nat.le_trans ZA.out hb.size)
 replace HBA:=jD (below_keep hb HBA.out)
 replace HXV:=jD (HXV.out.below hb)
 replace HXG:=jD (HXG.out.sp (S:=fun _=>False) (Sp.of_below hb) (fun _ _ h=>h.elim))
 replace HXP:=jD (HXP.out.below hb)
 replace ZX:=jD (Nat.le_trans ZX.out hb.size)
 replace HBTx:=jD (BtOwn.below HBTx.out hb)
 replace HBXx:=jD (below_keep hb HBXx.out)
 replace HBTy:=jD (BtOwn.below HBTy.out hb)
 replace HBXy:=jD (below_keep hb HBXy.out)
 replace LW:=jD (LW.out.below hb)
 clear hb
 obtain⟨BXz,hBXz⟩: ∃B,B=w23.heap.size:=⟨_,rfl⟩
 obtain⟨w24,hwXz⟩: ∃wB,wB=w23.alloc (.cells #[.int .i64 sa.me, .int .i64 sa.stamp, .slice vza (syncB sa sb).V.length vzc, .slice gza (syncB sa sb).G.length gzc, .slice pza (syncB sa sb).S.length pzc] 52):=⟨_,rfl⟩
 have hb:Below w23.heap.size w23 w24:=by rw[hwXz];exact bal _
 have HBXz:=jD (show w24.heap[BXz]? =some (Obj.cells #[.int .i64 sa.me, .int .i64 sa.stamp, .slice vza (syncB sa sb).V.length vzc, .slice gza (syncB sa sb).G.length gzc, .slice pza (syncB sa sb).S.length pzc] 52 (0,0)) by rw[hwXz];exact alloc_new _ _ _ _ hBXz)
 replace SB:=jD (SB.out.below hb)
 replace K5:=jD (K5.out.trans (Sp.of_below hb))
 replace Z5:=jD (Nat.le_trans Z5.out hb.size)
 replace VA:=jD (SiteV.below VA.out hb)
 replace VC:=jD (SiteV.below VC.out hb)
 replace HAF:=jD (HAF.out.below hb)
 replace HAP:=jD (HAP.out.below hb)
 replace ZA:=jD (Nat.le_trans ZA.out hb.size)
 replace HBA:=jD (below_keep hb HBA.out)
 replace HXV:=jD (HXV.out.below hb)
 replace HXG:=jD (HXG.out.sp (S:=fun _=>False) (Sp.of_below hb) (fun _ _ h=>h.elim))
 replace HXP:=jD (HXP.out.below hb)
 replace ZX:=jD (Nat.le_trans ZX.out hb.size)
 replace HBTx:=jD (BtOwn.below HBTx.out hb)
 replace HBXx:=jD (below_keep hb HBXx.out)
 replace HBTy:=jD (BtOwn.below HBTy.out hb)
 replace HBXy:=jD (below_keep hb HBXy.out)
 replace HBTz:=jD (BtOwn.below HBTz.out hb)
 replace LW:=jD (LW.out.below hb)
 clear hb
 obtain⟨N6,hN6⟩: ∃N,N=w24.heap.size:=⟨_,rfl⟩
 have E6:=jD hN6
 have Z6A:=jD (show NA≤N6 by rw[hN6];exact ZA.out)
 have Z6X:=jD (show MX≤N6 by rw[hN6];exact ZX.out)
 have Z65:=jD (show N5≤N6 by rw[hN6];exact Z5.out)
 have HAFr:=jD (fun (R:Nat→Prop) (hR: ∀q,N5≤q∧q < N6→R q) (q:Nat) (hq:N5≤q∧q < NA)=>hR q ⟨hq.1,Nat.lt_of_lt_of_le hq.2 Z6A.out⟩)
 have HXr:=jD (fun (R:Nat→Prop) (hR: ∀q,N5≤q∧q < N6→R q) (q:Nat) (hq:N5≤q∧q < MX)=>hR q ⟨hq.1,Nat.lt_of_lt_of_le hq.2 Z6X.out⟩)
 clear hN6
 clear ZA ZX Z5
 have hbo:=HBO.out
 obtain⟨PP,hP1,hP2,hP3⟩:=HBTx.out.parts
 have hPl:PP.length≤30:=by have:=hbo.ls;rw [←hP3,List.length_map] at this;exact this
 have HT:=jD (show Calls Tryz.prog 23 #[.pointer (some ⟨ga,0,none⟩), .agg #[.int .i64 sa.me, .int .i64 sa.stamp, .slice vxa (syncB sa sb).V.length vxc, .slice gxa (syncB sa sb).G.length gxc, .slice pxa (syncB sa sb).S.length pxc]] w24 _ from stake2_c ga _ sa (syncB sa sb) PP _ _ _ f0a l0a p0a w24 (VA.out.close HOKA.out GBa.out) VA.out hbo (HBTx.out.vers.at_ (shok_bd hbo.V) (by have:=hbo.lv;omega)) (GOwn.at_ HBTx.out.gone (fun z hz=>gone_bd (hbo.G z hz)) (by have:=hbo.lg;omega)) (hP1.at_ (fun z hz=>(hP2 z hz).1) (by omega)) (fun z hz=>(hP2 z hz).1) hP3)
 have hty:=VA.out.ty
 clear hbo hP1 hP2 hP3 hPl
 have k0:=cell_of_block (j:=0) HBXx.out rfl
 have k1:=cell_of_block (j:=1) HBXx.out rfl
 have k2:=cell_of_block (j:=2) HBXx.out rfl
 have k3:=cell_of_block (j:=3) HBXx.out rfl
 have k4:=cell_of_block (j:=4) HBXx.out rfl
 have kl:=hlt_of HBXx.out
 rw[hwXz] at k0 k1 k2 k3 k4 kl
 go_wp2_with fail
 rw[←hwXz,←hBXz]
 clear hwXz hBXz
 clear k0 k1 k2 k3 k4 kl
 (with_reducible refine(HT.out).mono ?_)
 rintro e w25 ⟨rfl,hok,⟨l7,p7,hv7,ho1,ho2⟩,hp⟩
 clear HT
 rw[HSY.out.e]
 have VA7:=jD hv7
 have O1a:=jD ho1
 have O2a:=jD ho2
 have HOKT:=jD hok
 obtain⟨l7a,hl7⟩: ∃x,x=l7:=⟨_,rfl⟩
 obtain⟨p7a,hp7⟩: ∃x,x=p7:=⟨_,rfl⟩
 rw[←hl7,←hp7] at VA7
 rw[←hl7] at O1a
 rw[←hp7] at O2a
 clear hl7 hp7
 have ZTa:=jD hp.size
 clear VA
 replace SB:=jD (SB.out.stp hp (fun e=>by have:=NEab.out;omega))
 replace K5:=jD (K5.out.trans (hp.sp.mono (fun q hq=> .inl hq)))
 replace VC:=jD (SiteV.stp VC.out hp (fun e=>by have:=NEac.out;omega))
 replace HAF:=jD (HAF.out.off hp.sp (fun q cs hq hc=>site_off hty hq hc (by decide)))
 replace HAP:=jD (HAP.out.step hp.sp (fun q cs hq hc=>site_off hty hq hc (by decide)) (fun v1 hv1=>hv1.off hp.sp (fun q cs hq hc=>site_off hty hq hc (by decide))))
 replace HBA:=jD (hp.block HBA.out (fun e=>site_off hty e HBA.out (by decide)))
 replace HXV:=jD (HXV.out.ty hp.sp (fun q hq=>site_tyin hty (by decide) hq))
 replace HXG:=jD (HXG.out.sp hp.sp (fun q cs hq hc=>site_off hty hq hc (by decide)))
 replace HXP:=jD (HXP.out.step hp.sp (fun q cs hq hc=>site_off hty hq hc (by decide)) (fun v1 hv1=>hv1.off hp.sp (fun q cs hq hc=>site_off hty hq hc (by decide))))
 replace HBTx:=jD (BtOwn.stp HBTx.out hp)
 replace HBXx:=jD (hp.block HBXx.out (fun e=>site_off hty e HBXx.out (by decide)))
 replace HBTy:=jD (BtOwn.stp HBTy.out hp)
 replace HBXy:=jD (hp.block HBXy.out (fun e=>site_off hty e HBXy.out (by decide)))
 replace HBTz:=jD (BtOwn.stp HBTz.out hp)
 replace HBXz:=jD (hp.block HBXz.out (fun e=>site_off hty e HBXz.out (by decide)))
 replace LW:=jD (LW.out.one hp GEga.out)
 clear hv7 ho1 ho2 hok hp hty
 generalize hta:tookS sa (syncB sa sb)=ta at*
 have HTA:=jD hta
 have HPT:=jD (show ta.P=sa.P by rw[←HTA.out];exact tookS_P _ _)
 have VCw7:=jD VC.out
 have K7:=jD (Sp.refl (fun q=>q=gc) w25)
 have Z67:=jD (show N6≤w25.heap.size by rw[E6.out];exact ZTa.out)
 have Z79:=jD (Nat.le_refl w25.heap.size)
 clear hta
 have hbo:=HBO.out
 obtain⟨PP,hP1,hP2,hP3⟩:=HBTy.out.parts
 have hPl:PP.length≤30:=by have:=hbo.ls;rw [←hP3,List.length_map] at this;exact this
 have HT:=jD (show Calls Tryz.prog 23 #[.pointer (some ⟨gc,0,none⟩), .agg #[.int .i64 sa.me, .int .i64 sa.stamp, .slice vya (syncB sa sb).V.length vyc, .slice gya (syncB sa sb).G.length gyc, .slice pya (syncB sa sb).S.length pyc]] w25 _ from stake2_c gc _ sa (syncB sa sb) PP _ _ _ f0c l0c p0c w25 (VC.out.close HOKA.out GBc.out) VC.out hbo (HBTy.out.vers.at_ (shok_bd hbo.V) (by have:=hbo.lv;omega)) (GOwn.at_ HBTy.out.gone (fun z hz=>gone_bd (hbo.G z hz)) (by have:=hbo.lg;omega)) (hP1.at_ (fun z hz=>(hP2 z hz).1) (by omega)) (fun z hz=>(hP2 z hz).1) hP3)
 have hty:=VC.out.ty
 clear hbo hP1 hP2 hP3 hPl
 have k0:=cell_of_block (j:=0) HBXy.out rfl
 have k1:=cell_of_block (j:=1) HBXy.out rfl
 have k2:=cell_of_block (j:=2) HBXy.out rfl
 have k3:=cell_of_block (j:=3) HBXy.out rfl
 have k4:=cell_of_block (j:=4) HBXy.out rfl
 have kl:=hlt_of HBXy.out
 go_wp2_with fail
 clear k0 k1 k2 k3 k4 kl
 (with_reducible refine(HT.out).mono ?_)
 rintro e w26 ⟨rfl,hok,⟨l7,p7,hv7,ho1,ho2⟩,hp⟩
 clear HT
 rw[HSY.out.e]
 rw[HTA.out] at hok hv7 ho1 ho2
 have VC7:=jD hv7
 have O1c:=jD ho1
 have O2c:=jD ho2
 have HOKT:=jD hok
 obtain⟨l7c,hl7⟩: ∃x,x=l7:=⟨_,rfl⟩
 obtain⟨p7c,hp7⟩: ∃x,x=p7:=⟨_,rfl⟩
 rw[←hl7,←hp7] at VC7
 rw[←hl7] at O1c
 rw[←hp7] at O2c
 clear hl7 hp7
 have ZTc:=jD hp.size
 clear VC
 replace SB:=jD (SB.out.stp hp (fun e=>by have:=NEbc.out;omega))
 replace K5:=jD (K5.out.trans (hp.sp.mono (fun q hq=> .inr (.inl hq))))
 replace HAF:=jD (HAF.out.off hp.sp (fun q cs hq hc=>site_off hty hq hc (by decide)))
 replace HAP:=jD (HAP.out.step hp.sp (fun q cs hq hc=>site_off hty hq hc (by decide)) (fun v1 hv1=>hv1.off hp.sp (fun q cs hq hc=>site_off hty hq hc (by decide))))
 replace HBA:=jD (hp.block HBA.out (fun e=>site_off hty e HBA.out (by decide)))
 replace HXV:=jD (HXV.out.ty hp.sp (fun q hq=>site_tyin hty (by decide) hq))
 replace HXG:=jD (HXG.out.sp hp.sp (fun q cs hq hc=>site_off hty hq hc (by decide)))
 replace HXP:=jD (HXP.out.step hp.sp (fun q cs hq hc=>site_off hty hq hc (by decide)) (fun v1 hv1=>hv1.off hp.sp (fun q cs hq hc=>site_off hty hq hc (by decide))))
 replace HBTx:=jD (BtOwn.stp HBTx.out hp)
 replace HBXx:=jD (hp.block HBXx.out (fun e=>site_off hty e HBXx.out (by decide)))
 replace HBTy:=jD (BtOwn.stp HBTy.out hp)
 replace HBXy:=jD (hp.block HBXy.out (fun e=>site_off hty e HBXy.out (by decide)))
 replace HBTz:=jD (BtOwn.stp HBTz.out hp)
 replace HBXz:=jD (hp.block HBXz.out (fun e=>site_off hty e HBXz.out (by decide)))
 replace K7:=jD (K7.out.trans (hp.sp.mono (fun q hq=>hq)))
 replace Z79:=jD (Nat.le_trans Z79.out hp.size)
 replace LW:=jD (LW.out.one hp GEgc.out)
 clear hv7 ho1 ho2 hok hp hty
 have K8:=jD (Sp.refl (fun _=>False) w26)
 have Z89:=jD (Nat.le_refl w26.heap.size)
 have hbo:=HBO.out
 have HSM:=jD (sameS_self _ _ (syncB sa sb).V w26 (HBTy.out.vers.at_ (shok_bd hbo.V) (by have:=hbo.lv;omega)) (HBTz.out.vers.at_ (shok_bd hbo.V) (by have:=hbo.lv;omega)))
 have k2:=cell_of_block (j:=2) HBXy.out rfl
 have kl:=hlt_of HBXy.out
 have m2:=cell_of_block (j:=2) HBXz.out rfl
 have ml:=hlt_of HBXz.out
 clear hbo
 go_wp2_with fail
 (with_reducible refine(HSM.out).mono ?_)
 rintro e w27 ⟨rfl,hb⟩
 clear HSM k2 kl m2 ml
 replace SB:=jD (SB.out.below hb)
 replace K5:=jD (K5.out.trans (Sp.of_below hb))
 replace HAF:=jD (HAF.out.below hb)
 replace HAP:=jD (HAP.out.below hb)
 replace HBA:=jD (below_keep hb HBA.out)
 replace HXV:=jD (HXV.out.below hb)
 replace HXG:=jD (HXG.out.sp (S:=fun _=>False) (Sp.of_below hb) (fun _ _ h=>h.elim))
 replace HXP:=jD (HXP.out.below hb)
 replace HBTx:=jD (BtOwn.below HBTx.out hb)
 replace HBXx:=jD (below_keep hb HBXx.out)
 replace HBTy:=jD (BtOwn.below HBTy.out hb)
 replace HBXy:=jD (below_keep hb HBXy.out)
 replace HBTz:=jD (BtOwn.below HBTz.out hb)
 replace HBXz:=jD (below_keep hb HBXz.out)
 replace K7:=jD (K7.out.trans (Sp.of_below hb))
 replace Z79:=jD (Nat.le_trans Z79.out hb.size)
 replace K8:=jD (K8.out.trans (Sp.of_below hb))
 replace Z89:=jD (Nat.le_trans Z89.out hb.size)
 replace LW:=jD (LW.out.below hb)
 clear hb
 obtain⟨N9,hN9⟩: ∃N,N=w27.heap.size:=⟨_,rfl⟩
 have E9:=jD hN9
 obtain⟨R,hR⟩: ∃R:Nat→Prop,R=fun q=>(N5≤q∧q < N6)∨N9≤q:=⟨_,rfl⟩
 have HR1:=jD (fun (q:Nat) (h:N5≤q∧q < N6)=>show R q by rw[hR];exact .inl h)
 have HR2:=jD (fun (q:Nat) (h:N9≤q)=>show R q by rw[hR];exact .inr h)
 have HR3:=jD (fun (q:Nat) (h:R q)=>show (N5≤q∧q < N6)∨N9≤q by rw[hR] at h;exact h)
 have Z59:=jD (show N5≤N9 by rw[hN9];exact Nat.le_trans (Nat.le_trans Z65.out Z67.out) Z79.out)
 have HR5:=jD (fun (q:Nat) (h:R q)=>show N5≤q from(HR3.out q h).elim (fun h=>h.1) fun h=>Nat.le_trans Z59.out h)
 have Z79n:=jD (show w25.heap.size≤N9 by rw[hN9];exact Z79.out)
 have Z89n:=jD (show w26.heap.size≤N9 by rw[hN9];exact Z89.out)
 have HRW:=jD (fun (q:Nat) (h:R q)=>show w.heap.size≤q from Nat.le_trans (Nat.le_trans ZB.out ZB5.out) (HR5.out q h))
 clear hR hN9
 have FARA:=jD (fun (wi:World) (h:Sp R w27 wi)=>show SiteAt wi B2 ga ta from
  site_far VA5.out VA7.out HOKT.out GBa.out HPT.out O1a.out O2a.out (by rw[←E6.out];exact Nat.le_trans ZB5.out Z65.out)
   (K5.out.trans (h.mono fun q hq=> .inr (.inr (HR5.out q hq))))
   (ns_of fun q hq=>hq.elim (fun e=> .inl (e ▸ VA5.out.notD)) fun hq=>hq.elim (fun e=> .inl (e ▸ VC5.out.notD)) fun h=> .inr (.inl (by rw[←E5.out];exact h)))
   (S7:=fun q=>q=gc∨R q) ((K7.out.mono fun q hq=> .inl hq).trans (h.mono fun q hq=> .inr hq))
   (ns_of fun q hq=>hq.elim (fun e=> .inl (e ▸ VCw7.out.notD)) fun h=>(HR3.out q h).elim (fun h=> .inr (.inr (by rw[←E6.out];exact h.2))) fun h=> .inr (.inl (Nat.le_trans Z79n.out h)))
   (fun h=>h.elim (fun e=>by have:=NEac.out;omega) fun h=>by have:=HR5.out _ h;have:=ZG.out.1;omega))
 have FARC:=jD (fun (wi:World) (h:Sp R w27 wi)=>show SiteAt wi B2 gc ta from
  site_far VC5.out VC7.out HOKT.out GBc.out HPT.out O1c.out O2c.out (Nat.le_trans (Nat.le_trans ZB5.out Z65.out) Z67.out)
   (K5.out.trans (h.mono fun q hq=> .inr (.inr (HR5.out q hq))))
   (ns_of fun q hq=>hq.elim (fun e=> .inl (e ▸ VA5.out.notD)) fun hq=>hq.elim (fun e=> .inl (e ▸ VC5.out.notD)) fun h=> .inr (.inl (by rw[←E5.out];exact h)))
   (S7:=R) ((K8.out.mono fun q hq=>hq.elim).trans h)
   (ns_of fun q h=>(HR3.out q h).elim (fun h=> .inr (.inr (Nat.lt_of_lt_of_le h.2 Z67.out))) fun h=> .inr (.inl (Nat.le_trans Z89n.out h)))
   (fun h=>by have:=HR5.out _ h;have:=ZG.out.2.2;omega))
 replace HAF:=jD (HAF.out.mono (HAFr.out R HR1.out))
 replace HAP:=jD (HAP.out.mono (HAFr.out R HR1.out))
 replace HXG:=jD (HXG.out.mono (HXr.out R HR1.out))
 replace HXP:=jD (HXP.out.mono (HXr.out R HR1.out))
 have HXR:=jD (fun (q:Nat) (h:NX≤q∧q < MX)=>HR1.out q ⟨Nat.le_trans Z5X.out h.1,Nat.lt_of_lt_of_le h.2 Z6X.out⟩)
 have SZX:=jD (SzV.of_ok' HBO.out.V (by have:=HBO.out.lv;omega))
 have SZT:=jD (SzV.of_ok' HOKT.out.L.ok (by have:=HOKT.out.L.len;omega))
 have LGX:=jD (show(syncB sa sb).G.length≤60 from HBO.out.lg)
 have LPX:=jD (show(syncB sa sb).S.length≤30 from HBO.out.ls)
 have LKA:=jD HOKA.out.klen
 have KR:=jD (Sp.refl R w27)
 have LW9:=jD LW.out
 clear LW VA5 VA7 VC5 VCw7 VC7 K5 K7 K8 Z79 Z89 HBTx HBTy HBTz HBXy HBXz SB E5 E6 Z67 Z79n Z89n HAFr HXr Z6A Z6X Z65 Z5X ZTa ZTc O1a O2a O1c O2c HSY HBO HR1 HR3 HR5
 have k2:=cell_of_block (j:=2) HBA.out rfl
 have kl:=hlt_of HBA.out
 go_wp2_with fail
 (with_reducible refine(waste3_c R _ w27 HAF.out).mono ?_)
 rintro e w28 ⟨rfl,hs,hf⟩
 clear HAF k2 kl
 replace HAP:=jD (HAP.out.step hs (fun q cs hq hc=>hq.2.not hc (by decide)) hf)
 replace HBA:=jD (hs.block HBA.out (fun h=>h.2.not HBA.out (by decide)))
 replace HXV:=jD (HXV.out.ty hs (fun q hq hv=>tf_tv hq.2 hv))
 replace HXG:=jD (HXG.out.sp hs (fun q cs hq hc=>hq.2.not hc (by decide)))
 replace HXP:=jD (HXP.out.step hs (fun q cs hq hc=>hq.2.not hc (by decide)) hf)
 replace HBXx:=jD (hs.block HBXx.out (fun h=>h.2.not HBXx.out (by decide)))
 replace KR:=jD (KR.out.trans (hs.mono fun q hq=>hq.1))
 clear hs hf
 have k2:=cell_of_block (j:=2) HBXx.out rfl
 have kl:=hlt_of HBXx.out
 go_wp2_with fail
 (with_reducible refine(wasteShelf2_c _ NX MX (syncB sa sb).V w28 HXV.out SZX.out).mono ?_)
 rintro e w29 ⟨rfl,hs0,hf0⟩
 have hs:=hs0.mono (T:=TS w28 TV R) fun q hq=>⟨HXR.out q hq.1,hq.2⟩
 have hf:=hf0 R
 clear HXV SZX k2 kl
 replace HAP:=jD (HAP.out.step hs (fun q cs hq hc=>hq.2.not hc (by decide)) hf)
 replace HBA:=jD (hs.block HBA.out (fun h=>h.2.not HBA.out (by decide)))
 replace HXG:=jD (HXG.out.sp hs (fun q cs hq hc=>hq.2.not hc (by decide)))
 replace HXP:=jD (HXP.out.step hs (fun q cs hq hc=>hq.2.not hc (by decide)) hf)
 replace HBXx:=jD (hs.block HBXx.out (fun h=>h.2.not HBXx.out (by decide)))
 replace KR:=jD (KR.out.trans (hs.mono fun q hq=>hq.1))
 clear hs hf hs0 hf0 HXR
 have k3:=cell_of_block (j:=3) HBXx.out rfl
 have kl:=hlt_of HBXx.out
 obtain⟨gn,hgn⟩: ∃n,n=(syncB sa sb).G.length:=⟨_,rfl⟩
 obtain⟨pn,hpn⟩: ∃n,n=(syncB sa sb).S.length:=⟨_,rfl⟩
 rw[←hgn] at LGX HXG HBXx k3
 rw[←hpn] at LPX HXP HBXx
 obtain⟨css,hc1,hc2,hc3⟩:=HXG.out
 have HG1:=jD hc1
 have HG2:=jD hc2
 have HG3:=jD hc3
 have hg60:=LGX.out
 clear hgn hpn hc1 hc2 hc3 HXG
 go_wp2
 clear k3 kl
 go_loopw [145] (fun i wr=> ∃k:Nat,k≤gn∧i= .int .i64 k∧Sp (TS w29 TK R) w29 wr∧ ∀v',ShF R w29 v'→ShF R wr v') (fun i _=>gn - (intOf i).toNat)
 case atStart=>exact ⟨0,Nat.zero_le _,rfl,Sp.refl _ _,fun _ h=>h⟩
 case round=>
  obtain⟨k,hk,rfl,hsp,hfp⟩:=hrel
  by_cases hlt:k < gn
  ·have hltb:decide ((k:Int) < (gn:Int))=true:=by simp;omega
   have HSP:=jD hsp
   have HFP:=jD hfp
   have hrow:=owns_sp HG2.out hsp fun q hq hSq=>by
    obtain⟨cs,hc⟩:=owns_type HG2.out hq
    exact hSq.2.not hc (by decide)
   obtain⟨g9,cap9,hv9,hcap,hmx,hgl,hcl⟩:=rowT3 hrow HG1.out (GoneSh.three HG3.out) hlt
   simp only[Value.slice.injEq,true_and] at hv9
   obtain⟨rfl,rfl⟩:=hv9
   obtain⟨i9,u9,x9,hc,hk9⟩:=HG3.out _ (List.getElem_mem (by have:=HG1.out;omega):css[k]'(by have:=HG1.out;omega)∈css)
   rw[hc] at hcl
   have hk8:=hk9.sp hsp
   have HTS:=jD hk9.ts
   obtain⟨ua,un,uc,rfl⟩:=hk9.1.shape
   obtain⟨xa,xn,xc,rfl⟩:=hk9.2.1.shape
   have d0:=hcl 0 _ (by decide) rfl
   have d1:=hcl 1 _ (by decide) rfl
   have d2:=hcl 2 _ (by decide) rfl
   simp only[Nat.add_zero] at d0
   have HB1:=jD (show Below wr.heap.size wr (wr.alloc (.cells #[.string i9, .slice ua un uc, .slice xa xn xc] 101)) from bal _)
   have hk7:=hk8.sp (S:=fun _=>False) (Sp.of_below HB1.out)
   have HK7:=jD hk7
   have HMK:=jD (wasteKnow_s _ _ _ hk7.1 hk7.2.1)
   clear hrow hc hcl hk9 hk8 hk7 hsp hfp hmx
   go_wp2_with fail
   (with_reducible refine(HMK.out).mono ?_)
   rintro e w2' ⟨rfl,hs2⟩
   have HF2:=jD (fun v' (h:ShF R w29 v')=>((HFP.out v' h).below HB1.out).off hs2 fun q cs hq hc=>hq.elim (HK7.out.1.off hc (by decide)) (HK7.out.2.1.off hc (by decide)))
   have HN:=jD (HSP.out.trans ((Sp.of_below HB1.out).trans (hs2.mono HTS.out)))
   clear hs2 HMK HB1 HK7 HTS d0 d1 d2 HSP HFP
   go_wp2
   go_roundw
   case rel=>exact ⟨k+1,by omega,by go_num,HN.out,HF2.out⟩
   case measure=>simp [intOf] <;> omega
  obtain rfl:gn=k:=by omega
  have hkb:decide ((gn:Int) < (gn:Int))=false:=by simp
  obtain⟨w30,hw9⟩: ∃x,x=wr:=⟨_,rfl⟩
  rw[←hw9] at hsp hfp ⊢
  clear hw9 hlt hk HG1 HG2 HG3
  replace HAP:=jD (HAP.out.step hsp (fun q cs hq hc=>hq.2.not hc (by decide)) hfp)
  replace HBA:=jD (hsp.block HBA.out (fun h=>h.2.not HBA.out (by decide)))
  replace HXP:=jD (HXP.out.step hsp (fun q cs hq hc=>hq.2.not hc (by decide)) hfp)
  replace HBXx:=jD (hsp.block HBXx.out (fun h=>h.2.not HBXx.out (by decide)))
  replace KR:=jD (KR.out.trans (hsp.mono fun q hq=>hq.1))
  clear hsp hfp
  have HSA:=jD (FARA.out w30 KR.out)
  have ZN9:=jD (show N9≤w30.heap.size by rw[E9.out];exact KR.out.size)
  obtain⟨an,han⟩: ∃n,n=AP.length:=⟨_,rfl⟩
  rw[HAPL.out,←han] at HAP LKA
  rw[←han] at HBA
  have HX4:=jD (cell_of_block (j:=4) HBXx.out rfl:w30.cell? ⟨BXx,4,none⟩=some (.slice pxa pn pxc))
  have HA3:=jD (cell_of_block (j:=3) HBA.out rfl:w30.cell? ⟨BA,3,none⟩=some (.slice apa an apc))
  obtain⟨tn,htn⟩: ∃n,n=(knownS ta).length:=⟨_,rfl⟩
  have HTN:=jD htn
  have LTN:=jD (show tn≤30 by rw[htn];exact HOKT.out.klen)
  have HPN:=jD (show pn+an+tn≤1000 by have h1:=LPX.out;have h2:=LKA.out;have h3:=LTN.out;omega)
  obtain⟨nn,hnn⟩: ∃n,n=pn+an+tn:=⟨_,rfl⟩
  have HNN:=jD hnn.symm
  clear hnn
  clear han htn hkb HBA HBXx HAPL
  go_wp2
  refine Cl.region0 253 rfl [] (fun _=>True) (fun _=>[]) (fun jq v ww=>match jq with | 0=>v= .pointer (some ⟨BXx,4,none⟩) | 1=>v= .slice pxa pn pxc | 2=>v= .pointer (some ⟨BA,3,none⟩) | 3=>v= .slice apa an apc | 4=>v= .pointer (some ⟨ga,0,none⟩) | 5=>PtsOwnA ww w30.heap.size v (knownS ta) | 6=>Lit3 ww w30.heap.size (.slice pxa pn pxc) (.slice apa an apc) (knownS ta) v | 7=>PartSh R ww v nn | 8=>v= .int .i64 (nn:Nat) | 9=>v= .int .i64 0 | _=>True) (fun ww=>Below w30.heap.size w30 ww) (fun jq ww ww'=>Below ww.heap.size ww ww') Tryz.mixed (by decide+kernel) (Below.refl _ _).drew trivial ?_ (fun _ _ _ _ _ _=>trivial) ?_ ?_
  ·intro q r v w w' hne hk hlt h hR
   match r,hk,hlt,h,hne with
   | 0,_,_,h,_=>exact h
   | 1,_,_,h,_=>exact h
   | 2,_,_,h,_=>exact h
   | 3,_,_,h,_=>exact h
   | 4,_,_,h,_=>exact h
   | 5,_,_,h,_=>exact h.below hR
   | 6,_,_,h,_=>exact h.below hR
   | 7,_,_,h,_=>exact h.below hR
   | 8,_,_,h,_=>exact h
   | 9,_,_,h,_=>exact h
   | _+10,_,_,_,_=>trivial
  ·refine⟨?_, ?_, ?_, ?_, ?_, ?_, ?_, ?_, ?_, ?_,trivial⟩
   ·intro x wx hG
    have f14:=hG.o 14
    replace hG:=hG.good
    go_wp2
    exact⟨_,rfl,rfl,hG,Below.refl _ _⟩
   ·intro x wx hG
    have g0:(x.tmps.getD 153 undef)= .pointer (some ⟨BXx,4,none⟩):=hG.c 0 _ rfl
    replace hG:=hG.good
    have c_HX4:=ckeep hG HX4.out
    go_wp2
    exact⟨_,rfl,rfl,hG,Below.refl _ _⟩
   ·intro x wx hG
    have f13:=hG.o 13
    replace hG:=hG.good
    go_wp2
    exact⟨_,rfl,rfl,hG,Below.refl _ _⟩
   ·intro x wx hG
    have g2:(x.tmps.getD 155 undef)= .pointer (some ⟨BA,3,none⟩):=hG.c 2 _ rfl
    replace hG:=hG.good
    have c_HA3:=ckeep hG HA3.out
    go_wp2
    exact⟨_,rfl,rfl,hG,Below.refl _ _⟩
   ·intro x wx hG
    have f8:=hG.o 8
    replace hG:=hG.good
    go_wp2
    exact⟨_,rfl,rfl,hG,Below.refl _ _⟩
   ·intro x wx hG
    have g4:(x.tmps.getD 157 undef)= .pointer (some ⟨ga,0,none⟩):=hG.c 4 _ rfl
    replace hG:=hG.good
    have HN:=jD (parts_c ga B2 ta wx (HSA.out.below hG))
    go_wp2_with fail
    (with_reducible refine(HN.out).mono ?_)
    rintro e wq ⟨v9,rfl,h9,hb⟩
    have H9:=jD (PtsOwnA.mono h9 hG.size)
    have HBB:=jD hb
    obtain⟨oa,oc,hov⟩:=h9.shape
    subst hov
    clear h9 hb HN
    go_wp2
    exact⟨_,rfl,H9.out,bstep hG HBB.out,HBB.out⟩
   ·intro x wx hG
    have g1:(x.tmps.getD 154 undef)= .slice pxa pn pxc:=hG.c 1 _ rfl
    have g1b:=gd g1
    have g3:(x.tmps.getD 156 undef)= .slice apa an apc:=hG.c 3 _ rfl
    have g3b:=gd g3
    have g5:PtsOwnA wx w30.heap.size (x.tmps.getD 158 undef) (knownS ta):=hG.c 5 _ rfl
    replace hG:=hG.good
    obtain⟨oa,oc,hv⟩:=g5.shape
    have H5:=jD g5
    rw[hv] at H5
    have hvb:=hv
    rw[Array.getD_eq_getD_getElem?] at hvb
    clear g5
    go_wp2
    exact⟨_,rfl,⟨_,_,rfl,alloc_new _ _ _ _ rfl,PtsOwnA.below H5.out (bal _)⟩,hG.alloc hG.size _,bal _⟩
   ·intro x wx hG
    have g6:Lit3 wx w30.heap.size (.slice pxa pn pxc) (.slice apa an apc) (knownS ta) (x.tmps.getD 159 undef):=hG.c 6 _ rfl
    replace hG:=hG.good
    obtain⟨q9,c9,hv,hq9,hp9⟩:=g6
    have hvb:=hv
    rw[Array.getD_eq_getD_getElem?] at hvb
    have HN:=jD (pconcat3_c wx hq9 (HXP.out.below hG) (HAP.out.below hG) (HTN.out ▸ PartSh.of hp9 (fun q h1 _=>HR2.out q (Nat.le_trans ZN9.out h1))) HPN.out)
    clear hq9 hp9
    go_wp2_with fail
    (with_reducible refine(HN.out).mono ?_)
    rintro e wq ⟨v9,rfl,h9,hb⟩
    rw[HNN.out] at h9
    have H9:=jD h9
    have HBB:=jD hb
    obtain⟨oa,oc,hov⟩:=h9.shape
    subst hov
    clear h9 hb HN
    go_wp2
    exact⟨_,rfl,H9.out,bstep hG HBB.out,HBB.out⟩
   ·intro x wx hG
    have g7:PartSh R wx (x.tmps.getD 160 undef) nn:=hG.c 7 _ rfl
    replace hG:=hG.good
    obtain⟨oa,oc,hv⟩:=g7.shape
    have hvb:=hv
    rw[Array.getD_eq_getD_getElem?] at hvb
    clear g7
    go_wp2
    exact⟨_,rfl,rfl,hG,Below.refl _ _⟩
   ·intro x wx hG
    replace hG:=hG.good
    go_wp2
    exact⟨_,rfl,rfl,hG,Below.refl _ _⟩
  ·intro vals w31 hg hF
   obtain⟨g0,g1,g2,g3,g4,g5,g6,g7,g8,g9, -⟩:=hF
   have e0:=gq (vals 0) g0
   have e1:=gq (vals 1) g1
   have e2:=gq (vals 2) g2
   have e3:=gq (vals 3) g3
   have e4:=gq (vals 4) g4
   replace g7:PartSh R w31 (vals 7) nn:=g7 rfl
   have e8:=gq (vals 8) g8
   have e9:=gq (vals 9) g9
   simp only[Cl.puts,e0,e1,e2,e3,e4,e8,e9]
   clear e0 e1 e2 e3 e4 e8 e9 g0 g1 g2 g3 g4 g5 g6 g8 g9
   go_simp
   generalize vals 7=cv at*
   obtain⟨ca,cc,hcv⟩:=g7.shape
   subst hcv
   obtain⟨css,hc1,hc2,hc3⟩:=g7
   have HC1:=jD hc1
   have HC2:=jD hc2
   have HC3:=jD hc3
   have hnl:nn≤1000:=by have:=HPN.out;have:=HNN.out;omega
   clear hc1 hc2 hc3 HNN HXP HAP HX4 HA3 HSA HPN HTN LTN LPX LKA LGX
   replace KR:=jD (KR.out.trans (Sp.of_below hg))
   clear hg
   go_wp2
   go_loopw [162] (fun i wr=> ∃k:Nat,k≤nn∧i= .int .i64 k∧Sp (TS w31 TFK R) w31 wr∧ ∀v',ShF (TS w31 TF R) w31 v'→ShF (TS w31 TF R) wr v') (fun i _=>nn - (intOf i).toNat)
   case atStart=>exact ⟨0,Nat.zero_le _,rfl,Sp.refl _ _,fun _ h=>h⟩
   case round=>
    obtain⟨k,hk,rfl,hsp,hfp⟩:=hrel
    by_cases hlt:k < nn
    ·have hltb:decide ((k:Int) < (nn:Int))=true:=by simp;omega
     have HSP:=jD hsp
     have HFP:=jD hfp
     have hrow:=owns_sp HC2.out hsp fun q hq hSq=>by
      obtain⟨cs,hc⟩:=owns_type HC2.out hq
      exact hSq.2.not hc (by decide)
     obtain⟨g9,cap9,hv9,hcap,hmx,hgl,hcl⟩:=rowT3 hrow HC1.out (PtSh.three HC3.out) hlt
     simp only[Value.slice.injEq,true_and] at hv9
     obtain⟨rfl,rfl⟩:=hv9
     obtain⟨f9,u9,x9,hc,hf9,hk9⟩:=HC3.out _ (List.getElem_mem (by have:=HC1.out;omega):css[k]'(by have:=HC1.out;omega)∈css)
     rw[hc] at hcl
     have hk8:=hk9.sp hsp
     have HTS:=jD hk9.ts
     have hf8:=hfp _ hf9.typed
     obtain⟨fa9,fn9,fc9,rfl⟩:=hf9.row.shape
     obtain⟨ua,un,uc,rfl⟩:=hk9.1.shape
     obtain⟨xa,xn,xc,rfl⟩:=hk9.2.1.shape
     have d0:=hcl 0 _ (by decide) rfl
     have d1:=hcl 1 _ (by decide) rfl
     have d2:=hcl 2 _ (by decide) rfl
     simp only[Nat.add_zero] at d0
     obtain⟨BP,hBP⟩: ∃B,B=wr.heap.size:=⟨_,rfl⟩
     obtain⟨W1,hW1⟩: ∃W,W=wr.alloc (.cells #[.slice fa9 fn9 fc9, .slice ua un uc, .slice xa xn xc] 105):=⟨_,rfl⟩
     have hb1:Below wr.heap.size wr W1:=by rw[hW1];exact bal _
     have HBP:=jD (show W1.heap[BP]? =some (Obj.cells #[.slice fa9 fn9 fc9, .slice ua un uc, .slice xa xn xc] 105 (0,0)) by rw[hW1];exact alloc_new _ _ _ _ hBP)
     have HBQ:=jD (show ¬(BP < w31.heap.size) by have:=hsp.size;omega)
     have HK7:=jD (hk8.sp (S:=fun _=>False) (Sp.of_below hb1))
     have HB1:=jD hb1
     have HMK:=jD (waste2_c (TS w31 TF R) _ W1 (hf8.below hb1))
     have p0:=cell_of_block (j:=0) HBP.out rfl
     have pl:=hlt_of HBP.out
     rw[hW1,hBP] at p0 pl
     clear hrow hc hcl hk9 hk8 hf8 hf9 hsp hfp hmx hb1
     go_wp2_with fail
     rw[←hW1,←hBP]
     clear hW1 hBP d0 d1 d2 p0 pl
     (with_reducible refine(HMK.out).mono ?_)
     rintro e w2' ⟨rfl,hs2,hf2⟩
     have HN1:=jD (HSP.out.trans ((Sp.of_below HB1.out).trans (hs2.mono (T:=TS w31 TFK R) fun q hq=>⟨hq.1,hq.2.imp tfk_f⟩)))
     have HF1:=jD (fun v' (h:ShF (TS w31 TF R) w31 v')=>hf2 v' ((HFP.out v' h).below HB1.out))
     have HBP2:=jD (hs2.block HBP.out fun h=>HBQ.out h.2.lt)
     have HK6:=jD (HK7.out.sp hs2)
     have HMK:=jD (wasteKnow_s _ _ _ HK6.out.1 HK6.out.2.1)
     have p1:=cell_of_block (j:=1) HBP2.out rfl
     have p2:=cell_of_block (j:=2) HBP2.out rfl
     have pl:=hlt_of HBP2.out
     clear hs2 hf2 HSP HFP HB1 HBP HBQ HK7
     go_wp2_with fail
     (with_reducible refine(HMK.out).mono ?_)
     rintro e w3' ⟨rfl,hs3⟩
     have HF2:=jD (fun v' (h:ShF (TS w31 TF R) w31 v')=>(HF1.out v' h).off hs3 fun q cs hq hc=>hq.elim (HK6.out.1.off hc (by decide)) (HK6.out.2.1.off hc (by decide)))
     have HN:=jD (HN1.out.trans (hs3.mono fun q hq=>(show TS w31 TFK R q from⟨(HTS.out q hq).1,(HTS.out q hq).2.imp tfk_k⟩)))
     clear hs3 HMK HK6 HTS HN1 HF1 HBP2 p1 p2 pl
     go_wp2
     go_roundw
     case rel=>exact ⟨k+1,by omega,by go_num,HN.out,HF2.out⟩
     case measure=>simp [intOf] <;> omega
    obtain rfl:nn=k:=by omega
    have hkb:decide ((nn:Int) < (nn:Int))=false:=by simp
    obtain⟨w32,hw9⟩: ∃x,x=wr:=⟨_,rfl⟩
    rw[←hw9] at hsp hfp ⊢
    replace KR:=jD (KR.out.trans (hsp.mono fun q hq=>hq.1))
    clear hw9 hlt hk HC1 HC2 HC3 hsp hfp
    go_wp2_with fail
    (with_reducible refine(sshelf_c ga _ _ w32 (FARA.out w32 KR.out)).mono ?_)
    rintro e w33 ⟨sha,shc,rfl,hv,hb⟩
    have HWS:=jD (wasteShelf2_c _ _ _ ta.L w33 (OwnV.of_own hv) SZT.out)
    have HB0:=jD hb
    clear hb hv hkb
    go_wp2_with fail
    (with_reducible refine(HWS.out).mono ?_)
    rintro e w34 ⟨rfl,hs, -⟩
    have hb:Below w32.heap.size w32 w34:=((Sp.of_below (S:=fun q=>w32.heap.size≤q) HB0.out).trans (hs.mono fun q hq=>hq.1.1)).toBelow (fun _ h=>h) (Nat.le_refl _)
    clear hs HB0 HWS
    replace KR:=jD (KR.out.trans (Sp.of_below hb))
    clear hb
    go_wp2_with fail
    (with_reducible refine(sfilter_c ga _ _ w34 (FARA.out w34 KR.out)).mono ?_)
    rintro e w35 ⟨fv9,rfl,hv,hb⟩
    have HWS:=jD (waste3_c (fun q=>w34.heap.size≤q) _ w35 (ShF.fo hv fun q h1 _=>h1))
    have HB0:=jD hb
    clear hb hv
    go_wp2_with fail
    (with_reducible refine(HWS.out).mono ?_)
    rintro e w36 ⟨rfl,hs, -⟩
    have hb:Below w34.heap.size w34 w36:=((Sp.of_below (S:=fun q=>w34.heap.size≤q) HB0.out).trans (hs.mono fun q hq=>hq.1)).toBelow (fun _ h=>h) (Nat.le_refl _)
    clear hs HB0 HWS
    replace KR:=jD (KR.out.trans (Sp.of_below hb))
    clear hb
    have SA:=jD (FARA.out w36 KR.out)
    have SC:=jD (FARC.out w36 KR.out)
    have LW:=jD (LW9.out.spx KR.out HRW.out)
    clear FARA FARC KR LW9 HRW HR2 E9
    go_wp2_with fail
    (with_reducible refine(sshelf_c ga _ _ w36 SA.out).mono ?_)
    rintro e w37 ⟨xa,xc,rfl,hv,hb⟩
    have xV:=jD (VOwn.mono hv (Nat.zero_le _))
    replace SA:=jD (SA.out.below hb)
    replace SC:=jD (SC.out.below hb)
    replace LW:=jD (LW.out.below hb)
    clear hv hb
    go_wp2_with fail
    (with_reducible refine(sshelf_c gc _ _ w37 SC.out).mono ?_)
    rintro e w38 ⟨ya,yc,rfl,hv,hb⟩
    have yV:=jD (VOwn.mono hv (Nat.zero_le _))
    replace SA:=jD (SA.out.below hb)
    replace SC:=jD (SC.out.below hb)
    replace xV:=jD (VOwn.below xV.out hb)
    replace LW:=jD (LW.out.below hb)
    clear hv hb
    have hk1:=HOKT.out.L.len
    have HSM:=jD (sameS_self _ _ ta.L w38 (xV.out.at_ (shok_bd HOKT.out.L.ok) (by omega)) (yV.out.at_ (shok_bd HOKT.out.L.ok) (by omega)))
    clear hk1
    go_wp2_with fail
    (with_reducible refine(HSM.out).mono ?_)
    rintro e w39 ⟨rfl,hb⟩
    clear HSM
    clear xV
    clear yV
    replace SA:=jD (SA.out.below hb)
    replace SC:=jD (SC.out.below hb)
    replace LW:=jD (LW.out.below hb)
    clear hb
    go_wp2_with fail
    (with_reducible refine(parts_c ga _ _ w39 SA.out).mono ?_)
    rintro e w40 ⟨xp,rfl,hv,hb⟩
    obtain⟨xpa,xpc,hvv⟩:=hv.shape
    subst hvv
    have xpV:=jD (PtsOwnA.mono hv (Nat.zero_le _))
    replace SA:=jD (SA.out.below hb)
    replace SC:=jD (SC.out.below hb)
    replace LW:=jD (LW.out.below hb)
    clear hv hb
    go_wp2_with fail
    (with_reducible refine(parts_c gc _ _ w40 SC.out).mono ?_)
    rintro e w41 ⟨yp,rfl,hv,hb⟩
    obtain⟨ypa,ypc,hvv⟩:=hv.shape
    subst hvv
    have ypV:=jD (PtsOwnA.mono hv (Nat.zero_le _))
    replace SA:=jD (SA.out.below hb)
    replace SC:=jD (SC.out.below hb)
    replace xpV:=jD (PtsOwnA.below xpV.out hb)
    replace LW:=jD (LW.out.below hb)
    clear hv hb
    have hk1:=HOKT.out.klen
    have HBB:=jD (pboth_s _ _ _ _ w41 (xpV.out.sem (by omega)) (ypV.out.sem (by omega)) hk1 hk1)
    have HWI:=jD (show withinS (knownS ta) (knownS ta)=true from withinS_iff.2 fun t n ht hn s c h0 h5 h1 h2 hk=>hk)
    rw[HWI.out] at HBB
    clear hk1 HWI
    go_wp2_with fail
    (with_reducible refine(HBB.out).mono ?_)
    rintro e w42 ⟨rfl,hb⟩
    clear HBB
    clear xpV
    clear ypV
    replace SA:=jD (SA.out.below hb)
    replace SC:=jD (SC.out.below hb)
    replace LW:=jD (LW.out.below hb)
    clear hb
    go_wp2_with fail
    (with_reducible refine(sfilter_c ga _ _ w42 SA.out).mono ?_)
    rintro e w43 ⟨xf,rfl,hv,hb⟩
    obtain⟨xfl,hv1,hv2,hv3⟩:=hv
    obtain⟨xfa,xfc,hvv⟩:=(FOwn.at_ok hv1 hv2).shape
    subst hvv
    have xfV:=jD hv1
    have xfC:=jD hv2
    have xfP:=jD hv3
    replace SA:=jD (SA.out.below hb)
    replace SC:=jD (SC.out.below hb)
    replace LW:=jD (LW.out.below hb)
    clear hv1 hv2 hv3 hb
    go_wp2_with fail
    (with_reducible refine(sfilter_c gc _ _ w43 SC.out).mono ?_)
    rintro e w44 ⟨yf,rfl,hv,hb⟩
    obtain⟨yfl,hv1,hv2,hv3⟩:=hv
    obtain⟨yfa,yfc,hvv⟩:=(FOwn.at_ok hv1 hv2).shape
    subst hvv
    have yfV:=jD hv1
    have yfC:=jD hv2
    have yfP:=jD hv3
    replace SA:=jD (SA.out.below hb)
    replace SC:=jD (SC.out.below hb)
    replace xfV:=jD (BxsOwn.below xfV.out hb)
    replace LW:=jD (LW.out.below hb)
    clear hv1 hv2 hv3 hb
    have HSM:=jD (same_c _ _ xfl yfl w44 (FOwn.at_ok xfV.out xfC.out) (FOwn.at_ok yfV.out yfC.out))
    rw[sameE_pts xfC.out yfC.out xfP.out yfP.out] at HSM
    go_wp2_with fail
    (with_reducible refine(HSM.out).mono ?_)
    rintro e w45 ⟨rfl,hb⟩
    clear HSM xfC yfC xfP yfP
    clear xfV
    clear yfV
    clear SA
    clear SC
    replace LW:=jD (LW.out.below hb)
    clear hb
    go_wp2_with fail
    (with_reducible refine(everyS w45).mono ?_)
    rintro e w46 ⟨ev,rfl,hev,hb⟩
    obtain⟨eva,evc,hevs⟩:=(hev.at_ok every_chk).shape
    subst hevs
    have HEV:=jD (FOwn.at_ok hev every_chk)
    replace LW:=jD (LW.out.below hb)
    obtain⟨BS,hBS⟩: ∃B,B=w46.heap.size:=⟨_,rfl⟩
    obtain⟨w47,hW2⟩: ∃W,W=w46.alloc (.cells #[.slice fa F.length fc, .slice eva everyB.length evc] 33):=⟨_,rfl⟩
    have hb2:Below w46.heap.size w46 w47:=by rw[hW2];exact bal _
    have HBL:=jD (show w47.heap[BS]? =some (Obj.cells #[.slice fa F.length fc, .slice eva everyB.length evc] 33 (0,0)) by rw[hW2];exact alloc_new _ _ _ _ hBS)
    replace LW:=jD (LW.out.below hb2)
    have HROW:=jD (show RowAt bxsE w47 (.slice (some ⟨BS,0,none⟩) 2 2) [F,everyB] from by
     refine⟨[[.slice fa F.length fc],[.slice eva everyB.length evc]],⟨⟨_,rfl,BxsAt.sub HF.out LW.out.sub⟩,⟨_,rfl,HEV.out.below hb2⟩,trivial⟩, ?_⟩
     exact CellsAt.mk (Nat.le_refl _) (by decide) (hlt_of HBL.out) fun j x hj=>by rw[Nat.zero_add];exact cell_of_block (j:=j) HBL.out (by simpa using hj))
    have HT:=jD (tnew_c _ _ (fun q=>w47.heap.size≤q) w47 HROW.out (by show 2≤5;decide) (by intro F' hF;simp only[List.mem_cons,List.not_mem_nil,or_false] at hF;rcases hF with rfl | rfl;exact ZF.out;exact every_chk) (fun _ h=>h))
    clear hev hb hb2 HROW HEV HBL
    go_wp2_with fail
    rw[←hW2,←hBS]
    clear hW2 hBS
    (with_reducible refine(HT.out).mono ?_)
    rintro e w48 ⟨g,rfl,ht,hb⟩
    have HTW:=jD ht
    have HSZ:=jD hb.size
    have HW2:=jD LW.out.size
    clear ht HT
    replace LW:=jD (LW.out.below hb)
    clear hb
    have ZT:=jD (show w47.heap.size≤w48.heap.size from HSZ.out)
    clear HSZ
    have HTC:=jD (tmakeM_c g w47.heap.size (fun q=>w47.heap.size≤q) F w48 HTW.out)
    go_wp2_with fail
    (with_reducible refine(HTC.out).mono ?_)
    rintro e w49 ⟨⟨mv9,rfl⟩,ht,hp⟩
    clear HTC
    replace HTW:=jD ht
    replace ZT:=jD (Nat.le_trans ZT.out hp.size)
    replace LW:=jD (LW.out.step hp fun q hq=>Nat.le_trans HW2.out hq)
    clear ht hp
    have HTC:=jD (tsendM_c g w47.heap.size (fun q=>w47.heap.size≤q) F w49 HTW.out (fun q hq=>Nat.le_trans ZT.out hq))
    go_wp2_with fail
    (with_reducible refine(HTC.out).mono ?_)
    rintro e w50 ⟨rfl,ht,hp⟩
    clear HTC
    replace HTW:=jD ht
    replace ZT:=jD (Nat.le_trans ZT.out hp.size)
    replace LW:=jD (LW.out.step hp fun q hq=>Nat.le_trans HW2.out hq)
    clear ht hp
    have HTC:=jD (tbringM_c g w47.heap.size (fun q=>w47.heap.size≤q) F w50 HTW.out (fun q hq=>Nat.le_trans ZT.out hq))
    go_wp2_with fail
    (with_reducible refine(HTC.out).mono ?_)
    rintro e w51 ⟨rfl,⟨t9,ht,hwy,hwl,hi9,v1,hv1,hvL,hvo⟩,hp⟩
    clear HTC
    replace HTW:=jD ht
    replace ZT:=jD (Nat.le_trans ZT.out hp.size)
    replace LW:=jD (LW.out.step hp fun q hq=>Nat.le_trans HW2.out hq)
    clear ht hp
    have HWY:=jD hwy
    have HWL:=jD hwl
    have HV1:=jD hv1
    have HSL:=jD hvL
    have HVK:=jD hvo
    clear hwy hwl hv1 hvL hvo
    go_wp2_with fail
    (with_reducible refine(tway_c g w47.heap.size (fun q=>w47.heap.size≤q) t9 w51 HTW.out).mono ?_)
    rintro e w52 ⟨wa,wc,rfl,hw,hb⟩
    rw[HWL.out,HWY.out] at hw
    rw[HWL.out]
    have HSP:=jD (spoil_bool _ false w52 (ShRow.of_owns hw))
    have HB0:=jD hb
    have HOB:=jD (fun q hq=>(hw.lt q hq).1)
    clear hb hw
    go_wp2_with fail
    (with_reducible refine(HSP.out).mono ?_)
    rintro e w53 ⟨rfl,hs⟩
    have hb:Below w51.heap.size w51 w53:=((Sp.of_below (S:=fun q=>w51.heap.size≤q) HB0.out).trans (hs.mono fun q hq=>HOB.out q hq)).toBelow (fun _ h=>h) (Nat.le_refl _)
    clear hs HB0 HSP HOB
    replace ZT:=jD (Nat.le_trans ZT.out hb.size)
    replace LW:=jD (LW.out.below hb)
    replace HTW:=jD (HTW.out.below hb)
    clear hb
    have HTC:=jD (show Calls Tryz.prog 25 #[.pointer (some ⟨g,0,none⟩), .int .i64 1] w53 _ from tshelf_c g w47.heap.size (fun q=>w47.heap.size≤q) t9 1 hi9 w53 HTW.out)
    rw[HSL.out] at HTC
    go_wp2_with fail
    (with_reducible refine(HTC.out).mono ?_)
    rintro e w54 ⟨sha,shc,rfl,hv,hb⟩
    clear HTC
    replace hv:VOwn w54 w53.heap.size (.slice sha 1 shc) [v1]:=hv
    have HVO:=jD (SzV.of_ok' (l:=[v1]) (fun x hx=>by rw[List.mem_singleton.1 hx];exact HVK.out) (by show 1≤1000;decide))
    have HWS:=jD (wasteShelf2_c _ _ _ [v1] w54 (OwnV.of_own hv) HVO.out)
    have HB0:=jD hb
    clear hb hv HVO
    go_wp2_with fail
    (with_reducible refine(HWS.out).mono ?_)
    rintro e w55 ⟨rfl,hs, -⟩
    have hb:Below w53.heap.size w53 w55:=((Sp.of_below (S:=fun q=>w53.heap.size≤q) HB0.out).trans (hs.mono fun q hq=>hq.1.1)).toBelow (fun _ h=>h) (Nat.le_refl _)
    clear hs HB0 HWS
    replace ZT:=jD (Nat.le_trans ZT.out hb.size)
    replace LW:=jD (LW.out.below hb)
    replace HTW:=jD (HTW.out.below hb)
    clear hb
    have HTC:=jD (show Calls Tryz.prog 25 #[.pointer (some ⟨g,0,none⟩), .int .i64 1] w55 _ from tshelf_c g w47.heap.size (fun q=>w47.heap.size≤q) t9 1 hi9 w55 HTW.out)
    rw[HSL.out] at HTC
    go_wp2_with fail
    (with_reducible refine(HTC.out).mono ?_)
    rintro e w56 ⟨sha,shc,rfl,hv,hb⟩
    clear HTC
    replace hv:VOwn w56 w55.heap.size (.slice sha 1 shc) [v1]:=hv
    have HVO:=jD hv
    replace ZT:=jD (Nat.le_trans ZT.out hb.size)
    replace LW:=jD (LW.out.below hb)
    replace HTW:=jD (HTW.out.below hb)
    clear hb hv
    obtain⟨q9,c9,hq9,hql,hqc⟩:=own_first HVO.out
    rw[HV1.out] at hqc
    simp only[Value.slice.injEq] at hq9
    obtain⟨rfl, -,rfl⟩:=hq9
    go_wp2_with fail
    (with_reducible refine(tway_c g w47.heap.size (fun q=>w47.heap.size≤q) t9 w56 HTW.out).mono ?_)
    rintro e w57 ⟨wa,wc,rfl,hw,hb⟩
    rw[HWL.out,HWY.out] at hw
    rw[HWL.out]
    have HW9:=jD hw
    replace ZT:=jD (Nat.le_trans ZT.out hb.size)
    replace LW:=jD (LW.out.below hb)
    replace HTW:=jD (HTW.out.below hb)
    clear hb hw
    obtain⟨BL,hBL⟩: ∃B,B=w57.heap.size:=⟨_,rfl⟩
    obtain⟨w58,hW7⟩: ∃W,W=w57.alloc (.cells #[.bool false, .bool true] 4):=⟨_,rfl⟩
    have hb7:Below w57.heap.size w57 w58:=by rw[hW7];exact bal _
    have hbl7:w58.heap[BL]? =some (Obj.cells #[.bool false, .bool true] 4 (0,0)):=by rw[hW7];exact alloc_new _ _ _ _ hBL
    have HQ1:=jD (show RowAt boolE w58 (.slice wa 2 wc) [false,true] from boolE_at ((CellsAt.of_owns HW9.out (by decide)).below hb7))
    have HQ2:=jD (show RowAt boolE w58 (.slice (some ⟨BL,0,none⟩) 2 2) [false,true] from boolE_at (CellsAt.mk (Nat.le_refl _) (by decide) (hlt_of hbl7) fun j x hj=>by rw[Nat.zero_add];exact cell_of_block (j:=j) hbl7 (by simpa using hj)))
    have HEQ:=jD (eqBools_c _ _ _ w58 HQ1.out HQ2.out)
    replace ZT:=jD (Nat.le_trans ZT.out hb7.size)
    replace LW:=jD (LW.out.below hb7)
    replace HTW:=jD (HTW.out.below hb7)
    clear hb7 hbl7 HW9 HQ1 HQ2 hqc hql HVO
    go_wp2_with fail
    rw[←hW7,←hBL]
    clear hW7 hBL
    (with_reducible refine(HEQ.out).mono ?_)
    rintro e w59 ⟨rfl,hb⟩
    replace ZT:=jD (Nat.le_trans ZT.out hb.size)
    replace LW:=jD (LW.out.below hb)
    replace HTW:=jD (HTW.out.below hb)
    clear hb HEQ
    have HB:=jD LW.out.toBelow
    go_wp2
    go_ret
    exact⟨rfl,HB.out⟩
end Go.Proofs.YtgkgdedhicnohaaGreat
