/- What SiteKnows does. Written by a small program (gen/sl.py). -/
import Derived.Test.YtgkgdedhicnohaaGreatRef9
namespace Go.Proofs.YtgkgdedhicnohaaGreat
set_option maxRecDepth 100000
set_option maxHeartbeats 40000000
open Go.RowKit
theorem SiteKnows_walk (fv lv mv:Value) (F:Bxs) (l m:List (List Int)) (pt pn:Int) (w:World) (hF:BxsAt w fv F) (hl:RowAt vecE w lv l) (hm:RowAt vecE w mv m):
  Calls Tryz.prog 6 #[fv,lv,mv, .agg #[.int .i64 pt, .int .i64 pn]] w fun e w'=>e= .returned (.bool true)∧Below w.heap.size w w':=by
 obtain⟨fa,fc,rfl⟩:=hF.shape
 obtain⟨la,lc,rfl⟩:=hl.shape
 obtain⟨ma,mc,rfl⟩:=hm.shape
 have HF:=jD hF
 have HL:=jD hl
 have HM:=jD hm
 clear hF hl hm
 obtain⟨B9,hB9⟩: ∃B,B=w.heap.size:=⟨_,rfl⟩
 obtain⟨W0,hW0⟩: ∃W0,W0=w.alloc (.cells #[.int .i64 pt, .int .i64 pn] 39):=⟨_,rfl⟩
 have HP9:=jD (show W0.heap[B9]? =some (Obj.cells #[.int .i64 pt, .int .i64 pn] 39 (0,0)) by rw[hW0];exact alloc_new _ _ _ _ hB9)
 have HW0:=jD hW0
 have HB9:=jD hB9
 have hb:=jD (show Below w.heap.size w W0 by rw[hW0];exact bal _)
 clear hW0 hB9
 have LW:=jD (Lw.refl w)
 replace LW:=jD (LW.out.below hb.out)
 clear hb
 go_enter Tryz.func6,Tryz.ntmps6
 go_wp2_with fail
 rw[←HW0.out,←HB9.out]
 clear HW0 HB9
 (with_reducible refine(siteBegun_c W0).mono ?_)
 rintro e w1 ⟨rfl,hb⟩
 replace HP9:=jD (below_keep hb HP9.out)
 replace LW:=jD (LW.out.below hb)
 clear hb
 go_wp2_with fail
 (with_reducible refine(fChk_c _ F w1 (BxsAt.sub HF.out LW.out.sub)).mono ?_)
 rintro e w2 ⟨rfl,hb⟩
 replace HP9:=jD (below_keep hb HP9.out)
 replace LW:=jD (LW.out.below hb)
 clear hb
 by_cases hz:fChk F=0
 rotate_left
 ·have hd:decide (fChk F=0)=false:=by simpa using hz
  have hd2:(fChk F != 0)=true:=bne_iff_ne.2 hz
  have HB:=jD LW.out.toBelow
  go_wp2
  go_ret
  exact⟨rfl,HB.out⟩
 have ZF:=jD hz
 rw[hz]
 clear hz
 have k0:=cell_of_block (j:=0) HP9.out rfl
 have k1:=cell_of_block (j:=1) HP9.out rfl
 go_wp2_with fail
 (with_reducible refine(point_c pt pn w2).mono ?_)
 rintro e w3 ⟨rfl,hb⟩
 replace HP9:=jD (below_keep hb HP9.out)
 replace LW:=jD (LW.out.below hb)
 clear hb k0 k1
 cases hpt:ptOk pt pn
 ·have HB:=jD LW.out.toBelow
  go_wp2
  go_ret
  exact⟨rfl,HB.out⟩
 obtain⟨r1,r2,r3,r4⟩:=pt_rng hpt
 obtain⟨t,ht⟩: ∃t:Nat,pt=(t:Int):=⟨pt.toNat,by omega⟩
 obtain⟨n,hn⟩: ∃n:Nat,pn=(n:Int):=⟨pn.toNat,by omega⟩
 subst ht
 subst hn
 have HT16:=jD (show t < 16 by omega)
 have HN32:=jD (show n < 32 by omega)
 have HPT:=jD hpt
 clear hpt r1 r2 r3 r4
 go_wp2_with fail
 (with_reducible refine(everyS w3).mono ?_)
 rintro e w4 ⟨ev,rfl,hev,hb⟩
 obtain⟨eva,evc,hev⟩:=(hev.at_ok every_chk).shape
 subst hev
 have HEVev:=jD hev
 replace HP9:=jD (below_keep hb HP9.out)
 replace LW:=jD (LW.out.below hb)
 clear hb hev
 go_wp2_with fail
 (with_reducible refine(stwo_c _ _ F everyB w4 (BxsAt.sub HF.out LW.out.sub) (FOwn.at_ok HEVev.out every_chk) ZF.out every_chk).mono ?_)
 rintro e w5 ⟨ga,gb,rfl,hsa,hsb,hlt,hb⟩
 have HS0:=jD LW.out.size
 have SA:=jD (SiteAt.mono hsa HS0.out)
 have SB:=jD (SiteAt.mono hsb HS0.out)
 have GEga:=jD SA.out.ge
 have GEgb:=jD SB.out.ge
 have NEgagb:=jD hlt
 have HLSAP:=jD (show B9 < ga from Nat.lt_of_lt_of_le (hlt_of HP9.out) hsa.ge)
 have HLSBP:=jD (show B9 < gb from Nat.lt_of_lt_of_le (hlt_of HP9.out) hsb.ge)
 clear hsa hsb hlt HS0
 replace HP9:=jD (below_keep hb HP9.out)
 replace HEVev:=jD (BxsOwn.below HEVev.out hb)
 replace LW:=jD (LW.out.below hb)
 clear hb
 clear HEVev
 have HMA:=jD (show(newS 0 (ptsOf F)).made≤900 from(by decide:(0:Int)≤900))
 have HMB:=jD (show(newS 1 (ptsOf everyB)).made≤900 from(by decide:(0:Int)≤900))
 have M0:=jD (made_new [] 0 (ptsOf F) Hx.nil (by simp))
 go_wp2_with fail
 (with_reducible refine(smakes_c ga _ (newS 0 (ptsOf F)) [] _ m w5 SA.out M0.out (by simp) HMA.out (fun w' hs=>HM.out.sub (LW.out.one hs GEga.out).sub)).mono ?_)
 rintro e w6 ⟨U1,s1,rfl,hgr,hs,hp⟩
 have Gs1:=jD hgr
 clear hgr
 replace SA:=jD hs
 replace HP9:=jD (hp.block HP9.out (by have:=HLSAP.out;omega))
 replace SB:=jD (SB.out.stp hp (fun e=>by have:=NEgagb.out;omega))
 replace LW:=jD (LW.out.one hp GEga.out)
 clear hs hp
 have M1:=jD (made_other Gs1.out 1 (ptsOf everyB) (by exact(by decide:(0:Int)≠1)))
 have HU1:=jD (show U1.length≤47 by have:=Gs1.out.len.1;simp at this;omega)
 go_wp2_with fail
 (with_reducible refine(smakes_c gb _ (newS 1 (ptsOf everyB)) U1 _ l w6 SB.out M1.out HU1.out HMB.out (fun w' hs=>HL.out.sub (LW.out.one hs GEgb.out).sub)).mono ?_)
 rintro e w7 ⟨U2,s2,rfl,hgr,hs,hp⟩
 have Gs2:=jD hgr
 clear hgr
 replace SB:=jD hs
 replace HP9:=jD (hp.block HP9.out (by have:=HLSBP.out;omega))
 replace SA:=jD (SA.out.stp hp (fun e=>by have:=NEgagb.out;omega))
 replace LW:=jD (LW.out.one hp GEgb.out)
 clear hs hp
 have HUN:=jD (show Uni U2 from Gs2.out.made.hx.uni (by have h1:=Gs1.out.len.1;have h2:=Gs2.out.len.1;simp at h1;omega))
 have HSUB:=jD (show ∀x∈s1.L,x∈U2 from fun x hx=>Gs2.out.sub_of x (Gs1.out.made.sub x hx))
 have HA12:=jD (show s1.made≤12 by have:=Gs1.out.len.2.2;simp [newS] at this;omega)
 have HB12:=jD (show s2.made≤12 by have:=Gs2.out.len.2.2;simp [newS] at this;omega)
 have HKO:=jD (knows_ok HUN.out SA.out.ok SB.out.ok HSUB.out Gs2.out.made.sub Gs1.out.S Gs2.out.S Gs1.out.me Gs2.out.me HA12.out HB12.out)
 have HPP:=jD (show s1.P=ptsOf F from Gs1.out.P)
 have HMA0:=jD SA.out.ok.made.1
 have HMB0:=jD SB.out.ok.made.1
 go_wp2_with fail
 (with_reducible refine(sync_ok ga gb _ s1 s2 w7 SA.out SB.out (by have:=NEgagb.out;omega) HKO.out.e).mono ?_)
 rintro e w8 ⟨rfl,hs,hr,hp⟩
 replace SA:=jD hs
 replace SB:=jD hr
 replace HP9:=jD (hp.block HP9.out (by have:=HLSAP.out;omega))
 replace LW:=jD (LW.out.one hp GEga.out)
 clear hs hr hp
 generalize ha1:tookS s1 (syncB s1 s2)=a1 at*
 have HEa1:=jD ha1
 clear ha1
 obtain⟨X,hX⟩: ∃X,X=ptsOf F t n:=⟨_,rfl⟩
 have HX:=jD hX
 clear hX
 have k0:=cell_of_block (j:=0) HP9.out rfl
 have k1:=cell_of_block (j:=1) HP9.out rfl
 go_wp2_with fail
 (with_reducible refine(hasf_c _ F t n w8 (BxsAt.sub HF.out LW.out.sub)).mono ?_)
 rintro e w9 ⟨rfl,hb⟩
 rw[(hasB_pts9 ZF.out HPT.out).1,(hasB_pts9 ZF.out HPT.out).2,←HX.out]
 replace HP9:=jD (below_keep hb HP9.out)
 replace SA:=jD (SA.out.below hb)
 replace SB:=jD (SB.out.below hb)
 replace LW:=jD (LW.out.below hb)
 clear hb k0 k1
 obtain⟨mn,hmn⟩: ∃mn:Nat,s1.made=(mn:Int):=⟨s1.made.toNat,by have:=HMA0.out;omega⟩
 obtain⟨tn,htn⟩: ∃tn:Nat,s2.made=(tn:Int):=⟨s2.made.toNat,by have:=HMB0.out;omega⟩
 have HMN:=jD hmn
 have HTN:=jD htn
 have hmn12:mn≤12:=by have:=HA12.out;omega
 have htn12:tn≤12:=by have:=HB12.out;omega
 have HAM:=jD (show a1.made=(mn:Int) by rw[HKO.out.made,hmn])
 clear hmn htn
 go_wp2_with fail
 (with_reducible refine(smade_c ga _ a1 w9 SA.out).mono ?_)
 rintro e w10 ⟨rfl,hb⟩
 rw[HAM.out]
 replace HP9:=jD (below_keep hb HP9.out)
 replace SA:=jD (SA.out.below hb)
 replace SB:=jD (SB.out.below hb)
 replace LW:=jD (LW.out.below hb)
 clear hb
 go_wp2_with fail
 (with_reducible refine(smade_c gb _ s2 w10 SB.out).mono ?_)
 rintro e w11 ⟨rfl,hb⟩
 rw[HTN.out]
 replace HP9:=jD (below_keep hb HP9.out)
 replace SA:=jD (SA.out.below hb)
 replace SB:=jD (SB.out.below hb)
 replace LW:=jD (LW.out.below hb)
 clear hb
 go_wp2_with fail
 (with_reducible refine(parts_c ga _ a1 w11 SA.out).mono ?_)
 rintro e w12 ⟨pv,rfl,hpv,hb⟩
 obtain⟨AP,hA1,hA2,hA3⟩:=hpv
 have hA30:AP.length≤30:=by have:=HKO.out.len;rw [←hA3,List.length_map] at this;exact this
 obtain⟨pa,pc,hpv⟩:=hA1.shape
 subst hpv
 have HA3:=jD hA3
 have HMEAN:=jD (rmean_c _ AP w12 (hA1.at_ (fun z hz=>(hA2 z hz).1) (by omega)) (fun z hz=>(hA2 z hz).1) hA30)
 clear hA1 hA2 hA3
 replace HP9:=jD (below_keep hb HP9.out)
 replace SA:=jD (SA.out.below hb)
 replace SB:=jD (SB.out.below hb)
 replace LW:=jD (LW.out.below hb)
 clear hb
 go_wp2_with fail
 (with_reducible refine(HMEAN.out).mono ?_)
 rintro e w13 ⟨la9,lc9,L,rfl,hrow,hlen,hmean,hb⟩
 replace HP9:=jD (below_keep hb HP9.out)
 replace SA:=jD (SA.out.below hb)
 replace SB:=jD (SB.out.below hb)
 replace LW:=jD (LW.out.below hb)
 have HROW:=jD hrow
 have HWD:=jD (mean_word hlen hmean)
 have HL30:=jD (show L.length≤30 by omega)
 have HMK:=jD (fun (s c:Nat) (hs:s < 5) (h1:1≤c) (hc:c < 1024)=>show mnK L t n s c=knowsS (knownS a1) t n s c by rw[mean_knows hlen hmean HT16.out HN32.out hs h1 hc,HA3.out])
 have HKN:=jD (fun (wx:World) (s c:Nat) (b:Bool) (hs:s < 5) (h1:1≤c) (hc:c < 1024) (hwx:Below w13.heap.size w13 wx) (hb:knowsS (knownS a1) t n s c=b) (si ci:Int) (hsi:si=(s:Int)) (hci:ci=(c:Int))=>show Calls Tryz.prog 46 #[.slice la9 L.length lc9, .agg #[.int .i64 t, .int .i64 n], .agg #[.int .i64 si, .int .i64 ci]] wx fun e w'=>e= .returned (.bool b)∧Below wx.heap.size wx w' from by
  subst hsi
  subst hci
  have h:=rknows_c _ L t n s c wx (HROW.out.below hwx) HWD.out HT16.out HN32.out hs hc
  rw[HMK.out s c hs h1 hc,hb] at h
  exact h)
 have HPB:=jD HP9.out
 have HB0:=jD LW.out.toBelow
 clear hb hrow hlen hmean HMEAN SA SB HP9 LW
 go_wp2
 go_loopw [19] (fun i wr=> ∃k:Nat,1≤k∧k≤mn+1∧i= .int .i64 k∧Below w13.heap.size w13 wr) (fun i _=>mn+1 - (intOf i).toNat)
 case atStart=>exact ⟨1,by omega,by omega,rfl,Below.refl _ _⟩
 case round=>
  obtain⟨k,hk1,hk,rfl,hbl⟩:=hrel
  have HBL:=jD hbl
  have hkI:(k:Int)≤13:=by omega
  clear hbl
  by_cases hlt:k≤mn
  rotate_left
  ·have hkb:decide ((k:Int)≤(mn:Int))=false:=by simp;omega
   go_wp2
   go_loopw [20] (fun i wr=> ∃k:Nat,1≤k∧k≤tn+1∧i= .int .i64 k∧Below w13.heap.size w13 wr) (fun i _=>tn+1 - (intOf i).toNat)
   case atStart=>exact ⟨1,by omega,by omega,rfl,HBL.out⟩
   case round=>
    clear HBL
    obtain⟨k,hk1,hk,rfl,hbl⟩:=hrel
    have HBL:=jD hbl
    have hkI:(k:Int)≤13:=by omega
    clear hbl
    have hpb:=below_keep HBL.out HPB.out
    have k0:=cell_of_block (j:=0) hpb rfl
    have k1:=cell_of_block (j:=1) hpb rfl
    clear hpb
    by_cases hlt:k≤tn
    rotate_left
    ·have hkb:decide ((k:Int)≤(tn:Int))=false:=by simp;omega
     have htI:(tn:Int)≤12:=by omega
     have HN:=jD (HKN.out wr 1 (tn+1) false (by decide) (by omega) (by omega) HBL.out (by
      rw[HKO.out.oth t n (tn+1) HT16.out HN32.out (by omega) (by rw[HTN.out];omega),HTN.out,decide_eq_false (by omega),Bool.false_and]) 1 ((tn:Int)+1) rfl (by omega))
     go_wp2_with fail
     (with_reducible refine(HN.out).mono ?_)
     rintro e w9 ⟨rfl,hb9⟩
     have HB9:=jD (bstep HB0.out (bstep HBL.out hb9))
     clear hb9 HN k0 k1
     go_wp2
     go_ret
     exact⟨rfl,HB9.out⟩
    have hkb:decide ((k:Int)≤(tn:Int))=true:=by simp;omega
    have HN:=jD (HKN.out wr 1 k X (by decide) hk1 (by omega) HBL.out (by
     rw[HKO.out.oth t n k HT16.out HN32.out hk1 (by rw[HTN.out];omega),HTN.out,decide_eq_true (by omega),Bool.true_and,HPP.out,HX.out]) 1 (k:Int) rfl rfl)
    go_wp2_with fail
    (with_reducible refine(HN.out).mono ?_)
    rintro e w9 ⟨rfl,hb9⟩
    have HB9:=jD (bstep HBL.out hb9)
    have hxx:(X != X)=false:=by simp
    clear hb9 HN k0 k1
    go_wp2
    go_roundw
    case rel=>exact ⟨k+1,by omega,by omega,by go_num,HB9.out⟩
    case measure=>simp [intOf] <;> omega
  have hkb:decide ((k:Int)≤(mn:Int))=true:=by simp;omega
  have hpb:=below_keep HBL.out HPB.out
  have k0:=cell_of_block (j:=0) hpb rfl
  have k1:=cell_of_block (j:=1) hpb rfl
  clear hpb
  have HN:=jD (HKN.out wr 0 k true (by decide) hk1 (by omega) HBL.out (HKO.out.own t n k HT16.out HN32.out hk1 (by rw[HMN.out];omega)) 0 (k:Int) rfl rfl)
  go_wp2_with fail
  (with_reducible refine(HN.out).mono ?_)
  rintro e w9 ⟨rfl,hb9⟩
  have HB9:=jD (bstep HBL.out hb9)
  clear hb9 HN k0 k1
  go_wp2
  go_roundw
  case rel=>exact ⟨k+1,by omega,by omega,by go_num,HB9.out⟩
  case measure=>simp [intOf] <;> omega
end Go.Proofs.YtgkgdedhicnohaaGreat
