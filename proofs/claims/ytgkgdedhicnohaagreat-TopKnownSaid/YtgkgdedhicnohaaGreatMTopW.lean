/- What reedtop.played does. Written by a small program (gen/topplayed.py). Sites of one's own that have asked each other: what each knows of the other, and that asking once more changes nothing. No walk here. What TopKnown does. Written by a small program (gen/topknown.py). -/
import Derived.Test.YtgkgdedhicnohaaGreatMTopP
import Derived.Deep.CutBlock
namespace Go.Proofs.YtgkgdedhicnohaaGreat
set_option maxRecDepth 100000
set_option maxHeartbeats 40000000
open Go.RowKit
theorem five_lt {x:Nat} (h:x < 5):x=0∨x=1∨x=2∨x=3∨x=4:=by omega
theorem topplayed_c (sv fv lv:Value) (b:Nat) (gs:List Nat) (l0:List SiteS) (F:List Bxs) (ms:List (List Int)) (H0:List Ver) (kz:Nat) (w W0:World) (hd:DirAt w b sv gs l0) (hI:TownI H0 ⟨l0,[]⟩ kz) (h4:l0.length=4) (hk60:kz+min ms.length 40≤60)
  (hS: ∀w',Stp (fun q=>q∈gs) w w'→Sub W0 w') (hF:RowAt bxsE W0 fv F) (hFc: ∀x∈F,fChk x=0) (hF3:F.length=3) (hl: ∀w',Stp (fun q=>q∈gs) w w'→RowAt vecE w' lv ms):
  Calls Tryz.prog 36 #[sv,fv,lv] w (PldPost w b sv gs l0 (∀c∈ms,c.length < 3∨wiN (c.getD 0 0) 5≠4) (kz+min ms.length 40)):=by
 obtain⟨no,hno⟩: ∃no,no=(∀c∈ms,c.length < 3∨wiN (c.getD 0 0) 5≠4):=⟨_,rfl⟩
 rw[←hno]
 have HNO:=jD hno
 have st0:PldSt w b sv gs l0 no kz l0 w:=PldSt.start hd hI h4
 obtain⟨qs,g00,sc,rfl, -, -, -⟩:=st0.cell (i:=0) (by decide)
 obtain⟨la,lc,rfl,hlc, -, -, -⟩:=(hl w (Stp.refl _ _)).open_
 obtain⟨fa,fc,rfl, -, -, -,hvf⟩:=hF.open_
 have HVF:=jD hvf
 have HF3:=jD hF3
 have HFC:=jD hFc
 have HSB:=jD hS
 obtain⟨n,hn⟩: ∃n,n=min ms.length 40:=⟨_,rfl⟩
 rw[←hn] at hk60 ⊢
 have hn1:n≤ms.length:=by omega
 have hn2:n≤40:=by omega
 have hn3:n≤lc:=by omega
 have hmin:min (ms.length:Int) 40=(n:Int):=by omega
 have HL:=jD (fun w' (hs:Stp (fun q=>q∈gs) w w')=>RowAt.take (hl w' hs) n hn1)
 have HK6:=jD hk60
 have HP0:=jD (show PldSt w b (.slice (some ⟨qs,0,none⟩) 4 sc) gs l0 no (kz+0) l0 w from st0)
 rw[hF3]
 clear hd hI h4 hk60 hS hF hFc hF3 hl hvf hn st0 hno
 go_enter Tryz.func36,Tryz.ntmps36
 go_wp2
 go_loopw [22] (fun i wr=> ∃k:Nat,k≤n∧i= .int .i64 k∧ ∃l,PldSt w b (.slice (some ⟨qs,0,none⟩) 4 sc) gs l0 no (kz+k) l wr) (fun i _=>n - (intOf i).toNat)
 case atStart=>exact ⟨0,Nat.zero_le _,rfl,_,HP0.out⟩
 case round=>
  clear HP0
  obtain⟨k,hk,rfl,l,hst⟩:=hrel
  have HST:=jD hst
  by_cases hlt:k < n
  rotate_left
  ·obtain rfl:k=n:=by omega
   have hkb:decide ((k:Int) < (k:Int))=false:=by simp
   clear hst
   go_wp2
   go_ret2
   exact⟨true,false,l,rfl,by simp,HST.out⟩
  have hkb:decide ((k:Int) < (n:Int))=true:=by simp;omega
  have HLr:=jD (HL.out wr hst.stp)
  obtain⟨a',cap',ha', -, -, -,hvl2⟩:=HLr.out.open_
  simp only[Value.slice.injEq] at ha'
  obtain⟨hla, -,hlc2⟩:=ha'
  have hltk:k < (ms.take n).length:=by rw[List.length_take];omega
  rcases hvl2 with hnil | ⟨b7,off,ha7,hb,hc⟩
  ·rw[hnil] at hltk;simp at hltk
  rw[ha7] at hla
  subst hla
  obtain⟨c,⟨u,rfl,hu⟩,hcc⟩:=hc k hltk
  have c1:wr.cell? ⟨b7,off+k,none⟩=some u:=by have:=hcc 0 u rfl;simpa [vecE] using this
  have HMS:=jD (show(ms.take n)[k]∈ms from List.mem_of_mem_take (List.getElem_mem hltk))
  generalize (ms.take n)[k]=cs at*
  obtain⟨ua,uc,hus⟩:=hu.shape
  subst hus
  have HU:=jD hu
  clear hc hcc hst hu HLr ha7 hlc2
  by_cases h3:cs.length < 3
  ·have hd:decide ((cs.length:Int) < 3)=true:=by simp;omega
   go_wp2
   go_roundw
   case rel=>exact ⟨k+1,by omega,by go_num,l,HST.out.up (by omega)⟩
   case measure=>simp [intOf] <;> omega
  have hd:decide ((cs.length:Int) < 3)=false:=by simp;omega
  obtain⟨cb,coff,cc,hcs,hcb,x0,x1,x2,q0,q1,q2,e0, -⟩:=three_ints HU.out (by omega)
  simp only[Value.slice.injEq,true_and] at hcs
  obtain⟨rfl,rfl⟩:=hcs
  clear HU
  have HX:=jD (show no→wiN x0 5≠4 from fun h=>by
   rw[HNO.out] at h
   rcases h cs HMS.out with h | h
   ·omega
   ·rw[List.getD_eq_getElem?_getD,e0] at h;exact h)
  obtain⟨ki,hki⟩: ∃ki,ki=wiN x1 4:=⟨_,rfl⟩
  obtain⟨kj,hkj⟩: ∃kj,kj=wiN x2 4:=⟨_,rfl⟩
  have hki4:ki < 4:=by rw[hki];exact wiN_lt x1 4 (by decide)
  have hkj4:kj < 4:=by rw[hkj];exact wiN_lt x2 4 (by decide)
  have HWI:=jD (fun (y:World)=>wiN_c x1 4 y (by decide) (by decide))
  have HWJ:=jD (fun (y:World)=>wiN_c x2 4 y (by decide) (by decide))
  rw[←hki] at HWI
  rw[←hkj] at HWJ
  have HX0:=jD q0
  have HX1:=jD q1
  have HX2:=jD q2
  clear q0 q1 q2 hki hkj e0 HMS
  go_wp2_with fail
  refine Cl.region0 124 rfl [] (fun _=>True) (fun _=>[]) (fun jq v ww=>match jq with | 0=>v= .slice (some ⟨cb,coff,none⟩) cs.length uc | 1=>v= .pointer (some ⟨cb,coff+1,none⟩) | 2=>v= .int .i64 x1 | 3=>v= .slice (some ⟨qs,0,none⟩) 4 sc | 4=>v= .int .i64 4 | 5=>v= .int .i64 (ki:Nat) | 6=>v= .slice (some ⟨cb,coff,none⟩) cs.length uc | 7=>v= .pointer (some ⟨cb,coff+2,none⟩) | 8=>v= .int .i64 x2 | 9=>v= .slice (some ⟨qs,0,none⟩) 4 sc | 10=>v= .int .i64 4 | 11=>v= .int .i64 (kj:Nat) | 12=>v= .int .i64 (ki:Nat) | 13=>v= .int .i64 (kj:Nat) | _=>True) (fun ww=>Below wr.heap.size wr ww) (fun jq ww ww'=>Below ww.heap.size ww ww') Tryz.mixed (by decide+kernel) (Below.refl _ _).drew trivial (fun q r v w w' _ _ _ h _=>h) (fun _ _ _ _ _ _=>trivial) ?_ ?_
  ·refine⟨?_, ?_, ?_, ?_, ?_, ?_, ?_, ?_, ?_, ?_, ?_, ?_, ?_, ?_,trivial⟩
   ·intro x wx hG
    have f9:=hG.o 9
    replace hG:=hG.good
    go_wp2
    exact⟨_,rfl,rfl,hG,Below.refl _ _⟩
   ·intro x wx hG
    have g0:(x.tmps.getD 29 undef)= .slice (some ⟨cb,coff,none⟩) cs.length uc:=hG.c 0 _ rfl
    have g0b:=gd g0
    replace hG:=hG.good
    go_wp2
    exact⟨_,rfl,rfl,hG,Below.refl _ _⟩
   ·intro x wx hG
    have g1:(x.tmps.getD 30 undef)= .pointer (some ⟨cb,coff+1,none⟩):=hG.c 1 _ rfl
    have g1b:=gd g1
    replace hG:=hG.good
    have c_HX1:=ckeep hG HX1.out
    go_wp2
    exact⟨_,rfl,rfl,hG,Below.refl _ _⟩
   ·intro x wx hG
    have f0:=hG.o 0
    replace hG:=hG.good
    go_wp2
    exact⟨_,rfl,rfl,hG,Below.refl _ _⟩
   ·intro x wx hG
    have g3:(x.tmps.getD 32 undef)= .slice (some ⟨qs,0,none⟩) 4 sc:=hG.c 3 _ rfl
    have g3b:=gd g3
    replace hG:=hG.good
    go_wp2
    exact⟨_,rfl,rfl,hG,Below.refl _ _⟩
   ·intro x wx hG
    have g2:(x.tmps.getD 31 undef)= .int .i64 x1:=hG.c 2 _ rfl
    have g2b:=gd g2
    have g4:(x.tmps.getD 33 undef)= .int .i64 4:=hG.c 4 _ rfl
    have g4b:=gd g4
    replace hG:=hG.good
    go_wp2_with fail
    (with_reducible refine(HWI.out wx).mono ?_)
    rintro e wq ⟨rfl,hb⟩
    have HBQ:=jD hb
    clear hb
    go_wp2
    exact⟨_,rfl,rfl,bstep hG HBQ.out,HBQ.out⟩
   ·intro x wx hG
    have f9:=hG.o 9
    replace hG:=hG.good
    go_wp2
    exact⟨_,rfl,rfl,hG,Below.refl _ _⟩
   ·intro x wx hG
    have g6:(x.tmps.getD 35 undef)= .slice (some ⟨cb,coff,none⟩) cs.length uc:=hG.c 6 _ rfl
    have g6b:=gd g6
    replace hG:=hG.good
    go_wp2
    exact⟨_,rfl,rfl,hG,Below.refl _ _⟩
   ·intro x wx hG
    have g7:(x.tmps.getD 36 undef)= .pointer (some ⟨cb,coff+2,none⟩):=hG.c 7 _ rfl
    have g7b:=gd g7
    replace hG:=hG.good
    have c_HX2:=ckeep hG HX2.out
    go_wp2
    exact⟨_,rfl,rfl,hG,Below.refl _ _⟩
   ·intro x wx hG
    have f0:=hG.o 0
    replace hG:=hG.good
    go_wp2
    exact⟨_,rfl,rfl,hG,Below.refl _ _⟩
   ·intro x wx hG
    have g9:(x.tmps.getD 38 undef)= .slice (some ⟨qs,0,none⟩) 4 sc:=hG.c 9 _ rfl
    have g9b:=gd g9
    replace hG:=hG.good
    go_wp2
    exact⟨_,rfl,rfl,hG,Below.refl _ _⟩
   ·intro x wx hG
    have g8:(x.tmps.getD 37 undef)= .int .i64 x2:=hG.c 8 _ rfl
    have g8b:=gd g8
    have g10:(x.tmps.getD 39 undef)= .int .i64 4:=hG.c 10 _ rfl
    have g10b:=gd g10
    replace hG:=hG.good
    go_wp2_with fail
    (with_reducible refine(HWJ.out wx).mono ?_)
    rintro e wq ⟨rfl,hb⟩
    have HBQ:=jD hb
    clear hb
    go_wp2
    exact⟨_,rfl,rfl,bstep hG HBQ.out,HBQ.out⟩
   ·intro x wx hG
    have g5:(x.tmps.getD 34 undef)= .int .i64 (ki:Nat):=hG.c 5 _ rfl
    have g5b:=gd g5
    replace hG:=hG.good
    go_wp2
    exact⟨_,rfl,rfl,hG,Below.refl _ _⟩
   ·intro x wx hG
    have g11:(x.tmps.getD 40 undef)= .int .i64 (kj:Nat):=hG.c 11 _ rfl
    have g11b:=gd g11
    replace hG:=hG.good
    go_wp2
    exact⟨_,rfl,rfl,hG,Below.refl _ _⟩
  ·intro vals w11 hg hF
   obtain⟨g0,g1,g2,g3,g4,g5,g6,g7,g8,g9,g10,g11,g12,g13, -⟩:=hF
   have e0:=gq (vals 0) g0
   have e1:=gq (vals 1) g1
   have e2:=gq (vals 2) g2
   have e3:=gq (vals 3) g3
   have e4:=gq (vals 4) g4
   have e5:=gq (vals 5) g5
   have e6:=gq (vals 6) g6
   have e7:=gq (vals 7) g7
   have e8:=gq (vals 8) g8
   have e9:=gq (vals 9) g9
   have e10:=gq (vals 10) g10
   have e11:=gq (vals 11) g11
   have e12:=gq (vals 12) g12
   have e13:=gq (vals 13) g13
   simp only[Cl.puts,e0,e1,e2,e3,e4,e5,e6,e7,e8,e9,e10,e11,e12,e13]
   clear e0 e1 e2 e3 e4 e5 e6 e7 e8 e9 e10 e11 e12 e13 g0 g1 g2 g3 g4 g5 g6 g7 g8 g9 g10 g11 g12 g13
   go_simp
   have HB11:=jD hg
   have q0:=ckeep hg HX0.out
   obtain⟨kq,hkq⟩: ∃kq,kq=wiN x0 5:=⟨_,rfl⟩
   have hkq5:kq < 5:=by rw[hkq];exact wiN_lt x0 5 (by decide)
   have HWM:=jD (fun (y:World)=>wiN_c x0 5 y (by decide) (by decide))
   rw[←hkq] at HWM HX
   clear hg hkq c1
   go_wp2_with fail
   (with_reducible refine(HWM.out w11).mono ?_)
   rintro e w2 ⟨rfl,hb⟩
   have HB2:=jD (bstep HB11.out hb)
   have HST2:=jD (HST.out.below HB2.out)
   replace HX0:=jD (ckeep HB2.out HX0.out)
   replace HX1:=jD (ckeep HB2.out HX1.out)
   replace HX2:=jD (ckeep HB2.out HX2.out)
   have HK:=jD (show kz+k < 60 by have:=HK6.out;omega)
   have HIL:=jD (HST2.out.lt hki4)
   have HJL:=jD (HST2.out.lt hkj4)
   obtain⟨qs1,gi,c9,hsv,hgi,hcell,hsite⟩:=HST2.out.cell hki4
   simp only[Value.slice.injEq,true_and,and_true,Option.some.injEq,Addr.mk.injEq] at hsv
   obtain⟨rfl, -⟩:=hsv
   have HGI:=jD hgi
   have HCI:=jD hcell
   have HSI:=jD hsite
   clear hb q0 HB11 HWM HST HB2 hgi hcell hsite
   obtain⟨b01,hb01⟩: ∃b01,b01=decide (kq=0∨kq=1):=⟨_,rfl⟩
   have Hb01:=jD hb01
   clear hb01
   go_upto_if 64 with fail
   go_cut [64] from 65 to 66 (fun sx wx=>sx= .bool b01∧w2=wx)
   case first=>
    rcases five_lt hkq5 with rfl | rfl | rfl | rfl | rfl
    all_goals
     go_wp2
     all_goals
      go_meet
      case rel=>exact ⟨by rw[Hb01.out];rfl,rfl⟩
   case rest=>
    obtain⟨hs,hw⟩:=hcut
    subst hs
    subst hw
    rcases Bool.eq_false_or_eq_true b01 with rfl | rfl
    ·obtain⟨k0,hm0⟩: ∃k0,k0=wiN x2 3:=⟨_,rfl⟩
     obtain⟨k1,hm1⟩: ∃k1,k1=wiN x2 16:=⟨_,rfl⟩
     obtain⟨k2,hm2⟩: ∃k2,k2=wiN (wrap64 (x2.tdiv 3)) 32:=⟨_,rfl⟩
     obtain⟨k3,hm3⟩: ∃k3,k3=wiN x2 99:=⟨_,rfl⟩
     have hm03:k0 < 3:=by rw[hm0];exact wiN_lt x2 3 (by decide)
     have hm116:k1 < 16:=by rw[hm1];exact wiN_lt x2 16 (by decide)
     have hm232:k2 < 32:=by rw[hm2];exact wiN_lt _ 32 (by decide)
     have hm399:k3 < 99:=by rw[hm3];exact wiN_lt x2 99 (by decide)
     have HW0:=jD (fun (y:World)=>wiN_c x2 3 y (by decide) (by decide))
     have HW1:=jD (fun (y:World)=>wiN_c x2 16 y (by decide) (by decide))
     have HW2:=jD (fun (y:World)=>wiN_c (wrap64 (x2.tdiv 3)) 32 y (by decide) (by decide))
     have HW3:=jD (fun (y:World)=>wiN_c x2 99 y (by decide) (by decide))
     rw[←hm0] at HW0
     rw[←hm1] at HW1
     rw[←hm2] at HW2
     rw[←hm3] at HW3
     have HK0:=jD hm03
     have HNM:=jD (names3 hm03)
     have HE2:=jD (HST2.out.madeTwo HK.out HIL.out (sidA_ok k0) (madeB_ok hm116 hm232 (show k3≤1000000 by omega)))
     obtain⟨d0,hd0⟩: ∃d0,d0=(madeD (l[ki]'HIL.out) (sidA k0) k1 k2 k3).1:=⟨_,rfl⟩
     obtain⟨d1,hd1⟩: ∃d1,d1=(madeD (l[ki]'HIL.out) (sidA k0) k1 k2 k3).2:=⟨_,rfl⟩
     obtain⟨E9,hE9⟩: ∃E9,E9=madeE (l[ki]'HIL.out) (sidA k0) k1 k2 k3:=⟨_,rfl⟩
     obtain⟨s9,hs9⟩: ∃s9,s9=madeS (l[ki]'HIL.out) (sidA k0) k1 k2 k3:=⟨_,rfl⟩
     rw[←hE9] at HE2
     have HS9:=jD hs9
     have HMK:=jD (fun (wx:World) (hx:SiteAt wx b gi (l[ki]'HIL.out))=>show Calls Tryz.prog 17 #[.pointer (some ⟨gi,0,none⟩), .string (sidA k0), .agg #[.int .i64 (k1:Nat), .int .i64 (k2:Nat)], .int .i64 (k3:Nat)] wx fun e w'=>e= .returned (.tuple #[.agg #[.int .i64 d0, .int .i64 d1], .int .i64 E9])∧SiteAt w' b gi s9∧Stp (fun qq=>qq=gi) wx w' from
      (smake_c gi b _ (sidA k0) k1 k2 k3 wx hx).mono fun e w' hh=>by
       obtain⟨h1,h2,h3⟩:=hh
       refine⟨?_,by rw[hs9];exact h2,h3⟩
       rw[h1,hd0,hd1,hE9]
       unfold madeD
       split <;> rfl)
     have HS:=jD HSI.out
     have HLT:=jD HSI.out.lt
     clear hm0 hm1 hm2 hm3 hd0 hd1 hE9 hs9 hm03 hm116 hm232 hm399
     go_wp2_with fail
     refine Cl2.region0 124 rfl [25,30] (fun w=>Below w2.heap.size w2 w) (fun jq=>match jq with | 4=>[25,30] | 9=>[25,30] | 29=>[30] | _=>[]) (fun jq v ww=>match jq with | 0=>v= .slice (some ⟨qs,0,none⟩) 4 sc | 1=>v= .int .i64 (ki:Nat) | 2=>v= .pointer (some ⟨qs,ki,none⟩) | 3=>v= .pointer (some ⟨gi,0,none⟩) | 4=>StrRow ww w2.heap.size 3 #[.string { data:= #[97] }, .string { data:= #[98] }, .string { data:= #[99] }] v | 5=>v= .slice (some ⟨cb,coff,none⟩) cs.length uc | 6=>v= .pointer (some ⟨cb,coff+2,none⟩) | 7=>v= .int .i64 x2 | 8=>v= .int .i64 (k0:Nat) | 9=>StrPt ww w2.heap.size k0 #[.string { data:= #[97] }, .string { data:= #[98] }, .string { data:= #[99] }] v | 10=>v= .string (sidA k0) | 11=>v= .slice (some ⟨cb,coff,none⟩) cs.length uc | 12=>v= .pointer (some ⟨cb,coff+2,none⟩) | 13=>v= .int .i64 x2 | 14=>v= .int .i64 (k1:Nat) | 15=>v= .slice (some ⟨cb,coff,none⟩) cs.length uc | 16=>v= .pointer (some ⟨cb,coff+2,none⟩) | 17=>v= .int .i64 x2 | 18=>v= .int .i64 (wrap64 (x2.tdiv 3)) | 19=>v= .int .i64 (k2:Nat) | 20=>v= .agg #[.int .i64 (k1:Nat), .int .i64 (k2:Nat)] | 21=>v= .slice (some ⟨cb,coff,none⟩) cs.length uc | 22=>v= .pointer (some ⟨cb,coff+2,none⟩) | 23=>v= .int .i64 x2 | 24=>v= .int .i64 (k3:Nat) | 25=>SiteAt ww b gi s9∧v= .tuple #[.agg #[.int .i64 d0, .int .i64 d1], .int .i64 E9] | 26=>v= .tuple #[.agg #[.int .i64 d0, .int .i64 d1], .int .i64 E9] | 27=>v= .agg #[.int .i64 d0, .int .i64 d1] | 28=>v= .int .i64 E9 | 29=>DotNew ww w2.heap.size v | 30=>DotIs ww w2.heap.size d0 d1 v | 31=>v= .int .i64 E9 | _=>True) (fun ww=>Stp (fun qq=>qq=gi) w2 ww) (fun jq ww ww'=>(jq≠25→jq≠30→Below ww.heap.size ww ww')∧(jq=25→Stp (fun qq=>qq=gi) ww ww')∧(jq=30→DotSet w2.heap.size ww ww')) Tryz.mixed (by decide+kernel) (Stp.refl _ _).drew ((Below.refl _ _).drew) ?_ (fun q w w' hk h hR=>bstep h (hR.1 (by intro e;subst e;exact absurd hk (by decide)) (by intro e;subst e;exact absurd hk (by decide)))) ?_ ?_
     ·intro q r v w w' hne hk hlt h hR
      match r,hk,hlt,h,hne with
      | 0,_,_,h,_=>exact h
      | 1,_,_,h,_=>exact h
      | 2,_,_,h,_=>exact h
      | 3,_,_,h,_=>exact h
      | 4,hk,hlt,h,hne=>
       exact h.below (hR.1 (by intro e;subst e;first | exact absurd hlt (by decide+kernel) | exact absurd rfl hne | simp at hk) (by intro e;subst e;first | exact absurd hlt (by decide+kernel) | exact absurd rfl hne | simp at hk))
      | 5,_,_,h,_=>exact h
      | 6,_,_,h,_=>exact h
      | 7,_,_,h,_=>exact h
      | 8,_,_,h,_=>exact h
      | 9,hk,hlt,h,hne=>
       exact h.below (hR.1 (by intro e;subst e;first | exact absurd hlt (by decide+kernel) | exact absurd rfl hne | simp at hk) (by intro e;subst e;first | exact absurd hlt (by decide+kernel) | exact absurd rfl hne | simp at hk))
      | 10,_,_,h,_=>exact h
      | 11,_,_,h,_=>exact h
      | 12,_,_,h,_=>exact h
      | 13,_,_,h,_=>exact h
      | 14,_,_,h,_=>exact h
      | 15,_,_,h,_=>exact h
      | 16,_,_,h,_=>exact h
      | 17,_,_,h,_=>exact h
      | 18,_,_,h,_=>exact h
      | 19,_,_,h,_=>exact h
      | 20,_,_,h,_=>exact h
      | 21,_,_,h,_=>exact h
      | 22,_,_,h,_=>exact h
      | 23,_,_,h,_=>exact h
      | 24,_,_,h,_=>exact h
      | 25,hk,hlt,h,hne=>
       by_cases e:q=30
       ·exact⟨h.1.dot (hR.2.2 e) (by exact HLT.out),h.2⟩
       ·exact⟨h.1.below (hR.1 (by exact hne) e),h.2⟩
      | 26,_,_,h,_=>exact h
      | 27,_,_,h,_=>exact h
      | 28,_,_,h,_=>exact h
      | 29,hk,hlt,h,hne=>
       by_cases e:q=25
       ·exact h.stp (hR.2.1 e) (by exact HLT.out)
       ·exact h.below (hR.1 e (by simpa using hk))
      | 30,hk,hlt,h,hne=>
       exact h.below (hR.1 (by intro e;subst e;first | exact absurd hlt (by decide+kernel) | exact absurd rfl hne | simp at hk) (by intro e;subst e;first | exact absurd hlt (by decide+kernel) | exact absurd rfl hne | simp at hk))
      | 31,_,_,h,_=>exact h
      | _+32,_,_,_,_=>trivial
     ·refine⟨?_, ?_, ?_, ?_, ?_, ?_, ?_, ?_, ?_, ?_, ?_, ?_, ?_, ?_, ?_, ?_, ?_, ?_, ?_, ?_, ?_, ?_, ?_, ?_, ?_, ?_, ?_, ?_, ?_, ?_, ?_, ?_,trivial⟩
      ·intro x wx hG
       have f0:=hG.o 0
       replace hG:=hG.good
       go_wp2
       exact⟨_,rfl,rfl,hG,⟨fun _ _=>Below.refl _ _,fun h=>zd h,fun h=>zd h⟩⟩
      ·intro x wx hG
       have f10:=hG.o 10
       replace hG:=hG.good
       go_wp2
       exact⟨_,rfl,rfl,hG,⟨fun _ _=>Below.refl _ _,fun h=>zd h,fun h=>zd h⟩⟩
      ·intro x wx hG
       have g0:(x.tmps.getD 68 undef)= .slice (some ⟨qs,0,none⟩) 4 sc:=hG.c 0 _ rfl
       have g0b:=gd g0
       have g1:(x.tmps.getD 69 undef)= .int .i64 (ki:Nat):=hG.c 1 _ rfl
       have g1b:=gd g1
       replace hG:=hG.good
       go_wp2
       exact⟨_,rfl,rfl,hG,⟨fun _ _=>Below.refl _ _,fun h=>zd h,fun h=>zd h⟩⟩
      ·intro x wx hG
       have g2:(x.tmps.getD 70 undef)= .pointer (some ⟨qs,ki,none⟩):=hG.c 2 _ rfl
       have g2b:=gd g2
       have hp:=hG.p
       replace hG:=hG.good
       have c_HCI:=ckeep hp HCI.out
       go_wp2
       exact⟨_,rfl,rfl,hG,⟨fun _ _=>Below.refl _ _,fun h=>zd h,fun h=>zd h⟩⟩
      ·intro x wx hG
       have hp:=hG.p
       replace hG:=hG.good
       go_wp2
       exact⟨_,rfl,⟨_,rfl,alloc_new _ _ _ _ rfl,hp.size⟩,hG.below (bal _),⟨fun _ _=>bal _,fun h=>zd h,fun h=>zd h⟩⟩
      ·intro x wx hG
       have f9:=hG.o 9
       replace hG:=hG.good
       go_wp2
       exact⟨_,rfl,rfl,hG,⟨fun _ _=>Below.refl _ _,fun h=>zd h,fun h=>zd h⟩⟩
      ·intro x wx hG
       have g5:(x.tmps.getD 73 undef)= .slice (some ⟨cb,coff,none⟩) cs.length uc:=hG.c 5 _ rfl
       have g5b:=gd g5
       replace hG:=hG.good
       go_wp2
       exact⟨_,rfl,rfl,hG,⟨fun _ _=>Below.refl _ _,fun h=>zd h,fun h=>zd h⟩⟩
      ·intro x wx hG
       have g6:(x.tmps.getD 74 undef)= .pointer (some ⟨cb,coff+2,none⟩):=hG.c 6 _ rfl
       have g6b:=gd g6
       have hp:=hG.p
       replace hG:=hG.good
       have c_HX2:=ckeep hp HX2.out
       go_wp2
       exact⟨_,rfl,rfl,hG,⟨fun _ _=>Below.refl _ _,fun h=>zd h,fun h=>zd h⟩⟩
      ·intro x wx hG
       have g7:(x.tmps.getD 75 undef)= .int .i64 x2:=hG.c 7 _ rfl
       have g7b:=gd g7
       replace hG:=hG.good
       go_wp2_with fail
       (with_reducible refine(HW0.out wx).mono ?_)
       rintro e wq ⟨rfl,hb⟩
       have HBB:=jD hb
       clear hb
       go_wp2
       exact⟨_,rfl,rfl,hG.below HBB.out,⟨fun _ _=>HBB.out,fun h=>zd h,fun h=>zd h⟩⟩
      ·intro x wx hG
       have g4:StrRow wx w2.heap.size 3 #[.string { data:= #[97] }, .string { data:= #[98] }, .string { data:= #[99] }] (x.tmps.getD 72 undef):=hG.c 4 _ rfl
       have g8:(x.tmps.getD 76 undef)= .int .i64 (k0:Nat):=hG.c 8 _ rfl
       have g8b:=gd g8
       replace hG:=hG.good
       obtain⟨q,hv,hq,hlo⟩:=g4
       have hvb:=hv
       rw[Array.getD_eq_getD_getElem?] at hvb
       have hk0:=HK0.out
       have hk1:(k0:Int) < 3:=by omega
       have HQ:=jD (And.intro hq hlo)
       clear hq hlo
       go_wp2
       exact⟨_,rfl,⟨q,by simp,HQ.out.1,HQ.out.2⟩,hG,⟨fun _ _=>Below.refl _ _,fun h=>zd h,fun h=>zd h⟩⟩
      ·intro x wx hG
       have g9:StrPt wx w2.heap.size k0 #[.string { data:= #[97] }, .string { data:= #[98] }, .string { data:= #[99] }] (x.tmps.getD 77 undef):=hG.c 9 _ rfl
       replace hG:=hG.good
       obtain⟨q,hv,hq,hlo⟩:=g9
       have hvb:=hv
       rw[Array.getD_eq_getD_getElem?] at hvb
       have hcq:=cell_of_block (j:=k0) hq HNM.out
       clear hq hlo
       go_wp2
       exact⟨_,rfl,rfl,hG,⟨fun _ _=>Below.refl _ _,fun h=>zd h,fun h=>zd h⟩⟩
      ·intro x wx hG
       have f9:=hG.o 9
       replace hG:=hG.good
       go_wp2
       exact⟨_,rfl,rfl,hG,⟨fun _ _=>Below.refl _ _,fun h=>zd h,fun h=>zd h⟩⟩
      ·intro x wx hG
       have g11:(x.tmps.getD 79 undef)= .slice (some ⟨cb,coff,none⟩) cs.length uc:=hG.c 11 _ rfl
       have g11b:=gd g11
       replace hG:=hG.good
       go_wp2
       exact⟨_,rfl,rfl,hG,⟨fun _ _=>Below.refl _ _,fun h=>zd h,fun h=>zd h⟩⟩
      ·intro x wx hG
       have g12:(x.tmps.getD 80 undef)= .pointer (some ⟨cb,coff+2,none⟩):=hG.c 12 _ rfl
       have g12b:=gd g12
       have hp:=hG.p
       replace hG:=hG.good
       have c_HX2:=ckeep hp HX2.out
       go_wp2
       exact⟨_,rfl,rfl,hG,⟨fun _ _=>Below.refl _ _,fun h=>zd h,fun h=>zd h⟩⟩
      ·intro x wx hG
       have g13:(x.tmps.getD 81 undef)= .int .i64 x2:=hG.c 13 _ rfl
       have g13b:=gd g13
       replace hG:=hG.good
       go_wp2_with fail
       (with_reducible refine(HW1.out wx).mono ?_)
       rintro e wq ⟨rfl,hb⟩
       have HBB:=jD hb
       clear hb
       go_wp2
       exact⟨_,rfl,rfl,hG.below HBB.out,⟨fun _ _=>HBB.out,fun h=>zd h,fun h=>zd h⟩⟩
      ·intro x wx hG
       have f9:=hG.o 9
       replace hG:=hG.good
       go_wp2
       exact⟨_,rfl,rfl,hG,⟨fun _ _=>Below.refl _ _,fun h=>zd h,fun h=>zd h⟩⟩
      ·intro x wx hG
       have g15:(x.tmps.getD 83 undef)= .slice (some ⟨cb,coff,none⟩) cs.length uc:=hG.c 15 _ rfl
       have g15b:=gd g15
       replace hG:=hG.good
       go_wp2
       exact⟨_,rfl,rfl,hG,⟨fun _ _=>Below.refl _ _,fun h=>zd h,fun h=>zd h⟩⟩
      ·intro x wx hG
       have g16:(x.tmps.getD 84 undef)= .pointer (some ⟨cb,coff+2,none⟩):=hG.c 16 _ rfl
       have g16b:=gd g16
       have hp:=hG.p
       replace hG:=hG.good
       have c_HX2:=ckeep hp HX2.out
       go_wp2
       exact⟨_,rfl,rfl,hG,⟨fun _ _=>Below.refl _ _,fun h=>zd h,fun h=>zd h⟩⟩
      ·intro x wx hG
       have g17:(x.tmps.getD 85 undef)= .int .i64 x2:=hG.c 17 _ rfl
       have g17b:=gd g17
       replace hG:=hG.good
       go_wp2
       exact⟨_,rfl,rfl,hG,⟨fun _ _=>Below.refl _ _,fun h=>zd h,fun h=>zd h⟩⟩
      ·intro x wx hG
       have g18:(x.tmps.getD 86 undef)= .int .i64 (wrap64 (x2.tdiv 3)):=hG.c 18 _ rfl
       have g18b:=gd g18
       replace hG:=hG.good
       go_wp2_with fail
       (with_reducible refine(HW2.out wx).mono ?_)
       rintro e wq ⟨rfl,hb⟩
       have HBB:=jD hb
       clear hb
       go_wp2
       exact⟨_,rfl,rfl,hG.below HBB.out,⟨fun _ _=>HBB.out,fun h=>zd h,fun h=>zd h⟩⟩
      ·intro x wx hG
       have g14:(x.tmps.getD 82 undef)= .int .i64 (k1:Nat):=hG.c 14 _ rfl
       have g14b:=gd g14
       have g19:(x.tmps.getD 87 undef)= .int .i64 (k2:Nat):=hG.c 19 _ rfl
       have g19b:=gd g19
       replace hG:=hG.good
       go_wp2
       exact⟨_,rfl,rfl,hG,⟨fun _ _=>Below.refl _ _,fun h=>zd h,fun h=>zd h⟩⟩
      ·intro x wx hG
       have f9:=hG.o 9
       replace hG:=hG.good
       go_wp2
       exact⟨_,rfl,rfl,hG,⟨fun _ _=>Below.refl _ _,fun h=>zd h,fun h=>zd h⟩⟩
      ·intro x wx hG
       have g21:(x.tmps.getD 89 undef)= .slice (some ⟨cb,coff,none⟩) cs.length uc:=hG.c 21 _ rfl
       have g21b:=gd g21
       replace hG:=hG.good
       go_wp2
       exact⟨_,rfl,rfl,hG,⟨fun _ _=>Below.refl _ _,fun h=>zd h,fun h=>zd h⟩⟩
      ·intro x wx hG
       have g22:(x.tmps.getD 90 undef)= .pointer (some ⟨cb,coff+2,none⟩):=hG.c 22 _ rfl
       have g22b:=gd g22
       have hp:=hG.p
       replace hG:=hG.good
       have c_HX2:=ckeep hp HX2.out
       go_wp2
       exact⟨_,rfl,rfl,hG,⟨fun _ _=>Below.refl _ _,fun h=>zd h,fun h=>zd h⟩⟩
      ·intro x wx hG
       have g23:(x.tmps.getD 91 undef)= .int .i64 x2:=hG.c 23 _ rfl
       have g23b:=gd g23
       replace hG:=hG.good
       go_wp2_with fail
       (with_reducible refine(HW3.out wx).mono ?_)
       rintro e wq ⟨rfl,hb⟩
       have HBB:=jD hb
       clear hb
       go_wp2
       exact⟨_,rfl,rfl,hG.below HBB.out,⟨fun _ _=>HBB.out,fun h=>zd h,fun h=>zd h⟩⟩
      ·intro x wx hG
       have g3:(x.tmps.getD 71 undef)= .pointer (some ⟨gi,0,none⟩):=hG.c 3 _ rfl
       have g3b:=gd g3
       have g10:(x.tmps.getD 78 undef)= .string (sidA k0):=hG.c 10 _ rfl
       have g10b:=gd g10
       have g20:(x.tmps.getD 88 undef)= .agg #[.int .i64 (k1:Nat), .int .i64 (k2:Nat)]:=hG.c 20 _ rfl
       have g20b:=gd g20
       have g24:(x.tmps.getD 92 undef)= .int .i64 (k3:Nat):=hG.c 24 _ rfl
       have g24b:=gd g24
       have hp:=hG.p
       replace hG:=hG.good
       have HN:=jD (HMK.out wx (HS.out.below hp))
       go_wp2_with fail
       (with_reducible refine(HN.out).mono ?_)
       rintro e wq ⟨rfl,h1,h2⟩
       have H1:=jD h1
       have H2:=jD h2
       clear h1 h2 HN
       go_wp2
       exact⟨_,rfl,⟨H1.out,rfl⟩,hG.trans H2.out,⟨fun h _=>absurd rfl h,fun _=>H2.out,fun h=>zd h⟩⟩
      ·intro x wx hG
       have g25:SiteAt wx b gi s9∧(x.tmps.getD 93 undef)= .tuple #[.agg #[.int .i64 d0, .int .i64 d1], .int .i64 E9]:=hG.c 25 _ rfl
       replace hG:=hG.good
       have g25v:=g25.2
       have g25vb:=g25v
       rw[Array.getD_eq_getD_getElem?] at g25vb
       go_wp2
       exact⟨_,rfl,rfl,hG,⟨fun _ _=>Below.refl _ _,fun h=>zd h,fun h=>zd h⟩⟩
      ·intro x wx hG
       have g26:(x.tmps.getD 67 undef)= .tuple #[.agg #[.int .i64 d0, .int .i64 d1], .int .i64 E9]:=hG.c 26 _ rfl
       have g26b:=gd g26
       replace hG:=hG.good
       go_wp2
       exact⟨_,rfl,rfl,hG,⟨fun _ _=>Below.refl _ _,fun h=>zd h,fun h=>zd h⟩⟩
      ·intro x wx hG
       have g26:(x.tmps.getD 67 undef)= .tuple #[.agg #[.int .i64 d0, .int .i64 d1], .int .i64 E9]:=hG.c 26 _ rfl
       have g26b:=gd g26
       replace hG:=hG.good
       go_wp2
       exact⟨_,rfl,rfl,hG,⟨fun _ _=>Below.refl _ _,fun h=>zd h,fun h=>zd h⟩⟩
      ·intro x wx hG
       replace hG:=hG.good
       go_wp2
       exact⟨_,rfl,⟨_,rfl,alloc_new _ _ _ _ rfl,hG.size⟩,hG.below (bal _),⟨fun _ _=>bal _,fun h=>zd h,fun h=>zd h⟩⟩
      ·intro x wx hG
       have g29:DotNew wx w2.heap.size (x.tmps.getD 12 undef):=hG.c 29 _ rfl
       have g27:(x.tmps.getD 94 undef)= .agg #[.int .i64 d0, .int .i64 d1]:=hG.c 27 _ rfl
       have g27b:=gd g27
       replace hG:=hG.good
       obtain⟨q,hv,hq,hlo⟩:=g29
       have HV:=jD hv
       have hvb:=hv
       rw[Array.getD_eq_getD_getElem?] at hvb
       have gxb:=g27
       rw[Array.getD_eq_getD_getElem?] at gxb
       have r0:=cell_of_block (j:=0) hq rfl
       have r1:=cell_of_block (j:=1) hq rfl
       have q0:=free_of_block (j:=0) hq
       have q1:=free_of_block (j:=1) hq
       have hRl:=hlt_of hq
       have HQ:=jD hq
       have HLO:=jD hlo
       clear hq hlo
       go_wp2
       exact⟨undef,rfl,⟨q,Eq.trans (by kernel_rfl) HV.out,by rw[heap_set_same (heap_set_same HQ.out)];rfl,HLO.out⟩,DotSet.stp hG ⟨q,_,_,HLO.out,HQ.out,rfl⟩,⟨fun _ h=>absurd rfl h,fun h=>zd h,fun _=>⟨q,_,_,HLO.out,HQ.out,rfl⟩⟩⟩
      ·intro x wx hG
       have g28:(x.tmps.getD 95 undef)= .int .i64 E9:=hG.c 28 _ rfl
       have g28b:=gd g28
       replace hG:=hG.good
       go_wp2
       exact⟨_,rfl,rfl,hG,⟨fun _ _=>Below.refl _ _,fun h=>zd h,fun h=>zd h⟩⟩
     ·intro vals w9 hg hF
      obtain⟨g0,g1,g2,g3,g4,g5,g6,g7,g8,g9,g10,g11,g12,g13,g14,g15,g16,g17,g18,g19,g20,g21,g22,g23,g24,g25,g26,g27,g28,g29,g30,g31, -⟩:=hF
      have e0:=gq (vals 0) g0
      have e1:=gq (vals 1) g1
      have e2:=gq (vals 2) g2
      have e3:=gq (vals 3) g3
      have e5:=gq (vals 5) g5
      have e6:=gq (vals 6) g6
      have e7:=gq (vals 7) g7
      have e8:=gq (vals 8) g8
      have e10:=gq (vals 10) g10
      have e11:=gq (vals 11) g11
      have e12:=gq (vals 12) g12
      have e13:=gq (vals 13) g13
      have e14:=gq (vals 14) g14
      have e15:=gq (vals 15) g15
      have e16:=gq (vals 16) g16
      have e17:=gq (vals 17) g17
      have e18:=gq (vals 18) g18
      have e19:=gq (vals 19) g19
      have e20:=gq (vals 20) g20
      have e21:=gq (vals 21) g21
      have e22:=gq (vals 22) g22
      have e23:=gq (vals 23) g23
      have e24:=gq (vals 24) g24
      replace g25:SiteAt w9 b gi s9∧(vals 25)= .tuple #[.agg #[.int .i64 d0, .int .i64 d1], .int .i64 E9]:=g25 rfl
      have e26:=gq (vals 26) g26
      have e27:=gq (vals 27) g27
      have e28:=gq (vals 28) g28
      have g30:=g30 rfl
      have e31:=gq (vals 31) g31
      simp only[Cl2.puts,e0,e1,e2,e3,e5,e6,e7,e8,e10,e11,e12,e13,e14,e15,e16,e17,e18,e19,e20,e21,e22,e23,e24,e26,e27,e28,e31]
      clear e0 e1 e2 e3 e5 e6 e7 e8 e10 e11 e12 e13 e14 e15 e16 e17 e18 e19 e20 e21 e22 e23 e24 e26 e27 e28 e31 g0 g1 g2 g3 g4 g5 g6 g7 g8 g9 g10 g11 g12 g13 g14 g15 g16 g17 g18 g19 g20 g21 g22 g23 g24 g26 g27 g28 g29 g31
      go_simp
      generalize vals 25=mk9 at*
      have HSN:=jD g25.1
      have HSG:=jD hg
      clear g25 hg
      generalize vals 4=jbs at*
      generalize vals 9=jsx at*
      generalize vals 29=jal at*
      rcases HE2.out with rfl | rfl
      all_goals
       go_wp2
       go_roundw
       case rel=>
        have h2:=HSN.out
        rw[HS9.out] at h2
        exact⟨k+1,by omega,by go_num,_,HST2.out.make (by have:=HK.out;omega) HGI.out HIL.out HSG.out h2⟩
       case measure=>simp [intOf] <;> omega
    have HK01:=jD (of_decide_eq_false Hb01.out.symm)
    obtain⟨b23,hb23⟩: ∃b23,b23=decide (kq=2∨kq=3):=⟨_,rfl⟩
    have Hb23:=jD hb23
    clear hb23
    go_upto_if 102 with fail
    go_cut [102] from 103 to 104 (fun sx wx=>sx= .bool b23∧w2=wx)
    case first=>
     rcases five_lt hkq5 with rfl | rfl | rfl | rfl | rfl
     all_goals
      go_wp2
      all_goals
       go_meet
       case rel=>exact ⟨by rw[Hb23.out];rfl,rfl⟩
    case rest=>
     obtain⟨hs,hw⟩:=hcut
     subst hs
     subst hw
     rcases Bool.eq_false_or_eq_true b23 with rfl | rfl
     ·by_cases hij:ki=kj
      ·subst hij
       have hdn:((ki:Int)==(ki:Int))=true:=by simp
       go_wp2
       go_roundw
       case rel=>exact ⟨k+1,by omega,by go_num,l,HST2.out.up (by omega)⟩
       case measure=>simp [intOf] <;> omega
      have hdn:((ki:Int)==(kj:Int))=false:=by simp;omega
      have hdn2:decide ((ki:Int)=(kj:Int))=false:=by simp;omega
      obtain⟨qs2,gj,c8,hsv,hgj,hcelj,hsitj⟩:=HST2.out.cell hkj4
      simp only[Value.slice.injEq,true_and,and_true,Option.some.injEq,Addr.mk.injEq] at hsv
      obtain⟨rfl, -⟩:=hsv
      have HCJ:=jD hcelj
      have HSJ:=jD hsitj
      obtain⟨bt,hbt⟩: ∃bt,bt=giveB (l[kj]'HJL.out) (l[ki]'HIL.out).me (l[ki]'HIL.out).stamp (l[ki]'HIL.out).P (knownS (l[ki]'HIL.out)):=⟨_,rfl⟩
      have HBT:=jD hbt
      have HE2:=jD (HST2.out.two HIL.out HJL.out)
      rw[←hbt] at HE2
      obtain⟨s9,hs9⟩: ∃s9,s9=tookS (l[ki]'HIL.out) bt:=⟨_,rfl⟩
      have HS9:=jD hs9
      obtain⟨a9,ha9⟩: ∃a9,a9=decide (tookE (l[ki]'HIL.out) bt=0):=⟨_,rfl⟩
      obtain⟨b9,hb9⟩: ∃b9,b9=decide (tookE (l[ki]'HIL.out) bt=2):=⟨_,rfl⟩
      have HAB:=jD (show(a9=true∧b9=false)∨(a9=false∧b9=true) from by
       rcases HE2.out with h | h
       ·left;rw [ha9,hb9,h];exact ⟨rfl,rfl⟩
       ·right;rw [ha9,hb9,h];exact ⟨rfl,rfl⟩)
      have HAK:=jD (fun (wx:World) (hx:SiteAt wx b gi (l[ki]'HIL.out)) (hy:SiteAt wx b gj (l[kj]'HJL.out))=>show Calls Tryz.prog 31 #[.pointer (some ⟨gi,0,none⟩), .pointer (some ⟨gj,0,none⟩)] wx fun e w'=>e= .returned (.tuple #[.bool a9, .bool b9])∧SiteAt w' b gi s9∧Stp (fun qq=>qq=gi) wx w' from by
       rw[ha9,hb9,hs9];exact asked_c gi gj b _ _ bt wx hx hy hbt)
      clear hbt hs9 ha9 hb9 HE2 hgj hcelj hsitj
      have hin:(ki:Int) < 4:=by omega
      have hjn:(kj:Int) < 4:=by omega
      go_wp2_with fail
      refine Cl2.region0 124 rfl [8] (fun w=>Below w2.heap.size w2 w) (fun _=>[]) (fun jq v ww=>match jq with | 0=>v= .slice (some ⟨qs,0,none⟩) 4 sc | 1=>v= .int .i64 (ki:Nat) | 2=>v= .pointer (some ⟨qs,ki,none⟩) | 3=>v= .pointer (some ⟨gi,0,none⟩) | 4=>v= .slice (some ⟨qs,0,none⟩) 4 sc | 5=>v= .int .i64 (kj:Nat) | 6=>v= .pointer (some ⟨qs,kj,none⟩) | 7=>v= .pointer (some ⟨gj,0,none⟩) | 8=>SiteAt ww b gi s9∧v= .tuple #[.bool a9, .bool b9] | 9=>v= .tuple #[.bool a9, .bool b9] | 10=>v= .bool a9 | 11=>v= .bool b9 | 12=>v= .bool a9 | 13=>v= .bool b9 | _=>True) (fun ww=>Stp (fun qq=>qq=gi) w2 ww) (fun jq ww ww'=>(jq≠8→Below ww.heap.size ww ww')∧(jq=8→Stp (fun qq=>qq=gi) ww ww')) Tryz.mixed (by decide+kernel) (Stp.refl _ _).drew ((Below.refl _ _).drew) ?_ (fun q w w' hk h hR=>bstep h (hR.1 (by intro e;subst e;exact absurd hk (by decide)))) ?_ ?_
      ·intro q r v w w' hne hk hlt h hR
       match r,hk,hlt,h,hne with
       | 0,_,_,h,_=>exact h
       | 1,_,_,h,_=>exact h
       | 2,_,_,h,_=>exact h
       | 3,_,_,h,_=>exact h
       | 4,_,_,h,_=>exact h
       | 5,_,_,h,_=>exact h
       | 6,_,_,h,_=>exact h
       | 7,_,_,h,_=>exact h
       | 8,hk,hlt,h,hne=>exact ⟨h.1.below (hR.1 (by exact hne)),h.2⟩
       | 9,_,_,h,_=>exact h
       | 10,_,_,h,_=>exact h
       | 11,_,_,h,_=>exact h
       | 12,_,_,h,_=>exact h
       | 13,_,_,h,_=>exact h
       | _+14,_,_,_,_=>trivial
      ·refine⟨?_, ?_, ?_, ?_, ?_, ?_, ?_, ?_, ?_, ?_, ?_, ?_, ?_, ?_,trivial⟩
       ·intro x wx hG
        have f0:=hG.o 0
        replace hG:=hG.good
        go_wp2
        exact⟨_,rfl,rfl,hG,⟨fun _=>Below.refl _ _,fun h=>zd h⟩⟩
       ·intro x wx hG
        have f10:=hG.o 10
        replace hG:=hG.good
        go_wp2
        exact⟨_,rfl,rfl,hG,⟨fun _=>Below.refl _ _,fun h=>zd h⟩⟩
       ·intro x wx hG
        have g0:(x.tmps.getD 109 undef)= .slice (some ⟨qs,0,none⟩) 4 sc:=hG.c 0 _ rfl
        have g0b:=gd g0
        have g1:(x.tmps.getD 110 undef)= .int .i64 (ki:Nat):=hG.c 1 _ rfl
        have g1b:=gd g1
        replace hG:=hG.good
        go_wp2
        exact⟨_,rfl,rfl,hG,⟨fun _=>Below.refl _ _,fun h=>zd h⟩⟩
       ·intro x wx hG
        have g2:(x.tmps.getD 111 undef)= .pointer (some ⟨qs,ki,none⟩):=hG.c 2 _ rfl
        have g2b:=gd g2
        have hp:=hG.p
        replace hG:=hG.good
        have c_HCI:=ckeep hp HCI.out
        go_wp2
        exact⟨_,rfl,rfl,hG,⟨fun _=>Below.refl _ _,fun h=>zd h⟩⟩
       ·intro x wx hG
        have f0:=hG.o 0
        replace hG:=hG.good
        go_wp2
        exact⟨_,rfl,rfl,hG,⟨fun _=>Below.refl _ _,fun h=>zd h⟩⟩
       ·intro x wx hG
        have f11:=hG.o 11
        replace hG:=hG.good
        go_wp2
        exact⟨_,rfl,rfl,hG,⟨fun _=>Below.refl _ _,fun h=>zd h⟩⟩
       ·intro x wx hG
        have g4:(x.tmps.getD 113 undef)= .slice (some ⟨qs,0,none⟩) 4 sc:=hG.c 4 _ rfl
        have g4b:=gd g4
        have g5:(x.tmps.getD 114 undef)= .int .i64 (kj:Nat):=hG.c 5 _ rfl
        have g5b:=gd g5
        replace hG:=hG.good
        go_wp2
        exact⟨_,rfl,rfl,hG,⟨fun _=>Below.refl _ _,fun h=>zd h⟩⟩
       ·intro x wx hG
        have g6:(x.tmps.getD 115 undef)= .pointer (some ⟨qs,kj,none⟩):=hG.c 6 _ rfl
        have g6b:=gd g6
        have hp:=hG.p
        replace hG:=hG.good
        have c_HCJ:=ckeep hp HCJ.out
        go_wp2
        exact⟨_,rfl,rfl,hG,⟨fun _=>Below.refl _ _,fun h=>zd h⟩⟩
       ·intro x wx hG
        have g3:(x.tmps.getD 112 undef)= .pointer (some ⟨gi,0,none⟩):=hG.c 3 _ rfl
        have g3b:=gd g3
        have g7:(x.tmps.getD 116 undef)= .pointer (some ⟨gj,0,none⟩):=hG.c 7 _ rfl
        have g7b:=gd g7
        have hp:=hG.p
        replace hG:=hG.good
        have HN:=jD (HAK.out wx (HSI.out.below hp) (HSJ.out.below hp))
        go_wp2_with fail
        (with_reducible refine(HN.out).mono ?_)
        rintro e wq ⟨rfl,h1,h2⟩
        have H1:=jD h1
        have H2:=jD h2
        clear h1 h2 HN
        go_wp2
        exact⟨_,rfl,⟨H1.out,rfl⟩,hG.trans H2.out,⟨fun h=>absurd rfl h,fun _=>H2.out⟩⟩
       ·intro x wx hG
        have g8:SiteAt wx b gi s9∧(x.tmps.getD 117 undef)= .tuple #[.bool a9, .bool b9]:=hG.c 8 _ rfl
        replace hG:=hG.good
        have g8v:=g8.2
        have g8vb:=g8v
        rw[Array.getD_eq_getD_getElem?] at g8vb
        go_wp2
        exact⟨_,rfl,rfl,hG,⟨fun _=>Below.refl _ _,fun h=>zd h⟩⟩
       ·intro x wx hG
        have g9:(x.tmps.getD 108 undef)= .tuple #[.bool a9, .bool b9]:=hG.c 9 _ rfl
        have g9b:=gd g9
        replace hG:=hG.good
        go_wp2
        exact⟨_,rfl,rfl,hG,⟨fun _=>Below.refl _ _,fun h=>zd h⟩⟩
       ·intro x wx hG
        have g9:(x.tmps.getD 108 undef)= .tuple #[.bool a9, .bool b9]:=hG.c 9 _ rfl
        have g9b:=gd g9
        replace hG:=hG.good
        go_wp2
        exact⟨_,rfl,rfl,hG,⟨fun _=>Below.refl _ _,fun h=>zd h⟩⟩
       ·intro x wx hG
        have g10:(x.tmps.getD 118 undef)= .bool a9:=hG.c 10 _ rfl
        have g10b:=gd g10
        replace hG:=hG.good
        go_wp2
        exact⟨_,rfl,rfl,hG,⟨fun _=>Below.refl _ _,fun h=>zd h⟩⟩
       ·intro x wx hG
        have g11:(x.tmps.getD 119 undef)= .bool b9:=hG.c 11 _ rfl
        have g11b:=gd g11
        replace hG:=hG.good
        go_wp2
        exact⟨_,rfl,rfl,hG,⟨fun _=>Below.refl _ _,fun h=>zd h⟩⟩
      ·intro vals w9 hg hF
       obtain⟨g0,g1,g2,g3,g4,g5,g6,g7,g8,g9,g10,g11,g12,g13, -⟩:=hF
       have e0:=gq (vals 0) g0
       have e1:=gq (vals 1) g1
       have e2:=gq (vals 2) g2
       have e3:=gq (vals 3) g3
       have e4:=gq (vals 4) g4
       have e5:=gq (vals 5) g5
       have e6:=gq (vals 6) g6
       have e7:=gq (vals 7) g7
       replace g8:SiteAt w9 b gi s9∧(vals 8)= .tuple #[.bool a9, .bool b9]:=g8 rfl
       have e9:=gq (vals 9) g9
       have e10:=gq (vals 10) g10
       have e11:=gq (vals 11) g11
       have e12:=gq (vals 12) g12
       have e13:=gq (vals 13) g13
       simp only[Cl2.puts,e0,e1,e2,e3,e4,e5,e6,e7,e9,e10,e11,e12,e13]
       clear e0 e1 e2 e3 e4 e5 e6 e7 e9 e10 e11 e12 e13 g0 g1 g2 g3 g4 g5 g6 g7 g9 g10 g11 g12 g13
       go_simp
       generalize vals 8=cl9 at*
       have HSN:=jD g8.1
       have HSG:=jD hg
       clear g8 hg
       have HQ:=jD (show PldSt w b (.slice (some ⟨qs,0,none⟩) 4 sc) gs l0 no (kz+k) (l.set ki (tookS (l[ki]'HIL.out) bt)) w9 from by
        have h2:=HSN.out
        rw[HS9.out] at h2
        exact HST2.out.asked (by have:=HK.out;omega) HGI.out HIL.out HJL.out HBT.out HSG.out h2)
       rcases HAB.out with⟨rfl,rfl⟩ | ⟨rfl,rfl⟩
       ·go_wp2
        go_roundw
        case rel=>exact ⟨k+1,by omega,by go_num,_,HQ.out.up (by omega)⟩
        case measure=>simp [intOf] <;> omega
       ·go_wp2
        go_ret2
        exact⟨false,true,_,rfl,fun _=>rfl,HQ.out.up (by omega)⟩
     ·by_cases hi3:ki < 3
      rotate_left
      ·have hd3:decide ((ki:Int) < 3)=false:=by simp;omega
       go_wp2_with fail
       refine Cl.region0 124 rfl [] (fun _=>True) (fun _=>[]) (fun jq v ww=>match jq with | 0=>v= .int .i64 (ki:Nat) | 1=>v= .slice fa 3 fc | 2=>v= .int .i64 3 | 3=>v= .bool false | 4=>v= .bool false | 5=>v=undef | 6=>v=undef | 7=>v=undef | 8=>v=undef | 9=>v=undef | 10=>v=undef | 11=>v=undef | 12=>v=undef | 13=>v=undef | 14=>v=undef | 15=>v=undef | 16=>v=undef | 17=>v=undef | 18=>v= .bool false | _=>True) (fun ww=>Below w2.heap.size w2 ww) (fun jq ww ww'=>Below ww.heap.size ww ww') Tryz.mixed (by decide+kernel) (Below.refl _ _).drew trivial (fun q r v w w' _ _ _ h _=>h) (fun _ _ _ _ _ _=>trivial) ?_ ?_
       ·refine⟨?_, ?_, ?_, ?_, ?_, ?_, ?_, ?_, ?_, ?_, ?_, ?_, ?_, ?_, ?_, ?_, ?_, ?_, ?_,trivial⟩
        ·intro x wx hG
         have f10:=hG.o 10
         replace hG:=hG.good
         go_wp2
         exact⟨_,rfl,rfl,hG,Below.refl _ _⟩
        ·intro x wx hG
         have f1:=hG.o 1
         replace hG:=hG.good
         go_wp2
         exact⟨_,rfl,rfl,hG,Below.refl _ _⟩
        ·intro x wx hG
         have g1:(x.tmps.getD 46 undef)= .slice fa 3 fc:=hG.c 1 _ rfl
         have g1b:=gd g1
         replace hG:=hG.good
         go_wp2
         exact⟨_,rfl,rfl,hG,Below.refl _ _⟩
        ·intro x wx hG
         have g0:(x.tmps.getD 45 undef)= .int .i64 (ki:Nat):=hG.c 0 _ rfl
         have g0b:=gd g0
         have g2:(x.tmps.getD 47 undef)= .int .i64 3:=hG.c 2 _ rfl
         have g2b:=gd g2
         replace hG:=hG.good
         go_wp2
         exact⟨_,rfl,rfl,hG,Below.refl _ _⟩
        ·intro x wx hG
         have g3:(x.tmps.getD 48 undef)= .bool false:=hG.c 3 _ rfl
         have g3b:=gd g3
         replace hG:=hG.good
         go_wp2
         exact⟨_,rfl,rfl,hG,Below.refl _ _⟩
        ·intro x wx hG
         have gg:(x.tmps.getD 49 undef)= .bool false:=hG.c 4 _ rfl
         replace gg:=Cl.opt (hG.size.trans (show _=124 from rfl)) (by decide) gg
         replace hG:=hG.good
         go_wp2
         exact⟨_,rfl,rfl,hG,Below.refl _ _⟩
        ·intro x wx hG
         have gg:(x.tmps.getD 49 undef)= .bool false:=hG.c 4 _ rfl
         replace gg:=Cl.opt (hG.size.trans (show _=124 from rfl)) (by decide) gg
         replace hG:=hG.good
         go_wp2
         exact⟨_,rfl,rfl,hG,Below.refl _ _⟩
        ·intro x wx hG
         have gg:(x.tmps.getD 49 undef)= .bool false:=hG.c 4 _ rfl
         replace gg:=Cl.opt (hG.size.trans (show _=124 from rfl)) (by decide) gg
         replace hG:=hG.good
         go_wp2
         exact⟨_,rfl,rfl,hG,Below.refl _ _⟩
        ·intro x wx hG
         have gg:(x.tmps.getD 49 undef)= .bool false:=hG.c 4 _ rfl
         replace gg:=Cl.opt (hG.size.trans (show _=124 from rfl)) (by decide) gg
         replace hG:=hG.good
         go_wp2
         exact⟨_,rfl,rfl,hG,Below.refl _ _⟩
        ·intro x wx hG
         have gg:(x.tmps.getD 49 undef)= .bool false:=hG.c 4 _ rfl
         replace gg:=Cl.opt (hG.size.trans (show _=124 from rfl)) (by decide) gg
         replace hG:=hG.good
         go_wp2
         exact⟨_,rfl,rfl,hG,Below.refl _ _⟩
        ·intro x wx hG
         have gg:(x.tmps.getD 49 undef)= .bool false:=hG.c 4 _ rfl
         replace gg:=Cl.opt (hG.size.trans (show _=124 from rfl)) (by decide) gg
         replace hG:=hG.good
         go_wp2
         exact⟨_,rfl,rfl,hG,Below.refl _ _⟩
        ·intro x wx hG
         have gg:(x.tmps.getD 49 undef)= .bool false:=hG.c 4 _ rfl
         replace gg:=Cl.opt (hG.size.trans (show _=124 from rfl)) (by decide) gg
         replace hG:=hG.good
         go_wp2
         exact⟨_,rfl,rfl,hG,Below.refl _ _⟩
        ·intro x wx hG
         have gg:(x.tmps.getD 49 undef)= .bool false:=hG.c 4 _ rfl
         replace gg:=Cl.opt (hG.size.trans (show _=124 from rfl)) (by decide) gg
         replace hG:=hG.good
         go_wp2
         exact⟨_,rfl,rfl,hG,Below.refl _ _⟩
        ·intro x wx hG
         have gg:(x.tmps.getD 49 undef)= .bool false:=hG.c 4 _ rfl
         replace gg:=Cl.opt (hG.size.trans (show _=124 from rfl)) (by decide) gg
         replace hG:=hG.good
         go_wp2
         exact⟨_,rfl,rfl,hG,Below.refl _ _⟩
        ·intro x wx hG
         have gg:(x.tmps.getD 49 undef)= .bool false:=hG.c 4 _ rfl
         replace gg:=Cl.opt (hG.size.trans (show _=124 from rfl)) (by decide) gg
         replace hG:=hG.good
         go_wp2
         exact⟨_,rfl,rfl,hG,Below.refl _ _⟩
        ·intro x wx hG
         have gg:(x.tmps.getD 49 undef)= .bool false:=hG.c 4 _ rfl
         replace gg:=Cl.opt (hG.size.trans (show _=124 from rfl)) (by decide) gg
         replace hG:=hG.good
         go_wp2
         exact⟨_,rfl,rfl,hG,Below.refl _ _⟩
        ·intro x wx hG
         have gg:(x.tmps.getD 49 undef)= .bool false:=hG.c 4 _ rfl
         replace gg:=Cl.opt (hG.size.trans (show _=124 from rfl)) (by decide) gg
         replace hG:=hG.good
         go_wp2
         exact⟨_,rfl,rfl,hG,Below.refl _ _⟩
        ·intro x wx hG
         have gg:(x.tmps.getD 49 undef)= .bool false:=hG.c 4 _ rfl
         replace gg:=Cl.opt (hG.size.trans (show _=124 from rfl)) (by decide) gg
         replace hG:=hG.good
         go_wp2
         exact⟨_,rfl,rfl,hG,Below.refl _ _⟩
        ·intro x wx hG
         have g4:(x.tmps.getD 49 undef)= .bool false:=hG.c 4 _ rfl
         have g4b:=gd g4
         have g17:(x.tmps.getD 62 undef)=undef:=hG.c 17 _ rfl
         have g17b:=gd g17
         replace hG:=hG.good
         go_wp2
         exact⟨_,rfl,rfl,hG,Below.refl _ _⟩
       ·intro vals w9 hg hF
        obtain⟨g0,g1,g2,g3,g4,g5,g6,g7,g8,g9,g10,g11,g12,g13,g14,g15,g16,g17,g18, -⟩:=hF
        have e0:=gq (vals 0) g0
        have e1:=gq (vals 1) g1
        have e2:=gq (vals 2) g2
        have e3:=gq (vals 3) g3
        have e4:=gq (vals 4) g4
        have e5:=gq (vals 5) g5
        have e6:=gq (vals 6) g6
        have e7:=gq (vals 7) g7
        have e8:=gq (vals 8) g8
        have e9:=gq (vals 9) g9
        have e10:=gq (vals 10) g10
        have e11:=gq (vals 11) g11
        have e12:=gq (vals 12) g12
        have e13:=gq (vals 13) g13
        have e14:=gq (vals 14) g14
        have e15:=gq (vals 15) g15
        have e16:=gq (vals 16) g16
        have e17:=gq (vals 17) g17
        have e18:=gq (vals 18) g18
        simp only[Cl.puts,e0,e1,e2,e3,e4,e5,e6,e7,e8,e9,e10,e11,e12,e13,e14,e15,e16,e17,e18]
        clear e0 e1 e2 e3 e4 e5 e6 e7 e8 e9 e10 e11 e12 e13 e14 e15 e16 e17 e18 g0 g1 g2 g3 g4 g5 g6 g7 g8 g9 g10 g11 g12 g13 g14 g15 g16 g17 g18
        go_simp
        have HG:=jD hg
        clear hg
        go_wp2
        go_roundw
        case rel=>exact ⟨k+1,by omega,by go_num,l,(HST2.out.below HG.out).up (by omega)⟩
        case measure=>simp [intOf] <;> omega
      have hd3:decide ((ki:Int) < 3)=true:=by simp;omega
      obtain⟨kf,hkf⟩: ∃kf,kf=kj%3:=⟨_,rfl⟩
      have hrm:((kj:Int)).tmod 3=(kf:Int):=by rw[hkf];rfl
      have hkf3:kf < F.length:=by rw[HF3.out];omega
      rcases HVF.out with hnil | ⟨fb,foff,rfl,hfb,hfc⟩
      ·rw[hnil] at hkf3;simp at hkf3
      obtain⟨c7,⟨v7,rfl,hv7⟩,hcc7⟩:=hfc kf hkf3
      have hsb:=HSB.out w2 HST2.out.stp
      have HF7:=jD (show w2.cell? ⟨fb,foff+kf,none⟩=some v7 from hsb.cell _ _ (by have:=hcc7 0 v7 rfl;simpa [bxsE] using this))
      have HC7:=jD (HFC.out _ (List.getElem_mem hkf3))
      have HV7:=jD hv7
      generalize F[kf]=G7 at*
      obtain⟨za,zc,hz7⟩:=hv7.shape
      subst hz7
      have hkfi:(kf:Int) < 3:=by have:=HF3.out;omega
      obtain⟨s9,hs9⟩: ∃s9,s9=wantS (l[ki]'HIL.out) (ptsOf G7):=⟨_,rfl⟩
      have HS9:=jD hs9
      have HNN:=jD (show ¬no from fun h=>HX.out h (by have h1:=HK01.out;have h2: ¬(kq=2∨kq=3):=of_decide_eq_false Hb23.out.symm;omega))
      have HLG:=jD (show ∀q,q=gi→q∈gs from fun q hq=>by rw[hq];exact List.mem_of_getElem? HGI.out)
      have HWT:=jD (fun (wx:World) (hp:Below w2.heap.size w2 wx)=>show Calls Tryz.prog 47 #[.pointer (some ⟨gi,0,none⟩), .slice za G7.length zc] wx fun e w'=>e= .returned (.int .i64 0)∧SiteAt w' b gi s9∧Stp (fun qq=>qq=gi) wx w' from by
       rw[hs9]
       exact swant_c gi b _ _ G7 wx (HSI.out.below hp) (fun w' hs=>HV7.out.sub (HSB.out w' ((HST2.out.stp.below hp).trans (hs.mono HLG.out)))) HC7.out (by have:=HST2.out.stamp HIL.out;have:=HK.out;omega))
      clear hs9 hsb hv7 hcc7 hfc hkf hkf3
      have hin:(ki:Int) < 4:=by omega
      go_wp2_with fail
      refine Cl2.region0 124 rfl [16] (fun w=>Below w2.heap.size w2 w) (fun _=>[]) (fun jq v ww=>match jq with | 0=>v= .int .i64 (ki:Nat) | 1=>v= .slice (some ⟨fb,foff,none⟩) 3 fc | 2=>v= .int .i64 3 | 3=>v= .bool true | 4=>v= .bool true | 5=>v= .slice (some ⟨qs,0,none⟩) 4 sc | 6=>v= .int .i64 (ki:Nat) | 7=>v= .pointer (some ⟨qs,ki,none⟩) | 8=>v= .pointer (some ⟨gi,0,none⟩) | 9=>v= .slice (some ⟨fb,foff,none⟩) 3 fc | 10=>v= .int .i64 (kj:Nat) | 11=>v= .slice (some ⟨fb,foff,none⟩) 3 fc | 12=>v= .int .i64 3 | 13=>v= .int .i64 (kf:Nat) | 14=>v= .pointer (some ⟨fb,foff+kf,none⟩) | 15=>v= .slice za G7.length zc | 16=>SiteAt ww b gi s9∧v= .int .i64 0 | 17=>v= .bool false | 18=>v= .bool false | _=>True) (fun ww=>Stp (fun qq=>qq=gi) w2 ww) (fun jq ww ww'=>(jq≠16→Below ww.heap.size ww ww')∧(jq=16→Stp (fun qq=>qq=gi) ww ww')) Tryz.mixed (by decide+kernel) (Stp.refl _ _).drew ((Below.refl _ _).drew) ?_ (fun q w w' hk h hR=>bstep h (hR.1 (by intro e;subst e;exact absurd hk (by decide)))) ?_ ?_
      ·intro q r v w w' hne hk hlt h hR
       match r,hk,hlt,h,hne with
       | 0,_,_,h,_=>exact h
       | 1,_,_,h,_=>exact h
       | 2,_,_,h,_=>exact h
       | 3,_,_,h,_=>exact h
       | 4,_,_,h,_=>exact h
       | 5,_,_,h,_=>exact h
       | 6,_,_,h,_=>exact h
       | 7,_,_,h,_=>exact h
       | 8,_,_,h,_=>exact h
       | 9,_,_,h,_=>exact h
       | 10,_,_,h,_=>exact h
       | 11,_,_,h,_=>exact h
       | 12,_,_,h,_=>exact h
       | 13,_,_,h,_=>exact h
       | 14,_,_,h,_=>exact h
       | 15,_,_,h,_=>exact h
       | 16,hk,hlt,h,hne=>exact ⟨h.1.below (hR.1 (by exact hne)),h.2⟩
       | 17,_,_,h,_=>exact h
       | 18,_,_,h,_=>exact h
       | _+19,_,_,_,_=>trivial
      ·refine⟨?_, ?_, ?_, ?_, ?_, ?_, ?_, ?_, ?_, ?_, ?_, ?_, ?_, ?_, ?_, ?_, ?_, ?_, ?_,trivial⟩
       ·intro x wx hG
        have f10:=hG.o 10
        replace hG:=hG.good
        go_wp2
        exact⟨_,rfl,rfl,hG,⟨fun _=>Below.refl _ _,fun h=>zd h⟩⟩
       ·intro x wx hG
        have f1:=hG.o 1
        replace hG:=hG.good
        go_wp2
        exact⟨_,rfl,rfl,hG,⟨fun _=>Below.refl _ _,fun h=>zd h⟩⟩
       ·intro x wx hG
        have g1:(x.tmps.getD 46 undef)= .slice (some ⟨fb,foff,none⟩) 3 fc:=hG.c 1 _ rfl
        have g1b:=gd g1
        replace hG:=hG.good
        go_wp2
        exact⟨_,rfl,rfl,hG,⟨fun _=>Below.refl _ _,fun h=>zd h⟩⟩
       ·intro x wx hG
        have g0:(x.tmps.getD 45 undef)= .int .i64 (ki:Nat):=hG.c 0 _ rfl
        have g0b:=gd g0
        have g2:(x.tmps.getD 47 undef)= .int .i64 3:=hG.c 2 _ rfl
        have g2b:=gd g2
        replace hG:=hG.good
        go_wp2
        exact⟨_,rfl,rfl,hG,⟨fun _=>Below.refl _ _,fun h=>zd h⟩⟩
       ·intro x wx hG
        have g3:(x.tmps.getD 48 undef)= .bool true:=hG.c 3 _ rfl
        have g3b:=gd g3
        replace hG:=hG.good
        go_wp2
        exact⟨_,rfl,rfl,hG,⟨fun _=>Below.refl _ _,fun h=>zd h⟩⟩
       ·intro x wx hG
        have f0:=hG.o 0
        have gg:(x.tmps.getD 49 undef)= .bool true:=hG.c 4 _ rfl
        replace gg:=Cl2.opt (hG.size.trans (show _=124 from rfl)) (by decide) gg
        replace hG:=hG.good
        go_wp2
        exact⟨_,rfl,rfl,hG,⟨fun _=>Below.refl _ _,fun h=>zd h⟩⟩
       ·intro x wx hG
        have f10:=hG.o 10
        have gg:(x.tmps.getD 49 undef)= .bool true:=hG.c 4 _ rfl
        replace gg:=Cl2.opt (hG.size.trans (show _=124 from rfl)) (by decide) gg
        replace hG:=hG.good
        go_wp2
        exact⟨_,rfl,rfl,hG,⟨fun _=>Below.refl _ _,fun h=>zd h⟩⟩
       ·intro x wx hG
        have g5:(x.tmps.getD 50 undef)= .slice (some ⟨qs,0,none⟩) 4 sc:=hG.c 5 _ rfl
        have g5b:=gd g5
        have g6:(x.tmps.getD 51 undef)= .int .i64 (ki:Nat):=hG.c 6 _ rfl
        have g6b:=gd g6
        have gg:(x.tmps.getD 49 undef)= .bool true:=hG.c 4 _ rfl
        replace gg:=Cl2.opt (hG.size.trans (show _=124 from rfl)) (by decide) gg
        replace hG:=hG.good
        go_wp2
        exact⟨_,rfl,rfl,hG,⟨fun _=>Below.refl _ _,fun h=>zd h⟩⟩
       ·intro x wx hG
        have g7:(x.tmps.getD 52 undef)= .pointer (some ⟨qs,ki,none⟩):=hG.c 7 _ rfl
        have g7b:=gd g7
        have gg:(x.tmps.getD 49 undef)= .bool true:=hG.c 4 _ rfl
        replace gg:=Cl2.opt (hG.size.trans (show _=124 from rfl)) (by decide) gg
        have hp:=hG.p
        replace hG:=hG.good
        have c_HCI:=ckeep hp HCI.out
        go_wp2
        exact⟨_,rfl,rfl,hG,⟨fun _=>Below.refl _ _,fun h=>zd h⟩⟩
       ·intro x wx hG
        have f1:=hG.o 1
        have gg:(x.tmps.getD 49 undef)= .bool true:=hG.c 4 _ rfl
        replace gg:=Cl2.opt (hG.size.trans (show _=124 from rfl)) (by decide) gg
        replace hG:=hG.good
        go_wp2
        exact⟨_,rfl,rfl,hG,⟨fun _=>Below.refl _ _,fun h=>zd h⟩⟩
       ·intro x wx hG
        have f11:=hG.o 11
        have gg:(x.tmps.getD 49 undef)= .bool true:=hG.c 4 _ rfl
        replace gg:=Cl2.opt (hG.size.trans (show _=124 from rfl)) (by decide) gg
        replace hG:=hG.good
        go_wp2
        exact⟨_,rfl,rfl,hG,⟨fun _=>Below.refl _ _,fun h=>zd h⟩⟩
       ·intro x wx hG
        have f1:=hG.o 1
        have gg:(x.tmps.getD 49 undef)= .bool true:=hG.c 4 _ rfl
        replace gg:=Cl2.opt (hG.size.trans (show _=124 from rfl)) (by decide) gg
        replace hG:=hG.good
        go_wp2
        exact⟨_,rfl,rfl,hG,⟨fun _=>Below.refl _ _,fun h=>zd h⟩⟩
       ·intro x wx hG
        have g11:(x.tmps.getD 56 undef)= .slice (some ⟨fb,foff,none⟩) 3 fc:=hG.c 11 _ rfl
        have g11b:=gd g11
        have gg:(x.tmps.getD 49 undef)= .bool true:=hG.c 4 _ rfl
        replace gg:=Cl2.opt (hG.size.trans (show _=124 from rfl)) (by decide) gg
        replace hG:=hG.good
        go_wp2
        exact⟨_,rfl,rfl,hG,⟨fun _=>Below.refl _ _,fun h=>zd h⟩⟩
       ·intro x wx hG
        have g10:(x.tmps.getD 55 undef)= .int .i64 (kj:Nat):=hG.c 10 _ rfl
        have g10b:=gd g10
        have g12:(x.tmps.getD 57 undef)= .int .i64 3:=hG.c 12 _ rfl
        have g12b:=gd g12
        have gg:(x.tmps.getD 49 undef)= .bool true:=hG.c 4 _ rfl
        replace gg:=Cl2.opt (hG.size.trans (show _=124 from rfl)) (by decide) gg
        replace hG:=hG.good
        go_wp2
        exact⟨_,rfl,rfl,hG,⟨fun _=>Below.refl _ _,fun h=>zd h⟩⟩
       ·intro x wx hG
        have g9:(x.tmps.getD 54 undef)= .slice (some ⟨fb,foff,none⟩) 3 fc:=hG.c 9 _ rfl
        have g9b:=gd g9
        have g13:(x.tmps.getD 58 undef)= .int .i64 (kf:Nat):=hG.c 13 _ rfl
        have g13b:=gd g13
        have gg:(x.tmps.getD 49 undef)= .bool true:=hG.c 4 _ rfl
        replace gg:=Cl2.opt (hG.size.trans (show _=124 from rfl)) (by decide) gg
        replace hG:=hG.good
        go_wp2
        exact⟨_,rfl,rfl,hG,⟨fun _=>Below.refl _ _,fun h=>zd h⟩⟩
       ·intro x wx hG
        have g14:(x.tmps.getD 59 undef)= .pointer (some ⟨fb,foff+kf,none⟩):=hG.c 14 _ rfl
        have g14b:=gd g14
        have gg:(x.tmps.getD 49 undef)= .bool true:=hG.c 4 _ rfl
        replace gg:=Cl2.opt (hG.size.trans (show _=124 from rfl)) (by decide) gg
        have hp:=hG.p
        replace hG:=hG.good
        have c_HF7:=ckeep hp HF7.out
        go_wp2
        exact⟨_,rfl,rfl,hG,⟨fun _=>Below.refl _ _,fun h=>zd h⟩⟩
       ·intro x wx hG
        have g8:(x.tmps.getD 53 undef)= .pointer (some ⟨gi,0,none⟩):=hG.c 8 _ rfl
        have g8b:=gd g8
        have g15:(x.tmps.getD 60 undef)= .slice za G7.length zc:=hG.c 15 _ rfl
        have g15b:=gd g15
        have gg:(x.tmps.getD 49 undef)= .bool true:=hG.c 4 _ rfl
        replace gg:=Cl2.opt (hG.size.trans (show _=124 from rfl)) (by decide) gg
        have hp:=hG.p
        replace hG:=hG.good
        have HN:=jD (HWT.out wx hp)
        go_wp2_with fail
        (with_reducible refine(HN.out).mono ?_)
        rintro e wq ⟨rfl,h1,h2⟩
        have H1:=jD h1
        have H2:=jD h2
        clear h1 h2 HN
        go_wp2
        exact⟨_,rfl,⟨H1.out,rfl⟩,hG.trans H2.out,⟨fun h=>absurd rfl h,fun _=>H2.out⟩⟩
       ·intro x wx hG
        have g16:SiteAt wx b gi s9∧(x.tmps.getD 61 undef)= .int .i64 0:=hG.c 16 _ rfl
        have gg:(x.tmps.getD 49 undef)= .bool true:=hG.c 4 _ rfl
        replace gg:=Cl2.opt (hG.size.trans (show _=124 from rfl)) (by decide) gg
        replace hG:=hG.good
        have g16v:=g16.2
        have g16vb:=g16v
        rw[Array.getD_eq_getD_getElem?] at g16vb
        go_wp2
        exact⟨_,rfl,rfl,hG,⟨fun _=>Below.refl _ _,fun h=>zd h⟩⟩
       ·intro x wx hG
        have g4:(x.tmps.getD 49 undef)= .bool true:=hG.c 4 _ rfl
        have g4b:=gd g4
        have g17:(x.tmps.getD 62 undef)= .bool false:=hG.c 17 _ rfl
        have g17b:=gd g17
        replace hG:=hG.good
        go_wp2
        exact⟨_,rfl,rfl,hG,⟨fun _=>Below.refl _ _,fun h=>zd h⟩⟩
      ·intro vals w9 hg hF
       obtain⟨g0,g1,g2,g3,g4,g5,g6,g7,g8,g9,g10,g11,g12,g13,g14,g15,g16,g17,g18, -⟩:=hF
       have e0:=gq (vals 0) g0
       have e1:=gq (vals 1) g1
       have e2:=gq (vals 2) g2
       have e3:=gq (vals 3) g3
       have e4:=gq (vals 4) g4
       have e5:=gq (vals 5) g5
       have e6:=gq (vals 6) g6
       have e7:=gq (vals 7) g7
       have e8:=gq (vals 8) g8
       have e9:=gq (vals 9) g9
       have e10:=gq (vals 10) g10
       have e11:=gq (vals 11) g11
       have e12:=gq (vals 12) g12
       have e13:=gq (vals 13) g13
       have e14:=gq (vals 14) g14
       have e15:=gq (vals 15) g15
       replace g16:SiteAt w9 b gi s9∧(vals 16)= .int .i64 0:=g16 rfl
       have e17:=gq (vals 17) g17
       have e18:=gq (vals 18) g18
       simp only[Cl2.puts,e0,e1,e2,e3,e4,e5,e6,e7,e8,e9,e10,e11,e12,e13,e14,e15,e17,e18]
       clear e0 e1 e2 e3 e4 e5 e6 e7 e8 e9 e10 e11 e12 e13 e14 e15 e17 e18 g0 g1 g2 g3 g4 g5 g6 g7 g8 g9 g10 g11 g12 g13 g14 g15 g17 g18
       go_simp
       generalize vals 16=cl9 at*
       have HSN:=jD g16.1
       have HSG:=jD hg
       clear g16 hg
       go_wp2
       go_roundw
       case rel=>
        have h2:=HSN.out
        rw[HS9.out] at h2
        exact⟨k+1,by omega,by go_num,_,HST2.out.want HNN.out (by have:=HK.out;omega) HGI.out HIL.out hi3 HSG.out h2⟩
       case measure=>simp [intOf] <;> omega
section
variable {w0 w1 wr w':World} {b:Nat} {sv:Value} {gs:List Nat} {l0 l l':List SiteS} {no no':Prop} {k k':Nat}
theorem stp_bel {wb:World} (hg: ∀q∈gs,wb.heap.size≤q) (hb:Below wb.heap.size wb w0) (hs:Stp (fun q=>q∈gs) w0 wr):Below wb.heap.size wb wr:=
 ((Stp.of_below (G:=fun q=>wb.heap.size≤q) hb).trans (hs.mono hg)).sp.toBelow (base:=wb.heap.size) (fun q hq=>hq) (Nat.le_refl _)
theorem PldSt.chain (h:PldSt w0 b sv gs l0 False k l wr) (hs:Stp (fun q=>q∈gs) wr w1) (h':PldSt w1 b sv gs l no' k' l' w'):PldSt w0 b sv gs l0 False k' l' w':=
 ⟨h'.dir,h'.inv,h'.n4,h'.hub.trans h.hub,fun h=>h.elim,(h.stp.trans hs).trans h'.stp⟩
theorem row1_at {w:World} {g:Nat} {u:Value} {cs:List Int} {t:TypeId} (hb:w.heap[g]? =some (Obj.cells #[u] t (0,0))) (hu:IsAt w u cs):RowAt vecE w (.slice (some ⟨g,0,none⟩) 1 1) [cs]:=by
 refine⟨[[u]],Els.single (show vecE.El w cs [u] from⟨u,rfl,hu⟩),CellsAt.mk (Nat.le_refl _) (by decide) (hlt_of hb) fun j x hj=> ?_⟩
 rw[Nat.zero_add]
 exact cell_of_block hb (by simpa using hj)
end
section
variable {H:List Ver} {l:List SiteS}
end
def K1 (H:List Ver) (l:List SiteS) (j:Nat):Prop:= ∀i (h:i < l.length) (h3:3 < l.length),i < j→Kle H (knownS l[i]) (knownS l[3])
structure Fresh (H:List Ver) (x hub:SiteS):Prop where
 all: ∀v∈H,knV (knownS hub) v=true→inP x.P v=true→knV (knownS x) v=true
 le:Kle H (knownS x) (knownS hub)
 src: ∃s:SiteS,SiteOk s∧x=tookS s (giveB hub s.me s.stamp s.P (knownS s))∧tookE s (giveB hub s.me s.stamp s.P (knownS s))=0
def K2 (H:List Ver) (l:List SiteS) (j:Nat):Prop:= ∀i (h:i < l.length) (h3:3 < l.length),i < 3→Kle H (knownS l[i]) (knownS l[3])∧(i < j→Fresh H l[i] l[3])
section
variable {w0 wr w':World} {b qs c i gi:Nat} {sv:Value} {gs:List Nat} {H:List Ver} {l:List SiteS}
end
theorem TopKnown_walk (fv lv:Value) (F:List Bxs) (l:List (List Int)) (w:World) (hF:RowAt bxsE w fv F) (hl:RowAt vecE w lv l):
  Calls Tryz.prog 9 #[fv,lv] w fun e w'=>e= .returned (.bool true)∧Below w.heap.size w w':=by
 obtain⟨fa,fc,rfl⟩:=hF.shape
 obtain⟨la,lc,hlv,hlcap,hlm, -, -⟩:=hl.open_
 subst hlv
 have HF:=jD hF
 have HL:=jD hl
 clear hF hl
 go_enter Tryz.func9,Tryz.ntmps9
 go_wp2_with fail
 (with_reducible refine(topBegun_c w).mono ?_)
 rintro e w1 ⟨rfl,hb⟩
 have HB1:=jD hb
 clear hb
 go_wp2_with fail
 (with_reducible refine(topfilters_c _ F w1 (HF.out.below HB1.out)).mono ?_)
 rintro e w2 ⟨R,ra,rc,rfl,hR,hRc,hR3,hR7,hb⟩
 have HB2:=jD (bstep HB1.out hb)
 have HR:=jD hR
 have HRC:=jD hRc
 have HR3:=jD (show R.length=3 by omega)
 clear hb hR hRc hR3 hR7 HF
 go_wp2_with fail
 (with_reducible refine(topSites_c _ R w2 HR.out HRC.out HR3.out).mono ?_)
 rintro e w3 ⟨sa,sc,gs,rfl,hrow,hsit,hb⟩
 have HB3:=jD hb
 have hl4:(newL (R++[everyB])).length=4:=by rw[newL_len,List.length_append,HR3.out];rfl
 have hgl:gs.length=4:=by rw[hsit.len];exact hl4
 have HD:=jD (show DirAt w3 w2.heap.size (.slice sa 4 sc) gs (newL (R++[everyB])) from⟨by rw[hgl];exact hrow,hsit⟩)
 have HI:=jD (show TownI [] ⟨newL (R++[everyB]),[]⟩ 0 from newT_I (by rw[List.length_append,HR3.out];decide))
 have HL4:=jD hl4
 have HGE:=jD (show ∀q∈gs,w2.heap.size≤q from fun q hq=>by
  obtain⟨i,hi,rfl⟩:=List.getElem_of_mem hq
  exact(hsit.each i hi (by rw[hl4];omega)).ge)
 have HBS:=jD (fun w' (hs:Stp (fun q=>q∈gs) w3 w')=>stp_bel HGE.out HB3.out hs)
 have HL2:=jD (HL.out.below HB2.out)
 have HCAP:=jD (show 4≤sc by
  rcases hrow.2 with⟨h, -⟩ | ⟨_,cap,_,h, -, -,hc, -⟩
  ·simp at h
  ·simp only[Value.slice.injEq] at h;omega)
 clear hb hrow hsit hl4 hgl HL
 obtain⟨n,hn⟩: ∃n,n=min l.length 25:=⟨_,rfl⟩
 have hn1:n≤l.length:=by omega
 have hn2:n≤25:=by omega
 have hn3:n≤lc:=by omega
 have hmin:min (l.length:Int) 25=(n:Int):=by omega
 have HLT:=jD (RowAt.take HL2.out n hn1)
 have HP0:=jD (show PldSt w3 w2.heap.size (.slice sa 4 sc) gs (newL (R++[everyB])) False 0 (newL (R++[everyB])) w3 from PldSt.start HD.out HI.out HL4.out)
 clear hn HL2 HD HI HL4
 go_wp2
 go_loopw [32] (fun i wr=> ∃k:Nat,k≤n∧i= .int .i64 k∧ ∃t,PldSt w3 w2.heap.size (.slice sa 4 sc) gs (newL (R++[everyB])) False k t wr) (fun i _=>n - (intOf i).toNat)
 case atStart=>exact ⟨0,Nat.zero_le _,rfl,_,HP0.out⟩
 case round=>
  clear HP0
  obtain⟨k,hk,rfl,t,hst⟩:=hrel
  have HST:=jD hst
  have HBR:=jD (HBS.out wr hst.stp)
  by_cases hlt:k < n
  rotate_left
  ·obtain rfl:k=n:=by omega
   have hkb:decide ((k:Int) < (k:Int))=false:=by simp
   clear hst
   go_wp2
   go_ret
   exact⟨rfl,bstep HB2.out HBR.out⟩
  have hkb:decide ((k:Int) < (n:Int))=true:=by simp;omega
  obtain⟨a',cap',ha', -, -, -,hvl2⟩:=HLT.out.open_
  simp only[Value.slice.injEq] at ha'
  obtain⟨hla, -,hlc2⟩:=ha'
  have hltk:k < (l.take n).length:=by rw[List.length_take];omega
  rcases hvl2 with hnil | ⟨b7,off,ha7,hb,hc⟩
  ·rw[hnil] at hltk;simp at hltk
  rw[ha7] at hla
  subst hla
  obtain⟨c,⟨u,rfl,hu⟩,hcc⟩:=hc k hltk
  have c1:wr.cell? ⟨b7,off+k,none⟩=some u:=ckeep HBR.out (by have:=hcc 0 u rfl;simpa [vecE] using this)
  generalize (l.take n)[k]=cs at*
  obtain⟨ua,uc,hus⟩:=hu.shape
  subst hus
  have HU:=jD hu
  clear hc hcc hu ha7 hlc2
  clear hst
  by_cases h3:cs.length < 3
  ·have hd:decide ((cs.length:Int) < 3)=true:=by simp;omega
   go_wp2
   go_roundw
   case rel=>exact ⟨k+1,by omega,by go_num,t,HST.out.up (by omega)⟩
   case measure=>simp [intOf] <;> omega
  have hd:decide ((cs.length:Int) < 3)=false:=by simp;omega
  obtain⟨cb,coff,cc,hcs,hcb,x0,x1,x2,q0,q1,q2,e0, -⟩:=three_ints HU.out (by omega)
  simp only[Value.slice.injEq,true_and] at hcs
  obtain⟨rfl,rfl⟩:=hcs
  have HX1:=jD (ckeep HBR.out q1)
  replace q0:=ckeep HBR.out q0
  obtain⟨kq,hkq⟩: ∃kq,kq=wiN x0 5:=⟨_,rfl⟩
  have HWM:=jD (fun (y:World)=>wiN_c x0 5 y (by decide) (by decide))
  rw[←hkq] at HWM
  have HKQ:=jD hkq
  obtain⟨ki,hki⟩: ∃ki,ki=wiN x1 4:=⟨_,rfl⟩
  have hki4:ki < 4:=by rw[hki];exact wiN_lt x1 4 (by decide)
  have HWI:=jD (fun (y:World)=>wiN_c x1 4 y (by decide) (by decide))
  rw[←hki] at HWI
  have HE0:=jD e0
  clear hki hkq q1 q2 e0
  go_wp2_with fail
  (with_reducible refine(HWM.out wr).mono ?_)
  rintro e w4 ⟨rfl,hb4⟩
  have HB4:=jD hb4
  have q1:=ckeep hb4 HX1.out
  clear hb4 q0 HWM c1
  by_cases hk4:kq=4
  ·subst hk4
   have hd4:(((4:Nat):Int)==4)=true:=by decide
   go_wp2
   go_roundw
   case rel=>exact ⟨k+1,by omega,by go_num,t,(HST.out.below HB4.out).up (by omega)⟩
   case measure=>simp [intOf] <;> omega
  have hd4:((kq:Int)==4)=false:=by simp;omega
  have hd4b:decide ((kq:Int)=4)=false:=by simp;omega
  have HNO:=jD (show ∀c∈[cs],c.length < 3∨wiN (c.getD 0 0) 5≠4 from fun c hc=>by
   obtain rfl:=List.mem_singleton.1 hc
   right
   rw[List.getD_eq_getElem?_getD,HE0.out]
   show wiN x0 5≠4
   rw[←HKQ.out];exact hk4)
  clear HKQ HE0 hk4
  go_wp2_with fail
  (with_reducible refine(HWI.out w4).mono ?_)
  rintro e w5 ⟨rfl,hb5⟩
  have HB5:=jD (bstep HB4.out hb5)
  have HST5:=jD (HST.out.below HB5.out)
  have HIL:=jD (HST5.out.lt hki4)
  obtain⟨qs,gi,c9,hsv,hgi,hcell,hsite⟩:=HST5.out.cell hki4
  simp only[Value.slice.injEq,true_and] at hsv
  obtain⟨rfl,rfl⟩:=hsv
  have HGI:=jD hgi
  have HPC:=jD (parts_c gi _ _ w5 hsite)
  have hin:(ki:Int) < 4:=by omega
  clear hb5 q1 HWI HB4 hgi hsite
  go_wp2_with fail
  clear hcell
  (with_reducible refine(HPC.out).mono ?_)
  rintro e w6 ⟨wv,rfl,hwas,hb6⟩
  obtain⟨wva,wvc,rfl⟩:=hwas.shape
  have HWAS:=jD (hwas.sem (Nat.le_trans (HST5.out.ok HIL.out).klen (by decide)))
  have HWO:=jD hwas
  have HB6:=jD (bstep HB5.out hb6)
  have HST6:=jD (HST5.out.below hb6)
  clear hwas hb6 HPC HB5
  go_wp2_with fail
  obtain⟨W7,hW7⟩: ∃W7,W7=w6.alloc (.cells #[.slice (some ⟨cb,coff,none⟩) cs.length uc] 35):=⟨_,rfl⟩
  have hb7:Below w6.heap.size w6 W7:=by rw[hW7];exact bal _
  have hg7:W7.heap[w6.heap.size]? =some (Obj.cells #[.slice (some ⟨cb,coff,none⟩) cs.length uc] 35 (0,0)):=by rw[hW7];exact alloc_new _ _ _ _ rfl
  rw[←hW7]
  have HST7:=jD (HST6.out.below hb7)
  have hng:w6.heap.size∉gs:=fun hm=>by
   obtain⟨i,hi,e⟩:=List.getElem_of_mem hm
   have:=(HST6.out.dir.sites.each i hi (by have:=HST6.out.dir.sites.len;omega)).lt
   omega
  have HBS7:=jD (fun w' (hs:Stp (fun q=>q∈gs) W7 w')=>HBS.out w' (HST7.out.stp.trans hs))
  obtain⟨H9,hI9⟩:=HST7.out.inv
  have HPL:=jD (topplayed_c (.slice (some ⟨qs,0,none⟩) 4 sc) (.slice ra R.length rc) (.slice (some ⟨w6.heap.size,0,none⟩) 1 1) w2.heap.size gs t R [cs] H9 k W7 w2 HST7.out.dir hI9 HST7.out.n4 (by show k+min 1 40≤60;omega)
   (fun w' hs=>Sub.of_below (HBS7.out w' hs)) HR.out HRC.out HR3.out (fun w' hs=>row1_at (hs.block hg7 hng) (HU.out.below (HBS7.out w' hs))))
  have HB7:=jD hb7
  clear hb7 hg7 hng hW7 hI9
  (with_reducible refine(HPL.out).mono ?_)
  rintro e w8 ⟨ok,large,t2,rfl,hol,h8⟩
  have HST8:=jD (show PldSt W7 w2.heap.size (.slice (some ⟨qs,0,none⟩) 4 sc) gs t (∀c∈[cs],c.length < 3∨wiN (c.getD 0 0) 5≠4) (k+1) t2 w8 from h8)
  have HCH:=jD (HST7.out.chain (Stp.refl _ _) HST8.out)
  have HWW:=jD ((HWO.out.below HB7.out).stp HST8.out.stp)
  have HI2:=jD (HST8.out.lt hki4)
  have HIN:=jD (show withinS (knownS (t[ki]'HIL.out)) (knownS (t2[ki]'HI2.out))=true from(HST8.out.kg HNO.out ki HI2.out HIL.out).within)
  have HK1:=jD (HST5.out.ok HIL.out).klen
  have HK2:=jD (HST8.out.ok HI2.out).klen
  clear h8 HPL
  have hbl:ok=true∨ok=false∧large=true:=by
   cases ok
   ·exact .inr ⟨rfl,hol rfl⟩
   ·exact .inl rfl
  clear hol
  rcases hbl with rfl | ⟨rfl,rfl⟩
  ·obtain⟨qs2,gj,c8,hsv,hgj,hcell,hsite⟩:=HST8.out.cell hki4
   simp only[Value.slice.injEq,true_and,and_true,Option.some.injEq,Addr.mk.injEq] at hsv
   obtain⟨rfl, -⟩:=hsv
   have HPC:=jD (parts_c gj _ _ w8 hsite)
   clear hgj hsite
   go_wp2_with fail
   clear hcell
   (with_reducible refine(HPC.out).mono ?_)
   rintro e w9 ⟨nv,rfl,hnow,hb9⟩
   obtain⟨nva,nvc,rfl⟩:=hnow.shape
   have HB9:=jD hb9
   have HC:=jD (pwithin_s _ _ _ _ w9 ((HWW.out.below hb9).sem (Nat.le_trans HK1.out (by decide))) (hnow.sem (Nat.le_trans HK2.out (by decide))) HK1.out HK2.out)
   rw[HIN.out] at HC
   clear hnow hb9 HPC
   go_wp2_with fail
   (with_reducible refine(HC.out).mono ?_)
   rintro e w10 ⟨rfl,hb10⟩
   have HB10:=jD (bstep HB9.out hb10)
   clear hb10 HC
   go_wp2
   go_roundw
   case rel=>exact ⟨k+1,by omega,by go_num,t2,HCH.out.below HB10.out⟩
   case measure=>simp [intOf] <;> omega
  ·obtain⟨qs2,gj,c8,hsv,hgj,hcell,hsite⟩:=HST8.out.cell hki4
   simp only[Value.slice.injEq,true_and,and_true,Option.some.injEq,Addr.mk.injEq] at hsv
   obtain⟨rfl, -⟩:=hsv
   have HPC:=jD (parts_c gj _ _ w8 hsite)
   clear hgj hsite
   go_wp2_with fail
   clear hcell
   (with_reducible refine(HPC.out).mono ?_)
   rintro e w9 ⟨nv,rfl,hnow,hb9⟩
   obtain⟨nva,nvc,rfl⟩:=hnow.shape
   have HB9:=jD hb9
   have HC:=jD (pwithin_s _ _ _ _ w9 ((HWW.out.below hb9).sem (Nat.le_trans HK1.out (by decide))) (hnow.sem (Nat.le_trans HK2.out (by decide))) HK1.out HK2.out)
   rw[HIN.out] at HC
   clear hnow hb9 HPC
   go_wp2_with fail
   (with_reducible refine(HC.out).mono ?_)
   rintro e w10 ⟨rfl,hb10⟩
   have HB10:=jD (bstep HB9.out hb10)
   clear hb10 HC
   go_wp2
   go_roundw
   case rel=>exact ⟨k+1,by omega,by go_num,t2,HCH.out.below HB10.out⟩
   case measure=>simp [intOf] <;> omega
end Go.Proofs.YtgkgdedhicnohaaGreat
