/- What reedtop.played does. Written by a small program (gen/topplayed.py). Sites of one's own that have asked each other: what each knows of the other, and that asking once more changes nothing. No walk here. What TopQuiet does. Written by a small program (gen/topknown.py). -/
import Derived.Test.YtgkgdedhicnohaaGreatMTopP
import Derived.Deep.CutBlock
namespace Go.Proofs.YtgkgdedhicnohaaGreat
set_option maxRecDepth 100000
set_option maxHeartbeats 40000000
open Go.RowKit
theorem five_lt {x:Nat} (h:x < 5):x=0∨x=1∨x=2∨x=3∨x=4:=by omega
theorem topplayed_c (sv fv lv:Value) (b:Nat) (gs:List Nat) (l0:List SiteS) (F:List Bxs) (ms:List (List Int)) (H0:List Ver) (kz:Nat) (w W0:World) (hd:DirAt w b sv gs l0) (hI:TownI H0 ⟨l0,[]⟩ kz) (h4:l0.length=4) (hk60:kz+min ms.length 40≤60)
  (hS: ∀w',Stp (fun q=>q∈gs) w w'→Sub W0 w') (hF:RowAt bxsE W0 fv F) (hFc: ∀x∈F,fChk x=0) (hF3:F.length=3) (hl: ∀w',Stp (fun q=>q∈gs) w w'→RowAt vecE w' lv ms):
  Calls Tryz.prog 36 #[sv,fv,lv] w (PldPost w b sv gs l0 (∀c∈ms,c.length < 3∨wiN (c.getD 0 0) 5≠4) (kz+min ms.length 40)):=by
 obtain⟨no,hno⟩: ∃no,no=(∀c∈ms,c.length < 3∨wiN (c.getD 0 0) 5≠4):=⟨_,rfl⟩
 rw[←hno]
 have HNO:=jD hno
 have st0:PldSt w b sv gs l0 no kz l0 w:=PldSt.start hd hI h4
 obtain⟨qs,g00,sc,rfl, -, -, -⟩:=st0.cell (i:=0) (by decide)
 obtain⟨la,lc,rfl,hlc, -, -, -⟩:=(hl w (Stp.refl _ _)).open_
 obtain⟨fa,fc,rfl, -, -, -,hvf⟩:=hF.open_
 have HVF:=jD hvf
 have HF3:=jD hF3
 have HFC:=jD hFc
 have HSB:=jD hS
 obtain⟨n,hn⟩: ∃n,n=min ms.length 40:=⟨_,rfl⟩
 rw[←hn] at hk60 ⊢
 have hn1:n≤ms.length:=by omega
 have hn2:n≤40:=by omega
 have hn3:n≤lc:=by omega
 have hmin:min (ms.length:Int) 40=(n:Int):=by omega
 have HL:=jD (fun w' (hs:Stp (fun q=>q∈gs) w w')=>RowAt.take (hl w' hs) n hn1)
 have HK6:=jD hk60
 have HP0:=jD (show PldSt w b (.slice (some ⟨qs,0,none⟩) 4 sc) gs l0 no (kz+0) l0 w from st0)
 rw[hF3]
 clear hd hI h4 hk60 hS hF hFc hF3 hl hvf hn st0 hno
 go_enter Tryz.func36,Tryz.ntmps36
 go_wp2
 go_loopw [22] (fun i wr=> ∃k:Nat,k≤n∧i= .int .i64 k∧ ∃l,PldSt w b (.slice (some ⟨qs,0,none⟩) 4 sc) gs l0 no (kz+k) l wr) (fun i _=>n - (intOf i).toNat)
 case atStart=>exact ⟨0,Nat.zero_le _,rfl,_,HP0.out⟩
 case round=>
  clear HP0
  obtain⟨k,hk,rfl,l,hst⟩:=hrel
  have HST:=jD hst
  by_cases hlt:k < n
  rotate_left
  ·obtain rfl:k=n:=by omega
   have hkb:decide ((k:Int) < (k:Int))=false:=by simp
   clear hst
   go_wp2
   go_ret2
   exact⟨true,false,l,rfl,by simp,HST.out⟩
  have hkb:decide ((k:Int) < (n:Int))=true:=by simp;omega
  have HLr:=jD (HL.out wr hst.stp)
  obtain⟨a',cap',ha', -, -, -,hvl2⟩:=HLr.out.open_
  simp only[Value.slice.injEq] at ha'
  obtain⟨hla, -,hlc2⟩:=ha'
  have hltk:k < (ms.take n).length:=by rw[List.length_take];omega
  rcases hvl2 with hnil | ⟨b7,off,ha7,hb,hc⟩
  ·rw[hnil] at hltk;simp at hltk
  rw[ha7] at hla
  subst hla
  obtain⟨c,⟨u,rfl,hu⟩,hcc⟩:=hc k hltk
  have c1:wr.cell? ⟨b7,off+k,none⟩=some u:=by have:=hcc 0 u rfl;simpa [vecE] using this
  have HMS:=jD (show(ms.take n)[k]∈ms from List.mem_of_mem_take (List.getElem_mem hltk))
  generalize (ms.take n)[k]=cs at*
  obtain⟨ua,uc,hus⟩:=hu.shape
  subst hus
  have HU:=jD hu
  clear hc hcc hst hu HLr ha7 hlc2
  by_cases h3:cs.length < 3
  ·have hd:decide ((cs.length:Int) < 3)=true:=by simp;omega
   go_wp2
   go_roundw
   case rel=>exact ⟨k+1,by omega,by go_num,l,HST.out.up (by omega)⟩
   case measure=>simp [intOf] <;> omega
  have hd:decide ((cs.length:Int) < 3)=false:=by simp;omega
  obtain⟨cb,coff,cc,hcs,hcb,x0,x1,x2,q0,q1,q2,e0, -⟩:=three_ints HU.out (by omega)
  simp only[Value.slice.injEq,true_and] at hcs
  obtain⟨rfl,rfl⟩:=hcs
  clear HU
  have HX:=jD (show no→wiN x0 5≠4 from fun h=>by
   rw[HNO.out] at h
   rcases h cs HMS.out with h | h
   ·omega
   ·rw[List.getD_eq_getElem?_getD,e0] at h;exact h)
  obtain⟨ki,hki⟩: ∃ki,ki=wiN x1 4:=⟨_,rfl⟩
  obtain⟨kj,hkj⟩: ∃kj,kj=wiN x2 4:=⟨_,rfl⟩
  have hki4:ki < 4:=by rw[hki];exact wiN_lt x1 4 (by decide)
  have hkj4:kj < 4:=by rw[hkj];exact wiN_lt x2 4 (by decide)
  have HWI:=jD (fun (y:World)=>wiN_c x1 4 y (by decide) (by decide))
  have HWJ:=jD (fun (y:World)=>wiN_c x2 4 y (by decide) (by decide))
  rw[←hki] at HWI
  rw[←hkj] at HWJ
  have HX0:=jD q0
  have HX1:=jD q1
  have HX2:=jD q2
  clear q0 q1 q2 hki hkj e0 HMS
  go_wp2_with fail
  refine Cl.region0 124 rfl [] (fun _=>True) (fun _=>[]) (fun jq v ww=>match jq with | 0=>v= .slice (some ⟨cb,coff,none⟩) cs.length uc | 1=>v= .pointer (some ⟨cb,coff+1,none⟩) | 2=>v= .int .i64 x1 | 3=>v= .slice (some ⟨qs,0,none⟩) 4 sc | 4=>v= .int .i64 4 | 5=>v= .int .i64 (ki:Nat) | 6=>v= .slice (some ⟨cb,coff,none⟩) cs.length uc | 7=>v= .pointer (some ⟨cb,coff+2,none⟩) | 8=>v= .int .i64 x2 | 9=>v= .slice (some ⟨qs,0,none⟩) 4 sc | 10=>v= .int .i64 4 | 11=>v= .int .i64 (kj:Nat) | 12=>v= .int .i64 (ki:Nat) | 13=>v= .int .i64 (kj:Nat) | _=>True) (fun ww=>Below wr.heap.size wr ww) (fun jq ww ww'=>Below ww.heap.size ww ww') Tryz.mixed (by decide+kernel) (Below.refl _ _).drew trivial (fun q r v w w' _ _ _ h _=>h) (fun _ _ _ _ _ _=>trivial) ?_ ?_
  ·refine⟨?_, ?_, ?_, ?_, ?_, ?_, ?_, ?_, ?_, ?_, ?_, ?_, ?_, ?_,trivial⟩
   ·intro x wx hG
    have f9:=hG.o 9
    replace hG:=hG.good
    go_wp2
    exact⟨_,rfl,rfl,hG,Below.refl _ _⟩
   ·intro x wx hG
    have g0:(x.tmps.getD 29 undef)= .slice (some ⟨cb,coff,none⟩) cs.length uc:=hG.c 0 _ rfl
    have g0b:=gd g0
    replace hG:=hG.good
    go_wp2
    exact⟨_,rfl,rfl,hG,Below.refl _ _⟩
   ·intro x wx hG
    have g1:(x.tmps.getD 30 undef)= .pointer (some ⟨cb,coff+1,none⟩):=hG.c 1 _ rfl
    have g1b:=gd g1
    replace hG:=hG.good
    have c_HX1:=ckeep hG HX1.out
    go_wp2
    exact⟨_,rfl,rfl,hG,Below.refl _ _⟩
   ·intro x wx hG
    have f0:=hG.o 0
    replace hG:=hG.good
    go_wp2
    exact⟨_,rfl,rfl,hG,Below.refl _ _⟩
   ·intro x wx hG
    have g3:(x.tmps.getD 32 undef)= .slice (some ⟨qs,0,none⟩) 4 sc:=hG.c 3 _ rfl
    have g3b:=gd g3
    replace hG:=hG.good
    go_wp2
    exact⟨_,rfl,rfl,hG,Below.refl _ _⟩
   ·intro x wx hG
    have g2:(x.tmps.getD 31 undef)= .int .i64 x1:=hG.c 2 _ rfl
    have g2b:=gd g2
    have g4:(x.tmps.getD 33 undef)= .int .i64 4:=hG.c 4 _ rfl
    have g4b:=gd g4
    replace hG:=hG.good
    go_wp2_with fail
    (with_reducible refine(HWI.out wx).mono ?_)
    rintro e wq ⟨rfl,hb⟩
    have HBQ:=jD hb
    clear hb
    go_wp2
    exact⟨_,rfl,rfl,bstep hG HBQ.out,HBQ.out⟩
   ·intro x wx hG
    have f9:=hG.o 9
    replace hG:=hG.good
    go_wp2
    exact⟨_,rfl,rfl,hG,Below.refl _ _⟩
   ·intro x wx hG
    have g6:(x.tmps.getD 35 undef)= .slice (some ⟨cb,coff,none⟩) cs.length uc:=hG.c 6 _ rfl
    have g6b:=gd g6
    replace hG:=hG.good
    go_wp2
    exact⟨_,rfl,rfl,hG,Below.refl _ _⟩
   ·intro x wx hG
    have g7:(x.tmps.getD 36 undef)= .pointer (some ⟨cb,coff+2,none⟩):=hG.c 7 _ rfl
    have g7b:=gd g7
    replace hG:=hG.good
    have c_HX2:=ckeep hG HX2.out
    go_wp2
    exact⟨_,rfl,rfl,hG,Below.refl _ _⟩
   ·intro x wx hG
    have f0:=hG.o 0
    replace hG:=hG.good
    go_wp2
    exact⟨_,rfl,rfl,hG,Below.refl _ _⟩
   ·intro x wx hG
    have g9:(x.tmps.getD 38 undef)= .slice (some ⟨qs,0,none⟩) 4 sc:=hG.c 9 _ rfl
    have g9b:=gd g9
    replace hG:=hG.good
    go_wp2
    exact⟨_,rfl,rfl,hG,Below.refl _ _⟩
   ·intro x wx hG
    have g8:(x.tmps.getD 37 undef)= .int .i64 x2:=hG.c 8 _ rfl
    have g8b:=gd g8
    have g10:(x.tmps.getD 39 undef)= .int .i64 4:=hG.c 10 _ rfl
    have g10b:=gd g10
    replace hG:=hG.good
    go_wp2_with fail
    (with_reducible refine(HWJ.out wx).mono ?_)
    rintro e wq ⟨rfl,hb⟩
    have HBQ:=jD hb
    clear hb
    go_wp2
    exact⟨_,rfl,rfl,bstep hG HBQ.out,HBQ.out⟩
   ·intro x wx hG
    have g5:(x.tmps.getD 34 undef)= .int .i64 (ki:Nat):=hG.c 5 _ rfl
    have g5b:=gd g5
    replace hG:=hG.good
    go_wp2
    exact⟨_,rfl,rfl,hG,Below.refl _ _⟩
   ·intro x wx hG
    have g11:(x.tmps.getD 40 undef)= .int .i64 (kj:Nat):=hG.c 11 _ rfl
    have g11b:=gd g11
    replace hG:=hG.good
    go_wp2
    exact⟨_,rfl,rfl,hG,Below.refl _ _⟩
  ·intro vals w11 hg hF
   obtain⟨g0,g1,g2,g3,g4,g5,g6,g7,g8,g9,g10,g11,g12,g13, -⟩:=hF
   have e0:=gq (vals 0) g0
   have e1:=gq (vals 1) g1
   have e2:=gq (vals 2) g2
   have e3:=gq (vals 3) g3
   have e4:=gq (vals 4) g4
   have e5:=gq (vals 5) g5
   have e6:=gq (vals 6) g6
   have e7:=gq (vals 7) g7
   have e8:=gq (vals 8) g8
   have e9:=gq (vals 9) g9
   have e10:=gq (vals 10) g10
   have e11:=gq (vals 11) g11
   have e12:=gq (vals 12) g12
   have e13:=gq (vals 13) g13
   simp only[Cl.puts,e0,e1,e2,e3,e4,e5,e6,e7,e8,e9,e10,e11,e12,e13]
   clear e0 e1 e2 e3 e4 e5 e6 e7 e8 e9 e10 e11 e12 e13 g0 g1 g2 g3 g4 g5 g6 g7 g8 g9 g10 g11 g12 g13
   go_simp
   have HB11:=jD hg
   have q0:=ckeep hg HX0.out
   obtain⟨kq,hkq⟩: ∃kq,kq=wiN x0 5:=⟨_,rfl⟩
   have hkq5:kq < 5:=by rw[hkq];exact wiN_lt x0 5 (by decide)
   have HWM:=jD (fun (y:World)=>wiN_c x0 5 y (by decide) (by decide))
   rw[←hkq] at HWM HX
   clear hg hkq c1
   go_wp2_with fail
   (with_reducible refine(HWM.out w11).mono ?_)
   rintro e w2 ⟨rfl,hb⟩
   have HB2:=jD (bstep HB11.out hb)
   have HST2:=jD (HST.out.below HB2.out)
   replace HX0:=jD (ckeep HB2.out HX0.out)
   replace HX1:=jD (ckeep HB2.out HX1.out)
   replace HX2:=jD (ckeep HB2.out HX2.out)
   have HK:=jD (show kz+k < 60 by have:=HK6.out;omega)
   have HIL:=jD (HST2.out.lt hki4)
   have HJL:=jD (HST2.out.lt hkj4)
   obtain⟨qs1,gi,c9,hsv,hgi,hcell,hsite⟩:=HST2.out.cell hki4
   simp only[Value.slice.injEq,true_and,and_true,Option.some.injEq,Addr.mk.injEq] at hsv
   obtain⟨rfl, -⟩:=hsv
   have HGI:=jD hgi
   have HCI:=jD hcell
   have HSI:=jD hsite
   clear hb q0 HB11 HWM HST HB2 hgi hcell hsite
   obtain⟨b01,hb01⟩: ∃b01,b01=decide (kq=0∨kq=1):=⟨_,rfl⟩
   have Hb01:=jD hb01
   clear hb01
   go_upto_if 64 with fail
   go_cut [64] from 65 to 66 (fun sx wx=>sx= .bool b01∧w2=wx)
   case first=>
    rcases five_lt hkq5 with rfl | rfl | rfl | rfl | rfl
    all_goals
     go_wp2
     all_goals
      go_meet
      case rel=>exact ⟨by rw[Hb01.out];rfl,rfl⟩
   case rest=>
    obtain⟨hs,hw⟩:=hcut
    subst hs
    subst hw
    rcases Bool.eq_false_or_eq_true b01 with rfl | rfl
    ·obtain⟨k0,hm0⟩: ∃k0,k0=wiN x2 3:=⟨_,rfl⟩
     obtain⟨k1,hm1⟩: ∃k1,k1=wiN x2 16:=⟨_,rfl⟩
     obtain⟨k2,hm2⟩: ∃k2,k2=wiN (wrap64 (x2.tdiv 3)) 32:=⟨_,rfl⟩
     obtain⟨k3,hm3⟩: ∃k3,k3=wiN x2 99:=⟨_,rfl⟩
     have hm03:k0 < 3:=by rw[hm0];exact wiN_lt x2 3 (by decide)
     have hm116:k1 < 16:=by rw[hm1];exact wiN_lt x2 16 (by decide)
     have hm232:k2 < 32:=by rw[hm2];exact wiN_lt _ 32 (by decide)
     have hm399:k3 < 99:=by rw[hm3];exact wiN_lt x2 99 (by decide)
     have HW0:=jD (fun (y:World)=>wiN_c x2 3 y (by decide) (by decide))
     have HW1:=jD (fun (y:World)=>wiN_c x2 16 y (by decide) (by decide))
     have HW2:=jD (fun (y:World)=>wiN_c (wrap64 (x2.tdiv 3)) 32 y (by decide) (by decide))
     have HW3:=jD (fun (y:World)=>wiN_c x2 99 y (by decide) (by decide))
     rw[←hm0] at HW0
     rw[←hm1] at HW1
     rw[←hm2] at HW2
     rw[←hm3] at HW3
     have HK0:=jD hm03
     have HNM:=jD (names3 hm03)
     have HE2:=jD (HST2.out.madeTwo HK.out HIL.out (sidA_ok k0) (madeB_ok hm116 hm232 (show k3≤1000000 by omega)))
     obtain⟨d0,hd0⟩: ∃d0,d0=(madeD (l[ki]'HIL.out) (sidA k0) k1 k2 k3).1:=⟨_,rfl⟩
     obtain⟨d1,hd1⟩: ∃d1,d1=(madeD (l[ki]'HIL.out) (sidA k0) k1 k2 k3).2:=⟨_,rfl⟩
     obtain⟨E9,hE9⟩: ∃E9,E9=madeE (l[ki]'HIL.out) (sidA k0) k1 k2 k3:=⟨_,rfl⟩
     obtain⟨s9,hs9⟩: ∃s9,s9=madeS (l[ki]'HIL.out) (sidA k0) k1 k2 k3:=⟨_,rfl⟩
     rw[←hE9] at HE2
     have HS9:=jD hs9
     have HMK:=jD (fun (wx:World) (hx:SiteAt wx b gi (l[ki]'HIL.out))=>show Calls Tryz.prog 17 #[.pointer (some ⟨gi,0,none⟩), .string (sidA k0), .agg #[.int .i64 (k1:Nat), .int .i64 (k2:Nat)], .int .i64 (k3:Nat)] wx fun e w'=>e= .returned (.tuple #[.agg #[.int .i64 d0, .int .i64 d1], .int .i64 E9])∧SiteAt w' b gi s9∧Stp (fun qq=>qq=gi) wx w' from
      (smake_c gi b _ (sidA k0) k1 k2 k3 wx hx).mono fun e w' hh=>by
       obtain⟨h1,h2,h3⟩:=hh
       refine⟨?_,by rw[hs9];exact h2,h3⟩
       rw[h1,hd0,hd1,hE9]
       unfold madeD
       split <;> rfl)
     have HS:=jD HSI.out
     have HLT:=jD HSI.out.lt
     clear hm0 hm1 hm2 hm3 hd0 hd1 hE9 hs9 hm03 hm116 hm232 hm399
     go_wp2_with fail
     refine Cl2.region0 124 rfl [25,30] (fun w=>Below w2.heap.size w2 w) (fun jq=>match jq with | 4=>[25,30] | 9=>[25,30] | 29=>[30] | _=>[]) (fun jq v ww=>match jq with | 0=>v= .slice (some ⟨qs,0,none⟩) 4 sc | 1=>v= .int .i64 (ki:Nat) | 2=>v= .pointer (some ⟨qs,ki,none⟩) | 3=>v= .pointer (some ⟨gi,0,none⟩) | 4=>StrRow ww w2.heap.size 3 #[.string { data:= #[97] }, .string { data:= #[98] }, .string { data:= #[99] }] v | 5=>v= .slice (some ⟨cb,coff,none⟩) cs.length uc | 6=>v= .pointer (some ⟨cb,coff+2,none⟩) | 7=>v= .int .i64 x2 | 8=>v= .int .i64 (k0:Nat) | 9=>StrPt ww w2.heap.size k0 #[.string { data:= #[97] }, .string { data:= #[98] }, .string { data:= #[99] }] v | 10=>v= .string (sidA k0) | 11=>v= .slice (some ⟨cb,coff,none⟩) cs.length uc | 12=>v= .pointer (some ⟨cb,coff+2,none⟩) | 13=>v= .int .i64 x2 | 14=>v= .int .i64 (k1:Nat) | 15=>v= .slice (some ⟨cb,coff,none⟩) cs.length uc | 16=>v= .pointer (some ⟨cb,coff+2,none⟩) | 17=>v= .int .i64 x2 | 18=>v= .int .i64 (wrap64 (x2.tdiv 3)) | 19=>v= .int .i64 (k2:Nat) | 20=>v= .agg #[.int .i64 (k1:Nat), .int .i64 (k2:Nat)] | 21=>v= .slice (some ⟨cb,coff,none⟩) cs.length uc | 22=>v= .pointer (some ⟨cb,coff+2,none⟩) | 23=>v= .int .i64 x2 | 24=>v= .int .i64 (k3:Nat) | 25=>SiteAt ww b gi s9∧v= .tuple #[.agg #[.int .i64 d0, .int .i64 d1], .int .i64 E9] | 26=>v= .tuple #[.agg #[.int .i64 d0, .int .i64 d1], .int .i64 E9] | 27=>v= .agg #[.int .i64 d0, .int .i64 d1] | 28=>v= .int .i64 E9 | 29=>DotNew ww w2.heap.size v | 30=>DotIs ww w2.heap.size d0 d1 v | 31=>v= .int .i64 E9 | _=>True) (fun ww=>Stp (fun qq=>qq=gi) w2 ww) (fun jq ww ww'=>(jq≠25→jq≠30→Below ww.heap.size ww ww')∧(jq=25→Stp (fun qq=>qq=gi) ww ww')∧(jq=30→DotSet w2.heap.size ww ww')) Tryz.mixed (by decide+kernel) (Stp.refl _ _).drew ((Below.refl _ _).drew) ?_ (fun q w w' hk h hR=>bstep h (hR.1 (by intro e;subst e;exact absurd hk (by decide)) (by intro e;subst e;exact absurd hk (by decide)))) ?_ ?_
     ·intro q r v w w' hne hk hlt h hR
      match r,hk,hlt,h,hne with
      | 0,_,_,h,_=>exact h
      | 1,_,_,h,_=>exact h
      | 2,_,_,h,_=>exact h
      | 3,_,_,h,_=>exact h
      | 4,hk,hlt,h,hne=>
       exact h.below (hR.1 (by intro e;subst e;first | exact absurd hlt (by decide+kernel) | exact absurd rfl hne | simp at hk) (by intro e;subst e;first | exact absurd hlt (by decide+kernel) | exact absurd rfl hne | simp at hk))
      | 5,_,_,h,_=>exact h
      | 6,_,_,h,_=>exact h
      | 7,_,_,h,_=>exact h
      | 8,_,_,h,_=>exact h
      | 9,hk,hlt,h,hne=>
       exact h.below (hR.1 (by intro e;subst e;first | exact absurd hlt (by decide+kernel) | exact absurd rfl hne | simp at hk) (by intro e;subst e;first | exact absurd hlt (by decide+kernel) | exact absurd rfl hne | simp at hk))
      | 10,_,_,h,_=>exact h
      | 11,_,_,h,_=>exact h
      | 12,_,_,h,_=>exact h
      | 13,_,_,h,_=>exact h
      | 14,_,_,h,_=>exact h
      | 15,_,_,h,_=>exact h
      | 16,_,_,h,_=>exact h
      | 17,_,_,h,_=>exact h
      | 18,_,_,h,_=>exact h
      | 19,_,_,h,_=>exact h
      | 20,_,_,h,_=>exact h
      | 21,_,_,h,_=>exact h
      | 22,_,_,h,_=>exact h
      | 23,_,_,h,_=>exact h
      | 24,_,_,h,_=>exact h
      | 25,hk,hlt,h,hne=>
       by_cases e:q=30
       ·exact⟨h.1.dot (hR.2.2 e) (by exact HLT.out),h.2⟩
       ·exact⟨h.1.below (hR.1 (by exact hne) e),h.2⟩
      | 26,_,_,h,_=>exact h
      | 27,_,_,h,_=>exact h
      | 28,_,_,h,_=>exact h
      | 29,hk,hlt,h,hne=>
       by_cases e:q=25
       ·exact h.stp (hR.2.1 e) (by exact HLT.out)
       ·exact h.below (hR.1 e (by simpa using hk))
      | 30,hk,hlt,h,hne=>
       exact h.below (hR.1 (by intro e;subst e;first | exact absurd hlt (by decide+kernel) | exact absurd rfl hne | simp at hk) (by intro e;subst e;first | exact absurd hlt (by decide+kernel) | exact absurd rfl hne | simp at hk))
      | 31,_,_,h,_=>exact h
      | _+32,_,_,_,_=>trivial
     ·refine⟨?_, ?_, ?_, ?_, ?_, ?_, ?_, ?_, ?_, ?_, ?_, ?_, ?_, ?_, ?_, ?_, ?_, ?_, ?_, ?_, ?_, ?_, ?_, ?_, ?_, ?_, ?_, ?_, ?_, ?_, ?_, ?_,trivial⟩
      ·intro x wx hG
       have f0:=hG.o 0
       replace hG:=hG.good
       go_wp2
       exact⟨_,rfl,rfl,hG,⟨fun _ _=>Below.refl _ _,fun h=>zd h,fun h=>zd h⟩⟩
      ·intro x wx hG
       have f10:=hG.o 10
       replace hG:=hG.good
       go_wp2
       exact⟨_,rfl,rfl,hG,⟨fun _ _=>Below.refl _ _,fun h=>zd h,fun h=>zd h⟩⟩
      ·intro x wx hG
       have g0:(x.tmps.getD 68 undef)= .slice (some ⟨qs,0,none⟩) 4 sc:=hG.c 0 _ rfl
       have g0b:=gd g0
       have g1:(x.tmps.getD 69 undef)= .int .i64 (ki:Nat):=hG.c 1 _ rfl
       have g1b:=gd g1
       replace hG:=hG.good
       go_wp2
       exact⟨_,rfl,rfl,hG,⟨fun _ _=>Below.refl _ _,fun h=>zd h,fun h=>zd h⟩⟩
      ·intro x wx hG
       have g2:(x.tmps.getD 70 undef)= .pointer (some ⟨qs,ki,none⟩):=hG.c 2 _ rfl
       have g2b:=gd g2
       have hp:=hG.p
       replace hG:=hG.good
       have c_HCI:=ckeep hp HCI.out
       go_wp2
       exact⟨_,rfl,rfl,hG,⟨fun _ _=>Below.refl _ _,fun h=>zd h,fun h=>zd h⟩⟩
      ·intro x wx hG
       have hp:=hG.p
       replace hG:=hG.good
       go_wp2
       exact⟨_,rfl,⟨_,rfl,alloc_new _ _ _ _ rfl,hp.size⟩,hG.below (bal _),⟨fun _ _=>bal _,fun h=>zd h,fun h=>zd h⟩⟩
      ·intro x wx hG
       have f9:=hG.o 9
       replace hG:=hG.good
       go_wp2
       exact⟨_,rfl,rfl,hG,⟨fun _ _=>Below.refl _ _,fun h=>zd h,fun h=>zd h⟩⟩
      ·intro x wx hG
       have g5:(x.tmps.getD 73 undef)= .slice (some ⟨cb,coff,none⟩) cs.length uc:=hG.c 5 _ rfl
       have g5b:=gd g5
       replace hG:=hG.good
       go_wp2
       exact⟨_,rfl,rfl,hG,⟨fun _ _=>Below.refl _ _,fun h=>zd h,fun h=>zd h⟩⟩
      ·intro x wx hG
       have g6:(x.tmps.getD 74 undef)= .pointer (some ⟨cb,coff+2,none⟩):=hG.c 6 _ rfl
       have g6b:=gd g6
       have hp:=hG.p
       replace hG:=hG.good
       have c_HX2:=ckeep hp HX2.out
       go_wp2
       exact⟨_,rfl,rfl,hG,⟨fun _ _=>Below.refl _ _,fun h=>zd h,fun h=>zd h⟩⟩
      ·intro x wx hG
       have g7:(x.tmps.getD 75 undef)= .int .i64 x2:=hG.c 7 _ rfl
       have g7b:=gd g7
       replace hG:=hG.good
       go_wp2_with fail
       (with_reducible refine(HW0.out wx).mono ?_)
       rintro e wq ⟨rfl,hb⟩
       have HBB:=jD hb
       clear hb
       go_wp2
       exact⟨_,rfl,rfl,hG.below HBB.out,⟨fun _ _=>HBB.out,fun h=>zd h,fun h=>zd h⟩⟩
      ·intro x wx hG
       have g4:StrRow wx w2.heap.size 3 #[.string { data:= #[97] }, .string { data:= #[98] }, .string { data:= #[99] }] (x.tmps.getD 72 undef):=hG.c 4 _ rfl
       have g8:(x.tmps.getD 76 undef)= .int .i64 (k0:Nat):=hG.c 8 _ rfl
       have g8b:=gd g8
       replace hG:=hG.good
       obtain⟨q,hv,hq,hlo⟩:=g4
       have hvb:=hv
       rw[Array.getD_eq_getD_getElem?] at hvb
       have hk0:=HK0.out
       have hk1:(k0:Int) < 3:=by omega
       have HQ:=jD (And.intro hq hlo)
       clear hq hlo
       go_wp2
       exact⟨_,rfl,⟨q,by simp,HQ.out.1,HQ.out.2⟩,hG,⟨fun _ _=>Below.refl _ _,fun h=>zd h,fun h=>zd h⟩⟩
      ·intro x wx hG
       have g9:StrPt wx w2.heap.size k0 #[.string { data:= #[97] }, .string { data:= #[98] }, .string { data:= #[99] }] (x.tmps.getD 77 undef):=hG.c 9 _ rfl
       replace hG:=hG.good
       obtain⟨q,hv,hq,hlo⟩:=g9
       have hvb:=hv
       rw[Array.getD_eq_getD_getElem?] at hvb
       have hcq:=cell_of_block (j:=k0) hq HNM.out
       clear hq hlo
       go_wp2
       exact⟨_,rfl,rfl,hG,⟨fun _ _=>Below.refl _ _,fun h=>zd h,fun h=>zd h⟩⟩
      ·intro x wx hG
       have f9:=hG.o 9
       replace hG:=hG.good
       go_wp2
       exact⟨_,rfl,rfl,hG,⟨fun _ _=>Below.refl _ _,fun h=>zd h,fun h=>zd h⟩⟩
      ·intro x wx hG
       have g11:(x.tmps.getD 79 undef)= .slice (some ⟨cb,coff,none⟩) cs.length uc:=hG.c 11 _ rfl
       have g11b:=gd g11
       replace hG:=hG.good
       go_wp2
       exact⟨_,rfl,rfl,hG,⟨fun _ _=>Below.refl _ _,fun h=>zd h,fun h=>zd h⟩⟩
      ·intro x wx hG
       have g12:(x.tmps.getD 80 undef)= .pointer (some ⟨cb,coff+2,none⟩):=hG.c 12 _ rfl
       have g12b:=gd g12
       have hp:=hG.p
       replace hG:=hG.good
       have c_HX2:=ckeep hp HX2.out
       go_wp2
       exact⟨_,rfl,rfl,hG,⟨fun _ _=>Below.refl _ _,fun h=>zd h,fun h=>zd h⟩⟩
      ·intro x wx hG
       have g13:(x.tmps.getD 81 undef)= .int .i64 x2:=hG.c 13 _ rfl
       have g13b:=gd g13
       replace hG:=hG.good
       go_wp2_with fail
       (with_reducible refine(HW1.out wx).mono ?_)
       rintro e wq ⟨rfl,hb⟩
       have HBB:=jD hb
       clear hb
       go_wp2
       exact⟨_,rfl,rfl,hG.below HBB.out,⟨fun _ _=>HBB.out,fun h=>zd h,fun h=>zd h⟩⟩
      ·intro x wx hG
       have f9:=hG.o 9
       replace hG:=hG.good
       go_wp2
       exact⟨_,rfl,rfl,hG,⟨fun _ _=>Below.refl _ _,fun h=>zd h,fun h=>zd h⟩⟩
      ·intro x wx hG
       have g15:(x.tmps.getD 83 undef)= .slice (some ⟨cb,coff,none⟩) cs.length uc:=hG.c 15 _ rfl
       have g15b:=gd g15
       replace hG:=hG.good
       go_wp2
       exact⟨_,rfl,rfl,hG,⟨fun _ _=>Below.refl _ _,fun h=>zd h,fun h=>zd h⟩⟩
      ·intro x wx hG
       have g16:(x.tmps.getD 84 undef)= .pointer (some ⟨cb,coff+2,none⟩):=hG.c 16 _ rfl
       have g16b:=gd g16
       have hp:=hG.p
       replace hG:=hG.good
       have c_HX2:=ckeep hp HX2.out
       go_wp2
       exact⟨_,rfl,rfl,hG,⟨fun _ _=>Below.refl _ _,fun h=>zd h,fun h=>zd h⟩⟩
      ·intro x wx hG
       have g17:(x.tmps.getD 85 undef)= .int .i64 x2:=hG.c 17 _ rfl
       have g17b:=gd g17
       replace hG:=hG.good
       go_wp2
       exact⟨_,rfl,rfl,hG,⟨fun _ _=>Below.refl _ _,fun h=>zd h,fun h=>zd h⟩⟩
      ·intro x wx hG
       have g18:(x.tmps.getD 86 undef)= .int .i64 (wrap64 (x2.tdiv 3)):=hG.c 18 _ rfl
       have g18b:=gd g18
       replace hG:=hG.good
       go_wp2_with fail
       (with_reducible refine(HW2.out wx).mono ?_)
       rintro e wq ⟨rfl,hb⟩
       have HBB:=jD hb
       clear hb
       go_wp2
       exact⟨_,rfl,rfl,hG.below HBB.out,⟨fun _ _=>HBB.out,fun h=>zd h,fun h=>zd h⟩⟩
      ·intro x wx hG
       have g14:(x.tmps.getD 82 undef)= .int .i64 (k1:Nat):=hG.c 14 _ rfl
       have g14b:=gd g14
       have g19:(x.tmps.getD 87 undef)= .int .i64 (k2:Nat):=hG.c 19 _ rfl
       have g19b:=gd g19
       replace hG:=hG.good
       go_wp2
       exact⟨_,rfl,rfl,hG,⟨fun _ _=>Below.refl _ _,fun h=>zd h,fun h=>zd h⟩⟩
      ·intro x wx hG
       have f9:=hG.o 9
       replace hG:=hG.good
       go_wp2
       exact⟨_,rfl,rfl,hG,⟨fun _ _=>Below.refl _ _,fun h=>zd h,fun h=>zd h⟩⟩
      ·intro x wx hG
       have g21:(x.tmps.getD 89 undef)= .slice (some ⟨cb,coff,none⟩) cs.length uc:=hG.c 21 _ rfl
       have g21b:=gd g21
       replace hG:=hG.good
       go_wp2
       exact⟨_,rfl,rfl,hG,⟨fun _ _=>Below.refl _ _,fun h=>zd h,fun h=>zd h⟩⟩
      ·intro x wx hG
       have g22:(x.tmps.getD 90 undef)= .pointer (some ⟨cb,coff+2,none⟩):=hG.c 22 _ rfl
       have g22b:=gd g22
       have hp:=hG.p
       replace hG:=hG.good
       have c_HX2:=ckeep hp HX2.out
       go_wp2
       exact⟨_,rfl,rfl,hG,⟨fun _ _=>Below.refl _ _,fun h=>zd h,fun h=>zd h⟩⟩
      ·intro x wx hG
       have g23:(x.tmps.getD 91 undef)= .int .i64 x2:=hG.c 23 _ rfl
       have g23b:=gd g23
       replace hG:=hG.good
       go_wp2_with fail
       (with_reducible refine(HW3.out wx).mono ?_)
       rintro e wq ⟨rfl,hb⟩
       have HBB:=jD hb
       clear hb
       go_wp2
       exact⟨_,rfl,rfl,hG.below HBB.out,⟨fun _ _=>HBB.out,fun h=>zd h,fun h=>zd h⟩⟩
      ·intro x wx hG
       have g3:(x.tmps.getD 71 undef)= .pointer (some ⟨gi,0,none⟩):=hG.c 3 _ rfl
       have g3b:=gd g3
       have g10:(x.tmps.getD 78 undef)= .string (sidA k0):=hG.c 10 _ rfl
       have g10b:=gd g10
       have g20:(x.tmps.getD 88 undef)= .agg #[.int .i64 (k1:Nat), .int .i64 (k2:Nat)]:=hG.c 20 _ rfl
       have g20b:=gd g20
       have g24:(x.tmps.getD 92 undef)= .int .i64 (k3:Nat):=hG.c 24 _ rfl
       have g24b:=gd g24
       have hp:=hG.p
       replace hG:=hG.good
       have HN:=jD (HMK.out wx (HS.out.below hp))
       go_wp2_with fail
       (with_reducible refine(HN.out).mono ?_)
       rintro e wq ⟨rfl,h1,h2⟩
       have H1:=jD h1
       have H2:=jD h2
       clear h1 h2 HN
       go_wp2
       exact⟨_,rfl,⟨H1.out,rfl⟩,hG.trans H2.out,⟨fun h _=>absurd rfl h,fun _=>H2.out,fun h=>zd h⟩⟩
      ·intro x wx hG
       have g25:SiteAt wx b gi s9∧(x.tmps.getD 93 undef)= .tuple #[.agg #[.int .i64 d0, .int .i64 d1], .int .i64 E9]:=hG.c 25 _ rfl
       replace hG:=hG.good
       have g25v:=g25.2
       have g25vb:=g25v
       rw[Array.getD_eq_getD_getElem?] at g25vb
       go_wp2
       exact⟨_,rfl,rfl,hG,⟨fun _ _=>Below.refl _ _,fun h=>zd h,fun h=>zd h⟩⟩
      ·intro x wx hG
       have g26:(x.tmps.getD 67 undef)= .tuple #[.agg #[.int .i64 d0, .int .i64 d1], .int .i64 E9]:=hG.c 26 _ rfl
       have g26b:=gd g26
       replace hG:=hG.good
       go_wp2
       exact⟨_,rfl,rfl,hG,⟨fun _ _=>Below.refl _ _,fun h=>zd h,fun h=>zd h⟩⟩
      ·intro x wx hG
       have g26:(x.tmps.getD 67 undef)= .tuple #[.agg #[.int .i64 d0, .int .i64 d1], .int .i64 E9]:=hG.c 26 _ rfl
       have g26b:=gd g26
       replace hG:=hG.good
       go_wp2
       exact⟨_,rfl,rfl,hG,⟨fun _ _=>Below.refl _ _,fun h=>zd h,fun h=>zd h⟩⟩
      ·intro x wx hG
       replace hG:=hG.good
       go_wp2
       exact⟨_,rfl,⟨_,rfl,alloc_new _ _ _ _ rfl,hG.size⟩,hG.below (bal _),⟨fun _ _=>bal _,fun h=>zd h,fun h=>zd h⟩⟩
      ·intro x wx hG
       have g29:DotNew wx w2.heap.size (x.tmps.getD 12 undef):=hG.c 29 _ rfl
       have g27:(x.tmps.getD 94 undef)= .agg #[.int .i64 d0, .int .i64 d1]:=hG.c 27 _ rfl
       have g27b:=gd g27
       replace hG:=hG.good
       obtain⟨q,hv,hq,hlo⟩:=g29
       have HV:=jD hv
       have hvb:=hv
       rw[Array.getD_eq_getD_getElem?] at hvb
       have gxb:=g27
       rw[Array.getD_eq_getD_getElem?] at gxb
       have r0:=cell_of_block (j:=0) hq rfl
       have r1:=cell_of_block (j:=1) hq rfl
       have q0:=free_of_block (j:=0) hq
       have q1:=free_of_block (j:=1) hq
       have hRl:=hlt_of hq
       have HQ:=jD hq
       have HLO:=jD hlo
       clear hq hlo
       go_wp2
       exact⟨undef,rfl,⟨q,Eq.trans (by kernel_rfl) HV.out,by rw[heap_set_same (heap_set_same HQ.out)];rfl,HLO.out⟩,DotSet.stp hG ⟨q,_,_,HLO.out,HQ.out,rfl⟩,⟨fun _ h=>absurd rfl h,fun h=>zd h,fun _=>⟨q,_,_,HLO.out,HQ.out,rfl⟩⟩⟩
      ·intro x wx hG
       have g28:(x.tmps.getD 95 undef)= .int .i64 E9:=hG.c 28 _ rfl
       have g28b:=gd g28
       replace hG:=hG.good
       go_wp2
       exact⟨_,rfl,rfl,hG,⟨fun _ _=>Below.refl _ _,fun h=>zd h,fun h=>zd h⟩⟩
     ·intro vals w9 hg hF
      obtain⟨g0,g1,g2,g3,g4,g5,g6,g7,g8,g9,g10,g11,g12,g13,g14,g15,g16,g17,g18,g19,g20,g21,g22,g23,g24,g25,g26,g27,g28,g29,g30,g31, -⟩:=hF
      have e0:=gq (vals 0) g0
      have e1:=gq (vals 1) g1
      have e2:=gq (vals 2) g2
      have e3:=gq (vals 3) g3
      have e5:=gq (vals 5) g5
      have e6:=gq (vals 6) g6
      have e7:=gq (vals 7) g7
      have e8:=gq (vals 8) g8
      have e10:=gq (vals 10) g10
      have e11:=gq (vals 11) g11
      have e12:=gq (vals 12) g12
      have e13:=gq (vals 13) g13
      have e14:=gq (vals 14) g14
      have e15:=gq (vals 15) g15
      have e16:=gq (vals 16) g16
      have e17:=gq (vals 17) g17
      have e18:=gq (vals 18) g18
      have e19:=gq (vals 19) g19
      have e20:=gq (vals 20) g20
      have e21:=gq (vals 21) g21
      have e22:=gq (vals 22) g22
      have e23:=gq (vals 23) g23
      have e24:=gq (vals 24) g24
      replace g25:SiteAt w9 b gi s9∧(vals 25)= .tuple #[.agg #[.int .i64 d0, .int .i64 d1], .int .i64 E9]:=g25 rfl
      have e26:=gq (vals 26) g26
      have e27:=gq (vals 27) g27
      have e28:=gq (vals 28) g28
      have g30:=g30 rfl
      have e31:=gq (vals 31) g31
      simp only[Cl2.puts,e0,e1,e2,e3,e5,e6,e7,e8,e10,e11,e12,e13,e14,e15,e16,e17,e18,e19,e20,e21,e22,e23,e24,e26,e27,e28,e31]
      clear e0 e1 e2 e3 e5 e6 e7 e8 e10 e11 e12 e13 e14 e15 e16 e17 e18 e19 e20 e21 e22 e23 e24 e26 e27 e28 e31 g0 g1 g2 g3 g4 g5 g6 g7 g8 g9 g10 g11 g12 g13 g14 g15 g16 g17 g18 g19 g20 g21 g22 g23 g24 g26 g27 g28 g29 g31
      go_simp
      generalize vals 25=mk9 at*
      have HSN:=jD g25.1
      have HSG:=jD hg
      clear g25 hg
      generalize vals 4=jbs at*
      generalize vals 9=jsx at*
      generalize vals 29=jal at*
      rcases HE2.out with rfl | rfl
      all_goals
       go_wp2
       go_roundw
       case rel=>
        have h2:=HSN.out
        rw[HS9.out] at h2
        exact⟨k+1,by omega,by go_num,_,HST2.out.make (by have:=HK.out;omega) HGI.out HIL.out HSG.out h2⟩
       case measure=>simp [intOf] <;> omega
    have HK01:=jD (of_decide_eq_false Hb01.out.symm)
    obtain⟨b23,hb23⟩: ∃b23,b23=decide (kq=2∨kq=3):=⟨_,rfl⟩
    have Hb23:=jD hb23
    clear hb23
    go_upto_if 102 with fail
    go_cut [102] from 103 to 104 (fun sx wx=>sx= .bool b23∧w2=wx)
    case first=>
     rcases five_lt hkq5 with rfl | rfl | rfl | rfl | rfl
     all_goals
      go_wp2
      all_goals
       go_meet
       case rel=>exact ⟨by rw[Hb23.out];rfl,rfl⟩
    case rest=>
     obtain⟨hs,hw⟩:=hcut
     subst hs
     subst hw
     rcases Bool.eq_false_or_eq_true b23 with rfl | rfl
     ·by_cases hij:ki=kj
      ·subst hij
       have hdn:((ki:Int)==(ki:Int))=true:=by simp
       go_wp2
       go_roundw
       case rel=>exact ⟨k+1,by omega,by go_num,l,HST2.out.up (by omega)⟩
       case measure=>simp [intOf] <;> omega
      have hdn:((ki:Int)==(kj:Int))=false:=by simp;omega
      have hdn2:decide ((ki:Int)=(kj:Int))=false:=by simp;omega
      obtain⟨qs2,gj,c8,hsv,hgj,hcelj,hsitj⟩:=HST2.out.cell hkj4
      simp only[Value.slice.injEq,true_and,and_true,Option.some.injEq,Addr.mk.injEq] at hsv
      obtain⟨rfl, -⟩:=hsv
      have HCJ:=jD hcelj
      have HSJ:=jD hsitj
      obtain⟨bt,hbt⟩: ∃bt,bt=giveB (l[kj]'HJL.out) (l[ki]'HIL.out).me (l[ki]'HIL.out).stamp (l[ki]'HIL.out).P (knownS (l[ki]'HIL.out)):=⟨_,rfl⟩
      have HBT:=jD hbt
      have HE2:=jD (HST2.out.two HIL.out HJL.out)
      rw[←hbt] at HE2
      obtain⟨s9,hs9⟩: ∃s9,s9=tookS (l[ki]'HIL.out) bt:=⟨_,rfl⟩
      have HS9:=jD hs9
      obtain⟨a9,ha9⟩: ∃a9,a9=decide (tookE (l[ki]'HIL.out) bt=0):=⟨_,rfl⟩
      obtain⟨b9,hb9⟩: ∃b9,b9=decide (tookE (l[ki]'HIL.out) bt=2):=⟨_,rfl⟩
      have HAB:=jD (show(a9=true∧b9=false)∨(a9=false∧b9=true) from by
       rcases HE2.out with h | h
       ·left;rw [ha9,hb9,h];exact ⟨rfl,rfl⟩
       ·right;rw [ha9,hb9,h];exact ⟨rfl,rfl⟩)
      have HAK:=jD (fun (wx:World) (hx:SiteAt wx b gi (l[ki]'HIL.out)) (hy:SiteAt wx b gj (l[kj]'HJL.out))=>show Calls Tryz.prog 31 #[.pointer (some ⟨gi,0,none⟩), .pointer (some ⟨gj,0,none⟩)] wx fun e w'=>e= .returned (.tuple #[.bool a9, .bool b9])∧SiteAt w' b gi s9∧Stp (fun qq=>qq=gi) wx w' from by
       rw[ha9,hb9,hs9];exact asked_c gi gj b _ _ bt wx hx hy hbt)
      clear hbt hs9 ha9 hb9 HE2 hgj hcelj hsitj
      have hin:(ki:Int) < 4:=by omega
      have hjn:(kj:Int) < 4:=by omega
      go_wp2_with fail
      refine Cl2.region0 124 rfl [8] (fun w=>Below w2.heap.size w2 w) (fun _=>[]) (fun jq v ww=>match jq with | 0=>v= .slice (some ⟨qs,0,none⟩) 4 sc | 1=>v= .int .i64 (ki:Nat) | 2=>v= .pointer (some ⟨qs,ki,none⟩) | 3=>v= .pointer (some ⟨gi,0,none⟩) | 4=>v= .slice (some ⟨qs,0,none⟩) 4 sc | 5=>v= .int .i64 (kj:Nat) | 6=>v= .pointer (some ⟨qs,kj,none⟩) | 7=>v= .pointer (some ⟨gj,0,none⟩) | 8=>SiteAt ww b gi s9∧v= .tuple #[.bool a9, .bool b9] | 9=>v= .tuple #[.bool a9, .bool b9] | 10=>v= .bool a9 | 11=>v= .bool b9 | 12=>v= .bool a9 | 13=>v= .bool b9 | _=>True) (fun ww=>Stp (fun qq=>qq=gi) w2 ww) (fun jq ww ww'=>(jq≠8→Below ww.heap.size ww ww')∧(jq=8→Stp (fun qq=>qq=gi) ww ww')) Tryz.mixed (by decide+kernel) (Stp.refl _ _).drew ((Below.refl _ _).drew) ?_ (fun q w w' hk h hR=>bstep h (hR.1 (by intro e;subst e;exact absurd hk (by decide)))) ?_ ?_
      ·intro q r v w w' hne hk hlt h hR
       match r,hk,hlt,h,hne with
       | 0,_,_,h,_=>exact h
       | 1,_,_,h,_=>exact h
       | 2,_,_,h,_=>exact h
       | 3,_,_,h,_=>exact h
       | 4,_,_,h,_=>exact h
       | 5,_,_,h,_=>exact h
       | 6,_,_,h,_=>exact h
       | 7,_,_,h,_=>exact h
       | 8,hk,hlt,h,hne=>exact ⟨h.1.below (hR.1 (by exact hne)),h.2⟩
       | 9,_,_,h,_=>exact h
       | 10,_,_,h,_=>exact h
       | 11,_,_,h,_=>exact h
       | 12,_,_,h,_=>exact h
       | 13,_,_,h,_=>exact h
       | _+14,_,_,_,_=>trivial
      ·refine⟨?_, ?_, ?_, ?_, ?_, ?_, ?_, ?_, ?_, ?_, ?_, ?_, ?_, ?_,trivial⟩
       ·intro x wx hG
        have f0:=hG.o 0
        replace hG:=hG.good
        go_wp2
        exact⟨_,rfl,rfl,hG,⟨fun _=>Below.refl _ _,fun h=>zd h⟩⟩
       ·intro x wx hG
        have f10:=hG.o 10
        replace hG:=hG.good
        go_wp2
        exact⟨_,rfl,rfl,hG,⟨fun _=>Below.refl _ _,fun h=>zd h⟩⟩
       ·intro x wx hG
        have g0:(x.tmps.getD 109 undef)= .slice (some ⟨qs,0,none⟩) 4 sc:=hG.c 0 _ rfl
        have g0b:=gd g0
        have g1:(x.tmps.getD 110 undef)= .int .i64 (ki:Nat):=hG.c 1 _ rfl
        have g1b:=gd g1
        replace hG:=hG.good
        go_wp2
        exact⟨_,rfl,rfl,hG,⟨fun _=>Below.refl _ _,fun h=>zd h⟩⟩
       ·intro x wx hG
        have g2:(x.tmps.getD 111 undef)= .pointer (some ⟨qs,ki,none⟩):=hG.c 2 _ rfl
        have g2b:=gd g2
        have hp:=hG.p
        replace hG:=hG.good
        have c_HCI:=ckeep hp HCI.out
        go_wp2
        exact⟨_,rfl,rfl,hG,⟨fun _=>Below.refl _ _,fun h=>zd h⟩⟩
       ·intro x wx hG
        have f0:=hG.o 0
        replace hG:=hG.good
        go_wp2
        exact⟨_,rfl,rfl,hG,⟨fun _=>Below.refl _ _,fun h=>zd h⟩⟩
       ·intro x wx hG
        have f11:=hG.o 11
        replace hG:=hG.good
        go_wp2
        exact⟨_,rfl,rfl,hG,⟨fun _=>Below.refl _ _,fun h=>zd h⟩⟩
       ·intro x wx hG
        have g4:(x.tmps.getD 113 undef)= .slice (some ⟨qs,0,none⟩) 4 sc:=hG.c 4 _ rfl
        have g4b:=gd g4
        have g5:(x.tmps.getD 114 undef)= .int .i64 (kj:Nat):=hG.c 5 _ rfl
        have g5b:=gd g5
        replace hG:=hG.good
        go_wp2
        exact⟨_,rfl,rfl,hG,⟨fun _=>Below.refl _ _,fun h=>zd h⟩⟩
       ·intro x wx hG
        have g6:(x.tmps.getD 115 undef)= .pointer (some ⟨qs,kj,none⟩):=hG.c 6 _ rfl
        have g6b:=gd g6
        have hp:=hG.p
        replace hG:=hG.good
        have c_HCJ:=ckeep hp HCJ.out
        go_wp2
        exact⟨_,rfl,rfl,hG,⟨fun _=>Below.refl _ _,fun h=>zd h⟩⟩
       ·intro x wx hG
        have g3:(x.tmps.getD 112 undef)= .pointer (some ⟨gi,0,none⟩):=hG.c 3 _ rfl
        have g3b:=gd g3
        have g7:(x.tmps.getD 116 undef)= .pointer (some ⟨gj,0,none⟩):=hG.c 7 _ rfl
        have g7b:=gd g7
        have hp:=hG.p
        replace hG:=hG.good
        have HN:=jD (HAK.out wx (HSI.out.below hp) (HSJ.out.below hp))
        go_wp2_with fail
        (with_reducible refine(HN.out).mono ?_)
        rintro e wq ⟨rfl,h1,h2⟩
        have H1:=jD h1
        have H2:=jD h2
        clear h1 h2 HN
        go_wp2
        exact⟨_,rfl,⟨H1.out,rfl⟩,hG.trans H2.out,⟨fun h=>absurd rfl h,fun _=>H2.out⟩⟩
       ·intro x wx hG
        have g8:SiteAt wx b gi s9∧(x.tmps.getD 117 undef)= .tuple #[.bool a9, .bool b9]:=hG.c 8 _ rfl
        replace hG:=hG.good
        have g8v:=g8.2
        have g8vb:=g8v
        rw[Array.getD_eq_getD_getElem?] at g8vb
        go_wp2
        exact⟨_,rfl,rfl,hG,⟨fun _=>Below.refl _ _,fun h=>zd h⟩⟩
       ·intro x wx hG
        have g9:(x.tmps.getD 108 undef)= .tuple #[.bool a9, .bool b9]:=hG.c 9 _ rfl
        have g9b:=gd g9
        replace hG:=hG.good
        go_wp2
        exact⟨_,rfl,rfl,hG,⟨fun _=>Below.refl _ _,fun h=>zd h⟩⟩
       ·intro x wx hG
        have g9:(x.tmps.getD 108 undef)= .tuple #[.bool a9, .bool b9]:=hG.c 9 _ rfl
        have g9b:=gd g9
        replace hG:=hG.good
        go_wp2
        exact⟨_,rfl,rfl,hG,⟨fun _=>Below.refl _ _,fun h=>zd h⟩⟩
       ·intro x wx hG
        have g10:(x.tmps.getD 118 undef)= .bool a9:=hG.c 10 _ rfl
        have g10b:=gd g10
        replace hG:=hG.good
        go_wp2
        exact⟨_,rfl,rfl,hG,⟨fun _=>Below.refl _ _,fun h=>zd h⟩⟩
       ·intro x wx hG
        have g11:(x.tmps.getD 119 undef)= .bool b9:=hG.c 11 _ rfl
        have g11b:=gd g11
        replace hG:=hG.good
        go_wp2
        exact⟨_,rfl,rfl,hG,⟨fun _=>Below.refl _ _,fun h=>zd h⟩⟩
      ·intro vals w9 hg hF
       obtain⟨g0,g1,g2,g3,g4,g5,g6,g7,g8,g9,g10,g11,g12,g13, -⟩:=hF
       have e0:=gq (vals 0) g0
       have e1:=gq (vals 1) g1
       have e2:=gq (vals 2) g2
       have e3:=gq (vals 3) g3
       have e4:=gq (vals 4) g4
       have e5:=gq (vals 5) g5
       have e6:=gq (vals 6) g6
       have e7:=gq (vals 7) g7
       replace g8:SiteAt w9 b gi s9∧(vals 8)= .tuple #[.bool a9, .bool b9]:=g8 rfl
       have e9:=gq (vals 9) g9
       have e10:=gq (vals 10) g10
       have e11:=gq (vals 11) g11
       have e12:=gq (vals 12) g12
       have e13:=gq (vals 13) g13
       simp only[Cl2.puts,e0,e1,e2,e3,e4,e5,e6,e7,e9,e10,e11,e12,e13]
       clear e0 e1 e2 e3 e4 e5 e6 e7 e9 e10 e11 e12 e13 g0 g1 g2 g3 g4 g5 g6 g7 g9 g10 g11 g12 g13
       go_simp
       generalize vals 8=cl9 at*
       have HSN:=jD g8.1
       have HSG:=jD hg
       clear g8 hg
       have HQ:=jD (show PldSt w b (.slice (some ⟨qs,0,none⟩) 4 sc) gs l0 no (kz+k) (l.set ki (tookS (l[ki]'HIL.out) bt)) w9 from by
        have h2:=HSN.out
        rw[HS9.out] at h2
        exact HST2.out.asked (by have:=HK.out;omega) HGI.out HIL.out HJL.out HBT.out HSG.out h2)
       rcases HAB.out with⟨rfl,rfl⟩ | ⟨rfl,rfl⟩
       ·go_wp2
        go_roundw
        case rel=>exact ⟨k+1,by omega,by go_num,_,HQ.out.up (by omega)⟩
        case measure=>simp [intOf] <;> omega
       ·go_wp2
        go_ret2
        exact⟨false,true,_,rfl,fun _=>rfl,HQ.out.up (by omega)⟩
     ·by_cases hi3:ki < 3
      rotate_left
      ·have hd3:decide ((ki:Int) < 3)=false:=by simp;omega
       go_wp2_with fail
       refine Cl.region0 124 rfl [] (fun _=>True) (fun _=>[]) (fun jq v ww=>match jq with | 0=>v= .int .i64 (ki:Nat) | 1=>v= .slice fa 3 fc | 2=>v= .int .i64 3 | 3=>v= .bool false | 4=>v= .bool false | 5=>v=undef | 6=>v=undef | 7=>v=undef | 8=>v=undef | 9=>v=undef | 10=>v=undef | 11=>v=undef | 12=>v=undef | 13=>v=undef | 14=>v=undef | 15=>v=undef | 16=>v=undef | 17=>v=undef | 18=>v= .bool false | _=>True) (fun ww=>Below w2.heap.size w2 ww) (fun jq ww ww'=>Below ww.heap.size ww ww') Tryz.mixed (by decide+kernel) (Below.refl _ _).drew trivial (fun q r v w w' _ _ _ h _=>h) (fun _ _ _ _ _ _=>trivial) ?_ ?_
       ·refine⟨?_, ?_, ?_, ?_, ?_, ?_, ?_, ?_, ?_, ?_, ?_, ?_, ?_, ?_, ?_, ?_, ?_, ?_, ?_,trivial⟩
        ·intro x wx hG
         have f10:=hG.o 10
         replace hG:=hG.good
         go_wp2
         exact⟨_,rfl,rfl,hG,Below.refl _ _⟩
        ·intro x wx hG
         have f1:=hG.o 1
         replace hG:=hG.good
         go_wp2
         exact⟨_,rfl,rfl,hG,Below.refl _ _⟩
        ·intro x wx hG
         have g1:(x.tmps.getD 46 undef)= .slice fa 3 fc:=hG.c 1 _ rfl
         have g1b:=gd g1
         replace hG:=hG.good
         go_wp2
         exact⟨_,rfl,rfl,hG,Below.refl _ _⟩
        ·intro x wx hG
         have g0:(x.tmps.getD 45 undef)= .int .i64 (ki:Nat):=hG.c 0 _ rfl
         have g0b:=gd g0
         have g2:(x.tmps.getD 47 undef)= .int .i64 3:=hG.c 2 _ rfl
         have g2b:=gd g2
         replace hG:=hG.good
         go_wp2
         exact⟨_,rfl,rfl,hG,Below.refl _ _⟩
        ·intro x wx hG
         have g3:(x.tmps.getD 48 undef)= .bool false:=hG.c 3 _ rfl
         have g3b:=gd g3
         replace hG:=hG.good
         go_wp2
         exact⟨_,rfl,rfl,hG,Below.refl _ _⟩
        ·intro x wx hG
         have gg:(x.tmps.getD 49 undef)= .bool false:=hG.c 4 _ rfl
         replace gg:=Cl.opt (hG.size.trans (show _=124 from rfl)) (by decide) gg
         replace hG:=hG.good
         go_wp2
         exact⟨_,rfl,rfl,hG,Below.refl _ _⟩
        ·intro x wx hG
         have gg:(x.tmps.getD 49 undef)= .bool false:=hG.c 4 _ rfl
         replace gg:=Cl.opt (hG.size.trans (show _=124 from rfl)) (by decide) gg
         replace hG:=hG.good
         go_wp2
         exact⟨_,rfl,rfl,hG,Below.refl _ _⟩
        ·intro x wx hG
         have gg:(x.tmps.getD 49 undef)= .bool false:=hG.c 4 _ rfl
         replace gg:=Cl.opt (hG.size.trans (show _=124 from rfl)) (by decide) gg
         replace hG:=hG.good
         go_wp2
         exact⟨_,rfl,rfl,hG,Below.refl _ _⟩
        ·intro x wx hG
         have gg:(x.tmps.getD 49 undef)= .bool false:=hG.c 4 _ rfl
         replace gg:=Cl.opt (hG.size.trans (show _=124 from rfl)) (by decide) gg
         replace hG:=hG.good
         go_wp2
         exact⟨_,rfl,rfl,hG,Below.refl _ _⟩
        ·intro x wx hG
         have gg:(x.tmps.getD 49 undef)= .bool false:=hG.c 4 _ rfl
         replace gg:=Cl.opt (hG.size.trans (show _=124 from rfl)) (by decide) gg
         replace hG:=hG.good
         go_wp2
         exact⟨_,rfl,rfl,hG,Below.refl _ _⟩
        ·intro x wx hG
         have gg:(x.tmps.getD 49 undef)= .bool false:=hG.c 4 _ rfl
         replace gg:=Cl.opt (hG.size.trans (show _=124 from rfl)) (by decide) gg
         replace hG:=hG.good
         go_wp2
         exact⟨_,rfl,rfl,hG,Below.refl _ _⟩
        ·intro x wx hG
         have gg:(x.tmps.getD 49 undef)= .bool false:=hG.c 4 _ rfl
         replace gg:=Cl.opt (hG.size.trans (show _=124 from rfl)) (by decide) gg
         replace hG:=hG.good
         go_wp2
         exact⟨_,rfl,rfl,hG,Below.refl _ _⟩
        ·intro x wx hG
         have gg:(x.tmps.getD 49 undef)= .bool false:=hG.c 4 _ rfl
         replace gg:=Cl.opt (hG.size.trans (show _=124 from rfl)) (by decide) gg
         replace hG:=hG.good
         go_wp2
         exact⟨_,rfl,rfl,hG,Below.refl _ _⟩
        ·intro x wx hG
         have gg:(x.tmps.getD 49 undef)= .bool false:=hG.c 4 _ rfl
         replace gg:=Cl.opt (hG.size.trans (show _=124 from rfl)) (by decide) gg
         replace hG:=hG.good
         go_wp2
         exact⟨_,rfl,rfl,hG,Below.refl _ _⟩
        ·intro x wx hG
         have gg:(x.tmps.getD 49 undef)= .bool false:=hG.c 4 _ rfl
         replace gg:=Cl.opt (hG.size.trans (show _=124 from rfl)) (by decide) gg
         replace hG:=hG.good
         go_wp2
         exact⟨_,rfl,rfl,hG,Below.refl _ _⟩
        ·intro x wx hG
         have gg:(x.tmps.getD 49 undef)= .bool false:=hG.c 4 _ rfl
         replace gg:=Cl.opt (hG.size.trans (show _=124 from rfl)) (by decide) gg
         replace hG:=hG.good
         go_wp2
         exact⟨_,rfl,rfl,hG,Below.refl _ _⟩
        ·intro x wx hG
         have gg:(x.tmps.getD 49 undef)= .bool false:=hG.c 4 _ rfl
         replace gg:=Cl.opt (hG.size.trans (show _=124 from rfl)) (by decide) gg
         replace hG:=hG.good
         go_wp2
         exact⟨_,rfl,rfl,hG,Below.refl _ _⟩
        ·intro x wx hG
         have gg:(x.tmps.getD 49 undef)= .bool false:=hG.c 4 _ rfl
         replace gg:=Cl.opt (hG.size.trans (show _=124 from rfl)) (by decide) gg
         replace hG:=hG.good
         go_wp2
         exact⟨_,rfl,rfl,hG,Below.refl _ _⟩
        ·intro x wx hG
         have g4:(x.tmps.getD 49 undef)= .bool false:=hG.c 4 _ rfl
         have g4b:=gd g4
         have g17:(x.tmps.getD 62 undef)=undef:=hG.c 17 _ rfl
         have g17b:=gd g17
         replace hG:=hG.good
         go_wp2
         exact⟨_,rfl,rfl,hG,Below.refl _ _⟩
       ·intro vals w9 hg hF
        obtain⟨g0,g1,g2,g3,g4,g5,g6,g7,g8,g9,g10,g11,g12,g13,g14,g15,g16,g17,g18, -⟩:=hF
        have e0:=gq (vals 0) g0
        have e1:=gq (vals 1) g1
        have e2:=gq (vals 2) g2
        have e3:=gq (vals 3) g3
        have e4:=gq (vals 4) g4
        have e5:=gq (vals 5) g5
        have e6:=gq (vals 6) g6
        have e7:=gq (vals 7) g7
        have e8:=gq (vals 8) g8
        have e9:=gq (vals 9) g9
        have e10:=gq (vals 10) g10
        have e11:=gq (vals 11) g11
        have e12:=gq (vals 12) g12
        have e13:=gq (vals 13) g13
        have e14:=gq (vals 14) g14
        have e15:=gq (vals 15) g15
        have e16:=gq (vals 16) g16
        have e17:=gq (vals 17) g17
        have e18:=gq (vals 18) g18
        simp only[Cl.puts,e0,e1,e2,e3,e4,e5,e6,e7,e8,e9,e10,e11,e12,e13,e14,e15,e16,e17,e18]
        clear e0 e1 e2 e3 e4 e5 e6 e7 e8 e9 e10 e11 e12 e13 e14 e15 e16 e17 e18 g0 g1 g2 g3 g4 g5 g6 g7 g8 g9 g10 g11 g12 g13 g14 g15 g16 g17 g18
        go_simp
        have HG:=jD hg
        clear hg
        go_wp2
        go_roundw
        case rel=>exact ⟨k+1,by omega,by go_num,l,(HST2.out.below HG.out).up (by omega)⟩
        case measure=>simp [intOf] <;> omega
      have hd3:decide ((ki:Int) < 3)=true:=by simp;omega
      obtain⟨kf,hkf⟩: ∃kf,kf=kj%3:=⟨_,rfl⟩
      have hrm:((kj:Int)).tmod 3=(kf:Int):=by rw[hkf];rfl
      have hkf3:kf < F.length:=by rw[HF3.out];omega
      rcases HVF.out with hnil | ⟨fb,foff,rfl,hfb,hfc⟩
      ·rw[hnil] at hkf3;simp at hkf3
      obtain⟨c7,⟨v7,rfl,hv7⟩,hcc7⟩:=hfc kf hkf3
      have hsb:=HSB.out w2 HST2.out.stp
      have HF7:=jD (show w2.cell? ⟨fb,foff+kf,none⟩=some v7 from hsb.cell _ _ (by have:=hcc7 0 v7 rfl;simpa [bxsE] using this))
      have HC7:=jD (HFC.out _ (List.getElem_mem hkf3))
      have HV7:=jD hv7
      generalize F[kf]=G7 at*
      obtain⟨za,zc,hz7⟩:=hv7.shape
      subst hz7
      have hkfi:(kf:Int) < 3:=by have:=HF3.out;omega
      obtain⟨s9,hs9⟩: ∃s9,s9=wantS (l[ki]'HIL.out) (ptsOf G7):=⟨_,rfl⟩
      have HS9:=jD hs9
      have HNN:=jD (show ¬no from fun h=>HX.out h (by have h1:=HK01.out;have h2: ¬(kq=2∨kq=3):=of_decide_eq_false Hb23.out.symm;omega))
      have HLG:=jD (show ∀q,q=gi→q∈gs from fun q hq=>by rw[hq];exact List.mem_of_getElem? HGI.out)
      have HWT:=jD (fun (wx:World) (hp:Below w2.heap.size w2 wx)=>show Calls Tryz.prog 47 #[.pointer (some ⟨gi,0,none⟩), .slice za G7.length zc] wx fun e w'=>e= .returned (.int .i64 0)∧SiteAt w' b gi s9∧Stp (fun qq=>qq=gi) wx w' from by
       rw[hs9]
       exact swant_c gi b _ _ G7 wx (HSI.out.below hp) (fun w' hs=>HV7.out.sub (HSB.out w' ((HST2.out.stp.below hp).trans (hs.mono HLG.out)))) HC7.out (by have:=HST2.out.stamp HIL.out;have:=HK.out;omega))
      clear hs9 hsb hv7 hcc7 hfc hkf hkf3
      have hin:(ki:Int) < 4:=by omega
      go_wp2_with fail
      refine Cl2.region0 124 rfl [16] (fun w=>Below w2.heap.size w2 w) (fun _=>[]) (fun jq v ww=>match jq with | 0=>v= .int .i64 (ki:Nat) | 1=>v= .slice (some ⟨fb,foff,none⟩) 3 fc | 2=>v= .int .i64 3 | 3=>v= .bool true | 4=>v= .bool true | 5=>v= .slice (some ⟨qs,0,none⟩) 4 sc | 6=>v= .int .i64 (ki:Nat) | 7=>v= .pointer (some ⟨qs,ki,none⟩) | 8=>v= .pointer (some ⟨gi,0,none⟩) | 9=>v= .slice (some ⟨fb,foff,none⟩) 3 fc | 10=>v= .int .i64 (kj:Nat) | 11=>v= .slice (some ⟨fb,foff,none⟩) 3 fc | 12=>v= .int .i64 3 | 13=>v= .int .i64 (kf:Nat) | 14=>v= .pointer (some ⟨fb,foff+kf,none⟩) | 15=>v= .slice za G7.length zc | 16=>SiteAt ww b gi s9∧v= .int .i64 0 | 17=>v= .bool false | 18=>v= .bool false | _=>True) (fun ww=>Stp (fun qq=>qq=gi) w2 ww) (fun jq ww ww'=>(jq≠16→Below ww.heap.size ww ww')∧(jq=16→Stp (fun qq=>qq=gi) ww ww')) Tryz.mixed (by decide+kernel) (Stp.refl _ _).drew ((Below.refl _ _).drew) ?_ (fun q w w' hk h hR=>bstep h (hR.1 (by intro e;subst e;exact absurd hk (by decide)))) ?_ ?_
      ·intro q r v w w' hne hk hlt h hR
       match r,hk,hlt,h,hne with
       | 0,_,_,h,_=>exact h
       | 1,_,_,h,_=>exact h
       | 2,_,_,h,_=>exact h
       | 3,_,_,h,_=>exact h
       | 4,_,_,h,_=>exact h
       | 5,_,_,h,_=>exact h
       | 6,_,_,h,_=>exact h
       | 7,_,_,h,_=>exact h
       | 8,_,_,h,_=>exact h
       | 9,_,_,h,_=>exact h
       | 10,_,_,h,_=>exact h
       | 11,_,_,h,_=>exact h
       | 12,_,_,h,_=>exact h
       | 13,_,_,h,_=>exact h
       | 14,_,_,h,_=>exact h
       | 15,_,_,h,_=>exact h
       | 16,hk,hlt,h,hne=>exact ⟨h.1.below (hR.1 (by exact hne)),h.2⟩
       | 17,_,_,h,_=>exact h
       | 18,_,_,h,_=>exact h
       | _+19,_,_,_,_=>trivial
      ·refine⟨?_, ?_, ?_, ?_, ?_, ?_, ?_, ?_, ?_, ?_, ?_, ?_, ?_, ?_, ?_, ?_, ?_, ?_, ?_,trivial⟩
       ·intro x wx hG
        have f10:=hG.o 10
        replace hG:=hG.good
        go_wp2
        exact⟨_,rfl,rfl,hG,⟨fun _=>Below.refl _ _,fun h=>zd h⟩⟩
       ·intro x wx hG
        have f1:=hG.o 1
        replace hG:=hG.good
        go_wp2
        exact⟨_,rfl,rfl,hG,⟨fun _=>Below.refl _ _,fun h=>zd h⟩⟩
       ·intro x wx hG
        have g1:(x.tmps.getD 46 undef)= .slice (some ⟨fb,foff,none⟩) 3 fc:=hG.c 1 _ rfl
        have g1b:=gd g1
        replace hG:=hG.good
        go_wp2
        exact⟨_,rfl,rfl,hG,⟨fun _=>Below.refl _ _,fun h=>zd h⟩⟩
       ·intro x wx hG
        have g0:(x.tmps.getD 45 undef)= .int .i64 (ki:Nat):=hG.c 0 _ rfl
        have g0b:=gd g0
        have g2:(x.tmps.getD 47 undef)= .int .i64 3:=hG.c 2 _ rfl
        have g2b:=gd g2
        replace hG:=hG.good
        go_wp2
        exact⟨_,rfl,rfl,hG,⟨fun _=>Below.refl _ _,fun h=>zd h⟩⟩
       ·intro x wx hG
        have g3:(x.tmps.getD 48 undef)= .bool true:=hG.c 3 _ rfl
        have g3b:=gd g3
        replace hG:=hG.good
        go_wp2
        exact⟨_,rfl,rfl,hG,⟨fun _=>Below.refl _ _,fun h=>zd h⟩⟩
       ·intro x wx hG
        have f0:=hG.o 0
        have gg:(x.tmps.getD 49 undef)= .bool true:=hG.c 4 _ rfl
        replace gg:=Cl2.opt (hG.size.trans (show _=124 from rfl)) (by decide) gg
        replace hG:=hG.good
        go_wp2
        exact⟨_,rfl,rfl,hG,⟨fun _=>Below.refl _ _,fun h=>zd h⟩⟩
       ·intro x wx hG
        have f10:=hG.o 10
        have gg:(x.tmps.getD 49 undef)= .bool true:=hG.c 4 _ rfl
        replace gg:=Cl2.opt (hG.size.trans (show _=124 from rfl)) (by decide) gg
        replace hG:=hG.good
        go_wp2
        exact⟨_,rfl,rfl,hG,⟨fun _=>Below.refl _ _,fun h=>zd h⟩⟩
       ·intro x wx hG
        have g5:(x.tmps.getD 50 undef)= .slice (some ⟨qs,0,none⟩) 4 sc:=hG.c 5 _ rfl
        have g5b:=gd g5
        have g6:(x.tmps.getD 51 undef)= .int .i64 (ki:Nat):=hG.c 6 _ rfl
        have g6b:=gd g6
        have gg:(x.tmps.getD 49 undef)= .bool true:=hG.c 4 _ rfl
        replace gg:=Cl2.opt (hG.size.trans (show _=124 from rfl)) (by decide) gg
        replace hG:=hG.good
        go_wp2
        exact⟨_,rfl,rfl,hG,⟨fun _=>Below.refl _ _,fun h=>zd h⟩⟩
       ·intro x wx hG
        have g7:(x.tmps.getD 52 undef)= .pointer (some ⟨qs,ki,none⟩):=hG.c 7 _ rfl
        have g7b:=gd g7
        have gg:(x.tmps.getD 49 undef)= .bool true:=hG.c 4 _ rfl
        replace gg:=Cl2.opt (hG.size.trans (show _=124 from rfl)) (by decide) gg
        have hp:=hG.p
        replace hG:=hG.good
        have c_HCI:=ckeep hp HCI.out
        go_wp2
        exact⟨_,rfl,rfl,hG,⟨fun _=>Below.refl _ _,fun h=>zd h⟩⟩
       ·intro x wx hG
        have f1:=hG.o 1
        have gg:(x.tmps.getD 49 undef)= .bool true:=hG.c 4 _ rfl
        replace gg:=Cl2.opt (hG.size.trans (show _=124 from rfl)) (by decide) gg
        replace hG:=hG.good
        go_wp2
        exact⟨_,rfl,rfl,hG,⟨fun _=>Below.refl _ _,fun h=>zd h⟩⟩
       ·intro x wx hG
        have f11:=hG.o 11
        have gg:(x.tmps.getD 49 undef)= .bool true:=hG.c 4 _ rfl
        replace gg:=Cl2.opt (hG.size.trans (show _=124 from rfl)) (by decide) gg
        replace hG:=hG.good
        go_wp2
        exact⟨_,rfl,rfl,hG,⟨fun _=>Below.refl _ _,fun h=>zd h⟩⟩
       ·intro x wx hG
        have f1:=hG.o 1
        have gg:(x.tmps.getD 49 undef)= .bool true:=hG.c 4 _ rfl
        replace gg:=Cl2.opt (hG.size.trans (show _=124 from rfl)) (by decide) gg
        replace hG:=hG.good
        go_wp2
        exact⟨_,rfl,rfl,hG,⟨fun _=>Below.refl _ _,fun h=>zd h⟩⟩
       ·intro x wx hG
        have g11:(x.tmps.getD 56 undef)= .slice (some ⟨fb,foff,none⟩) 3 fc:=hG.c 11 _ rfl
        have g11b:=gd g11
        have gg:(x.tmps.getD 49 undef)= .bool true:=hG.c 4 _ rfl
        replace gg:=Cl2.opt (hG.size.trans (show _=124 from rfl)) (by decide) gg
        replace hG:=hG.good
        go_wp2
        exact⟨_,rfl,rfl,hG,⟨fun _=>Below.refl _ _,fun h=>zd h⟩⟩
       ·intro x wx hG
        have g10:(x.tmps.getD 55 undef)= .int .i64 (kj:Nat):=hG.c 10 _ rfl
        have g10b:=gd g10
        have g12:(x.tmps.getD 57 undef)= .int .i64 3:=hG.c 12 _ rfl
        have g12b:=gd g12
        have gg:(x.tmps.getD 49 undef)= .bool true:=hG.c 4 _ rfl
        replace gg:=Cl2.opt (hG.size.trans (show _=124 from rfl)) (by decide) gg
        replace hG:=hG.good
        go_wp2
        exact⟨_,rfl,rfl,hG,⟨fun _=>Below.refl _ _,fun h=>zd h⟩⟩
       ·intro x wx hG
        have g9:(x.tmps.getD 54 undef)= .slice (some ⟨fb,foff,none⟩) 3 fc:=hG.c 9 _ rfl
        have g9b:=gd g9
        have g13:(x.tmps.getD 58 undef)= .int .i64 (kf:Nat):=hG.c 13 _ rfl
        have g13b:=gd g13
        have gg:(x.tmps.getD 49 undef)= .bool true:=hG.c 4 _ rfl
        replace gg:=Cl2.opt (hG.size.trans (show _=124 from rfl)) (by decide) gg
        replace hG:=hG.good
        go_wp2
        exact⟨_,rfl,rfl,hG,⟨fun _=>Below.refl _ _,fun h=>zd h⟩⟩
       ·intro x wx hG
        have g14:(x.tmps.getD 59 undef)= .pointer (some ⟨fb,foff+kf,none⟩):=hG.c 14 _ rfl
        have g14b:=gd g14
        have gg:(x.tmps.getD 49 undef)= .bool true:=hG.c 4 _ rfl
        replace gg:=Cl2.opt (hG.size.trans (show _=124 from rfl)) (by decide) gg
        have hp:=hG.p
        replace hG:=hG.good
        have c_HF7:=ckeep hp HF7.out
        go_wp2
        exact⟨_,rfl,rfl,hG,⟨fun _=>Below.refl _ _,fun h=>zd h⟩⟩
       ·intro x wx hG
        have g8:(x.tmps.getD 53 undef)= .pointer (some ⟨gi,0,none⟩):=hG.c 8 _ rfl
        have g8b:=gd g8
        have g15:(x.tmps.getD 60 undef)= .slice za G7.length zc:=hG.c 15 _ rfl
        have g15b:=gd g15
        have gg:(x.tmps.getD 49 undef)= .bool true:=hG.c 4 _ rfl
        replace gg:=Cl2.opt (hG.size.trans (show _=124 from rfl)) (by decide) gg
        have hp:=hG.p
        replace hG:=hG.good
        have HN:=jD (HWT.out wx hp)
        go_wp2_with fail
        (with_reducible refine(HN.out).mono ?_)
        rintro e wq ⟨rfl,h1,h2⟩
        have H1:=jD h1
        have H2:=jD h2
        clear h1 h2 HN
        go_wp2
        exact⟨_,rfl,⟨H1.out,rfl⟩,hG.trans H2.out,⟨fun h=>absurd rfl h,fun _=>H2.out⟩⟩
       ·intro x wx hG
        have g16:SiteAt wx b gi s9∧(x.tmps.getD 61 undef)= .int .i64 0:=hG.c 16 _ rfl
        have gg:(x.tmps.getD 49 undef)= .bool true:=hG.c 4 _ rfl
        replace gg:=Cl2.opt (hG.size.trans (show _=124 from rfl)) (by decide) gg
        replace hG:=hG.good
        have g16v:=g16.2
        have g16vb:=g16v
        rw[Array.getD_eq_getD_getElem?] at g16vb
        go_wp2
        exact⟨_,rfl,rfl,hG,⟨fun _=>Below.refl _ _,fun h=>zd h⟩⟩
       ·intro x wx hG
        have g4:(x.tmps.getD 49 undef)= .bool true:=hG.c 4 _ rfl
        have g4b:=gd g4
        have g17:(x.tmps.getD 62 undef)= .bool false:=hG.c 17 _ rfl
        have g17b:=gd g17
        replace hG:=hG.good
        go_wp2
        exact⟨_,rfl,rfl,hG,⟨fun _=>Below.refl _ _,fun h=>zd h⟩⟩
      ·intro vals w9 hg hF
       obtain⟨g0,g1,g2,g3,g4,g5,g6,g7,g8,g9,g10,g11,g12,g13,g14,g15,g16,g17,g18, -⟩:=hF
       have e0:=gq (vals 0) g0
       have e1:=gq (vals 1) g1
       have e2:=gq (vals 2) g2
       have e3:=gq (vals 3) g3
       have e4:=gq (vals 4) g4
       have e5:=gq (vals 5) g5
       have e6:=gq (vals 6) g6
       have e7:=gq (vals 7) g7
       have e8:=gq (vals 8) g8
       have e9:=gq (vals 9) g9
       have e10:=gq (vals 10) g10
       have e11:=gq (vals 11) g11
       have e12:=gq (vals 12) g12
       have e13:=gq (vals 13) g13
       have e14:=gq (vals 14) g14
       have e15:=gq (vals 15) g15
       replace g16:SiteAt w9 b gi s9∧(vals 16)= .int .i64 0:=g16 rfl
       have e17:=gq (vals 17) g17
       have e18:=gq (vals 18) g18
       simp only[Cl2.puts,e0,e1,e2,e3,e4,e5,e6,e7,e8,e9,e10,e11,e12,e13,e14,e15,e17,e18]
       clear e0 e1 e2 e3 e4 e5 e6 e7 e8 e9 e10 e11 e12 e13 e14 e15 e17 e18 g0 g1 g2 g3 g4 g5 g6 g7 g8 g9 g10 g11 g12 g13 g14 g15 g17 g18
       go_simp
       generalize vals 16=cl9 at*
       have HSN:=jD g16.1
       have HSG:=jD hg
       clear g16 hg
       go_wp2
       go_roundw
       case rel=>
        have h2:=HSN.out
        rw[HS9.out] at h2
        exact⟨k+1,by omega,by go_num,_,HST2.out.want HNN.out (by have:=HK.out;omega) HGI.out HIL.out hi3 HSG.out h2⟩
       case measure=>simp [intOf] <;> omega
section
variable {w0 w1 wr w':World} {b:Nat} {sv:Value} {gs:List Nat} {l0 l l':List SiteS} {no no':Prop} {k k':Nat}
theorem stp_bel {wb:World} (hg: ∀q∈gs,wb.heap.size≤q) (hb:Below wb.heap.size wb w0) (hs:Stp (fun q=>q∈gs) w0 wr):Below wb.heap.size wb wr:=
 ((Stp.of_below (G:=fun q=>wb.heap.size≤q) hb).trans (hs.mono hg)).sp.toBelow (base:=wb.heap.size) (fun q hq=>hq) (Nat.le_refl _)
end
structure Qs (H:List Ver) (l:List SiteS):Prop where
 inv:TownI H ⟨l,[]⟩ 40
 n4:l.length=4
 hub: ∀v∈H,∀h:3 < l.length,inP l[3].P v=true
section
variable {H:List Ver} {l:List SiteS}
theorem Qs.lt (h:Qs H l) {i:Nat} (hi:i < 4):i < l.length:=by rw[h.n4];exact hi
theorem Qs.ok (h:Qs H l) {i:Nat} (hi:i < l.length):SiteOk l[i]:=(h.inv.sites i hi).ok
def gvB (l:List SiteS) (i j:Nat) (hi:i < l.length) (hj:j < l.length):BtS:=giveB l[j] l[i].me l[i].stamp l[i].P (knownS l[i])
theorem Qs.gvOk (h:Qs H l) {i j:Nat} (hi:i < l.length) (hj:j < l.length):BtSOk (gvB l i j hi hj):=giveB_ok (h.ok hj) (h.ok hi).me (h.ok hi).stamp _ _
theorem Qs.two (h:Qs H l) {i j:Nat} (hi:i < l.length) (hj:j < l.length):tookE l[i] (gvB l i j hi hj)=0∨tookE l[i] (gvB l i j hi hj)=2:=tookE_two (h.ok hi) (h.gvOk hi hj) rfl rfl
theorem Qs.asked (h:Qs H l) {i j:Nat} (hi:i < l.length) (hj:j < l.length):Qs H (l.set i (tookS l[i] (gvB l i j hi hj))):=by
 refine⟨h.inv.asked (by decide) rfl (i:=i) (j:=j) hi hj,by rw[List.length_set];exact h.n4,fun v hv h3=> ?_⟩
 have h3':3 < l.length:=by rw[List.length_set] at h3;exact h3
 by_cases e:i=3
 ·subst e
  rw[List.getElem_set_self,(tookS_me _ _).2.2]
  exact h.hub v hv h3'
 ·rw[List.getElem_set_ne e]
  exact h.hub v hv h3'
theorem Qs.kn (h:Qs H l) {i j:Nat} (hi:i < l.length) (hj:j < l.length) (he:tookE l[i] (gvB l i j hi hj)=0) {v:Ver} (hv:v∈H):knV (knownS (tookS l[i] (gvB l i j hi hj))) v=(knV (knownS l[i]) v || (knV (knownS l[j]) v&&inP l[i].P v)):=by
 rw[took_kn h.inv.hx (h.ok hi) (h.gvOk hi hj) he hv]
 show(_ || knV (narrowS (knownS l[j]) l[i].P) v)=_
 rw[knV_narrow (h.ok hj).known (h.inv.hx.ok v hv)]
end
def K1 (H:List Ver) (l:List SiteS) (j:Nat):Prop:= ∀i (h:i < l.length) (h3:3 < l.length),i < j→Kle H (knownS l[i]) (knownS l[3])
theorem K1.step {H:List Ver} {l:List SiteS} {j:Nat} (h:Qs H l) (k:K1 H l j) (hj:j < 3) (he:tookE (l[3]'(h.lt (by decide))) (gvB l 3 j (h.lt (by decide)) (h.lt (by omega)))=0):
  K1 H (l.set 3 (tookS (l[3]'(h.lt (by decide))) (gvB l 3 j (h.lt (by decide)) (h.lt (by omega))))) (j+1):=by
 intro i hi h3 hij v hv hk
 have hi':i < l.length:=by rw[List.length_set] at hi;exact hi
 rw[List.getElem_set_ne (by omega)] at hk
 rw[List.getElem_set_self,h.kn _ _ he hv,Bool.or_eq_true]
 by_cases e:i=j
 ·subst e
  right
  rw[hk,h.hub v hv];rfl
 ·left
  exact k i hi' (h.lt (by decide)) (by omega) v hv hk
structure Fresh (H:List Ver) (x hub:SiteS):Prop where
 all: ∀v∈H,knV (knownS hub) v=true→inP x.P v=true→knV (knownS x) v=true
 le:Kle H (knownS x) (knownS hub)
 src: ∃s:SiteS,SiteOk s∧x=tookS s (giveB hub s.me s.stamp s.P (knownS s))∧tookE s (giveB hub s.me s.stamp s.P (knownS s))=0
def K2 (H:List Ver) (l:List SiteS) (j:Nat):Prop:= ∀i (h:i < l.length) (h3:3 < l.length),i < 3→Kle H (knownS l[i]) (knownS l[3])∧(i < j→Fresh H l[i] l[3])
theorem K2.zero {H:List Ver} {l:List SiteS} (k:K1 H l 3):K2 H l 0:=fun i h h3 hi=>⟨k i h h3 hi,fun h=>absurd h (by omega)⟩
theorem K2.step {H:List Ver} {l:List SiteS} {j:Nat} (h:Qs H l) (k:K2 H l j) (hj:j < 3) (he:tookE (l[j]'(h.lt (by omega))) (gvB l j 3 (h.lt (by omega)) (h.lt (by decide)))=0):
  K2 H (l.set j (tookS (l[j]'(h.lt (by omega))) (gvB l j 3 (h.lt (by omega)) (h.lt (by decide))))) (j+1):=by
 intro i hi h3 hi3
 have hi':i < l.length:=by rw[List.length_set] at hi;exact hi
 have h3':3 < l.length:=h.lt (by decide)
 have hjl:j < l.length:=h.lt (by omega)
 rw[List.getElem_set_ne (by omega:j≠3)]
 by_cases e:j=i
 ·subst e
  rw[List.getElem_set_self]
  have hle:Kle H (knownS (tookS l[j] (gvB l j 3 hjl h3'))) (knownS l[3]):=fun v hv hk=>by
   rw[h.kn _ _ he hv,Bool.or_eq_true,Bool.and_eq_true] at hk
   rcases hk with hk | hk
   ·exact(k j hjl h3' hj).1 v hv hk
   ·exact hk.1
  refine⟨hle,fun _=>⟨fun v hv hk hp=> ?_,hle,l[j],h.ok hjl,rfl,he⟩⟩
  rw[(tookS_me _ _).2.2] at hp
  rw[h.kn _ _ he hv,hk,hp];simp
 ·rw[List.getElem_set_ne e]
  exact⟨(k i hi' h3' hi3).1,fun hij=>(k i hi' h3' hi3).2 (by omega)⟩
theorem few_cover (l:List SP):(∀x∈l,SPOk x)→ ∀x∈l,noneS x=true∨ ∃q∈fewS l,underS x q=true:=by
 refine snoc_ind (p:=fun l=>(∀x∈l,SPOk x)→ ∀x∈l,noneS x=true∨ ∃q∈fewS l,underS x q=true) (fun _ x hx=>absurd hx (by simp)) ?_ l
 intro l y ih hok x hx
 have hl: ∀z∈l,SPOk z:=fun z hz=>hok z (List.mem_append_left _ hz)
 have hy:SPOk y:=hok y (by simp)
 have hf: ∀z∈fewS l,SPOk z:=few_ok hl
 have tr: ∀ {a b c:SP},SPOk b→SPOk c→underS a b=true→underS b c=true→underS a c=true:=fun hb hc h1 h2=>by
  obtain⟨u1,u2⟩:=(underS_iff hb.k).1 h1
  obtain⟨u3,u4⟩:=(underS_iff hc.k).1 h2
  exact(underS_iff hc.k).2 ⟨fun t n ht hn h=>u3 t n ht hn (u1 t n ht hn h),fun s c h0 h5 h6 h7 h=>u4 s c h0 h5 h6 h7 (u2 s c h0 h5 h6 h7 h)⟩
 rw[fewS_snoc]
 unfold fewStep
 split
 ·rename_i h
  rcases List.mem_append.1 hx with hx | hx
  ·exact ih hl x hx
  ·obtain rfl:x=y:=by simpa using hx
   rw[Bool.or_eq_true] at h
   rcases h with h | h
   ·exact .inl h
   ·obtain⟨q,h1,h2⟩:=List.any_eq_true.1 h
    exact .inr ⟨q,h1,h2⟩
 ·rcases List.mem_append.1 hx with hx | hx
  ·rcases ih hl x hx with h | ⟨q,h1,h2⟩
   ·exact .inl h
   ·by_cases hu:underS q y=true
    ·exact .inr ⟨y,by simp,tr (hf q h1) hy h2 hu⟩
    ·exact .inr ⟨q,List.mem_append_left _ (List.mem_filter.2 ⟨h1,by simpa using hu⟩),h2⟩
  ·obtain rfl:x=y:=by simpa using hx
   exact .inr ⟨x,by simp,(underS_iff hy.k).2 ⟨fun _ _ _ _ h=>h,fun _ _ _ _ _ _ h=>h⟩⟩
theorem few_twice (A B:List SP) (h: ∀x∈A++B,SPOk x):fewS (fewS (A++B)++B)=fewS (A++B):=by
 have hc:=few_cover (A++B) h
 have hf:=few_idem (few_few (A++B))
 generalize fewS (A++B)=R at*
 have key: ∀C:List SP,(∀x∈C,x∈B)→fewS (R++C)=R:=fun C=>by
  refine snoc_ind (p:=fun C=>(∀x∈C,x∈B)→fewS (R++C)=R) (fun _=>by rw[List.append_nil];exact hf) ?_ C
  intro C x ih hC
  rw[←List.append_assoc,fewS_snoc,ih fun y hy=>hC y (List.mem_append_left _ hy)]
  unfold fewStep
  rw[if_pos]
  rw[Bool.or_eq_true]
  rcases hc x (List.mem_append_right _ (hC x (by simp))) with h1 | ⟨q,h1,h2⟩
  ·exact .inl h1
  ·exact .inr (List.any_eq_true.2 ⟨q,h1,h2⟩)
 exact key B fun x hx=>hx
theorem dropsL_eq (G:List Gn): ∀L:List Ver,dropsL L G=L.filter fun v=>G.all fun g=> !underB g.id g.past v:=by
 induction G with
 | nil=>
  intro L
  show L=L.filter fun _=>true
  rw[List.filter_eq_self.2 fun _ _=>rfl]
 | cons g G ih=>
  intro L
  show dropsL (dropL L g.id g.past) G=_
  rw[ih]
  unfold dropL
  rw[List.filter_filter]
  refine List.filter_congr fun v _=> ?_
  rw[List.all_cons,Bool.and_comm]
theorem drops_twice (L:List Ver) (G:List Gn):dropsL (dropsL L G) G=dropsL L G:=by
 rw[dropsL_eq,dropsL_eq,List.filter_filter]
 refine List.filter_congr fun v _=>by rw[Bool.and_self]
theorem Fresh.quiet {H:List Ver} {x hub:SiteS} (h:Fresh H x hub) (hx:SiteI H x) (hh:SiteI H hub):
  giveV hub.L x.P (knownS x)=[]∧(∀p,giveV x.L p (knownS hub)=[])∧tookE x (giveB hub x.me x.stamp x.P (knownS x))=0∧tookS x (giveB hub x.me x.stamp x.P (knownS x))=x:=by
 have e1:giveV hub.L x.P (knownS x)=[]:=by
  unfold giveV
  rw[List.filter_eq_nil_iff]
  intro v hv hk
  rw[Bool.and_eq_true,Bool.not_eq_true'] at hk
  have:=h.all v (hh.sub v hv) (hh.kn v hv) hk.1
  rw[this] at hk
  exact absurd hk.2 (by decide)
 have e2: ∀p,giveV x.L p (knownS hub)=[]:=fun p=>by
  unfold giveV
  rw[List.filter_eq_nil_iff]
  intro v hv hk
  rw[Bool.and_eq_true,Bool.not_eq_true'] at hk
  have:=h.le v (hx.sub v hv) (hx.kn v hv)
  rw[this] at hk
  exact absurd hk.2 (by decide)
 obtain⟨s,hs,rfl,he⟩:=h.src
 have hm:=tookS_me s (giveB hub s.me s.stamp s.P (knownS s))
 have hS:(tookS s (giveB hub s.me s.stamp s.P (knownS s))).S=fewS (s.S++giveS hub s.P):=by rw[took_eq he];rfl
 have hL:(tookS s (giveB hub s.me s.stamp s.P (knownS s))).L=dropsL (laidOn s.L (giveV hub.L s.P (knownS s))) (giveG hub.L s.P):=by rw[took_eq he];rfl
 have hF:fewS (fewS (s.S++giveS hub s.P)++giveS hub s.P)=fewS (s.S++giveS hub s.P):=few_twice _ _ (fun y hy=>(List.mem_append.1 hy).elim (hs.S y) (narrow_ok' hh.ok.known y))
 have hlt: ¬30≤(fewS (s.S++giveS hub s.P)).length:=fun h30=>by
  unfold tookE at he
  rw[if_neg (fun e=>e rfl),if_neg (fun e=>e rfl)] at he
  split at he
  ·rename_i h1;exact h1 he
  ·rw[if_pos (show 30≤(fewS (s.S++(giveB hub s.me s.stamp s.P (knownS s)).S)).length from h30)] at he
   exact absurd he (by decide)
 generalize tookS s (giveB hub s.me s.stamp s.P (knownS s))=x at*
 obtain⟨hm1,hm2,hm3⟩:=hm
 have e3:tookE x (giveB hub x.me x.stamp x.P (knownS x))=0:=by
  unfold tookE
  rw[if_neg (fun e=>e rfl),if_neg (fun e=>e rfl)]
  have e4:putsE x.L (giveB hub x.me x.stamp x.P (knownS x)).V=0:=by
   show putsE x.L (giveV hub.L x.P (knownS x))=0
   rw[e1];rfl
  rw[if_neg (fun e=>e e4),if_neg]
  show ¬30≤(fewS (x.S++giveS hub x.P)).length
  rw[hm3,hS,hF];exact hlt
 refine⟨e1,e2,e3, ?_⟩
 rw[took_eq e3]
 have k1:fewS (x.S++(giveB hub x.me x.stamp x.P (knownS x)).S)=x.S:=by
  show fewS (x.S++giveS hub x.P)=x.S
  rw[hm3,hS,hF]
 have k2:dropsL (laidOn x.L (giveB hub x.me x.stamp x.P (knownS x)).V) (giveB hub x.me x.stamp x.P (knownS x)).G=x.L:=by
  show dropsL (laidOn x.L (giveV hub.L x.P (knownS x))) (giveG hub.L x.P)=x.L
  rw[e1]
  show dropsL x.L (giveG hub.L x.P)=x.L
  rw[hm3,hL,drops_twice]
 rw[k1,k2]
structure QSt (w0:World) (b:Nat) (sv:Value) (gs:List Nat) (H:List Ver) (l:List SiteS) (wr:World):Prop where
 dir:DirAt wr b sv gs l
 q:Qs H l
 stp:Stp (fun q=>q∈gs) w0 wr
section
variable {w0 wr w':World} {b qs c i gi:Nat} {sv:Value} {gs:List Nat} {H:List Ver} {l:List SiteS}
theorem QSt.below (h:QSt w0 b sv gs H l wr) (hb:Below wr.heap.size wr w'):QSt w0 b sv gs H l w':=⟨h.dir.below hb,h.q,h.stp.below hb⟩
theorem QSt.cell (h:QSt w0 b (.slice (some ⟨qs,0,none⟩) 4 c) gs H l wr) (hi:i < 4): ∃gi,gs[i]? =some gi∧wr.cell? ⟨qs,i,none⟩=some (.pointer (some ⟨gi,0,none⟩))∧SiteAt wr b gi (l[i]'(h.q.lt hi)):=by
 have hg:gs.length=4:=by rw[h.dir.sites.len];exact h.q.n4
 have hig:i < gs.length:=by omega
 obtain⟨qs',cap,e,hq,hqc⟩:=row_one (i:=i) h.dir.row (x:= .pointer (some ⟨gs[i],0,none⟩)) (by unfold ptrs;rw [List.getElem?_map,List.getElem?_eq_getElem hig];rfl)
 simp only[Value.slice.injEq,Option.some.injEq,Addr.mk.injEq,and_true] at e
 obtain⟨rfl, -⟩:=e
 exact⟨gs[i],List.getElem?_eq_getElem hig,hqc,h.dir.sites.each i hig (h.q.lt hi)⟩
theorem QSt.asked {j:Nat} (h:QSt w0 b sv gs H l wr) (hgi:gs[i]? =some gi) (hil:i < l.length) (hjl:j < l.length) (hs:Stp (fun q=>q=gi) wr w') (hn:SiteAt w' b gi (tookS l[i] (gvB l i j hil hjl))):QSt w0 b sv gs H (l.set i (tookS l[i] (gvB l i j hil hjl))) w':=by
 obtain⟨hig,e⟩:=List.getElem?_eq_some_iff.1 hgi
 subst e
 exact⟨h.dir.set hig hs hn,h.q.asked hil hjl,h.stp.trans (hs.mono fun q hq=>by rw[hq];exact List.getElem_mem hig)⟩
theorem QSt.same (h:QSt w0 b sv gs H l wr) (hgi:gs[i]? =some gi) (hil:i < l.length) (hs:Stp (fun q=>q=gi) wr w') (hn:SiteAt w' b gi l[i]):QSt w0 b sv gs H l w':=by
 obtain⟨hig,e⟩:=List.getElem?_eq_some_iff.1 hgi
 subst e
 have h1:=h.dir.set hig hs hn
 rw[set_same hil rfl] at h1
 exact⟨h1,h.q,h.stp.trans (hs.mono fun q hq=>by rw[hq];exact List.getElem_mem hig)⟩
theorem PldSt.quiet {R:List Bxs} {no:Prop} {k:Nat} (h:PldSt w0 b sv gs (newL (R++[everyB])) no k l wr) (hk:k≤40) (hR:R.length=3): ∃H,Qs H l:=by
 obtain⟨H,hI⟩:=h.inv
 refine⟨H,hI.up hk,h.n4,fun v hv h3=> ?_⟩
 have h1:=h.hub
 have hl:3 < (newL (R++[everyB])).length:=by rw[newL_len,List.length_append,hR];decide
 have hl2:3 < (R++[everyB]).length:=by rw[List.length_append,hR];decide
 rw[List.getElem?_eq_getElem h3,List.getElem?_eq_getElem hl,newL_get hl hl2] at h1
 have h2:l[3].P=everP:=by
  have h4:l[3].P=ptsOf ((R++[everyB])[3]'hl2):=by simpa[newS] using h1
  rw[h4,List.getElem_append_right (by omega)]
  simp only[hR,Nat.sub_self,List.getElem_singleton]
  exact everP_every
 rw[h2]
 exact inP_ever (hI.hx.ok v hv)
end
theorem TopQuiet_walk (fv lv:Value) (F:List Bxs) (l:List (List Int)) (w:World) (hF:RowAt bxsE w fv F) (hl:RowAt vecE w lv l):
  Calls Tryz.prog 5 #[fv,lv] w fun e w'=>e= .returned (.bool true)∧Below w.heap.size w w':=by
 obtain⟨fa,fc,rfl⟩:=hF.shape
 obtain⟨la,lc,hlv,hlcap,hlm, -, -⟩:=hl.open_
 subst hlv
 have HF:=jD hF
 have HL:=jD hl
 clear hF hl
 go_enter Tryz.func5,Tryz.ntmps5
 go_wp2_with fail
 (with_reducible refine(topBegun_c w).mono ?_)
 rintro e w1 ⟨rfl,hb⟩
 have HB1:=jD hb
 clear hb
 go_wp2_with fail
 (with_reducible refine(topfilters_c _ F w1 (HF.out.below HB1.out)).mono ?_)
 rintro e w2 ⟨R,ra,rc,rfl,hR,hRc,hR3,hR7,hb⟩
 have HB2:=jD (bstep HB1.out hb)
 have HR:=jD hR
 have HRC:=jD hRc
 have HR3:=jD (show R.length=3 by omega)
 clear hb hR hRc hR3 hR7 HF
 go_wp2_with fail
 (with_reducible refine(topSites_c _ R w2 HR.out HRC.out HR3.out).mono ?_)
 rintro e w3 ⟨sa,sc,gs,rfl,hrow,hsit,hb⟩
 have HB3:=jD hb
 have hl4:(newL (R++[everyB])).length=4:=by rw[newL_len,List.length_append,HR3.out];rfl
 have hgl:gs.length=4:=by rw[hsit.len];exact hl4
 have HD:=jD (show DirAt w3 w2.heap.size (.slice sa 4 sc) gs (newL (R++[everyB])) from⟨by rw[hgl];exact hrow,hsit⟩)
 have HI:=jD (show TownI [] ⟨newL (R++[everyB]),[]⟩ 0 from newT_I (by rw[List.length_append,HR3.out];decide))
 have HL4:=jD hl4
 have HGE:=jD (show ∀q∈gs,w2.heap.size≤q from fun q hq=>by
  obtain⟨i,hi,rfl⟩:=List.getElem_of_mem hq
  exact(hsit.each i hi (by rw[hl4];omega)).ge)
 have HBS:=jD (fun w' (hs:Stp (fun q=>q∈gs) w3 w')=>stp_bel HGE.out HB3.out hs)
 have HL2:=jD (HL.out.below HB2.out)
 have HCAP:=jD (show 4≤sc by
  rcases hrow.2 with⟨h, -⟩ | ⟨_,cap,_,h, -, -,hc, -⟩
  ·simp at h
  ·simp only[Value.slice.injEq] at h;omega)
 clear hb hrow hsit hl4 hgl HL
 have HPL:=jD (topplayed_c (.slice sa 4 sc) (.slice ra R.length rc) (.slice la l.length lc) w2.heap.size gs (newL (R++[everyB])) R l [] 0 w3 w2 HD.out HI.out HL4.out (by omega)
  (fun w' hs=>Sub.of_below (HBS.out w' hs)) HR.out HRC.out HR3.out (fun w' hs=>HL2.out.below (HBS.out w' hs)))
 clear HL2 HD HI HL4
 go_wp2_with fail
 (with_reducible refine(HPL.out).mono ?_)
 rintro e w4 ⟨ok,large,t0,rfl,hol,h4⟩
 have HST:=jD h4
 clear h4 HPL
 rcases Bool.eq_false_or_eq_true ok with rfl | rfl
 rotate_left
 ·obtain rfl:=hol rfl
  go_wp2
  go_ret
  exact⟨rfl,bstep HB2.out (HBS.out _ HST.out.stp)⟩
 clear hol
 have HQ:=jD (HST.out.quiet (by omega) HR3.out)
 obtain⟨H,hq⟩:=HQ.out
 obtain⟨qs,gh,c9,hsv,hgh,hcell,hsite⟩:=HST.out.cell (i:=3) (by decide)
 simp only[Value.slice.injEq,true_and] at hsv
 obtain⟨rfl,rfl⟩:=hsv
 have HGH:=jD hgh
 have HQ0:=jD (show QSt w3 w2.heap.size (.slice (some ⟨qs,0,none⟩) 4 sc) gs H t0 w4 from⟨HST.out.dir,hq,HST.out.stp⟩)
 have HZ0:=jD (show K1 H t0 0 from fun i h h3 hi=>absurd hi (by omega))
 clear hgh hsite HST hq HQ
 have hs33:(3:Int)≤(sc:Int):=by have:=HCAP.out;omega
 have hs34:3≤sc:=by have:=HCAP.out;omega
 go_wp2
 go_loopw [58] (fun i wr=> ∃k:Nat,k≤3∧i= .int .i64 k∧ ∃t,QSt w3 w2.heap.size (.slice (some ⟨qs,0,none⟩) 4 sc) gs H t wr∧K1 H t k) (fun i _=>3 - (intOf i).toNat)
 case atStart=>exact ⟨0,Nat.zero_le _,rfl,_,HQ0.out,HZ0.out⟩
 case round=>
  clear HQ0 HZ0 hcell
  obtain⟨k,hk,rfl,t,hst,hk1⟩:=hrel
  have HST:=jD hst
  have HK1:=jD hk1
  clear hst hk1
  by_cases hlt:k < 3
  rotate_left
  ·have hk3:k=3:=by omega
   have hkb:decide ((k:Int) < 3)=false:=by simp;omega
   have HZ1:=jD (K2.zero (by rw[←hk3];exact HK1.out))
   clear HK1 hk3 hlt hk
   go_wp2
   go_loopw [78] (fun i wr=> ∃k:Nat,k≤3∧i= .int .i64 k∧ ∃t,QSt w3 w2.heap.size (.slice (some ⟨qs,0,none⟩) 4 sc) gs H t wr∧K2 H t k) (fun i _=>3 - (intOf i).toNat)
   case atStart=>exact ⟨0,Nat.zero_le _,rfl,_,HST.out,HZ1.out⟩
   case round=>
    clear HST HZ1
    obtain⟨k,hk,rfl,t,hst,hk2⟩:=hrel
    have HST:=jD hst
    have HK2:=jD hk2
    clear hst hk2
    by_cases hlt:k < 3
    rotate_left
    ·have hk3:k=3:=by omega
     have hkb:decide ((k:Int) < 3)=false:=by simp;omega
     have HK3:=jD (show K2 H t 3 by rw[←hk3];exact HK2.out)
     clear HK2 hk3 hlt hk
     have HK2:=HK3
     clear HK3
     go_wp2
     go_loopw [98] (fun i wr=> ∃k:Nat,k≤3∧i= .int .i64 k∧QSt w3 w2.heap.size (.slice (some ⟨qs,0,none⟩) 4 sc) gs H t wr) (fun i _=>3 - (intOf i).toNat)
     case atStart=>exact ⟨0,Nat.zero_le _,rfl,HST.out⟩
     case round=>
      clear HST
      obtain⟨k,hk,rfl,hst⟩:=hrel
      have HST:=jD hst
      clear hst
      by_cases hlt:k < 3
      rotate_left
      ·obtain rfl:k=3:=by omega
       have hkb:decide (((3:Nat):Int) < 3)=false:=by decide
       go_wp2
       go_ret
       exact⟨rfl,bstep HB2.out (HBS.out _ HST.out.stp)⟩
      have HIL:=jD (HST.out.q.lt (i:=k) (by omega))
      have HJL:=jD (HST.out.q.lt (i:=3) (by omega))
      obtain⟨gi,hgi,hcell,hsite⟩:=HST.out.cell (i:=k) (by omega)
      obtain⟨gj,hgj, -,hsitj⟩:=HST.out.cell (i:=3) (by omega)
      have HGI:=jD hgi
      have HSI:=jD hsite
      have HSJ:=jD hsitj
      have hkb:=(show decide ((k:Int) < 3)=true by simp;omega)
      have hkb2:(k:Int) < 3:=by omega
      obtain rfl:gj=gh:=by have:=HGH.out;rw [hgj] at this;simpa using this
      obtain⟨x,hx⟩: ∃x,x=t[k]'HIL.out:=⟨_,rfl⟩
      obtain⟨hub,hh⟩: ∃hub,hub=t[3]'HJL.out:=⟨_,rfl⟩
      have hfr:Fresh H x hub:=by rw[hx,hh];exact (HK2.out k HIL.out HJL.out hlt).2 hlt
      have hxi:SiteI H x:=by rw[hx];exact HST.out.q.inv.sites k HIL.out
      have hhi:SiteI H hub:=by rw[hh];exact HST.out.q.inv.sites 3 HJL.out
      rw[←hx] at HSI
      rw[←hh] at HSJ
      have HXE:=jD hx
      obtain⟨z1,z2,z3,z4⟩:=hfr.quiet hxi hhi
      obtain⟨b1,hb1⟩: ∃b1,b1=giveB hub x.me x.stamp x.P (knownS x):=⟨_,rfl⟩
      obtain⟨b2,hb2⟩: ∃b2,b2=giveB x hub.me hub.stamp hub.P (knownS hub):=⟨_,rfl⟩
      rw[←hb1] at z3 z4
      have Z1:=jD (show b1.V.length=0 by rw[hb1];show (giveV hub.L x.P (knownS x)).length=0;rw [z1];rfl)
      have Z2:=jD (show b2.V.length=0 by rw[hb2];show (giveV x.L hub.P (knownS hub)).length=0;rw [z2];rfl)
      have Z3:=jD z3
      have Z4:=jD z4
      have HXOK:=jD hxi.ok
      have HBO:=jD (show BtSOk b1 by rw[hb1];exact giveB_ok hhi.ok hxi.ok.me hxi.ok.stamp _ _)
      have HG1:=jD (fun (wx:World) (v:Value) (hy:SiteAt wx w2.heap.size gj hub) (hv:AkV wx 0 (askS x) v)=>show Calls Tryz.prog 21 #[.pointer (some ⟨gj,0,none⟩),v] wx fun e w'=> ∃u,e= .returned u∧GvT w' 0 b1 u∧Below wx.heap.size wx w' from by rw[hb1];exact giveV_c gj _ hub (askS x) v wx hy (askS_ok hxi.ok) hv)
      have HG2:=jD (fun (wx:World) (v:Value) (hy:SiteAt wx w2.heap.size gi x) (hv:AkV wx 0 (askS hub) v)=>show Calls Tryz.prog 21 #[.pointer (some ⟨gi,0,none⟩),v] wx fun e w'=> ∃u,e= .returned u∧GvT w' 0 b2 u∧Below wx.heap.size wx w' from by rw[hb2];exact giveV_c gi _ x (askS hub) v wx hy (askS_ok hhi.ok) hv)
      clear hgi hsite hgj hsitj hfr hxi hhi z1 z2 z3 z4 hx hh hb1 hb2 HK2
      go_wp2_with fail
      clear hcell
      (with_reducible refine(sshelf_c gi _ x wr HSI.out).mono ?_)
      rintro e w5 ⟨ya,yc,rfl,hy,hb5⟩
      have HWAS:=jD hy
      have HB5:=jD hb5
      clear hy hb5
      go_wp2_with fail
      (with_reducible refine(askV_c gi _ x w5 (HSI.out.below HB5.out)).mono ?_)
      rintro e w6 ⟨v1,rfl,hak,hb6⟩
      have HAK:=jD hak
      have HB6:=jD (bstep HB5.out hb6)
      have HWAS6:=jD (HWAS.out.stp (Stp.of_below (G:=fun _=>False) hb6))
      clear hak hb6 HWAS HB5
      go_wp2_with fail
      (with_reducible refine(HG1.out w6 v1 (HSJ.out.below HB6.out) HAK.out).mono ?_)
      rintro e w7 ⟨u1,rfl,hu,hb7⟩
      obtain⟨pa1,pad1,pa2,pad2,pa3,pad3,hv7,ho⟩:=hu
      rw[Z1.out] at hv7
      subst hv7
      have HB7:=jD (bstep HB6.out hb7)
      have HWAS7:=jD (HWAS6.out.stp (Stp.of_below (G:=fun _=>False) hb7))
      have HO7:=jD ho
      clear hb7 ho HAK HG1 HWAS6 HB6
      go_wp2_with fail
      obtain⟨W8,hW8⟩: ∃W8,W8=w7.alloc (.cells #[.int .i64 b1.site, .int .i64 b1.stamp, .slice pa1 0 pad1, .slice pa2 b1.G.length pad2, .slice pa3 b1.S.length pad3] 52):=⟨_,rfl⟩
      have hb8:Below w7.heap.size w7 W8:=by rw[hW8];exact bal _
      have HK8:=jD (show W8.heap[w7.heap.size]? =some (Obj.cells #[.int .i64 b1.site, .int .i64 b1.stamp, .slice pa1 0 pad1, .slice pa2 b1.G.length pad2, .slice pa3 b1.S.length pad3] 52 (0,0)) by rw[hW8];exact alloc_new _ _ _ _ rfl)
      rw[←hW8]
      have HB8:=jD (bstep HB7.out hb8)
      have HWAS8:=jD (HWAS7.out.stp (Stp.of_below (G:=fun _=>False) hb8))
      have HO8:=jD (HO7.out.below hb8)
      clear hb8 hW8 HWAS7 HO7 HB7
      (with_reducible refine(askV_c gj _ hub W8 (HSJ.out.below HB8.out)).mono ?_)
      rintro e w9 ⟨v2,rfl,hak,hb9⟩
      have HAK:=jD hak
      have HB9:=jD (bstep HB8.out hb9)
      have HWAS9:=jD (HWAS8.out.stp (Stp.of_below (G:=fun _=>False) hb9))
      have HO9:=jD (HO8.out.below hb9)
      have HK9:=jD (below_keep hb9 HK8.out)
      clear hak hb9 HWAS8 HO8 HB8 HK8
      go_wp2_with fail
      (with_reducible refine(HG2.out w9 v2 (HSI.out.below HB9.out) HAK.out).mono ?_)
      rintro e w10 ⟨u2,rfl,hu,hb10⟩
      obtain⟨qa1,qad1,qa2,qad2,qa3,qad3,hv10, -⟩:=hu
      rw[Z2.out] at hv10
      subst hv10
      have HB10:=jD (bstep HB9.out hb10)
      have HWAS10:=jD (HWAS9.out.stp (Stp.of_below (G:=fun _=>False) hb10))
      have HO10:=jD (HO9.out.below hb10)
      have HK10:=jD (below_keep hb10 HK9.out)
      have k10:=below_keep (bal (W:=w10) (.cells #[.int .i64 b2.site, .int .i64 b2.stamp, .slice qa1 0 qad1, .slice qa2 b2.G.length qad2, .slice qa3 b2.S.length qad3] 52)) HK10.out
      have r0:=cell_of_block (j:=0) k10 rfl
      have r1:=cell_of_block (j:=1) k10 rfl
      have r2:=cell_of_block (j:=2) k10 rfl
      have r3:=cell_of_block (j:=3) k10 rfl
      have r4:=cell_of_block (j:=4) k10 rfl
      have z2:(w10.alloc (.cells #[.int .i64 b2.site, .int .i64 b2.stamp, .slice qa1 0 qad1, .slice qa2 b2.G.length qad2, .slice qa3 b2.S.length qad3] 52)).cell? ⟨w10.heap.size,2,none⟩=some (.slice qa1 0 qad1):=cell_of_block (j:=2) (alloc_new _ _ _ _ rfl) rfl
      clear k10 hb10 HWAS9 HO9 HB9 HK9 HAK HG2
      go_wp2_with fail
      obtain⟨W11,hW11⟩: ∃W11,W11=w10.alloc (.cells #[.int .i64 b2.site, .int .i64 b2.stamp, .slice qa1 0 qad1, .slice qa2 b2.G.length qad2, .slice qa3 b2.S.length qad3] 52):=⟨_,rfl⟩
      have hb11:Below w10.heap.size w10 W11:=by rw[hW11];exact bal _
      rw[←hW11]
      have HB11:=jD (bstep HB10.out hb11)
      have HWAS11:=jD (HWAS10.out.stp (Stp.of_below (G:=fun _=>False) hb11))
      have HTK:=jD (takeV_c gi _ 0 x b1 _ W11 (HSI.out.below HB11.out) HBO.out ⟨pa1,pad1,pa2,pad2,pa3,pad3,rfl,HO10.out.below hb11⟩)
      rw[Z1.out,Z3.out,Z4.out] at HTK
      clear r0 r1 r2 r3 r4 z2 hb11 hW11 HWAS10 HO10 HB10 HK10
      (with_reducible refine(HTK.out).mono ?_)
      rintro e w12 ⟨rfl,hs12,hp12⟩
      have HS12:=jD hs12
      have HP12:=jD hp12
      have HWAS12:=jD (HWAS11.out.stp hp12)
      clear hs12 hp12 HTK HWAS11
      go_wp2_with fail
      (with_reducible refine(sshelf_c gi _ x w12 HS12.out).mono ?_)
      rintro e w13 ⟨ya2,yc2,rfl,hy,hb13⟩
      have HY:=jD (hy.at_ (shok_bd HXOK.out.L.ok) (by have:=HXOK.out.L.len;omega))
      have HB13:=jD hb13
      have HWAS13:=jD (HWAS12.out.stp (Stp.of_below (G:=fun _=>False) hb13))
      clear hy hb13 HWAS12
      go_wp2_with fail
      (with_reducible refine(sameS_c _ _ x.L x.L w13 HY.out (HWAS13.out.at_ (shok_bd HXOK.out.L.ok) (by have:=HXOK.out.L.len;omega))).mono ?_)
      rintro e w14 ⟨bb,rfl,hbb,hb14⟩
      obtain rfl:bb=true:=by simpa using hbb
      have HB14:=jD (bstep HB13.out hb14)
      clear hbb hb14
      go_wp2
      go_roundw
      case rel=>
       have h12:=HS12.out
       rw[HXE.out] at h12
       exact⟨k+1,by omega,by go_num,((HST.out.below HB11.out).same HGI.out HIL.out HP12.out h12).below HB14.out⟩
      case measure=>simp [intOf] <;> omega
    have HIL:=jD (HST.out.q.lt (i:=k) (by omega))
    have HJL:=jD (HST.out.q.lt (i:=3) (by omega))
    obtain⟨gi,hgi,hcell,hsite⟩:=HST.out.cell (i:=k) (by omega)
    obtain⟨gj,hgj, -,hsitj⟩:=HST.out.cell (i:=3) (by omega)
    have HGI:=jD hgi
    have HSI:=jD hsite
    have HSJ:=jD hsitj
    have hkb:=(show decide ((k:Int) < 3)=true by simp;omega)
    have hkb2:(k:Int) < 3:=by omega
    obtain rfl:gj=gh:=by have:=HGH.out;rw [hgj] at this;simpa using this
    clear hgi hsite hgj hsitj
    obtain⟨bt,hbt⟩: ∃bt,bt=gvB t k 3 HIL.out HJL.out:=⟨_,rfl⟩
    obtain⟨a9,ha9⟩: ∃a9,a9=decide (tookE (t[k]'HIL.out) bt=0):=⟨_,rfl⟩
    obtain⟨b9,hb9⟩: ∃b9,b9=decide (tookE (t[k]'HIL.out) bt=2):=⟨_,rfl⟩
    have HAB:=jD (show(tookE (t[k]'HIL.out) bt=0∧a9=true)∨(a9=false∧b9=true) from by
     have h:=HST.out.q.two HIL.out HJL.out
     rw[←hbt] at h
     rcases h with h | h
     ·left;rw [ha9,h];exact ⟨rfl,rfl⟩
     ·right;rw [ha9,hb9,h];exact ⟨rfl,rfl⟩)
    have HAK:=jD (show Calls Tryz.prog 31 #[.pointer (some ⟨gi,0,none⟩), .pointer (some ⟨gj,0,none⟩)] wr fun e w'=>e= .returned (.tuple #[.bool a9, .bool b9])∧SiteAt w' w2.heap.size gi (tookS (t[k]'HIL.out) bt)∧Stp (fun qq=>qq=gi) wr w' from by
     rw[ha9,hb9];exact asked_c gi gj w2.heap.size _ _ bt wr HSI.out HSJ.out hbt)
    have HBT:=jD hbt
    clear hbt ha9 hb9
    go_wp2_with fail
    (with_reducible refine(HAK.out).mono ?_)
    rintro e w5 ⟨rfl,hs5,hp5⟩
    have HS5:=jD hs5
    have HP5:=jD hp5
    clear hs5 hp5 HAK hcell
    rcases HAB.out with⟨hz,rfl⟩ | ⟨rfl,rfl⟩
    rotate_left
    ·go_wp2
     go_ret
     exact⟨rfl,bstep HB2.out (HBS.out _ (HST.out.stp.trans (HP5.out.mono fun q hq=>by rw[hq];exact List.mem_of_getElem? HGI.out)))⟩
    have HZ:=jD hz
    clear hz
    go_wp2
    go_roundw
    case rel=>
     have hz:=HZ.out
     have h5:=HS5.out
     rw[HBT.out] at hz h5
     exact⟨k+1,by omega,by go_num,_,HST.out.asked HGI.out HIL.out HJL.out HP5.out h5,K2.step HST.out.q HK2.out hlt hz⟩
    case measure=>simp [intOf] <;> omega
  have HK0:=jD hlt
  have HIL:=jD (HST.out.q.lt (i:=3) (by omega))
  have HJL:=jD (HST.out.q.lt (i:=k) (by omega))
  obtain⟨gi,hgi, -,hsite⟩:=HST.out.cell (i:=3) (by omega)
  obtain⟨gj,hgj,hcell,hsitj⟩:=HST.out.cell (i:=k) (by omega)
  have HGI:=jD hgi
  have HSI:=jD hsite
  have HSJ:=jD hsitj
  have hkb:=(show decide ((k:Int) < 3)=true by simp;omega)
  have hkb2:(k:Int) < 3:=by omega
  obtain rfl:gi=gh:=by have:=HGH.out;rw [hgi] at this;simpa using this
  clear hgi hsite hgj hsitj
  obtain⟨bt,hbt⟩: ∃bt,bt=gvB t 3 k HIL.out HJL.out:=⟨_,rfl⟩
  obtain⟨a9,ha9⟩: ∃a9,a9=decide (tookE (t[3]'HIL.out) bt=0):=⟨_,rfl⟩
  obtain⟨b9,hb9⟩: ∃b9,b9=decide (tookE (t[3]'HIL.out) bt=2):=⟨_,rfl⟩
  have HAB:=jD (show(tookE (t[3]'HIL.out) bt=0∧a9=true)∨(a9=false∧b9=true) from by
   have h:=HST.out.q.two HIL.out HJL.out
   rw[←hbt] at h
   rcases h with h | h
   ·left;rw [ha9,h];exact ⟨rfl,rfl⟩
   ·right;rw [ha9,hb9,h];exact ⟨rfl,rfl⟩)
  have HAK:=jD (show Calls Tryz.prog 31 #[.pointer (some ⟨gi,0,none⟩), .pointer (some ⟨gj,0,none⟩)] wr fun e w'=>e= .returned (.tuple #[.bool a9, .bool b9])∧SiteAt w' w2.heap.size gi (tookS (t[3]'HIL.out) bt)∧Stp (fun qq=>qq=gi) wr w' from by
   rw[ha9,hb9];exact asked_c gi gj w2.heap.size _ _ bt wr HSI.out HSJ.out hbt)
  have HBT:=jD hbt
  clear hbt ha9 hb9
  go_wp2_with fail
  (with_reducible refine(HAK.out).mono ?_)
  rintro e w5 ⟨rfl,hs5,hp5⟩
  have HS5:=jD hs5
  have HP5:=jD hp5
  clear hs5 hp5 HAK hcell
  rcases HAB.out with⟨hz,rfl⟩ | ⟨rfl,rfl⟩
  rotate_left
  ·go_wp2
   go_ret
   exact⟨rfl,bstep HB2.out (HBS.out _ (HST.out.stp.trans (HP5.out.mono fun q hq=>by rw[hq];exact List.mem_of_getElem? HGI.out)))⟩
  have HZ:=jD hz
  clear hz
  go_wp2
  go_roundw
  case rel=>
   have hz:=HZ.out
   have h5:=HS5.out
   rw[HBT.out] at hz h5
   exact⟨k+1,by omega,by go_num,_,HST.out.asked HGI.out HIL.out HJL.out HP5.out h5,K1.step HST.out.q HK1.out hlt hz⟩
  case measure=>simp [intOf] <;> omega
end Go.Proofs.YtgkgdedhicnohaaGreat
