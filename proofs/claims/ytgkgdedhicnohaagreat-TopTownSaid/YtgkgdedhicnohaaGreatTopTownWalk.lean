/- What TopTown does. Written by a small program (gen/toptown.py). -/
import Derived.Test.YtgkgdedhicnohaaGreatMTAl
import Derived.Test.YtgkgdedhicnohaaGreatMClaims
import Derived.Test.YtgkgdedhicnohaaGreatMCl3
import Derived.Test.YtgkgdedhicnohaaGreatMShelf7
namespace Go.Proofs.YtgkgdedhicnohaaGreat
open Go.RowKit
set_option maxRecDepth 100000 in
set_option maxHeartbeats 32000000 in
theorem TopTown_walk (fv lv:Value) (F:List Bxs) (l:List (List Int)) (w:World) (hF:RowAt bxsE w fv F) (hl:RowAt vecE w lv l):
  Calls Tryz.prog 3 #[fv,lv] w fun e w'=>e= .returned (.bool true)∧Below w.heap.size w w':=by
 obtain⟨fa,fc,rfl⟩:=hF.shape
 obtain⟨la,lc,hlv,hlcap,hlm, -, -⟩:=hl.open_
 subst hlv
 have HF:=Lib.hid hF
 have HL:=Lib.hid hl
 clear hF hl
 go_enter Tryz.func3,Tryz.ntmps3
 go_wp2_with fail
 (with_reducible refine(topBegun_c w).mono ?_)
 rintro e w1 ⟨rfl,hb⟩
 have HB1:=Lib.hid hb
 clear hb
 go_wp2_with fail
 (with_reducible refine(topfilters_c _ F w1 (HF.out.below HB1.out)).mono ?_)
 rintro e w2 ⟨R,ra,rc,rfl,hR,hRc,hR3,hR7,hb⟩
 have HB2:=Lib.hid (bstep HB1.out hb)
 have HR:=Lib.hid hR
 have HRC:=Lib.hid hRc
 have HR3:=Lib.hid (show R.length=3 by omega)
 clear hb hR hRc hR3 hR7 HF
 go_wp2_with fail
 (with_reducible refine(topSites_c _ R w2 HR.out HRC.out HR3.out).mono ?_)
 rintro e w3 ⟨sa,sc,gs,rfl,hrow,hsit,hb⟩
 have HB3:=Lib.hid hb
 have HROW:=Lib.hid hrow
 have HSIT:=Lib.hid hsit
 clear hb hrow hsit
 have HCL:=Lib.hid (cloneF_c _ R w3 (HR.out.below HB3.out) HRC.out (by have:=HR3.out;omega))
 go_wp2_with fail
 (with_reducible refine(HCL.out).mono ?_)
 rintro e w4 ⟨v1,rfl,hst⟩
 obtain⟨hbl,vs,q2,q3,q4⟩:=hst
 obtain⟨oa,oc,hov⟩:=owns_slice q2
 subst hov
 have H2:=Lib.hid q2
 have HV3:=Lib.hid q3
 have H4:=Lib.hid q4
 have HBL:=Lib.hid hbl
 clear q2 q3 q4 hbl HCL
 go_wp2_with fail
 (with_reducible refine(everyS _).mono ?_)
 rintro e w5 ⟨ev5,rfl,hev5,hb5⟩
 obtain⟨ea5,ec5,hevs⟩:=(hev5.at_ok every_chk).shape
 subst hevs
 have HE5:=Lib.hid (show FEl w3 w5 (.slice ea5 everyB.length ec5) everyB from⟨every_chk,⟨_,_,rfl⟩, .inr (BxsOwn.mono hev5 HBL.out.size)⟩)
 have HR5:=Lib.hid (owns_below H2.out hb5)
 have H45:=Lib.hid (fun i (a:i < vs.length) (b:i < R.length)=>(H4.out i a b).tk (TKeep.of_below (T:=fun t=>t != 33) hb5))
 have HB5:=Lib.hid (bstep HBL.out hb5)
 have HR6:=Lib.hid (owns_below HR5.out (bal (W:=w5) (.cells #[.slice ea5 everyB.length ec5] 33)))
 have HN:=Lib.hid (show ∀j u,[Value.slice ea5 everyB.length ec5][j]? =some u→(w5.alloc (.cells #[.slice ea5 everyB.length ec5] 33)).cell? ((⟨w5.heap.size,0,none⟩:Addr).add j)=some u from fun j u hj=>by
  rw[Addr.add_lit,Nat.zero_add]
  exact cell_of_block (j:=j) (alloc_new _ _ _ _ rfl) (by simpa using hj))
 have hbs:w3.heap.size≤(w5.alloc (.cells #[.slice ea5 everyB.length ec5] 33)).heap.size:=by have:=HB5.out.size;rw [World.size_alloc];omega
 clear hev5 hb5
 go_wp2_with (at_builtin;refine wpList_append_ownS rfl (.tmp 36) (.tmp 38) 22 rfl w3.heap.size 33 (.slice none 0 0) 1 24 Tryz.underlying22 FsTy.info rfl (by decide) _ R.length vs rfl HR6.out ⟨w5.heap.size,0,none⟩ 1 1 _ rfl rfl HN.out (by intro u hu;simp only[List.mem_singleton] at hu;subst hu;rfl) (by have:=HR3.out;unfold maxLen;omega) (by have:=HR3.out;omega) hbs ?_)
 intro v9 w9 A
 obtain⟨va,vc,hva⟩:=owns_slice A.own
 subst hva
 have HFS:=Lib.hid (FlSt.push HB5.out (bal _) HR5.out HV3.out H45.out HE5.out A)
 have HB9:=Lib.hid HFS.out.bel
 obtain⟨hrow,hchk⟩:=HFS.out.row (by have:=HR3.out;simp;omega)
 obtain⟨R4,hR4⟩: ∃R4,R4=R++[everyB]:=⟨_,rfl⟩
 rw[←hR4] at hrow hchk HSIT
 have hl1:R.length+1=4:=by have:=HR3.out;omega
 rw[hl1] at hrow ⊢
 have HR4L:=Lib.hid (show R4.length=4 by rw[hR4];simp [HR3.out])
 have HNW:=Lib.hid (tnew_c _ R4 (fun q=>w9.heap.size≤q) w9 hrow (by rw[HR4L.out];decide) hchk (fun q hq=>hq))
 clear A hbs hrow hchk hR4 hl1 HFS H2 HV3 H4 HBL HE5 HR5 H45 HB5 HR6 HN HR HRC HR3
 go_wp2_with fail
 (with_reducible refine(HNW.out).mono ?_)
 rintro e w10 ⟨g,rfl,ht,hb⟩
 have HB10:=Lib.hid (bstep HB3.out (bstep HB9.out hb))
 obtain⟨n,hn⟩: ∃n,n=min l.length 30:=⟨_,rfl⟩
 have hn1:n≤l.length:=by omega
 have hn2:n≤30:=by omega
 have hn3:n≤lc:=by omega
 have hmin:min (l.length:Int) 30=(n:Int):=by omega
 have HLR:=Lib.hid (fun w' (hs:Below w2.heap.size w2 w')=>RowAt.take ((HL.out.below HB2.out).below hs) n hn1)
 obtain⟨BB,hBB⟩: ∃BB,BB=w9.heap.size:=⟨_,rfl⟩
 have HBB:=Lib.hid (show w2.heap.size≤BB by rw[hBB];have:=HB3.out.size;have:=HB9.out.size;omega)
 have hgl:gs.length=4:=by have:=HSIT.out.len;rw [newL_len,HR4L.out] at this;exact this
 have HTT:=Lib.hid (show TtSt BB w10 w2.heap.size g (.slice sa 4 sc) gs (newT R4) from by
  have hd:DirAt w3 w2.heap.size (.slice sa 4 sc) gs (newL R4):=⟨by rw[hgl];exact HROW.out,HSIT.out⟩
  have hb39:=bstep HB9.out hb
  rw[hBB]
  exact⟨ht,hd.below hb39,rfl,by show(newL R4).length=4;rw [newL_len,HR4L.out],fun q hq=>by
   obtain⟨i,hi,rfl⟩:=List.getElem_of_mem hq
   have h1:=(hd.sites.each i hi (by rw[newL_len,HR4L.out];omega)).lt
   have h2:=HB9.out.size
   omega,fun q hq=>by have h1:=(hd.row.lt q hq).2;have h2:=HB9.out.size;omega,hb.size⟩)
 clear ht hb hn hBB hgl HNW HROW HSIT HL HB3 HB9 HR4L
 go_wp2
 go_loopw [55] (fun i wr=> ∃k:Nat,k≤n∧i= .int .i64 k∧ ∃t,TtSt BB wr w2.heap.size g (.slice sa 4 sc) gs t∧Below w2.heap.size w2 wr) (fun i _=>n - (intOf i).toNat)
 case atStart=>exact ⟨0,Nat.zero_le _,rfl,_,HTT.out,HB10.out⟩
 case round=>
  clear HTT HB10
  obtain⟨k,hk,rfl,t,hst,hbel⟩:=hrel
  have HST:=Lib.hid hst
  have HBE:=Lib.hid hbel
  by_cases hlt:k < n
  rotate_left
  ·obtain rfl:k=n:=by omega
   have hkb:decide ((k:Int) < (k:Int))=false:=by simp
   clear hst hbel
   go_wp2
   go_ret
   exact⟨rfl,bstep HB2.out HBE.out⟩
  have hkb:decide ((k:Int) < (n:Int))=true:=by simp;omega
  have HLr:=Lib.hid (HLR.out wr hbel)
  obtain⟨a',cap',ha', -, -, -,hvl2⟩:=HLr.out.open_
  simp only[Value.slice.injEq] at ha'
  obtain⟨hla, -,hlc2⟩:=ha'
  have hltk:k < (l.take n).length:=by rw[List.length_take];omega
  rcases hvl2 with hnil | ⟨b7,off,ha7,hb,hc⟩
  ·rw[hnil] at hltk;simp at hltk
  rw[ha7] at hla
  subst hla
  obtain⟨c,⟨u,rfl,hu⟩,hcc⟩:=hc k hltk
  have c1:wr.cell? ⟨b7,off+k,none⟩=some u:=by have:=hcc 0 u rfl;simpa [vecE] using this
  generalize (l.take n)[k]=cs at*
  obtain⟨ua,uc,hus⟩:=hu.shape
  subst hus
  have HU:=Lib.hid hu
  clear hc hcc hst hu HLr ha7 hlc2 hbel
  by_cases h3:cs.length < 3
  ·have hd:decide ((cs.length:Int) < 3)=true:=by simp;omega
   go_wp2
   go_roundw
   case rel=>exact ⟨k+1,by omega,by go_num,t,HST.out,HBE.out⟩
   case measure=>simp [intOf] <;> omega
  have hd:decide ((cs.length:Int) < 3)=false:=by simp;omega
  obtain⟨cb,coff,cc,hcs,hcb,x0,x1,x2,q0,q1,q2, -⟩:=three_ints HU.out (by omega)
  simp only[Value.slice.injEq,true_and] at hcs
  obtain⟨rfl,rfl⟩:=hcs
  clear HU
  obtain⟨ki,hki⟩: ∃ki,ki=wiN x1 4:=⟨_,rfl⟩
  obtain⟨kj,hkj⟩: ∃kj,kj=wiN x2 4:=⟨_,rfl⟩
  have hki4:ki < 4:=by rw[hki];exact wiN_lt x1 4 (by decide)
  have hkj4:kj < 4:=by rw[hkj];exact wiN_lt x2 4 (by decide)
  have HWI:=Lib.hid (fun (y:World)=>wiN_c x1 4 y (by decide) (by decide))
  have HWJ:=Lib.hid (fun (y:World)=>wiN_c x2 4 y (by decide) (by decide))
  rw[←hki] at HWI
  rw[←hkj] at HWJ
  have HC0:=Lib.hid q0
  have HC1:=Lib.hid q1
  have HC2:=Lib.hid q2
  have HX1:=Lib.hid q1
  have HX2:=Lib.hid q2
  clear q0 q1 q2 hki hkj
  go_wp2_with fail
  refine Cl.region0 194 rfl [] (fun _=>True) (fun _=>[]) (fun jq v ww=>match jq with | 0=>v= .slice (some ⟨cb,coff,none⟩) cs.length uc | 1=>v= .pointer (some ⟨cb,coff+1,none⟩) | 2=>v= .int .i64 x1 | 3=>v= .slice sa 4 sc | 4=>v= .int .i64 4 | 5=>v= .int .i64 (ki:Nat) | 6=>v= .slice (some ⟨cb,coff,none⟩) cs.length uc | 7=>v= .pointer (some ⟨cb,coff+2,none⟩) | 8=>v= .int .i64 x2 | 9=>v= .slice sa 4 sc | 10=>v= .int .i64 4 | 11=>v= .int .i64 (kj:Nat) | 12=>v= .int .i64 (ki:Nat) | 13=>v= .int .i64 (kj:Nat) | _=>True) (fun ww=>Below wr.heap.size wr ww) (fun jq ww ww'=>Below ww.heap.size ww ww') Tryz.mixed (by decide+kernel) (Below.refl _ _).drew trivial (fun q r v w w' _ _ _ h _=>h) (fun _ _ _ _ _ _=>trivial) ?_ ?_
  ·refine⟨?_, ?_, ?_, ?_, ?_, ?_, ?_, ?_, ?_, ?_, ?_, ?_, ?_, ?_,trivial⟩
   ·intro x wx hG
    have f10:=hG.old 10 (by decide+kernel)
    have hg:=hG.good
    clear hG
    go_wp2
    exact⟨_,rfl,rfl,hg,Below.refl _ _⟩
   ·intro x wx hG
    have g0:(x.tmps.getD 62 undef)= .slice (some ⟨cb,coff,none⟩) cs.length uc:=hG.claims 0 _ rfl (by decide+kernel) (by decide+kernel)
    have g0b:=g0
    rw[Array.getD_eq_getD_getElem?] at g0b
    have hg:=hG.good
    clear hG
    go_wp2
    exact⟨_,rfl,rfl,hg,Below.refl _ _⟩
   ·intro x wx hG
    have g1:(x.tmps.getD 63 undef)= .pointer (some ⟨cb,coff+1,none⟩):=hG.claims 1 _ rfl (by decide+kernel) (by decide+kernel)
    have g1b:=g1
    rw[Array.getD_eq_getD_getElem?] at g1b
    have hg:=hG.good
    clear hG
    have c_HX1:=ckeep hg HX1.out
    go_wp2
    exact⟨_,rfl,rfl,hg,Below.refl _ _⟩
   ·intro x wx hG
    have f5:=hG.old 5 (by decide+kernel)
    have hg:=hG.good
    clear hG
    go_wp2
    exact⟨_,rfl,rfl,hg,Below.refl _ _⟩
   ·intro x wx hG
    have g3:(x.tmps.getD 65 undef)= .slice sa 4 sc:=hG.claims 3 _ rfl (by decide+kernel) (by decide+kernel)
    have g3b:=g3
    rw[Array.getD_eq_getD_getElem?] at g3b
    have hg:=hG.good
    clear hG
    go_wp2
    exact⟨_,rfl,rfl,hg,Below.refl _ _⟩
   ·intro x wx hG
    have g2:(x.tmps.getD 64 undef)= .int .i64 x1:=hG.claims 2 _ rfl (by decide+kernel) (by decide+kernel)
    have g2b:=g2
    rw[Array.getD_eq_getD_getElem?] at g2b
    have g4:(x.tmps.getD 66 undef)= .int .i64 4:=hG.claims 4 _ rfl (by decide+kernel) (by decide+kernel)
    have g4b:=g4
    rw[Array.getD_eq_getD_getElem?] at g4b
    have hg:=hG.good
    clear hG
    go_wp2_with fail
    (with_reducible refine(HWI.out wx).mono ?_)
    rintro e wq ⟨rfl,hb⟩
    have HBQ:=Lib.hid hb
    clear hb
    go_wp2
    exact⟨_,rfl,rfl,bstep hg HBQ.out,HBQ.out⟩
   ·intro x wx hG
    have f10:=hG.old 10 (by decide+kernel)
    have hg:=hG.good
    clear hG
    go_wp2
    exact⟨_,rfl,rfl,hg,Below.refl _ _⟩
   ·intro x wx hG
    have g6:(x.tmps.getD 68 undef)= .slice (some ⟨cb,coff,none⟩) cs.length uc:=hG.claims 6 _ rfl (by decide+kernel) (by decide+kernel)
    have g6b:=g6
    rw[Array.getD_eq_getD_getElem?] at g6b
    have hg:=hG.good
    clear hG
    go_wp2
    exact⟨_,rfl,rfl,hg,Below.refl _ _⟩
   ·intro x wx hG
    have g7:(x.tmps.getD 69 undef)= .pointer (some ⟨cb,coff+2,none⟩):=hG.claims 7 _ rfl (by decide+kernel) (by decide+kernel)
    have g7b:=g7
    rw[Array.getD_eq_getD_getElem?] at g7b
    have hg:=hG.good
    clear hG
    have c_HX2:=ckeep hg HX2.out
    go_wp2
    exact⟨_,rfl,rfl,hg,Below.refl _ _⟩
   ·intro x wx hG
    have f5:=hG.old 5 (by decide+kernel)
    have hg:=hG.good
    clear hG
    go_wp2
    exact⟨_,rfl,rfl,hg,Below.refl _ _⟩
   ·intro x wx hG
    have g9:(x.tmps.getD 71 undef)= .slice sa 4 sc:=hG.claims 9 _ rfl (by decide+kernel) (by decide+kernel)
    have g9b:=g9
    rw[Array.getD_eq_getD_getElem?] at g9b
    have hg:=hG.good
    clear hG
    go_wp2
    exact⟨_,rfl,rfl,hg,Below.refl _ _⟩
   ·intro x wx hG
    have g8:(x.tmps.getD 70 undef)= .int .i64 x2:=hG.claims 8 _ rfl (by decide+kernel) (by decide+kernel)
    have g8b:=g8
    rw[Array.getD_eq_getD_getElem?] at g8b
    have g10:(x.tmps.getD 72 undef)= .int .i64 4:=hG.claims 10 _ rfl (by decide+kernel) (by decide+kernel)
    have g10b:=g10
    rw[Array.getD_eq_getD_getElem?] at g10b
    have hg:=hG.good
    clear hG
    go_wp2_with fail
    (with_reducible refine(HWJ.out wx).mono ?_)
    rintro e wq ⟨rfl,hb⟩
    have HBQ:=Lib.hid hb
    clear hb
    go_wp2
    exact⟨_,rfl,rfl,bstep hg HBQ.out,HBQ.out⟩
   ·intro x wx hG
    have g5:(x.tmps.getD 67 undef)= .int .i64 (ki:Nat):=hG.claims 5 _ rfl (by decide+kernel) (by decide+kernel)
    have g5b:=g5
    rw[Array.getD_eq_getD_getElem?] at g5b
    have hg:=hG.good
    clear hG
    go_wp2
    exact⟨_,rfl,rfl,hg,Below.refl _ _⟩
   ·intro x wx hG
    have g11:(x.tmps.getD 73 undef)= .int .i64 (kj:Nat):=hG.claims 11 _ rfl (by decide+kernel) (by decide+kernel)
    have g11b:=g11
    rw[Array.getD_eq_getD_getElem?] at g11b
    have hg:=hG.good
    clear hG
    go_wp2
    exact⟨_,rfl,rfl,hg,Below.refl _ _⟩
  ·intro vals w11 hg hF
   obtain⟨g0,g1,g2,g3,g4,g5,g6,g7,g8,g9,g10,g11,g12,g13, -⟩:=hF
   have e0:vals 0= .slice (some ⟨cb,coff,none⟩) cs.length uc:=g0 rfl
   have e1:vals 1= .pointer (some ⟨cb,coff+1,none⟩):=g1 rfl
   have e2:vals 2= .int .i64 x1:=g2 rfl
   have e3:vals 3= .slice sa 4 sc:=g3 rfl
   have e4:vals 4= .int .i64 4:=g4 rfl
   have e5:vals 5= .int .i64 (ki:Nat):=g5 rfl
   have e6:vals 6= .slice (some ⟨cb,coff,none⟩) cs.length uc:=g6 rfl
   have e7:vals 7= .pointer (some ⟨cb,coff+2,none⟩):=g7 rfl
   have e8:vals 8= .int .i64 x2:=g8 rfl
   have e9:vals 9= .slice sa 4 sc:=g9 rfl
   have e10:vals 10= .int .i64 4:=g10 rfl
   have e11:vals 11= .int .i64 (kj:Nat):=g11 rfl
   have e12:vals 12= .int .i64 (ki:Nat):=g12 rfl
   have e13:vals 13= .int .i64 (kj:Nat):=g13 rfl
   simp only[Cl.puts,e0,e1,e2,e3,e4,e5,e6,e7,e8,e9,e10,e11,e12,e13]
   clear e0 e1 e2 e3 e4 e5 e6 e7 e8 e9 e10 e11 e12 e13 g0 g1 g2 g3 g4 g5 g6 g7 g8 g9 g10 g11 g12 g13
   go_simp
   have HB11:=Lib.hid hg
   have HX0:=Lib.hid (ckeep hg HC0.out)
   have q0:=HX0.out
   obtain⟨km,hkm⟩: ∃km,km=wiN x0 2:=⟨_,rfl⟩
   have hkm2:km < 2:=by rw[hkm];exact wiN_lt x0 2 (by decide)
   have HWM:=Lib.hid (fun (y:World)=>wiN_c x0 2 y (by decide) (by decide))
   rw[←hkm] at HWM
   clear hg hkm c1
   go_wp2_with fail
   (with_reducible refine(HWM.out w11).mono ?_)
   rintro e w12 ⟨rfl,hb⟩
   have HB12:=Lib.hid (bstep HB11.out hb)
   have HST2:=Lib.hid (HST.out.below HB12.out)
   have HBE2:=Lib.hid (bstep HBE.out HB12.out)
   have HY2:=Lib.hid (ckeep HB12.out HC2.out)
   clear hb q0 HB11 HX0 HX1 HX2 HWM HC0 HC1
   go_upto_if 78 with fail
   go_cut [13,14,15,16,17,18,19,20] from 78 to 169 (fun s13 s14 s15 s16 s17 s18 s19 s20 wx=> ∃t',TtSt BB wx w2.heap.size g (.slice sa 4 sc) gs t'∧Below w2.heap.size w2 wx)
   case rest=>
    obtain⟨t',htt,hbe⟩:=hcut
    have HTC:=Lib.hid htt
    have HBC:=Lib.hid hbe
    clear htt hbe HST HBE HST2 HBE2 HY2 HC2 HB12 HWI HWJ HLR
    go_wp2
    go_loopw [172] (fun i wr=> ∃j:Nat,j≤4∧i= .int .i64 j∧TtSt BB wr w2.heap.size g (.slice sa 4 sc) gs t'∧Below w2.heap.size w2 wr) (fun i _=>4 - (intOf i).toNat)
    case atStart=>exact ⟨0,by omega,rfl,HTC.out,HBC.out⟩
    case round=>
     clear HTC HBC
     obtain⟨j,hj,rfl,htt,hbe⟩:=hrel
     have HTC:=Lib.hid htt
     have HBC:=Lib.hid hbe
     clear htt hbe
     by_cases hj4:j < 4
     rotate_left
     ·obtain rfl:j=4:=by omega
      have hjb:decide (((4:Nat):Int) < 4)=false:=by decide
      go_wp2
      go_roundw
      case rel=>exact ⟨k+1,by omega,by go_num,t',HTC.out,HBC.out⟩
      case measure=>simp [intOf] <;> omega
     have hjb:decide ((j:Int) < 4)=true:=by simp;omega
     obtain⟨qs,gi,c9,hsv,hgi,hcell,hsite,hgiB⟩:=HTC.out.cell hj4
     simp only[Value.slice.injEq,true_and] at hsv
     obtain⟨rfl,rfl⟩:=hsv
     have HJ:=Lib.hid (HTC.out.lt hj4)
     have HSITE:=Lib.hid hsite
     have HSH:=Lib.hid (tshelf_c g _ _ t' j HJ.out _ HTC.out.town)
     have hjn:(j:Int) < 4:=by omega
     generalize hss:t'.sites[j]'HJ.out=ss at*
     clear hgi hsite hgiB hss
     go_wp2_with fail
     (with_reducible refine(HSH.out).mono ?_)
     rintro e w5 ⟨xa,xc,rfl,hx,hb5⟩
     have HOK:=Lib.hid HSITE.out.ok.L
     have HX:=Lib.hid (hx.at_ (shok_bd HOK.out.ok) (by have:=HOK.out.len;omega))
     have HB5:=Lib.hid hb5
     clear hx hb5 HSH hcell
     go_wp2_with fail
     (with_reducible refine(sshelf_c gi _ ss w5 (HSITE.out.below HB5.out)).mono ?_)
     rintro e w6 ⟨ya,yc,rfl,hy,hb6⟩
     have HY:=Lib.hid (hy.at_ (shok_bd HOK.out.ok) (by have:=HOK.out.len;omega))
     have HX6:=Lib.hid (HX.out.below hb6)
     have HB6:=Lib.hid (bstep HB5.out hb6)
     clear hy hb6 HX HB5
     go_wp2_with fail
     (with_reducible refine(sameS_c _ _ ss.L ss.L w6 HX6.out HY.out).mono ?_)
     rintro e w7 ⟨bb,rfl,hbb,hb7⟩
     obtain rfl:bb=true:=by simpa using hbb
     have HB7:=Lib.hid (bstep HB6.out hb7)
     clear hbb hb7
     go_wp2
     go_roundw
     case rel=>exact ⟨j+1,by omega,by go_num,HTC.out.below HB7.out,bstep HBC.out HB7.out⟩
     case measure=>simp [intOf] <;> omega
   case first=>
    have HBA:Below w2.heap.size w2 w12:=HBE2.out
    have HBA2:=Lib.hid HBA
    clear HBA
    by_cases hkm0:km=0
    rotate_left
    ·have hd0:((km:Int)==0)=false:=by simpa using hkm0
     have hd0b:decide ((km:Int)=0)=false:=by simpa using hkm0
     by_cases hij:ki=kj
     ·subst hij
      have hdn:((ki:Int) != (ki:Int))=false:=by simp
      go_wp2
      go_meet
      case rel=>exact ⟨t,HST2.out,HBA2.out⟩
     have hdn:((ki:Int) != (kj:Int))=true:=by simp;omega
     have HIL:=Lib.hid (HST2.out.lt hki4)
     have HJL:=Lib.hid (HST2.out.lt hkj4)
     have HTN:=Lib.hid (show ∀wx:World,w12.heap.size≤wx.heap.size→ ∀q,wx.heap.size≤q→BB≤q from fun wx h q hq=>by have:=HST2.out.size;omega)
     go_wp2_with fail
     (with_reducible refine(tsend_c g BB (fun q=>BB≤q) t ki kj HIL.out HJL.out w12 HST2.out.town (HTN.out w12 (Nat.le_refl _))).mono ?_)
     rintro e w13 ⟨rfl,ht13,hs13⟩
     have e2:sendE t ki kj=0:=by unfold sendE;rw [if_neg hij,if_neg (by rw[HST2.out.way];decide)]
     have e3:sendR t ki HIL.out kj=sendT t ki HIL.out kj:=by unfold sendR;rw [if_pos e2]
     rw[e3] at ht13
     rw[e2]
     obtain⟨ak,hak⟩: ∃ak,ak=askS (t.sites[ki]'HIL.out):=⟨_,rfl⟩
     obtain⟨bt,hbt⟩: ∃bt,bt=giveB (t.sites[kj]'HJL.out) ak.site ak.stamp ak.P ak.S:=⟨_,rfl⟩
     have HAK:=Lib.hid hak
     have HBT:=Lib.hid hbt
     have hy1:(sendT t ki HIL.out kj).way=[.ask kj ak]:=by unfold sendT;rw [HST2.out.way,hak];rfl
     have HT13:=Lib.hid ht13
     have HS13:=Lib.hid hs13
     have HY1:=Lib.hid hy1
     have HKO:=Lib.hid (show AskSOk ak by
      obtain⟨_,_,_,_,_,_,hsite,_⟩:=HST2.out.cell hki4
      rw[hak];exact askS_ok hsite.ok)
     have HBG:=Lib.hid (show Calls Tryz.prog 20 #[.pointer (some ⟨g,0,none⟩), .int .i64 0] w13 fun e w'=>e= .returned (.int .i64 0)∧TownAt w' BB (fun q=>BB≤q) g { sendT t ki HIL.out kj with way:=(sendT t ki HIL.out kj).way++[ansT ((sendT t ki HIL.out kj).sites[kj]'HJL.out) ak] } ∧Stp (fun q=>BB≤q) w13 w' from tbring_ask g BB (fun q=>BB≤q) (sendT t ki HIL.out kj) 0 kj ak (by rw[hy1];rfl) w13 HT13.out (HTN.out w13 HS13.out.size) (show kj < (sendT t ki HIL.out kj).sites.length from HJL.out) (by rw[hy1];exact Nat.succ_lt_succ (Nat.zero_lt_succ _)))
     clear ht13 hs13 e2 e3 hak hbt hy1
     go_wp2_with fail
     (with_reducible refine(HBG.out).mono ?_)
     rintro e w14 ⟨rfl,ht14,hs14⟩
     obtain⟨t2,ht2⟩: ∃t2:TownS,t2= { sendT t ki HIL.out kj with way:=(sendT t ki HIL.out kj).way++[ansT ((sendT t ki HIL.out kj).sites[kj]'HJL.out) ak] } :=⟨_,rfl⟩
     have HT14:=Lib.hid (show TownAt w14 BB (fun q=>BB≤q) g t2 by rw[ht2];exact ht14)
     have HS14:=Lib.hid (HS13.out.trans hs14)
     have HE2:=Lib.hid (show t2.sites=t.sites by rw[ht2];rfl)
     have HW2:=Lib.hid (show t2.way=[.ask kj ak, .bat ki bt] by
      rw[ht2]
      show(sendT t ki HIL.out kj).way++[_]=_
      rw[HY1.out]
      show [_,_]=_
      have e1:ak.site=(ki:Int):=by rw[HAK.out];exact HST2.out.me HIL.out
      unfold ansT
      rw[HBT.out,e1]
      rfl)
     obtain⟨qs,gi,c9,hsv,hgi,hcell,hsite,hgiB⟩:=HST2.out.cell hki4
     simp only[Value.slice.injEq,true_and] at hsv
     obtain⟨rfl,rfl⟩:=hsv
     obtain⟨qs2,gj,c8,hsv,hgj,hcelj,hsitj,hgjB⟩:=HST2.out.cell hkj4
     simp only[Value.slice.injEq,true_and,and_true,Option.some.injEq,Addr.mk.injEq] at hsv
     obtain⟨rfl, -⟩:=hsv
     have hqsB:qs < BB:=HST2.out.rowoff qs rfl
     have hsz:=HST2.out.size
     have HGI:=Lib.hid hgi
     have HGB:=Lib.hid hgiB
     have HQB:=Lib.hid hqsB
     have HCI:=Lib.hid ((HS14.out.sp.cell (p:=⟨qs,ki,none⟩) (by show qs < _;omega) (by show ¬BB≤qs;omega)).trans hcell)
     have HCJ:=Lib.hid ((HS14.out.sp.cell (p:=⟨qs,kj,none⟩) (by show qs < _;omega) (by show ¬BB≤qs;omega)).trans hcelj)
     have HSI:=Lib.hid (hsite.stp HS14.out (by show ¬BB≤gi;omega))
     have HSJ:=Lib.hid (hsitj.stp HS14.out (by show ¬BB≤gj;omega))
     have HSO:=Lib.hid hsite
     generalize hsi:t.sites[ki]'HIL.out=si at*
     generalize hsj:t.sites[kj]'HJL.out=sj at*
     have HBTOK:=Lib.hid (show BtSOk bt by rw[HBT.out];exact giveB_ok HSJ.out.ok HKO.out.site HKO.out.stamp _ _)
     have hin:(ki:Int) < 4:=by omega
     have hjn:(kj:Int) < 4:=by omega
     clear ht14 hs14 ht2 hgi hcell hsite hgiB hgj hcelj hsitj hgjB hqsB hsz
     go_wp2_with fail
     refine Cl2.region0 194 rfl [] (fun _=>True) (fun jq=>match jq with | 13=>[14] | _=>[]) (fun jq v ww=>match jq with | 0=>v= .slice (some ⟨qs,0,none⟩) 4 sc | 1=>v= .int .i64 (kj:Nat) | 2=>v= .pointer (some ⟨qs,kj,none⟩) | 3=>v= .pointer (some ⟨gj,0,none⟩) | 4=>v= .slice (some ⟨qs,0,none⟩) 4 sc | 5=>v= .int .i64 (ki:Nat) | 6=>v= .pointer (some ⟨qs,ki,none⟩) | 7=>v= .pointer (some ⟨gi,0,none⟩) | 8=>AkV ww 0 ak v | 9=>GvT ww 0 bt v | 10=>GvT ww 0 bt v | 11=>GvA ww 0 bt v | 12=>v= .int .i64 0 | 13=>BatNew ww w14.heap.size v | 14=>BatIs ww 0 w14.heap.size bt v | 15=>v= .int .i64 0 | _=>True) (fun ww=>Below w14.heap.size w14 ww) (fun jq ww ww'=>(jq≠14→Below ww.heap.size ww ww')∧(jq=14→Stp (fun q=>w14.heap.size≤q) ww ww')) Tryz.mixed (by decide+kernel) (Below.refl _ _).drew trivial ?_ (fun _ _ _ _ _ _=>trivial) ?_ ?_
     ·intro q r v w w' hne hk hlt h hR
      match r,hk,hlt,h,hne with
      | 0,_,_,h,_=>exact h
      | 1,_,_,h,_=>exact h
      | 2,_,_,h,_=>exact h
      | 3,_,_,h,_=>exact h
      | 4,_,_,h,_=>exact h
      | 5,_,_,h,_=>exact h
      | 6,_,_,h,_=>exact h
      | 7,_,_,h,_=>exact h
      | 8,hk,hlt,h,hne=>
       by_cases e:q=14
       ·exact h.stp (hR.2 e)
       ·exact h.stp (Stp.of_below (G:=fun _=>False) (hR.1 e))
      | 9,hk,hlt,h,hne=>
       by_cases e:q=14
       ·exact h.stp (hR.2 e)
       ·exact h.stp (Stp.of_below (G:=fun _=>False) (hR.1 e))
      | 10,hk,hlt,h,hne=>
       by_cases e:q=14
       ·exact h.stp (hR.2 e)
       ·exact h.stp (Stp.of_below (G:=fun _=>False) (hR.1 e))
      | 11,hk,hlt,h,hne=>
       by_cases e:q=14
       ·exact h.stp (hR.2 e)
       ·exact h.stp (Stp.of_below (G:=fun _=>False) (hR.1 e))
      | 12,_,_,h,_=>exact h
      | 13,hk,hlt,h,hne=>exact h.below (hR.1 (by simpa using hk))
      | 14,hk,hlt,h,hne=>exact h.below (hR.1 (by exact hne))
      | 15,_,_,h,_=>exact h
      | _+16,_,_,_,_=>trivial
     ·refine⟨?_, ?_, ?_, ?_, ?_, ?_, ?_, ?_, ?_, ?_, ?_, ?_, ?_, ?_, ?_, ?_,trivial⟩
      ·intro x wx hG
       have f5:=hG.old 5 (by decide+kernel)
       have hg:=hG.good
       clear hG
       go_wp2
       exact⟨_,rfl,rfl,hg,⟨fun _=>Below.refl _ _,fun h=>absurd h (by decide)⟩⟩
      ·intro x wx hG
       have f12:=hG.old 12 (by decide+kernel)
       have hg:=hG.good
       clear hG
       go_wp2
       exact⟨_,rfl,rfl,hg,⟨fun _=>Below.refl _ _,fun h=>absurd h (by decide)⟩⟩
      ·intro x wx hG
       have g0:(x.tmps.getD 135 undef)= .slice (some ⟨qs,0,none⟩) 4 sc:=hG.claims 0 _ rfl (by decide+kernel) (by decide+kernel)
       have g0b:=g0
       rw[Array.getD_eq_getD_getElem?] at g0b
       have g1:(x.tmps.getD 136 undef)= .int .i64 (kj:Nat):=hG.claims 1 _ rfl (by decide+kernel) (by decide+kernel)
       have g1b:=g1
       rw[Array.getD_eq_getD_getElem?] at g1b
       have hg:=hG.good
       clear hG
       go_wp2
       exact⟨_,rfl,rfl,hg,⟨fun _=>Below.refl _ _,fun h=>absurd h (by decide)⟩⟩
      ·intro x wx hG
       have g2:(x.tmps.getD 137 undef)= .pointer (some ⟨qs,kj,none⟩):=hG.claims 2 _ rfl (by decide+kernel) (by decide+kernel)
       have g2b:=g2
       rw[Array.getD_eq_getD_getElem?] at g2b
       have hg:=hG.good
       clear hG
       have c_HCJ:=ckeep hg HCJ.out
       go_wp2
       exact⟨_,rfl,rfl,hg,⟨fun _=>Below.refl _ _,fun h=>absurd h (by decide)⟩⟩
      ·intro x wx hG
       have f5:=hG.old 5 (by decide+kernel)
       have hg:=hG.good
       clear hG
       go_wp2
       exact⟨_,rfl,rfl,hg,⟨fun _=>Below.refl _ _,fun h=>absurd h (by decide)⟩⟩
      ·intro x wx hG
       have f11:=hG.old 11 (by decide+kernel)
       have hg:=hG.good
       clear hG
       go_wp2
       exact⟨_,rfl,rfl,hg,⟨fun _=>Below.refl _ _,fun h=>absurd h (by decide)⟩⟩
      ·intro x wx hG
       have g4:(x.tmps.getD 139 undef)= .slice (some ⟨qs,0,none⟩) 4 sc:=hG.claims 4 _ rfl (by decide+kernel) (by decide+kernel)
       have g4b:=g4
       rw[Array.getD_eq_getD_getElem?] at g4b
       have g5:(x.tmps.getD 140 undef)= .int .i64 (ki:Nat):=hG.claims 5 _ rfl (by decide+kernel) (by decide+kernel)
       have g5b:=g5
       rw[Array.getD_eq_getD_getElem?] at g5b
       have hg:=hG.good
       clear hG
       go_wp2
       exact⟨_,rfl,rfl,hg,⟨fun _=>Below.refl _ _,fun h=>absurd h (by decide)⟩⟩
      ·intro x wx hG
       have g6:(x.tmps.getD 141 undef)= .pointer (some ⟨qs,ki,none⟩):=hG.claims 6 _ rfl (by decide+kernel) (by decide+kernel)
       have g6b:=g6
       rw[Array.getD_eq_getD_getElem?] at g6b
       have hg:=hG.good
       clear hG
       have c_HCI:=ckeep hg HCI.out
       go_wp2
       exact⟨_,rfl,rfl,hg,⟨fun _=>Below.refl _ _,fun h=>absurd h (by decide)⟩⟩
      ·intro x wx hG
       have g7:(x.tmps.getD 142 undef)= .pointer (some ⟨gi,0,none⟩):=hG.claims 7 _ rfl (by decide+kernel) (by decide+kernel)
       have g7b:=g7
       rw[Array.getD_eq_getD_getElem?] at g7b
       have hg:=hG.good
       clear hG
       have HN:=Lib.hid (askV_c gi _ si wx (HSI.out.below hg))
       go_wp2_with fail
       (with_reducible refine(HN.out).mono ?_)
       rintro e wq ⟨y9,rfl,h1,hb⟩
       rw[←HAK.out] at h1
       have H1:=Lib.hid h1
       have H2:=Lib.hid hb
       clear h1 hb HN
       go_wp2
       exact⟨_,rfl,H1.out,bstep hg H2.out,⟨fun _=>H2.out,fun h=>absurd h (by decide)⟩⟩
      ·intro x wx hG
       have g3:(x.tmps.getD 138 undef)= .pointer (some ⟨gj,0,none⟩):=hG.claims 3 _ rfl (by decide+kernel) (by decide+kernel)
       have g3b:=g3
       rw[Array.getD_eq_getD_getElem?] at g3b
       have g8:AkV wx 0 ak (x.tmps.getD 143 undef):=hG.claims 8 _ rfl (by decide+kernel) (by decide+kernel)
       have hg:=hG.good
       clear hG
       obtain⟨fa9,fn9,fc9,pa9,pc9,hv,hf,hp⟩:=g8
       have hvb:=hv
       rw[Array.getD_eq_getD_getElem?] at hvb
       have HN:=Lib.hid (giveV_c gj _ sj ak _ wx (HSJ.out.below hg) HKO.out ⟨fa9,fn9,fc9,pa9,pc9,rfl,hf,hp⟩)
       rw[←HBT.out] at HN
       clear hf hp
       go_wp2_with fail
       (with_reducible refine(HN.out).mono ?_)
       rintro e wq ⟨y9,rfl,h1,hb⟩
       obtain⟨a1,c1,a2,c2,a3,c3,hv9,ho⟩:=h1
       subst hv9
       have HO:=Lib.hid ho
       have H2:=Lib.hid hb
       clear ho hb HN
       go_wp2
       exact⟨_,rfl,⟨_,_,_,_,_,_,rfl,HO.out⟩,bstep hg H2.out,⟨fun _=>H2.out,fun h=>absurd h (by decide)⟩⟩
      ·intro x wx hG
       have g9:GvT wx 0 bt (x.tmps.getD 144 undef):=hG.claims 9 _ rfl (by decide+kernel) (by decide+kernel)
       have hg:=hG.good
       clear hG
       obtain⟨a1,c1,a2,c2,a3,c3,hv,ho⟩:=g9
       have hvb:=hv
       rw[Array.getD_eq_getD_getElem?] at hvb
       have HO:=Lib.hid ho
       clear ho
       go_wp2
       exact⟨_,rfl,⟨_,_,_,_,_,_,rfl,HO.out⟩,hg,⟨fun _=>Below.refl _ _,fun h=>absurd h (by decide)⟩⟩
      ·intro x wx hG
       have g10:GvT wx 0 bt (x.tmps.getD 134 undef):=hG.claims 10 _ rfl (by decide+kernel) (by decide+kernel)
       have hg:=hG.good
       clear hG
       obtain⟨a1,c1,a2,c2,a3,c3,hv,ho⟩:=g10
       have hvb:=hv
       rw[Array.getD_eq_getD_getElem?] at hvb
       have HO:=Lib.hid ho
       clear ho
       go_wp2
       exact⟨_,rfl,⟨_,_,_,_,_,_,rfl,HO.out⟩,hg,⟨fun _=>Below.refl _ _,fun h=>absurd h (by decide)⟩⟩
      ·intro x wx hG
       have g10:GvT wx 0 bt (x.tmps.getD 134 undef):=hG.claims 10 _ rfl (by decide+kernel) (by decide+kernel)
       have hg:=hG.good
       clear hG
       obtain⟨a1,c1,a2,c2,a3,c3,hv,ho⟩:=g10
       have hvb:=hv
       rw[Array.getD_eq_getD_getElem?] at hvb
       have HO:=Lib.hid ho
       clear ho
       go_wp2
       exact⟨_,rfl,rfl,hg,⟨fun _=>Below.refl _ _,fun h=>absurd h (by decide)⟩⟩
      ·intro x wx hG
       have hg:=hG.good
       clear hG
       go_wp2
       exact⟨_,rfl,⟨_,rfl,alloc_new _ _ _ _ rfl,hg.size⟩,bstep hg (bal _),⟨fun _=>bal _,fun h=>absurd h (by decide)⟩⟩
      ·intro x wx hG
       have g13:BatNew wx w14.heap.size (x.tmps.getD 19 undef):=hG.claims 13 _ rfl (by decide+kernel) (by decide+kernel)
       have g11:GvA wx 0 bt (x.tmps.getD 145 undef):=hG.claims 11 _ rfl (by decide+kernel) (by decide+kernel)
       have hg:=hG.good
       clear hG
       obtain⟨q,hq1,hq2,hlo⟩:=g13
       have HV:=Lib.hid hq1
       have hq1b:=hq1
       rw[Array.getD_eq_getD_getElem?] at hq1b
       obtain⟨a1,c1,a2,c2,a3,c3,hv,ho⟩:=g11
       have hvb:=hv
       rw[Array.getD_eq_getD_getElem?] at hvb
       have HO:=Lib.hid ho
       clear ho
       have HQ:=Lib.hid hq2
       have HLW:=Lib.hid hlo
       have r0:=cell_of_block (j:=0) hq2 rfl
       have f0:=free_of_block (j:=0) hq2
       have r1:=cell_of_block (j:=1) hq2 rfl
       have f1:=free_of_block (j:=1) hq2
       have r2:=cell_of_block (j:=2) hq2 rfl
       have f2:=free_of_block (j:=2) hq2
       have r3:=cell_of_block (j:=3) hq2 rfl
       have f3:=free_of_block (j:=3) hq2
       have r4:=cell_of_block (j:=4) hq2 rfl
       have f4:=free_of_block (j:=4) hq2
       have hRl:=hlt_of hq2
       have HG:=Lib.hid hg
       clear hq2 hlo hg
       go_wp2
       exact⟨undef,rfl,⟨q,Eq.trans (by kernel_rfl) HV.out,⟨_,_,_,(set5 HQ.out (by decide)).1,HO.out.stp (set5 HQ.out (by decide)).2⟩,HLW.out⟩,((((HG.out.setCell (p:=⟨q,0,none⟩) HLW.out _).setCell (p:=⟨q,1,none⟩) HLW.out _).setCell (p:=⟨q,2,none⟩) HLW.out _).setCell (p:=⟨q,3,none⟩) HLW.out _).setCell (p:=⟨q,4,none⟩) HLW.out _,⟨fun h=>absurd rfl h,fun _=>(set5 HQ.out (by decide)).2.mono fun k hk=>by rw[hk];exact HLW.out⟩⟩
      ·intro x wx hG
       have g12:(x.tmps.getD 146 undef)= .int .i64 0:=hG.claims 12 _ rfl (by decide+kernel) (by decide+kernel)
       have g12b:=g12
       rw[Array.getD_eq_getD_getElem?] at g12b
       have hg:=hG.good
       clear hG
       go_wp2
       exact⟨_,rfl,rfl,hg,⟨fun _=>Below.refl _ _,fun h=>absurd h (by decide)⟩⟩
     ·intro vals w15 hg hF
      obtain⟨g0,g1,g2,g3,g4,g5,g6,g7,g8,g9,g10,g11,g12,g13,g14,g15, -⟩:=hF
      have e0:vals 0= .slice (some ⟨qs,0,none⟩) 4 sc:=g0 rfl
      have e1:vals 1= .int .i64 (kj:Nat):=g1 rfl
      have e2:vals 2= .pointer (some ⟨qs,kj,none⟩):=g2 rfl
      have e3:vals 3= .pointer (some ⟨gj,0,none⟩):=g3 rfl
      have e4:vals 4= .slice (some ⟨qs,0,none⟩) 4 sc:=g4 rfl
      have e5:vals 5= .int .i64 (ki:Nat):=g5 rfl
      have e6:vals 6= .pointer (some ⟨qs,ki,none⟩):=g6 rfl
      have e7:vals 7= .pointer (some ⟨gi,0,none⟩):=g7 rfl
      have e12:vals 12= .int .i64 0:=g12 rfl
      have g14:=g14 rfl
      have e15:vals 15= .int .i64 0:=g15 rfl
      simp only[Cl2.puts,e0,e1,e2,e3,e4,e5,e6,e7,e12,e15]
      clear e0 e1 e2 e3 e4 e5 e6 e7 e12 e15 g0 g1 g2 g3 g4 g5 g6 g7 g8 g9 g10 g11 g12 g13 g15
      go_simp
      obtain⟨qn,hqn9,hbkn,hlon⟩:=g14
      have hqn:vals 13= .pointer (some ⟨qn,0,none⟩):=Eq.trans (by kernel_rfl) hqn9
      rw[hqn]
      have HB15:=Lib.hid hg
      have HLN:=Lib.hid hlon
      obtain⟨vv,gv,pv,hblk,hbo⟩:=hbkn
      obtain⟨va9,vc9,rfl⟩:=hbo.vers.shape
      obtain⟨ga9,gc9,rfl⟩:=GOwn.shape hbo.gone
      obtain⟨pa9,pc9,rfl⟩:=hbo.parts.shape
      have HBK:=Lib.hid hblk
      have HBO:=Lib.hid hbo
      clear hg hqn9 hlon hblk hbo hqn
      generalize vals 8=j1 at*
      generalize vals 9=j2 at*
      generalize vals 10=j3 at*
      generalize vals 11=j4 at*
      obtain⟨T2,hT2⟩: ∃T2:Nat→Prop,T2=fun q=>BB≤q∧q≠qn:=⟨_,rfl⟩
      have HTE:=Lib.hid hT2
      have hz1:=HST2.out.size
      have hz2:=HS14.out.size
      have hz3:=HB15.out.size
      have hz4:=HLN.out
      have hz5:=HGB.out
      have hz6:=HQB.out
      have HNG:=Lib.hid (show ¬T2 gi by rw[hT2];intro h;omega)
      have HTB:=Lib.hid (show TownAt w15 BB T2 g t2 from(HT14.out.retype fun q h1 h2=>by rw[hT2];exact ⟨h2,by omega⟩).below HB15.out)
      have HQN:=Lib.hid (show qn < w15.heap.size from hlt_of HBK.out)
      have HTN2:=Lib.hid (show ∀wx:World,w15.heap.size≤wx.heap.size→ ∀q,wx.heap.size≤q→T2 q from fun wx h q hq=>by
       rw[hT2];have h1:=HQN.out;exact ⟨by omega,by omega⟩)
      obtain⟨E9,hE9⟩: ∃E9,E9=tookE si bt:=⟨_,rfl⟩
      obtain⟨s9,hs9⟩: ∃s9,s9=tookS si bt:=⟨_,rfl⟩
      have HQG:=Lib.hid (show ¬(qs=gi∨T2 qs) by
       have h1:=HST2.out.dir.off (q:=qs) rfl
       rw[hT2]
       rintro(e | e)
       ·exact h1 (by rw[e];exact List.mem_of_getElem? HGI.out)
       ·omega)
      have HGK:=Lib.hid (fun (wx:World) (hs:Stp (fun q=>q=gi∨T2 q) w15 wx)=>show wx.cell? ⟨qs,ki,none⟩=some (.pointer (some ⟨gi,0,none⟩)) from
       (hs.sp.cell (p:=⟨qs,ki,none⟩) (by show qs < _;omega) HQG.out).trans (ckeep HB15.out HCI.out))
      have HBKK:=Lib.hid (fun (wx:World) (hs:Stp (fun q=>q=gi∨T2 q) w15 wx)=>hs.block HBK.out (show ¬(qn=gi∨T2 qn) by
       rw[hT2];rintro (e | e)
       ·omega
       ·exact e.2 rfl))
      have HSIK:=Lib.hid (HSI.out.below HB15.out)
      have HMK:=Lib.hid (fun (wx:World) (hs:Stp T2 w15 wx) (hg:Stp (fun q=>q=gi∨T2 q) w15 wx)=>show Calls Tryz.prog 23 #[.pointer (some ⟨gi,0,none⟩), .agg #[.int .i64 bt.site, .int .i64 bt.stamp, .slice va9 bt.V.length vc9, .slice ga9 bt.G.length gc9, .slice pa9 bt.S.length pc9]] wx fun e w'=>e= .returned (.int .i64 E9)∧SiteAt w' w2.heap.size gi s9∧Stp (fun q=>q=gi) wx w' from by
       rw[hE9,hs9]
       exact takeV_c gi w2.heap.size 0 si bt _ wx (HSIK.out.stp hs HNG.out) HBTOK.out ⟨_,_,_,_,_,_,rfl,HBO.out.stp hg⟩)
      have HKI2:=Lib.hid (show ki < t2.sites.length by rw[HE2.out];exact HIL.out)
      have hsi2:t2.sites[ki]'HKI2.out=si:=(List.getElem_of_eq HE2.out _).trans hsi
      obtain⟨t3,ht3⟩: ∃t3,t3=takeT t2 ki HKI2.out bt:=⟨_,rfl⟩
      have HBR:=Lib.hid (fun (wx:World) (hx:TownAt wx BB T2 g t2) (hz:w15.heap.size≤wx.heap.size)=>show Calls Tryz.prog 20 #[.pointer (some ⟨g,0,none⟩), .int .i64 1] wx fun e w'=>e= .returned (.int .i64 E9)∧TownAt w' BB T2 g t3∧Stp T2 wx w' from by
       have h1:=tbring_bat g BB T2 t2 1 ki bt (by rw[HW2.out];rfl) wx hx (HTN2.out wx hz) HKI2.out
       rw[hsi2,←hE9,←ht3] at h1
       exact h1)
      have hw3:t3.way=[.ask kj ak, .bat ki bt]:=by rw[ht3];exact HW2.out
      have he3:t3.sites=t.sites.set ki s9:=by
       rw[ht3]
       show t2.sites.set ki (tookS (t2.sites[ki]'HKI2.out) bt)=_
       rw[hsi2,←hs9,HE2.out]
      obtain⟨t4,ht4⟩: ∃t4,t4=loseT t3 0:=⟨_,rfl⟩
      obtain⟨t5,ht5⟩: ∃t5,t5=loseT t4 0:=⟨_,rfl⟩
      have hw4:t4.way=[.bat ki bt]:=by rw[ht4];show t3.way.eraseIdx 0=_;rw [hw3];rfl
      have HL3:=Lib.hid (show t3.way.length=2 by rw[hw3];rfl)
      have HL4:=Lib.hid (show t4.way.length=1 by rw[hw4];rfl)
      have HL5:=Lib.hid (show t5.way.length=0 by rw[ht5];show (t4.way.eraseIdx 0).length=_;rw [hw4];rfl)
      have HW5:=Lib.hid (show t5.way=[] by rw[ht5];show t4.way.eraseIdx 0=_;rw [hw4];rfl)
      have HE5:=Lib.hid (show t5.sites=t.sites.set ki s9 by rw[ht5];show t4.sites=_;rw [ht4];exact he3)
      have lose: ∀(u v:TownS) (wx:World),v=loseT u 0→0 < u.way.length→TownAt wx BB T2 g u→Calls Tryz.prog 24 #[.pointer (some ⟨g,0,none⟩), .int .i64 0] wx fun e w'=>e= .returned (.int .i64 0)∧TownAt w' BB T2 g v∧Stp T2 wx w':=fun u v wx hv hu hx=>
       (tlose_c g BB T2 u (0:Nat) wx hx).mono fun e w' hh=>by
        obtain⟨h1,h2,h3⟩:=hh
        obtain⟨e1,e2⟩:=loseR_yes hu
        rw[e1] at h1
        rw[e2,←hv] at h2
        exact⟨h1,h2,h3⟩
      have HL1:=Lib.hid (fun (wx:World) (hx:TownAt wx BB T2 g t3)=>lose t3 t4 wx ht4 (by rw[hw3];exact Nat.zero_lt_succ _) hx)
      have HL2:=Lib.hid (fun (wx:World) (hx:TownAt wx BB T2 g t4)=>lose t4 t5 wx ht5 (by rw[hw4];exact Nat.zero_lt_succ _) hx)
      have hEE:(E9 != E9)=false:=by simp
      have HSTY:=Lib.hid HSIK.out.ty
      clear lose hw3 he3 ht3 ht4 ht5 hw4 hsi2 hE9 hs9 hz1 hz2 hz3 hz4 hz5 hz6 hT2 hsi hsj
      go_wp2_with fail
      refine Cl3.region0 194 rfl PreL (PreW BB g T2 gi w15) (fun _=>[]) (fun jq v ww=>match jq with | 0=>v= .int .i64 0 | 1=>v= .bool false | 2=>v= .bool false | 3=>v= .slice (some ⟨qs,0,none⟩) 4 sc | 4=>v= .int .i64 (ki:Nat) | 5=>v= .pointer (some ⟨qs,ki,none⟩) | 6=>v= .pointer (some ⟨gi,0,none⟩) | 7=>v= .agg #[.int .i64 bt.site, .int .i64 bt.stamp, .slice va9 bt.V.length vc9, .slice ga9 bt.G.length gc9, .slice pa9 bt.S.length pc9] | 8=>SiteAt ww w2.heap.size gi s9∧v= .int .i64 E9 | 9=>v= .pointer (some ⟨g,0,none⟩) | 10=>Tn3 BB g T2 t3 t4 t5 ww∧v= .int .i64 E9 | 11=>Tn3 BB g T2 t3 t4 t5 ww∧v= .bool false | 12=>Tn3 BB g T2 t3 t4 t5 ww∧v= .bool false | 13=>Tn3 BB g T2 t3 t4 t5 ww∧v= .bool false | 14=>v= .pointer (some ⟨g,0,none⟩) | 15=>Tn4 BB g T2 t4 t5 ww∧v= .int .i64 0 | 16=>Tn4 BB g T2 t4 t5 ww∧v= .bool false | 17=>Tn4 BB g T2 t4 t5 ww∧v= .bool false | 18=>Tn4 BB g T2 t4 t5 ww∧v= .bool false | 19=>v= .pointer (some ⟨g,0,none⟩) | 20=>TownAt ww BB T2 g t5∧v= .int .i64 0 | 21=>v= .bool false | 22=>v= .bool false | _=>True) (fun ww=>Stp (fun q=>q=gi∨T2 q) w15 ww) (fun jq ww ww'=>LastR BB g gi T2 t3 t4 t5 jq ww ww') Tryz.mixed (by decide+kernel) (Stp.refl _ _).drew (PreW.refl HTB.out (by rw[HW2.out];rfl) gi) ?_ (fun jq ww ww' u hk h hR=>PreW.step h hR HNG.out HL3.out HL4.out hk) ?_ ?_
      ·intro q r v w w' hne hk hlt h hR
       match r,hk,hlt,h,hne with
       | 0,_,_,h,_=>exact h
       | 1,_,_,h,_=>exact h
       | 2,_,_,h,_=>exact h
       | 3,_,_,h,_=>exact h
       | 4,_,_,h,_=>exact h
       | 5,_,_,h,_=>exact h
       | 6,_,_,h,_=>exact h
       | 7,_,_,h,_=>exact h
       | 8,hk,hlt,h,hne=>
        by_cases e:q=10∨q=15∨q=20
        ·exact⟨h.1.stp (hR.twn e) HNG.out,h.2⟩
        ·exact⟨h.1.below (hR.bel (by exact hne) (fun e2=>e (.inl e2)) (fun e2=>e (.inr (.inl e2))) (fun e2=>e (.inr (.inr e2)))),h.2⟩
       | 9,_,_,h,_=>exact h
       | 10,hk,hlt,h,hne=>exact ⟨hR.tn3 HNG.out h.1 (by exact hne),h.2⟩
       | 11,hk,hlt,h,hne=>exact ⟨hR.tn3 HNG.out h.1 (by intro e2;subst e2;exact absurd hlt (by decide+kernel)),h.2⟩
       | 12,hk,hlt,h,hne=>exact ⟨hR.tn3 HNG.out h.1 (by intro e2;subst e2;exact absurd hlt (by decide+kernel)),h.2⟩
       | 13,hk,hlt,h,hne=>exact ⟨hR.tn3 HNG.out h.1 (by intro e2;subst e2;exact absurd hlt (by decide+kernel)),h.2⟩
       | 14,_,_,h,_=>exact h
       | 15,hk,hlt,h,hne=>exact ⟨hR.tn4 HNG.out h.1 (by intro e2;subst e2;exact absurd hlt (by decide+kernel)) (by exact hne),h.2⟩
       | 16,hk,hlt,h,hne=>exact ⟨hR.tn4 HNG.out h.1 (by intro e2;subst e2;exact absurd hlt (by decide+kernel)) (by intro e2;subst e2;exact absurd hlt (by decide+kernel)),h.2⟩
       | 17,hk,hlt,h,hne=>exact ⟨hR.tn4 HNG.out h.1 (by intro e2;subst e2;exact absurd hlt (by decide+kernel)) (by intro e2;subst e2;exact absurd hlt (by decide+kernel)),h.2⟩
       | 18,hk,hlt,h,hne=>exact ⟨hR.tn4 HNG.out h.1 (by intro e2;subst e2;exact absurd hlt (by decide+kernel)) (by intro e2;subst e2;exact absurd hlt (by decide+kernel)),h.2⟩
       | 19,_,_,h,_=>exact h
       | 20,hk,hlt,h,hne=>exact ⟨hR.keep HNG.out h.1 (by intro e2;subst e2;exact absurd hlt (by decide+kernel)) (by intro e2;subst e2;exact absurd hlt (by decide+kernel)) (by exact hne),h.2⟩
       | 21,_,_,h,_=>exact h
       | 22,_,_,h,_=>exact h
       | _+23,_,_,_,_=>trivial
      ·refine⟨?_, ?_, ?_, ?_, ?_, ?_, ?_, ?_, ?_, ?_, ?_, ?_, ?_, ?_, ?_, ?_, ?_, ?_, ?_, ?_, ?_, ?_, ?_,trivial⟩
       ·intro x wx hG
        have f20:=hG.old 20 (by decide+kernel)
        have hg:=hG.good
        clear hG
        go_wp2
        exact⟨_,rfl,rfl,hg,LastR.read (by decide) (by decide) (by decide) (by decide) (Below.refl _ _)⟩
       ·intro x wx hG
        have g0:(x.tmps.getD 147 undef)= .int .i64 0:=hG.claims 0 _ rfl (by decide+kernel) (by decide+kernel)
        have g0b:=g0
        rw[Array.getD_eq_getD_getElem?] at g0b
        have hg:=hG.good
        clear hG
        go_wp2
        exact⟨_,rfl,rfl,hg,LastR.read (by decide) (by decide) (by decide) (by decide) (Below.refl _ _)⟩
       ·intro x wx hG
        have g1:(x.tmps.getD 148 undef)= .bool false:=hG.claims 1 _ rfl (by decide+kernel) (by decide+kernel)
        have g1b:=g1
        rw[Array.getD_eq_getD_getElem?] at g1b
        have hg:=hG.good
        clear hG
        go_wp2
        exact⟨_,rfl,rfl,hg,LastR.read (by decide) (by decide) (by decide) (by decide) (Below.refl _ _)⟩
       ·intro x wx hG
        have f5:=hG.old 5 (by decide+kernel)
        have gg:(x.tmps.getD 149 undef)= .bool false:=hG.claims 2 _ rfl (by decide+kernel) (by decide+kernel)
        replace gg:=Cl3.opt (hG.size.trans (show _=194 from rfl)) (by decide) gg
        have hg:=hG.good
        clear hG
        go_wp2
        exact⟨_,rfl,rfl,hg,LastR.read (by decide) (by decide) (by decide) (by decide) (Below.refl _ _)⟩
       ·intro x wx hG
        have f11:=hG.old 11 (by decide+kernel)
        have gg:(x.tmps.getD 149 undef)= .bool false:=hG.claims 2 _ rfl (by decide+kernel) (by decide+kernel)
        replace gg:=Cl3.opt (hG.size.trans (show _=194 from rfl)) (by decide) gg
        have hg:=hG.good
        clear hG
        go_wp2
        exact⟨_,rfl,rfl,hg,LastR.read (by decide) (by decide) (by decide) (by decide) (Below.refl _ _)⟩
       ·intro x wx hG
        have g3:(x.tmps.getD 150 undef)= .slice (some ⟨qs,0,none⟩) 4 sc:=hG.claims 3 _ rfl (by decide+kernel) (by decide+kernel)
        have g3b:=g3
        rw[Array.getD_eq_getD_getElem?] at g3b
        have g4:(x.tmps.getD 151 undef)= .int .i64 (ki:Nat):=hG.claims 4 _ rfl (by decide+kernel) (by decide+kernel)
        have g4b:=g4
        rw[Array.getD_eq_getD_getElem?] at g4b
        have gg:(x.tmps.getD 149 undef)= .bool false:=hG.claims 2 _ rfl (by decide+kernel) (by decide+kernel)
        replace gg:=Cl3.opt (hG.size.trans (show _=194 from rfl)) (by decide) gg
        have hg:=hG.good
        clear hG
        go_wp2
        exact⟨_,rfl,rfl,hg,LastR.read (by decide) (by decide) (by decide) (by decide) (Below.refl _ _)⟩
       ·intro x wx hG
        have g5:(x.tmps.getD 152 undef)= .pointer (some ⟨qs,ki,none⟩):=hG.claims 5 _ rfl (by decide+kernel) (by decide+kernel)
        have g5b:=g5
        rw[Array.getD_eq_getD_getElem?] at g5b
        have gg:(x.tmps.getD 149 undef)= .bool false:=hG.claims 2 _ rfl (by decide+kernel) (by decide+kernel)
        replace gg:=Cl3.opt (hG.size.trans (show _=194 from rfl)) (by decide) gg
        have hg:=hG.good
        clear hG
        have cci:=HGK.out wx hg
        go_wp2
        exact⟨_,rfl,rfl,hg,LastR.read (by decide) (by decide) (by decide) (by decide) (Below.refl _ _)⟩
       ·intro x wx hG
        have f19:=hG.old 19 (by decide+kernel)
        have gg:(x.tmps.getD 149 undef)= .bool false:=hG.claims 2 _ rfl (by decide+kernel) (by decide+kernel)
        replace gg:=Cl3.opt (hG.size.trans (show _=194 from rfl)) (by decide) gg
        have hg:=hG.good
        clear hG
        have hbk:=HBKK.out wx hg
        have d0:=cell_of_block (j:=0) hbk rfl
        have d1:=cell_of_block (j:=1) hbk rfl
        have d2:=cell_of_block (j:=2) hbk rfl
        have d3:=cell_of_block (j:=3) hbk rfl
        have d4:=cell_of_block (j:=4) hbk rfl
        go_wp2
        exact⟨_,rfl,rfl,hg,LastR.read (by decide) (by decide) (by decide) (by decide) (Below.refl _ _)⟩
       ·intro x wx hG
        have g6:(x.tmps.getD 153 undef)= .pointer (some ⟨gi,0,none⟩):=hG.claims 6 _ rfl (by decide+kernel) (by decide+kernel)
        have g6b:=g6
        rw[Array.getD_eq_getD_getElem?] at g6b
        have g7:(x.tmps.getD 154 undef)= .agg #[.int .i64 bt.site, .int .i64 bt.stamp, .slice va9 bt.V.length vc9, .slice ga9 bt.G.length gc9, .slice pa9 bt.S.length pc9]:=hG.claims 7 _ rfl (by decide+kernel) (by decide+kernel)
        have g7b:=g7
        rw[Array.getD_eq_getD_getElem?] at g7b
        have gg:(x.tmps.getD 149 undef)= .bool false:=hG.claims 2 _ rfl (by decide+kernel) (by decide+kernel)
        replace gg:=Cl3.opt (hG.size.trans (show _=194 from rfl)) (by decide) gg
        have hp0:=hG.pre 0 (by decide+kernel)
        have hg:=hG.good
        clear hG
        have HTYP:=Lib.hid ((HSIK.out.stp hp0.z HNG.out).ty)
        have HN:=Lib.hid (HMK.out wx hp0.z hg)
        go_wp2_with fail
        (with_reducible refine(HN.out).mono ?_)
        rintro e wq ⟨rfl,h1,h2⟩
        have H1:=Lib.hid h1
        have H2:=Lib.hid h2
        clear h1 h2 HN
        go_wp2
        exact⟨_,rfl,⟨H1.out,rfl⟩,hg.trans (H2.out.mono fun q hq=> .inl hq),⟨fun h _ _ _=>absurd rfl h,fun _=>⟨H2.out,HTYP.out⟩,fun h=>absurd h (by decide),fun h=>absurd h (by decide),fun h=>absurd h (by decide),fun h=>absurd h (by decide)⟩⟩
       ·intro x wx hG
        have f7:=hG.old 7 (by decide+kernel)
        have gg:(x.tmps.getD 149 undef)= .bool false:=hG.claims 2 _ rfl (by decide+kernel) (by decide+kernel)
        replace gg:=Cl3.opt (hG.size.trans (show _=194 from rfl)) (by decide) gg
        have hg:=hG.good
        clear hG
        go_wp2
        exact⟨_,rfl,rfl,hg,LastR.read (by decide) (by decide) (by decide) (by decide) (Below.refl _ _)⟩
       ·intro x wx hG
        have g9:(x.tmps.getD 156 undef)= .pointer (some ⟨g,0,none⟩):=hG.claims 9 _ rfl (by decide+kernel) (by decide+kernel)
        have g9b:=g9
        rw[Array.getD_eq_getD_getElem?] at g9b
        have gg:(x.tmps.getD 149 undef)= .bool false:=hG.claims 2 _ rfl (by decide+kernel) (by decide+kernel)
        replace gg:=Cl3.opt (hG.size.trans (show _=194 from rfl)) (by decide) gg
        have hp1:=hG.pre 1 (by decide+kernel)
        have hg:=hG.good
        clear hG
        have HN:=Lib.hid (HBR.out wx (HTB.out.apart hp1.s fun z hz=>⟨by rw[hz];exact HNG.out,by rw[hz];exact HSTY.out⟩) hg.size)
        go_wp2_with fail
        (with_reducible refine(HN.out).mono ?_)
        rintro e wq ⟨rfl,h1,h2⟩
        have H1:=Lib.hid h1
        have H2:=Lib.hid h2
        clear h1 h2 HN
        go_wp2
        exact⟨_,rfl,⟨.inl H1.out,rfl⟩,hg.trans (H2.out.mono fun q hq=> .inr hq),⟨fun _ h _ _=>absurd rfl h,fun h=>absurd h (by decide),fun _=>H2.out,fun _=>H1.out,fun h=>absurd h (by decide),fun h=>absurd h (by decide)⟩⟩
       ·intro x wx hG
        have g8:SiteAt wx w2.heap.size gi s9∧(x.tmps.getD 155 undef)= .int .i64 E9:=hG.claims 8 _ rfl (by decide+kernel) (by decide+kernel)
        have g10:Tn3 BB g T2 t3 t4 t5 wx∧(x.tmps.getD 157 undef)= .int .i64 E9:=hG.claims 10 _ rfl (by decide+kernel) (by decide+kernel)
        have gg:(x.tmps.getD 149 undef)= .bool false:=hG.claims 2 _ rfl (by decide+kernel) (by decide+kernel)
        replace gg:=Cl3.opt (hG.size.trans (show _=194 from rfl)) (by decide) gg
        have hg:=hG.good
        clear hG
        have g8v:=g8.2
        have g8vb:=g8v
        rw[Array.getD_eq_getD_getElem?] at g8vb
        have g10v:=g10.2
        have g10vb:=g10v
        rw[Array.getD_eq_getD_getElem?] at g10vb
        go_wp2
        exact⟨_,rfl,⟨g10.1,rfl⟩,hg,LastR.read (by decide) (by decide) (by decide) (by decide) (Below.refl _ _)⟩
       ·intro x wx hG
        have g2:(x.tmps.getD 149 undef)= .bool false:=hG.claims 2 _ rfl (by decide+kernel) (by decide+kernel)
        have g2b:=g2
        rw[Array.getD_eq_getD_getElem?] at g2b
        have g11:Tn3 BB g T2 t3 t4 t5 wx∧(x.tmps.getD 158 undef)= .bool false:=hG.claims 11 _ rfl (by decide+kernel) (by decide+kernel)
        have hg:=hG.good
        clear hG
        have g11v:=g11.2
        have g11vb:=g11v
        rw[Array.getD_eq_getD_getElem?] at g11vb
        go_wp2
        exact⟨_,rfl,⟨g11.1,rfl⟩,hg,LastR.read (by decide) (by decide) (by decide) (by decide) (Below.refl _ _)⟩
       ·intro x wx hG
        have g12:Tn3 BB g T2 t3 t4 t5 wx∧(x.tmps.getD 159 undef)= .bool false:=hG.claims 12 _ rfl (by decide+kernel) (by decide+kernel)
        have hg:=hG.good
        clear hG
        have g12v:=g12.2
        have g12vb:=g12v
        rw[Array.getD_eq_getD_getElem?] at g12vb
        go_wp2
        exact⟨_,rfl,⟨g12.1,rfl⟩,hg,LastR.read (by decide) (by decide) (by decide) (by decide) (Below.refl _ _)⟩
       ·intro x wx hG
        have f7:=hG.old 7 (by decide+kernel)
        have gg:Tn3 BB g T2 t3 t4 t5 wx∧(x.tmps.getD 160 undef)= .bool false:=hG.claims 13 _ rfl (by decide+kernel) (by decide+kernel)
        replace gg:=gg.2
        replace gg:=Cl3.opt (hG.size.trans (show _=194 from rfl)) (by decide) gg
        have hg:=hG.good
        clear hG
        go_wp2
        exact⟨_,rfl,rfl,hg,LastR.read (by decide) (by decide) (by decide) (by decide) (Below.refl _ _)⟩
       ·intro x wx hG
        have g14:(x.tmps.getD 161 undef)= .pointer (some ⟨g,0,none⟩):=hG.claims 14 _ rfl (by decide+kernel) (by decide+kernel)
        have g14b:=g14
        rw[Array.getD_eq_getD_getElem?] at g14b
        have g13:Tn3 BB g T2 t3 t4 t5 wx∧(x.tmps.getD 160 undef)= .bool false:=hG.claims 13 _ rfl (by decide+kernel) (by decide+kernel)
        have gg:Tn3 BB g T2 t3 t4 t5 wx∧(x.tmps.getD 160 undef)= .bool false:=hG.claims 13 _ rfl (by decide+kernel) (by decide+kernel)
        replace gg:=gg.2
        replace gg:=Cl3.opt (hG.size.trans (show _=194 from rfl)) (by decide) gg
        have hp2:=hG.pre 2 (by decide+kernel)
        have hg:=hG.good
        clear hG
        have g13v:=g13.2
        have g13vb:=g13v
        rw[Array.getD_eq_getD_getElem?] at g13vb
        have HN:=Lib.hid (HL1.out wx (g13.1.is3 hp2 HL4.out HL5.out))
        go_wp2_with fail
        (with_reducible refine(HN.out).mono ?_)
        rintro e wq ⟨rfl,h1,h2⟩
        have H1:=Lib.hid h1
        have H2:=Lib.hid h2
        clear h1 h2 HN
        go_wp2
        exact⟨_,rfl,⟨.inl H1.out,rfl⟩,hg.trans (H2.out.mono fun q hq=> .inr hq),⟨fun _ _ h _=>absurd rfl h,fun h=>absurd h (by decide),fun _=>H2.out,fun h=>absurd h (by decide),fun _=>H1.out,fun h=>absurd h (by decide)⟩⟩
       ·intro x wx hG
        have g15:Tn4 BB g T2 t4 t5 wx∧(x.tmps.getD 162 undef)= .int .i64 0:=hG.claims 15 _ rfl (by decide+kernel) (by decide+kernel)
        have gg:Tn3 BB g T2 t3 t4 t5 wx∧(x.tmps.getD 160 undef)= .bool false:=hG.claims 13 _ rfl (by decide+kernel) (by decide+kernel)
        replace gg:=gg.2
        replace gg:=Cl3.opt (hG.size.trans (show _=194 from rfl)) (by decide) gg
        have hg:=hG.good
        clear hG
        have g15v:=g15.2
        have g15vb:=g15v
        rw[Array.getD_eq_getD_getElem?] at g15vb
        go_wp2
        exact⟨_,rfl,⟨g15.1,rfl⟩,hg,LastR.read (by decide) (by decide) (by decide) (by decide) (Below.refl _ _)⟩
       ·intro x wx hG
        have g13:Tn3 BB g T2 t3 t4 t5 wx∧(x.tmps.getD 160 undef)= .bool false:=hG.claims 13 _ rfl (by decide+kernel) (by decide+kernel)
        have g16:Tn4 BB g T2 t4 t5 wx∧(x.tmps.getD 163 undef)= .bool false:=hG.claims 16 _ rfl (by decide+kernel) (by decide+kernel)
        have hg:=hG.good
        clear hG
        have g13v:=g13.2
        have g13vb:=g13v
        rw[Array.getD_eq_getD_getElem?] at g13vb
        have g16v:=g16.2
        have g16vb:=g16v
        rw[Array.getD_eq_getD_getElem?] at g16vb
        go_wp2
        exact⟨_,rfl,⟨g16.1,rfl⟩,hg,LastR.read (by decide) (by decide) (by decide) (by decide) (Below.refl _ _)⟩
       ·intro x wx hG
        have g17:Tn4 BB g T2 t4 t5 wx∧(x.tmps.getD 164 undef)= .bool false:=hG.claims 17 _ rfl (by decide+kernel) (by decide+kernel)
        have hg:=hG.good
        clear hG
        have g17v:=g17.2
        have g17vb:=g17v
        rw[Array.getD_eq_getD_getElem?] at g17vb
        go_wp2
        exact⟨_,rfl,⟨g17.1,rfl⟩,hg,LastR.read (by decide) (by decide) (by decide) (by decide) (Below.refl _ _)⟩
       ·intro x wx hG
        have f7:=hG.old 7 (by decide+kernel)
        have gg:Tn4 BB g T2 t4 t5 wx∧(x.tmps.getD 165 undef)= .bool false:=hG.claims 18 _ rfl (by decide+kernel) (by decide+kernel)
        replace gg:=gg.2
        replace gg:=Cl3.opt (hG.size.trans (show _=194 from rfl)) (by decide) gg
        have hg:=hG.good
        clear hG
        go_wp2
        exact⟨_,rfl,rfl,hg,LastR.read (by decide) (by decide) (by decide) (by decide) (Below.refl _ _)⟩
       ·intro x wx hG
        have g19:(x.tmps.getD 166 undef)= .pointer (some ⟨g,0,none⟩):=hG.claims 19 _ rfl (by decide+kernel) (by decide+kernel)
        have g19b:=g19
        rw[Array.getD_eq_getD_getElem?] at g19b
        have g18:Tn4 BB g T2 t4 t5 wx∧(x.tmps.getD 165 undef)= .bool false:=hG.claims 18 _ rfl (by decide+kernel) (by decide+kernel)
        have gg:Tn4 BB g T2 t4 t5 wx∧(x.tmps.getD 165 undef)= .bool false:=hG.claims 18 _ rfl (by decide+kernel) (by decide+kernel)
        replace gg:=gg.2
        replace gg:=Cl3.opt (hG.size.trans (show _=194 from rfl)) (by decide) gg
        have hp3:=hG.pre 3 (by decide+kernel)
        have hg:=hG.good
        clear hG
        have g18v:=g18.2
        have g18vb:=g18v
        rw[Array.getD_eq_getD_getElem?] at g18vb
        have HN:=Lib.hid (HL2.out wx (g18.1.is4 hp3 HL5.out))
        go_wp2_with fail
        (with_reducible refine(HN.out).mono ?_)
        rintro e wq ⟨rfl,h1,h2⟩
        have H1:=Lib.hid h1
        have H2:=Lib.hid h2
        clear h1 h2 HN
        go_wp2
        exact⟨_,rfl,⟨H1.out,rfl⟩,hg.trans (H2.out.mono fun q hq=> .inr hq),⟨fun _ _ _ h=>absurd rfl h,fun h=>absurd h (by decide),fun _=>H2.out,fun h=>absurd h (by decide),fun h=>absurd h (by decide),fun _=>H1.out⟩⟩
       ·intro x wx hG
        have g20:TownAt wx BB T2 g t5∧(x.tmps.getD 167 undef)= .int .i64 0:=hG.claims 20 _ rfl (by decide+kernel) (by decide+kernel)
        have gg:Tn4 BB g T2 t4 t5 wx∧(x.tmps.getD 165 undef)= .bool false:=hG.claims 18 _ rfl (by decide+kernel) (by decide+kernel)
        replace gg:=gg.2
        replace gg:=Cl3.opt (hG.size.trans (show _=194 from rfl)) (by decide) gg
        have hg:=hG.good
        clear hG
        have g20v:=g20.2
        have g20vb:=g20v
        rw[Array.getD_eq_getD_getElem?] at g20vb
        go_wp2
        exact⟨_,rfl,rfl,hg,LastR.read (by decide) (by decide) (by decide) (by decide) (Below.refl _ _)⟩
       ·intro x wx hG
        have g18:Tn4 BB g T2 t4 t5 wx∧(x.tmps.getD 165 undef)= .bool false:=hG.claims 18 _ rfl (by decide+kernel) (by decide+kernel)
        have g21:(x.tmps.getD 168 undef)= .bool false:=hG.claims 21 _ rfl (by decide+kernel) (by decide+kernel)
        have g21b:=g21
        rw[Array.getD_eq_getD_getElem?] at g21b
        have hg:=hG.good
        clear hG
        have g18v:=g18.2
        have g18vb:=g18v
        rw[Array.getD_eq_getD_getElem?] at g18vb
        go_wp2
        exact⟨_,rfl,rfl,hg,LastR.read (by decide) (by decide) (by decide) (by decide) (Below.refl _ _)⟩
      ·intro vals w16 hg hF
       obtain⟨g0,g1,g2,g3,g4,g5,g6,g7,g8,g9,g10,g11,g12,g13,g14,g15,g16,g17,g18,g19,g20,g21,g22, -⟩:=hF
       have e0:vals 0= .int .i64 0:=g0 rfl
       have e1:vals 1= .bool false:=g1 rfl
       have e2:vals 2= .bool false:=g2 rfl
       have e3:vals 3= .slice (some ⟨qs,0,none⟩) 4 sc:=g3 rfl
       have e4:vals 4= .int .i64 (ki:Nat):=g4 rfl
       have e5:vals 5= .pointer (some ⟨qs,ki,none⟩):=g5 rfl
       have e6:vals 6= .pointer (some ⟨gi,0,none⟩):=g6 rfl
       have e7:vals 7= .agg #[.int .i64 bt.site, .int .i64 bt.stamp, .slice va9 bt.V.length vc9, .slice ga9 bt.G.length gc9, .slice pa9 bt.S.length pc9]:=g7 rfl
       replace g8:SiteAt w16 w2.heap.size gi s9∧(vals 8)= .int .i64 E9:=g8 rfl
       have e9:vals 9= .pointer (some ⟨g,0,none⟩):=g9 rfl
       replace g10:Tn3 BB g T2 t3 t4 t5 w16∧(vals 10)= .int .i64 E9:=g10 rfl
       replace g11:Tn3 BB g T2 t3 t4 t5 w16∧(vals 11)= .bool false:=g11 rfl
       replace g12:Tn3 BB g T2 t3 t4 t5 w16∧(vals 12)= .bool false:=g12 rfl
       replace g13:Tn3 BB g T2 t3 t4 t5 w16∧(vals 13)= .bool false:=g13 rfl
       have e14:vals 14= .pointer (some ⟨g,0,none⟩):=g14 rfl
       replace g15:Tn4 BB g T2 t4 t5 w16∧(vals 15)= .int .i64 0:=g15 rfl
       replace g16:Tn4 BB g T2 t4 t5 w16∧(vals 16)= .bool false:=g16 rfl
       replace g17:Tn4 BB g T2 t4 t5 w16∧(vals 17)= .bool false:=g17 rfl
       replace g18:Tn4 BB g T2 t4 t5 w16∧(vals 18)= .bool false:=g18 rfl
       have e19:vals 19= .pointer (some ⟨g,0,none⟩):=g19 rfl
       replace g20:TownAt w16 BB T2 g t5∧(vals 20)= .int .i64 0:=g20 rfl
       have e21:vals 21= .bool false:=g21 rfl
       have e22:vals 22= .bool false:=g22 rfl
       simp only[Cl3.puts,e0,e1,e2,e3,e4,e5,e6,e7,e9,e14,e19,e21,e22]
       clear e0 e1 e2 e3 e4 e5 e6 e7 e9 e14 e19 e21 e22 g0 g1 g2 g3 g4 g5 g6 g7 g9 g14 g19 g21 g22
       go_simp
       generalize vals 8=mk8 at*
       generalize vals 10=mk10 at*
       generalize vals 11=mq158 at*
       generalize vals 12=mq159 at*
       generalize vals 13=mq160 at*
       generalize vals 15=mk15 at*
       generalize vals 16=mq163 at*
       generalize vals 17=mq164 at*
       generalize vals 18=mq165 at*
       generalize vals 20=mk20 at*
       have HG:=Lib.hid hg
       have HS16:=Lib.hid g8.1
       have HT16:=Lib.hid g20.1
       clear g8 g20 hg g10 g11 g12 g13 g15 g16 g17 g18
       go_wp2
       go_meet
       case rel=>
        have hs:Stp (fun q=>q=gi∨BB≤q) w12 w16:=((HS14.out.mono fun q hq=> .inr hq).trans (Stp.of_below HB15.out)).trans (HG.out.mono fun q hq=>by
         rcases hq with e | e
         ·exact .inl e
         ·rw[HTE.out] at e;exact .inr e.1)
        refine⟨t5,HST2.out.both HGI.out hs HS16.out (HT16.out.retype fun q _ e=>by rw[HTE.out] at e;exact e.1) HE5.out HW5.out, ?_⟩
        exact((Stp.of_below (G:=fun q=>w2.heap.size≤q) HBA2.out).trans (hs.only fun q _ e=>by
         rcases e with e | e
         ·rw[e];exact HS16.out.ge
         ·exact Nat.le_trans HBB.out e)).sp.toBelow (base:=w2.heap.size) (fun q hq=>hq) (Nat.le_refl _)
    subst hkm0
    obtain⟨k0,hk0⟩: ∃k0,k0=wiN x2 2:=⟨_,rfl⟩
    obtain⟨k1,hk1⟩: ∃k1,k1=wiN x2 16:=⟨_,rfl⟩
    obtain⟨k2,hk2⟩: ∃k2,k2=wiN x2 32:=⟨_,rfl⟩
    have hk02:k0 < 2:=by rw[hk0];exact wiN_lt x2 2 (by decide)
    have HW0:=Lib.hid (fun (y:World)=>wiN_c x2 2 y (by decide) (by decide))
    have HW1:=Lib.hid (fun (y:World)=>wiN_c x2 16 y (by decide) (by decide))
    have HW2:=Lib.hid (fun (y:World)=>wiN_c x2 32 y (by decide) (by decide))
    rw[←hk0] at HW0
    rw[←hk1] at HW1
    rw[←hk2] at HW2
    have HK0:=Lib.hid hk02
    have HNM:=Lib.hid (names2 hk02)
    have hd0:(((0:Nat):Int)==0)=true:=by decide
    clear hk0 hk1 hk2 hk02
    go_wp2_with fail
    refine Cl2.region0 194 rfl [] (fun _=>True) (fun jq=>match jq with | 16=>[18] | _=>[]) (fun jq v ww=>match jq with | 0=>StrRow ww w12.heap.size 2 #[.string { data:= #[97] }, .string { data:= #[98] }] v | 1=>v= .slice (some ⟨cb,coff,none⟩) cs.length uc | 2=>v= .pointer (some ⟨cb,coff+2,none⟩) | 3=>v= .int .i64 x2 | 4=>v= .int .i64 (k0:Nat) | 5=>StrPt ww w12.heap.size k0 #[.string { data:= #[97] }, .string { data:= #[98] }] v | 6=>v= .string (sidA k0) | 7=>v= .slice (some ⟨cb,coff,none⟩) cs.length uc | 8=>v= .pointer (some ⟨cb,coff+2,none⟩) | 9=>v= .int .i64 x2 | 10=>v= .int .i64 (k1:Nat) | 11=>v= .slice (some ⟨cb,coff,none⟩) cs.length uc | 12=>v= .pointer (some ⟨cb,coff+2,none⟩) | 13=>v= .int .i64 x2 | 14=>v= .int .i64 (k2:Nat) | 15=>v= .agg #[.int .i64 (k1:Nat), .int .i64 (k2:Nat)] | 16=>PtNew ww w12.heap.size v | 17=>v= .string (sidA k0) | 18=>PtIs ww w12.heap.size (k1:Nat) (k2:Nat) v | _=>True) (fun ww=>Below w12.heap.size w12 ww) (fun jq ww ww'=>(jq≠18→Below ww.heap.size ww ww')∧(jq=18→PtSet w12.heap.size ww ww')) Tryz.mixed (by decide+kernel) (Below.refl _ _).drew trivial ?_ (fun _ _ _ _ _ _=>trivial) ?_ ?_
    ·intro q r v w w' hne hk hlt h hR
     match r,hk,hlt,h,hne with
     | 0,hk,hlt,h,hne=>
      by_cases e:q=18
      ·exact h.pt (hR.2 e)
      ·exact h.below (hR.1 e)
     | 1,_,_,h,_=>exact h
     | 2,_,_,h,_=>exact h
     | 3,_,_,h,_=>exact h
     | 4,_,_,h,_=>exact h
     | 5,hk,hlt,h,hne=>
      by_cases e:q=18
      ·exact h.pt (hR.2 e)
      ·exact h.below (hR.1 e)
     | 6,_,_,h,_=>exact h
     | 7,_,_,h,_=>exact h
     | 8,_,_,h,_=>exact h
     | 9,_,_,h,_=>exact h
     | 10,_,_,h,_=>exact h
     | 11,_,_,h,_=>exact h
     | 12,_,_,h,_=>exact h
     | 13,_,_,h,_=>exact h
     | 14,_,_,h,_=>exact h
     | 15,_,_,h,_=>exact h
     | 16,hk,hlt,h,hne=>exact h.below (hR.1 (by simpa using hk))
     | 17,_,_,h,_=>exact h
     | 18,hk,hlt,h,hne=>exact h.below (hR.1 (by exact hne))
     | _+19,_,_,_,_=>trivial
    ·refine⟨?_, ?_, ?_, ?_, ?_, ?_, ?_, ?_, ?_, ?_, ?_, ?_, ?_, ?_, ?_, ?_, ?_, ?_, ?_,trivial⟩
     ·intro x wx hG
      have hg:=hG.good
      clear hG
      go_wp2
      exact⟨_,rfl,⟨_,rfl,alloc_new _ _ _ _ rfl,hg.size⟩,bstep hg (bal _),⟨fun _=>bal _,fun h=>absurd h (by decide)⟩⟩
     ·intro x wx hG
      have f10:=hG.old 10 (by decide+kernel)
      have hg:=hG.good
      clear hG
      go_wp2
      exact⟨_,rfl,rfl,hg,⟨fun _=>Below.refl _ _,fun h=>absurd h (by decide)⟩⟩
     ·intro x wx hG
      have g1:(x.tmps.getD 80 undef)= .slice (some ⟨cb,coff,none⟩) cs.length uc:=hG.claims 1 _ rfl (by decide+kernel) (by decide+kernel)
      have g1b:=g1
      rw[Array.getD_eq_getD_getElem?] at g1b
      have hg:=hG.good
      clear hG
      go_wp2
      exact⟨_,rfl,rfl,hg,⟨fun _=>Below.refl _ _,fun h=>absurd h (by decide)⟩⟩
     ·intro x wx hG
      have g2:(x.tmps.getD 81 undef)= .pointer (some ⟨cb,coff+2,none⟩):=hG.claims 2 _ rfl (by decide+kernel) (by decide+kernel)
      have g2b:=g2
      rw[Array.getD_eq_getD_getElem?] at g2b
      have hg:=hG.good
      clear hG
      have c_HY2:=ckeep hg HY2.out
      go_wp2
      exact⟨_,rfl,rfl,hg,⟨fun _=>Below.refl _ _,fun h=>absurd h (by decide)⟩⟩
     ·intro x wx hG
      have g3:(x.tmps.getD 82 undef)= .int .i64 x2:=hG.claims 3 _ rfl (by decide+kernel) (by decide+kernel)
      have g3b:=g3
      rw[Array.getD_eq_getD_getElem?] at g3b
      have hg:=hG.good
      clear hG
      go_wp2_with fail
      (with_reducible refine(HW0.out wx).mono ?_)
      rintro e wq ⟨rfl,hb⟩
      have HBQ:=Lib.hid hb
      clear hb
      go_wp2
      exact⟨_,rfl,rfl,bstep hg HBQ.out,⟨fun _=>HBQ.out,fun h=>absurd h (by decide)⟩⟩
     ·intro x wx hG
      have g0:StrRow wx w12.heap.size 2 #[.string { data:= #[97] }, .string { data:= #[98] }] (x.tmps.getD 79 undef):=hG.claims 0 _ rfl (by decide+kernel) (by decide+kernel)
      have g4:(x.tmps.getD 83 undef)= .int .i64 (k0:Nat):=hG.claims 4 _ rfl (by decide+kernel) (by decide+kernel)
      have g4b:=g4
      rw[Array.getD_eq_getD_getElem?] at g4b
      have hg:=hG.good
      clear hG
      obtain⟨q,hv,hq,hlo⟩:=g0
      have hvb:=hv
      rw[Array.getD_eq_getD_getElem?] at hvb
      have hk0:=HK0.out
      have hk1:(k0:Int) < 2:=by omega
      have HQ:=Lib.hid (And.intro hq hlo)
      clear hq hlo
      go_wp2
      exact⟨_,rfl,⟨q,by simp,HQ.out.1,HQ.out.2⟩,hg,⟨fun _=>Below.refl _ _,fun h=>absurd h (by decide)⟩⟩
     ·intro x wx hG
      have g5:StrPt wx w12.heap.size k0 #[.string { data:= #[97] }, .string { data:= #[98] }] (x.tmps.getD 84 undef):=hG.claims 5 _ rfl (by decide+kernel) (by decide+kernel)
      have hg:=hG.good
      clear hG
      obtain⟨q,hv,hq,hlo⟩:=g5
      have hvb:=hv
      rw[Array.getD_eq_getD_getElem?] at hvb
      have hcq:=cell_of_block (j:=k0) hq HNM.out
      clear hq hlo
      go_wp2
      exact⟨_,rfl,rfl,hg,⟨fun _=>Below.refl _ _,fun h=>absurd h (by decide)⟩⟩
     ·intro x wx hG
      have f10:=hG.old 10 (by decide+kernel)
      have hg:=hG.good
      clear hG
      go_wp2
      exact⟨_,rfl,rfl,hg,⟨fun _=>Below.refl _ _,fun h=>absurd h (by decide)⟩⟩
     ·intro x wx hG
      have g7:(x.tmps.getD 86 undef)= .slice (some ⟨cb,coff,none⟩) cs.length uc:=hG.claims 7 _ rfl (by decide+kernel) (by decide+kernel)
      have g7b:=g7
      rw[Array.getD_eq_getD_getElem?] at g7b
      have hg:=hG.good
      clear hG
      go_wp2
      exact⟨_,rfl,rfl,hg,⟨fun _=>Below.refl _ _,fun h=>absurd h (by decide)⟩⟩
     ·intro x wx hG
      have g8:(x.tmps.getD 87 undef)= .pointer (some ⟨cb,coff+2,none⟩):=hG.claims 8 _ rfl (by decide+kernel) (by decide+kernel)
      have g8b:=g8
      rw[Array.getD_eq_getD_getElem?] at g8b
      have hg:=hG.good
      clear hG
      have c_HY2:=ckeep hg HY2.out
      go_wp2
      exact⟨_,rfl,rfl,hg,⟨fun _=>Below.refl _ _,fun h=>absurd h (by decide)⟩⟩
     ·intro x wx hG
      have g9:(x.tmps.getD 88 undef)= .int .i64 x2:=hG.claims 9 _ rfl (by decide+kernel) (by decide+kernel)
      have g9b:=g9
      rw[Array.getD_eq_getD_getElem?] at g9b
      have hg:=hG.good
      clear hG
      go_wp2_with fail
      (with_reducible refine(HW1.out wx).mono ?_)
      rintro e wq ⟨rfl,hb⟩
      have HBQ:=Lib.hid hb
      clear hb
      go_wp2
      exact⟨_,rfl,rfl,bstep hg HBQ.out,⟨fun _=>HBQ.out,fun h=>absurd h (by decide)⟩⟩
     ·intro x wx hG
      have f10:=hG.old 10 (by decide+kernel)
      have hg:=hG.good
      clear hG
      go_wp2
      exact⟨_,rfl,rfl,hg,⟨fun _=>Below.refl _ _,fun h=>absurd h (by decide)⟩⟩
     ·intro x wx hG
      have g11:(x.tmps.getD 90 undef)= .slice (some ⟨cb,coff,none⟩) cs.length uc:=hG.claims 11 _ rfl (by decide+kernel) (by decide+kernel)
      have g11b:=g11
      rw[Array.getD_eq_getD_getElem?] at g11b
      have hg:=hG.good
      clear hG
      go_wp2
      exact⟨_,rfl,rfl,hg,⟨fun _=>Below.refl _ _,fun h=>absurd h (by decide)⟩⟩
     ·intro x wx hG
      have g12:(x.tmps.getD 91 undef)= .pointer (some ⟨cb,coff+2,none⟩):=hG.claims 12 _ rfl (by decide+kernel) (by decide+kernel)
      have g12b:=g12
      rw[Array.getD_eq_getD_getElem?] at g12b
      have hg:=hG.good
      clear hG
      have c_HY2:=ckeep hg HY2.out
      go_wp2
      exact⟨_,rfl,rfl,hg,⟨fun _=>Below.refl _ _,fun h=>absurd h (by decide)⟩⟩
     ·intro x wx hG
      have g13:(x.tmps.getD 92 undef)= .int .i64 x2:=hG.claims 13 _ rfl (by decide+kernel) (by decide+kernel)
      have g13b:=g13
      rw[Array.getD_eq_getD_getElem?] at g13b
      have hg:=hG.good
      clear hG
      go_wp2_with fail
      (with_reducible refine(HW2.out wx).mono ?_)
      rintro e wq ⟨rfl,hb⟩
      have HBQ:=Lib.hid hb
      clear hb
      go_wp2
      exact⟨_,rfl,rfl,bstep hg HBQ.out,⟨fun _=>HBQ.out,fun h=>absurd h (by decide)⟩⟩
     ·intro x wx hG
      have g10:(x.tmps.getD 89 undef)= .int .i64 (k1:Nat):=hG.claims 10 _ rfl (by decide+kernel) (by decide+kernel)
      have g10b:=g10
      rw[Array.getD_eq_getD_getElem?] at g10b
      have g14:(x.tmps.getD 93 undef)= .int .i64 (k2:Nat):=hG.claims 14 _ rfl (by decide+kernel) (by decide+kernel)
      have g14b:=g14
      rw[Array.getD_eq_getD_getElem?] at g14b
      have hg:=hG.good
      clear hG
      go_wp2
      exact⟨_,rfl,rfl,hg,⟨fun _=>Below.refl _ _,fun h=>absurd h (by decide)⟩⟩
     ·intro x wx hG
      have hg:=hG.good
      clear hG
      go_wp2
      exact⟨_,rfl,⟨_,rfl,alloc_new _ _ _ _ rfl,hg.size⟩,bstep hg (bal _),⟨fun _=>bal _,fun h=>absurd h (by decide)⟩⟩
     ·intro x wx hG
      have g6:(x.tmps.getD 85 undef)= .string (sidA k0):=hG.claims 6 _ rfl (by decide+kernel) (by decide+kernel)
      have g6b:=g6
      rw[Array.getD_eq_getD_getElem?] at g6b
      have hg:=hG.good
      clear hG
      go_wp2
      exact⟨_,rfl,rfl,hg,⟨fun _=>Below.refl _ _,fun h=>absurd h (by decide)⟩⟩
     ·intro x wx hG
      have g16:PtNew wx w12.heap.size (x.tmps.getD 14 undef):=hG.claims 16 _ rfl (by decide+kernel) (by decide+kernel)
      have g15:(x.tmps.getD 94 undef)= .agg #[.int .i64 (k1:Nat), .int .i64 (k2:Nat)]:=hG.claims 15 _ rfl (by decide+kernel) (by decide+kernel)
      have g15b:=g15
      rw[Array.getD_eq_getD_getElem?] at g15b
      have hg:=hG.good
      clear hG
      obtain⟨q,hv,hq,hlo⟩:=g16
      have HV:=Lib.hid hv
      have hvb:=hv
      rw[Array.getD_eq_getD_getElem?] at hvb
      have gxb:=g15
      rw[Array.getD_eq_getD_getElem?] at gxb
      have r0:=cell_of_block (j:=0) hq rfl
      have r1:=cell_of_block (j:=1) hq rfl
      have q0:=free_of_block (j:=0) hq
      have q1:=free_of_block (j:=1) hq
      have hRl:=hlt_of hq
      have HQ:=Lib.hid hq
      have HLO:=Lib.hid hlo
      have HG:=Lib.hid hg
      clear hq hlo hg
      go_wp2
      exact⟨undef,rfl,⟨q,Eq.trans (by kernel_rfl) HV.out,by rw[heap_set_same (heap_set_same HQ.out)];rfl,HLO.out⟩,(HG.out.setCell (p:=⟨q,0,none⟩) HLO.out _).setCell (p:=⟨q,1,none⟩) HLO.out _,⟨fun h=>absurd rfl h,fun _=>⟨q,_,_,HLO.out,HQ.out,rfl⟩⟩⟩
    ·intro vals w13 hg hF
     obtain⟨g0,g1,g2,g3,g4,g5,g6,g7,g8,g9,g10,g11,g12,g13,g14,g15,g16,g17,g18, -⟩:=hF
     have e1:vals 1= .slice (some ⟨cb,coff,none⟩) cs.length uc:=g1 rfl
     have e2:vals 2= .pointer (some ⟨cb,coff+2,none⟩):=g2 rfl
     have e3:vals 3= .int .i64 x2:=g3 rfl
     have e4:vals 4= .int .i64 (k0:Nat):=g4 rfl
     have e6:vals 6= .string (sidA k0):=g6 rfl
     have e7:vals 7= .slice (some ⟨cb,coff,none⟩) cs.length uc:=g7 rfl
     have e8:vals 8= .pointer (some ⟨cb,coff+2,none⟩):=g8 rfl
     have e9:vals 9= .int .i64 x2:=g9 rfl
     have e10:vals 10= .int .i64 (k1:Nat):=g10 rfl
     have e11:vals 11= .slice (some ⟨cb,coff,none⟩) cs.length uc:=g11 rfl
     have e12:vals 12= .pointer (some ⟨cb,coff+2,none⟩):=g12 rfl
     have e13:vals 13= .int .i64 x2:=g13 rfl
     have e14:vals 14= .int .i64 (k2:Nat):=g14 rfl
     have e15:vals 15= .agg #[.int .i64 (k1:Nat), .int .i64 (k2:Nat)]:=g15 rfl
     have e17:vals 17= .string (sidA k0):=g17 rfl
     have g18:=g18 rfl
     simp only[Cl2.puts,e1,e2,e3,e4,e6,e7,e8,e9,e10,e11,e12,e13,e14,e15,e17]
     clear e1 e2 e3 e4 e6 e7 e8 e9 e10 e11 e12 e13 e14 e15 e17 g0 g1 g2 g3 g4 g5 g6 g7 g8 g9 g10 g11 g12 g13 g14 g15 g16 g17
     go_simp
     obtain⟨qp,hvp,hqp,hlop⟩:=g18
     have hvq:vals 16= .pointer (some ⟨qp,0,none⟩):=Eq.trans (by kernel_rfl) hvp
     rw[hvq]
     have HQP:=Lib.hid hqp
     have HB13:=Lib.hid hg
     have HLP:=Lib.hid hlop
     clear hg hvp hlop hqp HK0 HNM
     have HST3:=Lib.hid (HST2.out.below HB13.out)
     obtain⟨qs,gi,c9,hsv,hgi,hcell,hsite,hgiB⟩:=HST3.out.cell hki4
     simp only[Value.slice.injEq,true_and] at hsv
     obtain⟨rfl,rfl⟩:=hsv
     have HGI:=Lib.hid hgi
     have HCQ:=Lib.hid hcell
     have HS:=Lib.hid hsite
     have HGB:=Lib.hid hgiB
     have HIL:=Lib.hid (HST3.out.lt hki4)
     clear hgi hcell hsite hgiB
     obtain⟨d0,hd0e⟩: ∃d0,d0=(madeD (t.sites[ki]'HIL.out) (sidA k0) k1 k2 5).1:=⟨_,rfl⟩
     obtain⟨d1,hd1e⟩: ∃d1,d1=(madeD (t.sites[ki]'HIL.out) (sidA k0) k1 k2 5).2:=⟨_,rfl⟩
     obtain⟨E9,hE9⟩: ∃E9,E9=madeE (t.sites[ki]'HIL.out) (sidA k0) k1 k2 5:=⟨_,rfl⟩
     obtain⟨s9,hs9⟩: ∃s9,s9=madeS (t.sites[ki]'HIL.out) (sidA k0) k1 k2 5:=⟨_,rfl⟩
     have HS9E:=Lib.hid hs9
     have HMK:=Lib.hid (fun (wx:World) (hx:SiteAt wx w2.heap.size gi (t.sites[ki]'HIL.out))=>show Calls Tryz.prog 17 #[.pointer (some ⟨gi,0,none⟩), .string (sidA k0), .agg #[.int .i64 (k1:Nat), .int .i64 (k2:Nat)], .int .i64 5] wx fun e w'=>e= .returned (.tuple #[.agg #[.int .i64 d0, .int .i64 d1], .int .i64 E9])∧SiteAt w' w2.heap.size gi s9∧Stp (fun qq=>qq=gi) wx w' from
      (smake_c gi w2.heap.size _ (sidA k0) k1 k2 5 wx hx).mono fun e w' hh=>by
       obtain⟨h1,h2,h3⟩:=hh
       refine⟨?_,by rw[hs9];exact h2,h3⟩
       rw[h1,hd0e,hd1e,hE9]
       unfold madeD
       split <;> rfl)
     have HMT:=Lib.hid (fun (wx:World) (hx:TownAt wx BB (fun q=>BB≤q) g t)=>show Calls Tryz.prog 18 #[.pointer (some ⟨g,0,none⟩), .int .i64 (ki:Nat), .string (sidA k0), .agg #[.int .i64 (k1:Nat), .int .i64 (k2:Nat)], .int .i64 5] wx fun e w'=>e= .returned (.tuple #[.agg #[.int .i64 d0, .int .i64 d1], .int .i64 E9])∧TownAt w' BB (fun q=>BB≤q) g (makeT t ki HIL.out (sidA k0) k1 k2 5)∧Stp (fun q=>BB≤q) wx w' from by
      rw[hd0e,hd1e,hE9];exact tmake_c g BB _ t ki HIL.out (sidA k0) k1 k2 5 wx hx)
     have HP0:=Lib.hid (cell_of_block (j:=0) HQP.out rfl)
     have HP1:=Lib.hid (cell_of_block (j:=1) HQP.out rfl)
     have HLT:=Lib.hid (show ∀q,q=gi→q < w13.heap.size from fun q hq=>by have:=HGB.out;have:=HST3.out.size;omega)
     have hin:(ki:Int) < 4:=by omega
     clear hd0e hd1e hE9 hs9
     go_wp2_with fail
     refine Cl2.region0 194 rfl [6,11] (fun w=>Below w13.heap.size w13 w) (fun jq=>match jq with | 10=>[11] | _=>[]) (fun jq v ww=>match jq with | 0=>v= .slice (some ⟨qs,0,none⟩) 4 sc | 1=>v= .int .i64 (ki:Nat) | 2=>v= .pointer (some ⟨qs,ki,none⟩) | 3=>v= .pointer (some ⟨gi,0,none⟩) | 4=>v= .string (sidA k0) | 5=>v= .agg #[.int .i64 (k1:Nat), .int .i64 (k2:Nat)] | 6=>SiteAt ww w2.heap.size gi s9∧v= .tuple #[.agg #[.int .i64 d0, .int .i64 d1], .int .i64 E9] | 7=>v= .tuple #[.agg #[.int .i64 d0, .int .i64 d1], .int .i64 E9] | 8=>v= .agg #[.int .i64 d0, .int .i64 d1] | 9=>v= .int .i64 E9 | 10=>DotNew ww w13.heap.size v | 11=>DotIs ww w13.heap.size d0 d1 v | 12=>v= .int .i64 E9 | _=>True) (fun ww=>Stp (fun qq=>qq=gi) w13 ww) (fun jq ww ww'=>(jq≠6→jq≠11→Below ww.heap.size ww ww')∧(jq=6→Stp (fun qq=>qq=gi) ww ww')∧(jq=11→DotSet w13.heap.size ww ww')) Tryz.mixed (by decide+kernel) (Stp.refl _ _).drew ((Below.refl _ _).drew) ?_ (fun q w w' hk h hR=>bstep h (hR.1 (by intro e;subst e;exact absurd hk (by decide)) (by intro e;subst e;exact absurd hk (by decide)))) ?_ ?_
     ·intro q r v w w' hne hk hlt h hR
      match r,hk,hlt,h,hne with
      | 0,_,_,h,_=>exact h
      | 1,_,_,h,_=>exact h
      | 2,_,_,h,_=>exact h
      | 3,_,_,h,_=>exact h
      | 4,_,_,h,_=>exact h
      | 5,_,_,h,_=>exact h
      | 6,hk,hlt,h,hne=>
       by_cases e:q=11
       ·exact⟨h.1.dot (hR.2.2 e) (HLT.out gi rfl),h.2⟩
       ·exact⟨h.1.below (hR.1 (by exact hne) e),h.2⟩
      | 7,_,_,h,_=>exact h
      | 8,_,_,h,_=>exact h
      | 9,_,_,h,_=>exact h
      | 10,hk,hlt,h,hne=>
       by_cases e:q=6
       ·exact h.stpT (hR.2.1 e) HLT.out
       ·exact h.below (hR.1 e (by simpa using hk))
      | 11,hk,hlt,h,hne=>
       exact h.below (hR.1 (by intro e;subst e;first | exact absurd hlt (by decide+kernel) | exact absurd rfl hne | simp at hk) (by intro e;subst e;first | exact absurd hlt (by decide+kernel) | exact absurd rfl hne | simp at hk))
      | 12,_,_,h,_=>exact h
      | _+13,_,_,_,_=>trivial
     ·refine⟨?_, ?_, ?_, ?_, ?_, ?_, ?_, ?_, ?_, ?_, ?_, ?_, ?_,trivial⟩
      ·intro x wx hG
       have f5:=hG.old 5 (by decide+kernel)
       have hg:=hG.good
       clear hG
       go_wp2
       exact⟨_,rfl,rfl,hg,⟨fun _ _=>Below.refl _ _,fun h=>absurd h (by decide),fun h=>absurd h (by decide)⟩⟩
      ·intro x wx hG
       have f11:=hG.old 11 (by decide+kernel)
       have hg:=hG.good
       clear hG
       go_wp2
       exact⟨_,rfl,rfl,hg,⟨fun _ _=>Below.refl _ _,fun h=>absurd h (by decide),fun h=>absurd h (by decide)⟩⟩
      ·intro x wx hG
       have g0:(x.tmps.getD 96 undef)= .slice (some ⟨qs,0,none⟩) 4 sc:=hG.claims 0 _ rfl (by decide+kernel) (by decide+kernel)
       have g0b:=g0
       rw[Array.getD_eq_getD_getElem?] at g0b
       have g1:(x.tmps.getD 97 undef)= .int .i64 (ki:Nat):=hG.claims 1 _ rfl (by decide+kernel) (by decide+kernel)
       have g1b:=g1
       rw[Array.getD_eq_getD_getElem?] at g1b
       have hg:=hG.good
       clear hG
       go_wp2
       exact⟨_,rfl,rfl,hg,⟨fun _ _=>Below.refl _ _,fun h=>absurd h (by decide),fun h=>absurd h (by decide)⟩⟩
      ·intro x wx hG
       have g2:(x.tmps.getD 98 undef)= .pointer (some ⟨qs,ki,none⟩):=hG.claims 2 _ rfl (by decide+kernel) (by decide+kernel)
       have g2b:=g2
       rw[Array.getD_eq_getD_getElem?] at g2b
       have hp:=hG.pre (by decide+kernel)
       have hg:=hG.good
       clear hG
       have c_HCQ:=ckeep hp HCQ.out
       go_wp2
       exact⟨_,rfl,rfl,hg,⟨fun _ _=>Below.refl _ _,fun h=>absurd h (by decide),fun h=>absurd h (by decide)⟩⟩
      ·intro x wx hG
       have f13:=hG.old 13 (by decide+kernel)
       have hg:=hG.good
       clear hG
       go_wp2
       exact⟨_,rfl,rfl,hg,⟨fun _ _=>Below.refl _ _,fun h=>absurd h (by decide),fun h=>absurd h (by decide)⟩⟩
      ·intro x wx hG
       have f14:=hG.old 14 (by decide+kernel)
       have hp:=hG.pre (by decide+kernel)
       have hg:=hG.good
       clear hG
       have c_HP0:=ckeep hp HP0.out
       have c_HP1:=ckeep hp HP1.out
       go_wp2
       exact⟨_,rfl,rfl,hg,⟨fun _ _=>Below.refl _ _,fun h=>absurd h (by decide),fun h=>absurd h (by decide)⟩⟩
      ·intro x wx hG
       have g3:(x.tmps.getD 99 undef)= .pointer (some ⟨gi,0,none⟩):=hG.claims 3 _ rfl (by decide+kernel) (by decide+kernel)
       have g3b:=g3
       rw[Array.getD_eq_getD_getElem?] at g3b
       have g4:(x.tmps.getD 100 undef)= .string (sidA k0):=hG.claims 4 _ rfl (by decide+kernel) (by decide+kernel)
       have g4b:=g4
       rw[Array.getD_eq_getD_getElem?] at g4b
       have g5:(x.tmps.getD 101 undef)= .agg #[.int .i64 (k1:Nat), .int .i64 (k2:Nat)]:=hG.claims 5 _ rfl (by decide+kernel) (by decide+kernel)
       have g5b:=g5
       rw[Array.getD_eq_getD_getElem?] at g5b
       have hp:=hG.pre (by decide+kernel)
       have hg:=hG.good
       clear hG
       have HN:=Lib.hid (HMK.out wx (HS.out.below hp))
       go_wp2_with fail
       (with_reducible refine(HN.out).mono ?_)
       rintro e wq ⟨rfl,h1,h2⟩
       have H1:=Lib.hid h1
       have H2:=Lib.hid h2
       clear h1 h2 HN
       go_wp2
       exact⟨_,rfl,⟨H1.out,rfl⟩,hg.trans H2.out,⟨fun h _=>absurd rfl h,fun _=>H2.out,fun h=>absurd h (by decide)⟩⟩
      ·intro x wx hG
       have g6:SiteAt wx w2.heap.size gi s9∧(x.tmps.getD 102 undef)= .tuple #[.agg #[.int .i64 d0, .int .i64 d1], .int .i64 E9]:=hG.claims 6 _ rfl (by decide+kernel) (by decide+kernel)
       have hg:=hG.good
       clear hG
       have g6v:=g6.2
       have g6vb:=g6v
       rw[Array.getD_eq_getD_getElem?] at g6vb
       go_wp2
       exact⟨_,rfl,rfl,hg,⟨fun _ _=>Below.refl _ _,fun h=>absurd h (by decide),fun h=>absurd h (by decide)⟩⟩
      ·intro x wx hG
       have g7:(x.tmps.getD 95 undef)= .tuple #[.agg #[.int .i64 d0, .int .i64 d1], .int .i64 E9]:=hG.claims 7 _ rfl (by decide+kernel) (by decide+kernel)
       have g7b:=g7
       rw[Array.getD_eq_getD_getElem?] at g7b
       have hg:=hG.good
       clear hG
       go_wp2
       exact⟨_,rfl,rfl,hg,⟨fun _ _=>Below.refl _ _,fun h=>absurd h (by decide),fun h=>absurd h (by decide)⟩⟩
      ·intro x wx hG
       have g7:(x.tmps.getD 95 undef)= .tuple #[.agg #[.int .i64 d0, .int .i64 d1], .int .i64 E9]:=hG.claims 7 _ rfl (by decide+kernel) (by decide+kernel)
       have g7b:=g7
       rw[Array.getD_eq_getD_getElem?] at g7b
       have hg:=hG.good
       clear hG
       go_wp2
       exact⟨_,rfl,rfl,hg,⟨fun _ _=>Below.refl _ _,fun h=>absurd h (by decide),fun h=>absurd h (by decide)⟩⟩
      ·intro x wx hG
       have hg:=hG.good
       clear hG
       go_wp2
       exact⟨_,rfl,⟨_,rfl,alloc_new _ _ _ _ rfl,hg.size⟩,hg.below (bal _),⟨fun _ _=>bal _,fun h=>absurd h (by decide),fun h=>absurd h (by decide)⟩⟩
      ·intro x wx hG
       have g10:DotNew wx w13.heap.size (x.tmps.getD 15 undef):=hG.claims 10 _ rfl (by decide+kernel) (by decide+kernel)
       have g8:(x.tmps.getD 103 undef)= .agg #[.int .i64 d0, .int .i64 d1]:=hG.claims 8 _ rfl (by decide+kernel) (by decide+kernel)
       have g8b:=g8
       rw[Array.getD_eq_getD_getElem?] at g8b
       have hg:=hG.good
       clear hG
       obtain⟨q,hv,hq,hlo⟩:=g10
       have HV:=Lib.hid hv
       have hvb:=hv
       rw[Array.getD_eq_getD_getElem?] at hvb
       have gxb:=g8
       rw[Array.getD_eq_getD_getElem?] at gxb
       have r0:=cell_of_block (j:=0) hq rfl
       have r1:=cell_of_block (j:=1) hq rfl
       have q0:=free_of_block (j:=0) hq
       have q1:=free_of_block (j:=1) hq
       have hRl:=hlt_of hq
       have HQ:=Lib.hid hq
       have HLO:=Lib.hid hlo
       clear hq hlo
       go_wp2
       exact⟨undef,rfl,⟨q,Eq.trans (by kernel_rfl) HV.out,by rw[heap_set_same (heap_set_same HQ.out)];rfl,HLO.out⟩,DotSet.stp hg ⟨q,_,_,HLO.out,HQ.out,rfl⟩,⟨fun _ h=>absurd rfl h,fun h=>absurd h (by decide),fun _=>⟨q,_,_,HLO.out,HQ.out,rfl⟩⟩⟩
      ·intro x wx hG
       have g9:(x.tmps.getD 104 undef)= .int .i64 E9:=hG.claims 9 _ rfl (by decide+kernel) (by decide+kernel)
       have g9b:=g9
       rw[Array.getD_eq_getD_getElem?] at g9b
       have hg:=hG.good
       clear hG
       go_wp2
       exact⟨_,rfl,rfl,hg,⟨fun _ _=>Below.refl _ _,fun h=>absurd h (by decide),fun h=>absurd h (by decide)⟩⟩
     ·intro vals w14 hg hF
      obtain⟨g0,g1,g2,g3,g4,g5,g6,g7,g8,g9,g10,g11,g12, -⟩:=hF
      have e0:vals 0= .slice (some ⟨qs,0,none⟩) 4 sc:=g0 rfl
      have e1:vals 1= .int .i64 (ki:Nat):=g1 rfl
      have e2:vals 2= .pointer (some ⟨qs,ki,none⟩):=g2 rfl
      have e3:vals 3= .pointer (some ⟨gi,0,none⟩):=g3 rfl
      have e4:vals 4= .string (sidA k0):=g4 rfl
      have e5:vals 5= .agg #[.int .i64 (k1:Nat), .int .i64 (k2:Nat)]:=g5 rfl
      replace g6:SiteAt w14 w2.heap.size gi s9∧(vals 6)= .tuple #[.agg #[.int .i64 d0, .int .i64 d1], .int .i64 E9]:=g6 rfl
      have e7:vals 7= .tuple #[.agg #[.int .i64 d0, .int .i64 d1], .int .i64 E9]:=g7 rfl
      have e8:vals 8= .agg #[.int .i64 d0, .int .i64 d1]:=g8 rfl
      have e9:vals 9= .int .i64 E9:=g9 rfl
      have g11:=g11 rfl
      have e12:vals 12= .int .i64 E9:=g12 rfl
      simp only[Cl2.puts,e0,e1,e2,e3,e4,e5,e7,e8,e9,e12]
      clear e0 e1 e2 e3 e4 e5 e7 e8 e9 e12 g0 g1 g2 g3 g4 g5 g7 g8 g9 g10 g12
      go_simp
      generalize vals 6=mk9 at*
      obtain⟨q9,hv9,hq9,hlo9⟩:=g11
      have hv8:vals 10= .pointer (some ⟨q9,0,none⟩):=Eq.trans (by kernel_rfl) hv9
      rw[hv8]
      have HSN:=Lib.hid g6.1
      have HS14:=Lib.hid hg
      have HQ9:=Lib.hid hq9
      have HTO:=Lib.hid (HST3.out.own HGI.out hg)
      have hne:qp≠gi:=by have:=HGB.out;have:=HST2.out.size;have:=HLP.out;omega
      have hqp4:=hg.block HQP.out (fun e=>hne e)
      have p0:=cell_of_block (j:=0) hqp4 rfl
      have p1:=cell_of_block (j:=1) hqp4 rfl
      clear g6 hg hv9 hlo9 hq9 hqp4 hv8
      go_wp2_with fail
      (with_reducible refine(HMT.out w14 HTO.out).mono ?_)
      rintro e w15 ⟨rfl,ht15,hs15⟩
      have HT15:=Lib.hid ht15
      have HS15:=Lib.hid hs15
      have hq15:=hs15.tk.blk _ _ _ HQ9.out dataT_dot
      have HQ15:=Lib.hid hq15
      have y0:=cell_of_block (j:=0) (below_keep (bal (W:=w15) (.cells #[.int .i64 d0, .int .i64 d1] 41)) hq15) rfl
      have y1:=cell_of_block (j:=1) (below_keep (bal (W:=w15) (.cells #[.int .i64 d0, .int .i64 d1] 41)) hq15) rfl
      have z0:(w15.alloc (.cells #[.int .i64 d0, .int .i64 d1] 41)).cell? ⟨w15.heap.size,0,none⟩=some (.int .i64 d0):=cell_of_block (j:=0) (alloc_new _ _ _ _ rfl) rfl
      have z1:(w15.alloc (.cells #[.int .i64 d0, .int .i64 d1] 41)).cell? ⟨w15.heap.size,1,none⟩=some (.int .i64 d1):=cell_of_block (j:=1) (alloc_new _ _ _ _ rfl) rfl
      have hEE:(E9 != E9)=false:=by simp
      clear ht15 hs15 hq15 p0 p1
      go_wp2
      go_meet
      case rel=>
       have hb:=bal (W:=w15) (.cells #[.int .i64 d0, .int .i64 d1] 41)
       refine⟨_,(HST3.out.step HGI.out HS14.out HSN.out HT15.out HS15.out ?_ ?_).below hb, ?_⟩
       ·rw[HS9E.out];rfl
       ·exact HST3.out.way
       ·exact bstep (((((Stp.of_below (G:=fun q=>w2.heap.size≤q) HBA2.out).trans (Stp.of_below HB13.out)).trans (HS14.out.only fun q hq he=>by rw[he];exact HSN.out.ge)).trans (HS15.out.mono fun q hq=>Nat.le_trans HBB.out hq)).sp.toBelow (base:=w2.heap.size) (fun q hq=>hq) (Nat.le_refl _)) hb
end Go.Proofs.YtgkgdedhicnohaaGreat
