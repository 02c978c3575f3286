/- What TownLetters does. Written by a small program (gen/townlet.py). -/
import Derived.Test.YtihpddhngbgcdaaGreatTownSh
import Derived.Test.YtihpddhngbgcdaaGreatMCl3
namespace Go.Proofs.YtihpddhngbgcdaaGreat
open Go.RowKit
def SlcN (n:Nat) (v:Value):Prop:= ∃a c,v= .slice a n c
set_option maxRecDepth 100000 in
set_option maxHeartbeats 16000000 in
theorem TownLetters_walk (fv lv:Value) (F:List Bxs) (l:List (List Int)) (ci cj:Int) (w:World) (hF:RowAt bxsE w fv F) (hl:RowAt vecE w lv l):
  Calls Tryz.prog 11 #[fv,lv, .int .i64 ci, .int .i64 cj] w fun e w'=>e= .returned (.bool true)∧Below w.heap.size w w':=by
 obtain⟨fa,fc,rfl⟩:=hF.shape
 obtain⟨la,lc,rfl⟩:=hl.shape
 have HF:=Lib.hid hF
 have HL:=Lib.hid hl
 clear hF hl
 go_enter Tryz.func11,Tryz.ntmps11
 go_wp2_with fail
 (with_reducible refine(townBegun_c w).mono ?_)
 rintro e w1 ⟨rfl,hb⟩
 have HB1:=Lib.hid hb
 clear hb
 go_wp2_with fail
 (with_reducible refine(tfilters_c _ F w1 (HF.out.below HB1.out)).mono ?_)
 rintro e w2 ⟨R,ra,rc,rfl,hR,hRc,hR3,hR7,hb⟩
 have HB2:=Lib.hid (bstep HB1.out hb)
 have HR:=Lib.hid hR
 have HRC:=Lib.hid hRc
 have HR3:=Lib.hid (show 1≤R.length∧R.length≤100 from⟨by omega,by omega⟩)
 obtain⟨ra',rc',hra,hrcap, -, -, -⟩:=hR.open_
 simp only[Value.slice.injEq,true_and] at hra
 obtain⟨rfl,rfl⟩:=hra
 have HRT:=Lib.hid (RowAt.take hR 3 hR3)
 have HLT:=Lib.hid (show(R.take 3).length=3 by rw[List.length_take];omega)
 have hr33:(3:Int)≤(rc:Int):=by omega
 have hr34:3≤rc:=by omega
 have HNW:=Lib.hid (tnew_c (.slice ra 3 rc) (R.take 3) (fun q=>w2.heap.size≤q) w2 (by have h:=HRT.out;exact h) (by rw[HLT.out];decide) (fun x hx=>HRC.out x (List.mem_of_mem_take hx)) (fun q hq=>hq))
 clear hb hR hRc hrcap
 go_wp2_with fail
 (with_reducible refine(HNW.out).mono ?_)
 rintro e w3 ⟨g,rfl,ht,hb⟩
 obtain⟨T1,hT1⟩: ∃T1:Nat→Prop,T1=fun q=>w2.heap.size≤q∧q≠w3.heap.size:=⟨_,rfl⟩
 have HT1:=Lib.hid (show TownAt w3 w2.heap.size T1 g (newT (R.take 3)) from ht.retype fun q h1 h2=>by rw[hT1];exact ⟨h2,by omega⟩)
 have HT1E:=Lib.hid hT1
 have HB3:=Lib.hid hb
 clear ht hb HNW hr33 hr34 hR3 hR7 hT1
 go_wp2_with fail
 obtain⟨w4,hw4⟩: ∃w4,w4=w3.alloc (Obj.cells #[.pointer (some ⟨g,0,none⟩)] 29):=⟨_,rfl⟩
 have hb4:Below w3.heap.size w3 w4:=by rw[hw4];exact bal _
 have HC4:=Lib.hid (show w4.heap[w3.heap.size]? =some (Obj.cells #[.pointer (some ⟨g,0,none⟩)] 29 (0,0)) by rw[hw4];exact alloc_new _ _ _ _ rfl)
 have HL4:=Lib.hid (show w3.heap.size < w4.heap.size from hlt_of HC4.out)
 have HTN4:=Lib.hid (show ∀q,w4.heap.size≤q→T1 q from fun q hq=>by rw[HT1E.out];have:=HL4.out;have:=HB3.out.size;have:=hb4.size;exact ⟨by omega,by omega⟩)
 have HT0:=Lib.hid (show ∀q,T1 q→w2.heap.size≤q from fun q hq=>by rw[HT1E.out] at hq;exact hq.1)
 have HB4:=Lib.hid (show Below w2.heap.size w2 w4 from bstep HB3.out hb4)
 have HPL:=Lib.hid (tplayed_c w2.heap.size g T1 (newT (R.take 3)) (.slice ra R.length rc) (.slice la l.length lc) R l w4 (HT1.out.below hb4) (newT_I (by rw[HLT.out];decide)) (by show(newL _).length=3;rw [newL_len,HLT.out]) HTN4.out w2 (Stp.of_below HB4.out) HT0.out HR.out HRC.out HR3.out (HL.out.below HB2.out))
 rw[←hw4]
 clear hw4 hb4
 (with_reducible refine(HPL.out).mono ?_)
 rintro e w5 ⟨H,A,t,aa,ac,rfl,hp⟩
 have HTB:=Lib.hid hp.town
 have HN3:=Lib.hid hp.n3
 have HS5:=Lib.hid hp.stp
 have HB5:=Lib.hid (show Below w.heap.size w w5 from bstep HB2.out (((Stp.of_below HB4.out).trans hp.stp).sp.toBelow (base:=w2.heap.size) (fun q hq=>HT0.out q hq) (Nat.le_refl _)))
 have HC5:=Lib.hid (hp.stp.block HC4.out (fun h=>by rw[HT1E.out] at h;exact h.2 rfl))
 have hc5:w5.cell? ⟨w3.heap.size,0,none⟩=some (.pointer (some ⟨g,0,none⟩)):=cell_of_block (j:=0) HC5.out rfl
 have HB4S:=Lib.hid HB4.out.size
 clear hp HPL HRT HLT HB3 HR HRC HR3 HL4 HTN4 HC4 HB4
 go_wp2_with fail
 (with_reducible refine(tl1_c w3.heap.size g w2.heap.size T1 t w5 HC5.out HTB.out HN3.out).mono ?_)
 rintro e w6 ⟨bv,rfl,hbv⟩
 have hb6:=hbv.bel
 obtain⟨T2,hT2⟩: ∃T2:Nat→Prop,T2=fun q=>T1 q∧(q < w5.heap.size∨w6.heap.size≤q):=⟨_,rfl⟩
 have HT2E:=Lib.hid hT2
 have HL5:=Lib.hid (show w3.heap.size < w5.heap.size from hlt_of HC5.out)
 have HT6:=Lib.hid ((HTB.out.retype (T':=T2) fun q h1 h2=>by rw[hT2];exact ⟨h2, .inl h1⟩).below hb6)
 have HTN6:=Lib.hid (show ∀wx:World,w6.heap.size≤wx.heap.size→ ∀q,wx.heap.size≤q→T2 q from fun wx hx q hq=>by
  have h1:=hb6.size;have h2:=HL5.out;have h3:=HS5.out.size
  rw[hT2,HT1E.out];have h4:=HB4S.out;exact ⟨⟨by omega,by omega⟩, .inr (by omega)⟩)
 have HCW:=Lib.hid (fun (wx:World) (hs:Stp T2 w6 wx)=>show wx.heap[w3.heap.size]? =some (Obj.cells #[.pointer (some ⟨g,0,none⟩)] 29 (0,0)) from hs.block (below_keep hb6 HC5.out) fun h=>by rw[hT2,HT1E.out] at h;exact h.1.2 rfl)
 have HRW:=Lib.hid (fun (wx:World) (hs:Stp T2 w6 wx)=>show RowAt shE wx bv (shelvesR t) from(hbv.stp hs fun q h=>by rw[hT2] at h;exact h.2).row (by unfold shelvesR;rw [List.length_map,HN3.out];decide))
 have HFIN:=Lib.hid (fun (wx:World) (hs:Stp T2 w6 wx)=>show Below w.heap.size w wx from(((Stp.of_below (G:=T2) (bstep HB5.out hb6)).trans hs).sp.toBelow (base:=w.heap.size) (fun q hq=>by rw[hT2,HT1E.out] at hq;have:=HB2.out.size;omega) (Nat.le_refl _)))
 have hsh:=(HRW.out w6 (Stp.refl _ _)).shape
 obtain⟨ba,bc,rfl⟩:=hsh
 obtain⟨ki,hki⟩: ∃ki,ki=wiN ci 3:=⟨_,rfl⟩
 have hki3:ki < 3:=by rw[hki];exact wiN_lt ci 3 (by decide)
 have hc6:w6.cell? ⟨w3.heap.size,0,none⟩=some (.pointer (some ⟨g,0,none⟩)):=cell_of_block (j:=0) (HCW.out w6 (Stp.refl _ _)) rfl
 clear hbv hb6 hT2 hc5 HTB HS5 HC5 HB5
 go_wp2_with fail
 (with_reducible refine(wiN_c ci 3 w6 (by decide) (by decide)).mono ?_)
 rintro e w7 ⟨rfl,hb7⟩
 rw[←hki]
 have HB7:=Lib.hid hb7
 have hc7:=ckeep hb7 hc6
 clear hki hb7 hc6
 go_wp2_with fail
 (with_reducible refine(tway_c g w2.heap.size T2 t w7 (HT6.out.below HB7.out)).mono ?_)
 rintro e w8 ⟨xa,xc,rfl, -,hb8⟩
 have HB8:=Lib.hid (bstep HB7.out hb8)
 have hc8:=ckeep hb8 hc7
 have HT8:=Lib.hid (HT6.out.below HB8.out)
 clear hb8 hc7 HB7
 go_wp2_with fail
 obtain⟨kj,hkj⟩: ∃kj:Nat,kj=(ki+1)%3:=⟨_,rfl⟩
 have hkj3:kj < 3:=by omega
 have hne:ki≠kj:=by omega
 have ekj:((ki:Int)+1)%3=((kj:Nat):Int):=by omega
 have HKI:=Lib.hid (show ki < t.sites.length by rw[HN3.out];exact hki3)
 have HKJ:=Lib.hid (show kj < t.sites.length by rw[HN3.out];exact hkj3)
 rw[ekj]
 (with_reducible refine(tsend_c g w2.heap.size T2 t ki kj HKI.out HKJ.out w8 HT8.out (HTN6.out w8 HB8.out.size)).mono ?_)
 rintro e w9 ⟨rfl,ht9,hs9⟩
 have HS9:=Lib.hid ((Stp.of_below (G:=T2) HB8.out).trans hs9)
 have hc9:w9.cell? ⟨w3.heap.size,0,none⟩=some (.pointer (some ⟨g,0,none⟩)):=cell_of_block (j:=0) (HCW.out w9 HS9.out) rfl
 have hl60:t.way.length≤60:=HT8.out.ok.lw
 by_cases h60:60≤t.way.length
 ·have e2:sendE t ki kj=2:=by unfold sendE;rw [if_neg hne,if_pos h60]
  have e3:sendR t ki HKI.out kj=t:=by unfold sendR;rw [e2,if_neg (by decide)]
  rw[e3] at ht9
  rw[e2]
  have HT9:=Lib.hid ht9
  have hd:decide ((60:Int)≤(t.way.length:Int))=true:=by simp;omega
  clear ht9 hs9 hc8 HT8 hkj hne ekj
  go_wp2_with fail
  (with_reducible refine(tl1_c w3.heap.size g w2.heap.size T2 t w9 (HCW.out w9 HS9.out) HT9.out HN3.out).mono ?_)
  rintro e w10 ⟨cv,rfl,hcv⟩
  have HB10:=Lib.hid hcv.bel
  have HCV:=Lib.hid ((hcv.stp (Stp.refl (fun _=>False) _) fun _ h=>h.elim).row (by unfold shelvesR;rw [List.length_map,HN3.out];decide))
  have HS10:=Lib.hid (HS9.out.below HB10.out)
  obtain⟨ca,cc,rfl⟩:=HCV.out.shape
  clear hcv
  go_wp2_with fail
  (with_reducible refine(tl2_c _ _ (shelvesR t) w10 (HRW.out w10 HS10.out) HCV.out).mono ?_)
  rintro e w11 ⟨rfl,hb11⟩
  have HS11:=Lib.hid (HS10.out.below hb11)
  clear hb11
  go_wp2
  go_ret
  exact⟨rfl,HFIN.out _ HS11.out⟩
 have e2:sendE t ki kj=0:=by unfold sendE;rw [if_neg hne,if_neg h60]
 have e3:sendR t ki HKI.out kj=sendT t ki HKI.out kj:=by unfold sendR;rw [if_pos e2]
 rw[e3] at ht9
 rw[e2]
 obtain⟨ak,hak⟩: ∃ak,ak=askS (t.sites[ki]'HKI.out):=⟨_,rfl⟩
 obtain⟨t2,ht2⟩: ∃t2,t2=sendT t ki HKI.out kj:=⟨_,rfl⟩
 have HSE:=Lib.hid (show t2.sites=t.sites by rw[ht2];rfl)
 have HWL:=Lib.hid (show t2.way.length=t.way.length+1 by rw[ht2];show (t.way++[_]).length=_;rw [List.length_append];rfl)
 have HAK:=Lib.hid (show t2.way[t.way.length]? =some (.ask kj ak) by rw[ht2,hak];show (t.way++[_])[t.way.length]? =_;rw [List.getElem?_append_right (Nat.le_refl _),Nat.sub_self];rfl)
 rw[←ht2] at ht9
 have HT9:=Lib.hid ht9
 have HWY:=Lib.hid (tway_c g w2.heap.size T2 t2 w9 HT9.out)
 rw[HWL.out] at HWY
 clear ht9 hs9 hc8 HT8 hkj hne ekj ht2 hak e2 e3
 go_wp2_with fail
 (with_reducible refine(HWY.out).mono ?_)
 rintro e w10 ⟨xa,xc,rfl, -,hb10⟩
 have HS10:=Lib.hid (HS9.out.below hb10)
 have hc10:=ckeep hb10 hc9
 have HT10:=Lib.hid (HT9.out.below hb10)
 clear hb10 HWY HT9 hc9 HS9
 go_upto_region 18 with fail
 go_cut [91] from 66 to 90 (fun s91 wx=>s91= .bool false∧ ∃t3:TownS,TownAt wx w2.heap.size T2 g t3∧Stp T2 w6 wx∧t3.sites=t.sites∧1≤t3.way.length)
 case first=>
  by_cases hw:t.way.length+1 < 60
  rotate_left
  ·have hwd:decide ((t.way.length:Int)+1 < 60)=false:=by simp;omega
   go_wp2
   go_meet
   case rel=>exact ⟨rfl,t2,HT10.out,HS10.out,HSE.out,by have:=HWL.out;omega⟩
  have hwd:decide ((t.way.length:Int)+1 < 60)=true:=by simp;omega
  have HKJ2:=Lib.hid (show kj < t2.sites.length by rw[HSE.out];exact HKJ.out)
  have HBR:=Lib.hid (tbring_ask g w2.heap.size T2 t2 t.way.length kj ak HAK.out w10 HT10.out (HTN6.out w10 HS10.out.size) HKJ2.out (by have:=HWL.out;omega))
  obtain⟨t3,ht3⟩: ∃t3:TownS,t3= { t2 with way:=t2.way++[ansT (t2.sites[kj]'HKJ2.out) ak] } :=⟨_,rfl⟩
  have HSE3:=Lib.hid (show t3.sites=t.sites by rw[ht3];exact HSE.out)
  have HWL3:=Lib.hid (show t3.way.length=t.way.length+2 by rw[ht3];show (t2.way++[_]).length=_;rw [List.length_append,HWL.out];rfl)
  have HIS:=Lib.hid (show(t3.way.map LetS.isB)[t.way.length+1]? =some true by rw[ht3];show ((t2.way++[_]).map _)[_]? =_;rw [List.map_append,List.getElem?_append_right (by rw[List.length_map,HWL.out];exact Nat.le_refl _),List.length_map,HWL.out,Nat.sub_self];rfl)
  rw[←ht3] at HBR
  clear ht3 HT10
  go_wp2_with fail
  (with_reducible refine(HBR.out).mono ?_)
  rintro e w11 ⟨rfl,ht11,hs11⟩
  have HT11:=Lib.hid ht11
  have HS11:=Lib.hid (HS10.out.trans hs11)
  have hc11:w11.cell? ⟨w3.heap.size,0,none⟩=some (.pointer (some ⟨g,0,none⟩)):=cell_of_block (j:=0) (HCW.out w11 HS11.out) rfl
  have HWY:=Lib.hid (tway_c g w2.heap.size T2 t3 w11 HT11.out)
  rw[HWL3.out] at HWY
  clear ht11 hs11 hc10 HBR
  go_wp2_with fail
  (with_reducible refine(HWY.out).mono ?_)
  rintro e w12 ⟨ya,yc,rfl, -,hb12⟩
  have HS12:=Lib.hid (HS11.out.below hb12)
  have hc12:=ckeep hb12 hc11
  have HT12:=Lib.hid (HT11.out.below hb12)
  have HWY2:=Lib.hid (tway_c g w2.heap.size T2 t3 w12 HT12.out)
  clear hb12 hc11 HWY HT11
  go_wp2_with fail
  (with_reducible refine(HWY2.out).mono ?_)
  rintro e w13 ⟨za,zc,rfl,hz,hb13⟩
  have HS13:=Lib.hid (HS12.out.below hb13)
  have HT13:=Lib.hid (HT12.out.below hb13)
  have hzr:RowAt boolE w13 (.slice za t3.way.length zc) (t3.way.map LetS.isB):=boolE_at (by
   rw[List.length_map,List.map_map]
   exact CellsAt.of_owns hz (by have:=HT13.out.ok.lw;omega))
  obtain⟨z1,z2,hze,hzc, -, -,hzv⟩:=hzr.open_
  simp only[Value.slice.injEq] at hze
  obtain⟨rfl, -,rfl⟩:=hze
  have hil:t.way.length+1 < (t3.way.map LetS.isB).length:=by rw[List.length_map,HWL3.out];omega
  rcases hzv with hnil | ⟨bz,oz,rfl,hbz,hcz⟩
  ·rw[hnil] at hil;simp at hil
  obtain⟨cz,hcz1,hcz2⟩:=hcz _ hil
  have d1:w13.cell? ⟨bz,oz+(t.way.length+1),none⟩=some (.bool true):=by
   have h1:=(List.getElem?_eq_some_iff.1 HIS.out).2
   obtain rfl:cz=[.bool true]:=by rw[h1] at hcz1;exact hcz1
   have:=hcz2 0 _ rfl
   simpa[boolE] using this
  rw[HWL3.out]
  clear hcz hcz1 hcz2 hz hb13 hc12 HWY2 hzr hil
  go_wp2
  go_meet
  case rel=>exact ⟨rfl,t3,HT13.out,HS13.out,HSE3.out,by have:=HWL3.out;omega⟩
 case rest=>
  obtain⟨rfl,t3,ht3,hs3,hse3,hl3⟩:=hcut
  have HS3:=Lib.hid hs3
  have HT3:=Lib.hid ht3
  have HSE3:=Lib.hid hse3
  have hc3:wc.cell? ⟨w3.heap.size,0,none⟩=some (.pointer (some ⟨g,0,none⟩)):=cell_of_block (j:=0) (HCW.out wc HS3.out) rfl
  clear hs3 ht3 hse3
  go_wp2_with fail
  (with_reducible refine(tway_c g w2.heap.size T2 t3 wc HT3.out).mono ?_)
  rintro e w14 ⟨ya,yc,rfl, -,hb14⟩
  have HS14:=Lib.hid (HS3.out.below hb14)
  have HT14:=Lib.hid (HT3.out.below hb14)
  have hn60:t3.way.length≤60:=HT14.out.ok.lw
  obtain⟨kq,hkq⟩: ∃kq,kq=wiN cj t3.way.length:=⟨_,rfl⟩
  have hkqn:kq < t3.way.length:=by rw[hkq];exact wiN_lt cj t3.way.length (by omega)
  have HWI:=Lib.hid (fun (wx:World)=>show Calls Tryz.prog 21 #[.int .i64 cj, .int .i64 (t3.way.length:Nat)] wx fun e w'=>e= .returned (.int .i64 (kq:Nat))∧Below wx.heap.size wx w' from by rw[hkq];exact wiN_c cj (t3.way.length:Nat) wx (by omega) (by omega))
  obtain⟨t4,ht4⟩: ∃t4,t4=loseT t3 kq:=⟨_,rfl⟩
  have HLO:=Lib.hid (fun (wx:World) (hb:Below w14.heap.size w14 wx)=>show Calls Tryz.prog 29 #[.pointer (some ⟨g,0,none⟩), .int .i64 (kq:Nat)] wx fun e w'=>e= .returned (.int .i64 0)∧TownAt w' w2.heap.size T2 g t4∧Stp T2 wx w' from
   (tlose_c g w2.heap.size T2 t3 (kq:Nat) wx (HT14.out.below hb)).mono fun e w' hh=>by
    obtain⟨h1,h2,h3⟩:=hh
    obtain⟨e1,e2⟩:=loseR_yes hkqn
    rw[e1] at h1
    rw[e2,←ht4] at h2
    exact⟨h1,h2,h3⟩)
  obtain⟨n4,hn4⟩: ∃n4,t3.way.length=n4+1:=⟨t3.way.length - 1,by omega⟩
  have HW4:=Lib.hid (show t4.way.length=n4 by rw[ht4];show (t3.way.eraseIdx kq).length=n4;rw [List.length_eraseIdx_of_lt hkqn,hn4];rfl)
  have HSE4:=Lib.hid (show t4.sites=t.sites by rw[ht4];exact HSE3.out)
  have HWY:=Lib.hid (fun (wx:World) (h:TownAt wx w2.heap.size T2 g t4)=>show Calls Tryz.prog 65 #[.pointer (some ⟨g,0,none⟩)] wx fun e w'=> ∃v,e= .returned v∧SlcN n4 v∧Below wx.heap.size wx w' from
   (tway_c g w2.heap.size T2 t4 wx h).mono fun e w' hh=>by
    obtain⟨a,c,h1, -,h3⟩:=hh
    rw[HW4.out] at h1
    exact⟨_,h1,⟨a,c,rfl⟩,h3⟩)
  have HWA:=Lib.hid (fun (wx:World) (hs:Stp T2 w6 wx) (h:TownAt wx w2.heap.size T2 g t4)=>show Calls Tryz.prog 61 #[.pointer (some ⟨w3.heap.size,0,none⟩)] wx fun e w'=> ∃v,e= .returned v∧RowAt shE w' v (shelvesR t)∧Below wx.heap.size wx w' from
   (tl1_c w3.heap.size g w2.heap.size T2 t4 wx (HCW.out wx hs) h (by rw[HSE4.out];exact HN3.out)).mono fun e w' hh=>by
    obtain⟨v,h1,h2⟩:=hh
    have h3:=(h2.stp (Stp.refl (fun _=>False) _) fun _ h=>h.elim).row (by unfold shelvesR;rw [List.length_map,HSE4.out,HN3.out];decide)
    have e:shelvesR t4=shelvesR t:=by unfold shelvesR;rw [HSE4.out]
    rw[e] at h3
    exact⟨v,h1,h3,h2.bel⟩)
  obtain⟨SH,hSH⟩: ∃SH,SH=shelvesR t:=⟨_,rfl⟩
  rw[hn4]
  rw[hn4] at HWI hn60
  push_cast at HWI
  rw[←hSH]
  rw[←hSH] at HRW HWA
  clear hb14 hc3 HS3 HT3 HSE3 hkq hkqn ht4 hl3 hn4 HW4 HSE4 hSH
  go_wp2_with fail
  refine Cl3.region0 116 rfl (fun u=>[4]) (fun u ww=>Below w14.heap.size w14 ww) (fun _=>[]) (fun jq v ww=>match jq with | 0=>v= .pointer (some ⟨g,0,none⟩) | 1=>v= .int .i64 cj | 2=>v= .int .i64 ((n4+1:Nat)) | 3=>v= .int .i64 (kq:Nat) | 4=>TownAt ww w2.heap.size T2 g t4∧v= .int .i64 0 | 5=>TownAt ww w2.heap.size T2 g t4∧v= .bool true | 6=>TownAt ww w2.heap.size T2 g t4∧v= .bool true | 7=>v= .pointer (some ⟨g,0,none⟩) | 8=>SlcN n4 v | 9=>v= .int .i64 (n4:Nat) | 10=>v= .int .i64 ((n4+1:Nat)) | 11=>v= .int .i64 (n4:Nat) | 12=>v= .bool true | 13=>TownAt ww w2.heap.size T2 g t4∧v= .bool true | 14=>TownAt ww w2.heap.size T2 g t4∧v= .bool true | 15=>v= .func (.func 62) #[] #[] | 16=>v= .slice ba SH.length bc | 17=>v= .func (.func 61) #[] #[.pointer (some ⟨w3.heap.size,0,none⟩)] | 18=>RowAt shE ww v SH | 19=>v= .bool true | 20=>v= .bool true | 21=>v= .bool true | _=>True) (fun ww=>Stp T2 w6 ww) (fun jq ww ww'=>(jq≠4→Below ww.heap.size ww ww')∧(jq=4→Stp T2 ww ww')) Tryz.mixed (by decide+kernel) HS14.out.drew (fun u=>(Below.refl _ _).drew) ?_ (fun jq ww ww' u hk h hR=>bstep h (hR.1 (by intro e;simp [e] at hk))) ?_ ?_
  ·intro q r v w w' hne hk hlt h hR
   match r,hk,hlt,h,hne with
   | 0,_,_,h,_=>exact h
   | 1,_,_,h,_=>exact h
   | 2,_,_,h,_=>exact h
   | 3,_,_,h,_=>exact h
   | 4,hk,hlt,h,hne=>exact ⟨h.1.below (hR.1 (by exact hne)),h.2⟩
   | 5,_,hlt,h,_=>exact ⟨h.1.below (hR.1 (by intro e;subst e;exact absurd hlt (by decide+kernel))),h.2⟩
   | 6,_,hlt,h,_=>exact ⟨h.1.below (hR.1 (by intro e;subst e;exact absurd hlt (by decide+kernel))),h.2⟩
   | 7,_,_,h,_=>exact h
   | 8,_,_,h,_=>exact h
   | 9,_,_,h,_=>exact h
   | 10,_,_,h,_=>exact h
   | 11,_,_,h,_=>exact h
   | 12,_,_,h,_=>exact h
   | 13,_,hlt,h,_=>exact ⟨h.1.below (hR.1 (by intro e;subst e;exact absurd hlt (by decide+kernel))),h.2⟩
   | 14,_,hlt,h,_=>exact ⟨h.1.below (hR.1 (by intro e;subst e;exact absurd hlt (by decide+kernel))),h.2⟩
   | 15,_,_,h,_=>exact h
   | 16,_,_,h,_=>exact h
   | 17,_,_,h,_=>exact h
   | 18,_,hlt,h,_=>exact h.below (hR.1 (by intro e;subst e;exact absurd hlt (by decide+kernel)))
   | 19,_,_,h,_=>exact h
   | 20,_,_,h,_=>exact h
   | 21,_,_,h,_=>exact h
   | _+22,_,_,_,_=>trivial
  ·refine⟨?_, ?_, ?_, ?_, ?_, ?_, ?_, ?_, ?_, ?_, ?_, ?_, ?_, ?_, ?_, ?_, ?_, ?_, ?_, ?_, ?_, ?_,trivial⟩
   ·intro x wx hG
    have f9:=hG.old 9 (by decide+kernel)
    have hg:=hG.good
    clear hG
    have c9:wx.cell? ⟨w3.heap.size,0,none⟩=some (.pointer (some ⟨g,0,none⟩)):=cell_of_block (j:=0) (HCW.out wx hg) rfl
    go_wp2
    exact⟨_,rfl,rfl,hg,⟨fun _=>Below.refl _ _,fun h=>absurd h (by decide)⟩⟩
   ·intro x wx hG
    have f3:=hG.old 3 (by decide+kernel)
    have hg:=hG.good
    clear hG
    go_wp2
    exact⟨_,rfl,rfl,hg,⟨fun _=>Below.refl _ _,fun h=>absurd h (by decide)⟩⟩
   ·intro x wx hG
    have f14:=hG.old 14 (by decide+kernel)
    have hg:=hG.good
    clear hG
    go_wp2
    exact⟨_,rfl,rfl,hg,⟨fun _=>Below.refl _ _,fun h=>absurd h (by decide)⟩⟩
   ·intro x wx hG
    have g1:(x.tmps.getD 96 undef)= .int .i64 cj:=hG.claims 1 _ rfl (by decide+kernel) (by decide+kernel)
    have g1b:=g1
    rw[Array.getD_eq_getD_getElem?] at g1b
    have g2:(x.tmps.getD 97 undef)= .int .i64 ((n4+1:Nat)):=hG.claims 2 _ rfl (by decide+kernel) (by decide+kernel)
    have g2b:=g2
    rw[Array.getD_eq_getD_getElem?] at g2b
    have hg:=hG.good
    clear hG
    have HN:=Lib.hid (HWI.out wx)
    go_wp2_with fail
    (with_reducible refine(HN.out).mono ?_)
    rintro e wq ⟨rfl,h2⟩
    have H2:=Lib.hid h2
    clear h2
    clear HN
    go_wp2
    exact⟨_,rfl,rfl,hg.below H2.out,⟨fun _=>H2.out,fun h=>absurd h (by decide)⟩⟩
   ·intro x wx hG
    have g0:(x.tmps.getD 95 undef)= .pointer (some ⟨g,0,none⟩):=hG.claims 0 _ rfl (by decide+kernel) (by decide+kernel)
    have g0b:=g0
    rw[Array.getD_eq_getD_getElem?] at g0b
    have g3:(x.tmps.getD 98 undef)= .int .i64 (kq:Nat):=hG.claims 3 _ rfl (by decide+kernel) (by decide+kernel)
    have g3b:=g3
    rw[Array.getD_eq_getD_getElem?] at g3b
    have hp0:=hG.pre 0 (by decide+kernel)
    have hg:=hG.good
    clear hG
    have HN:=Lib.hid (HLO.out wx hp0)
    go_wp2_with fail
    (with_reducible refine(HN.out).mono ?_)
    rintro e wq ⟨rfl,h1,h2⟩
    have H1:=Lib.hid h1
    have H2:=Lib.hid h2
    clear h1 h2
    clear HN
    go_wp2
    exact⟨_,rfl,⟨H1.out,rfl⟩,hg.trans H2.out,⟨fun h=>absurd rfl h,fun _=>H2.out⟩⟩
   ·intro x wx hG
    have g4:TownAt wx w2.heap.size T2 g t4∧(x.tmps.getD 99 undef)= .int .i64 0:=hG.claims 4 _ rfl (by decide+kernel) (by decide+kernel)
    have hg:=hG.good
    clear hG
    have g4v:=g4.2
    have g4vb:=g4v
    rw[Array.getD_eq_getD_getElem?] at g4vb
    go_wp2
    exact⟨_,rfl,⟨g4.1,rfl⟩,hg,⟨fun _=>Below.refl _ _,fun h=>absurd h (by decide)⟩⟩
   ·intro x wx hG
    have g5:TownAt wx w2.heap.size T2 g t4∧(x.tmps.getD 100 undef)= .bool true:=hG.claims 5 _ rfl (by decide+kernel) (by decide+kernel)
    have hg:=hG.good
    clear hG
    have g5v:=g5.2
    have g5vb:=g5v
    rw[Array.getD_eq_getD_getElem?] at g5vb
    go_wp2
    exact⟨_,rfl,⟨g5.1,rfl⟩,hg,⟨fun _=>Below.refl _ _,fun h=>absurd h (by decide)⟩⟩
   ·intro x wx hG
    have f9:=hG.old 9 (by decide+kernel)
    have gg:TownAt wx w2.heap.size T2 g t4∧(x.tmps.getD 101 undef)= .bool true:=hG.claims 6 _ rfl (by decide+kernel) (by decide+kernel)
    replace gg:=gg.2
    replace gg:=Cl3.opt (hG.size.trans (show _=116 from rfl)) (by decide) gg
    have hg:=hG.good
    clear hG
    have c9:wx.cell? ⟨w3.heap.size,0,none⟩=some (.pointer (some ⟨g,0,none⟩)):=cell_of_block (j:=0) (HCW.out wx hg) rfl
    go_wp2
    exact⟨_,rfl,rfl,hg,⟨fun _=>Below.refl _ _,fun h=>absurd h (by decide)⟩⟩
   ·intro x wx hG
    have g7:(x.tmps.getD 102 undef)= .pointer (some ⟨g,0,none⟩):=hG.claims 7 _ rfl (by decide+kernel) (by decide+kernel)
    have g7b:=g7
    rw[Array.getD_eq_getD_getElem?] at g7b
    have g6:TownAt wx w2.heap.size T2 g t4∧(x.tmps.getD 101 undef)= .bool true:=hG.claims 6 _ rfl (by decide+kernel) (by decide+kernel)
    have gg:TownAt wx w2.heap.size T2 g t4∧(x.tmps.getD 101 undef)= .bool true:=hG.claims 6 _ rfl (by decide+kernel) (by decide+kernel)
    replace gg:=gg.2
    replace gg:=Cl3.opt (hG.size.trans (show _=116 from rfl)) (by decide) gg
    have hg:=hG.good
    clear hG
    have g6v:=g6.2
    have g6vb:=g6v
    rw[Array.getD_eq_getD_getElem?] at g6vb
    have HN:=Lib.hid (HWY.out wx g6.1)
    go_wp2_with fail
    (with_reducible refine(HN.out).mono ?_)
    rintro e wq ⟨vq,rfl,h1,h2⟩
    obtain⟨qa,qc,rfl⟩:=h1
    have H2:=Lib.hid h2
    clear h2
    clear HN
    go_wp2
    exact⟨_,rfl,⟨qa,qc,rfl⟩,hg.below H2.out,⟨fun _=>H2.out,fun h=>absurd h (by decide)⟩⟩
   ·intro x wx hG
    have g8:SlcN n4 (x.tmps.getD 103 undef):=hG.claims 8 _ rfl (by decide+kernel) (by decide+kernel)
    have gg:TownAt wx w2.heap.size T2 g t4∧(x.tmps.getD 101 undef)= .bool true:=hG.claims 6 _ rfl (by decide+kernel) (by decide+kernel)
    replace gg:=gg.2
    replace gg:=Cl3.opt (hG.size.trans (show _=116 from rfl)) (by decide) gg
    have hg:=hG.good
    clear hG
    obtain⟨a8,c8,e8⟩:=g8
    have e8b:=e8
    rw[Array.getD_eq_getD_getElem?] at e8b
    go_wp2
    exact⟨_,rfl,rfl,hg,⟨fun _=>Below.refl _ _,fun h=>absurd h (by decide)⟩⟩
   ·intro x wx hG
    have f14:=hG.old 14 (by decide+kernel)
    have gg:TownAt wx w2.heap.size T2 g t4∧(x.tmps.getD 101 undef)= .bool true:=hG.claims 6 _ rfl (by decide+kernel) (by decide+kernel)
    replace gg:=gg.2
    replace gg:=Cl3.opt (hG.size.trans (show _=116 from rfl)) (by decide) gg
    have hg:=hG.good
    clear hG
    go_wp2
    exact⟨_,rfl,rfl,hg,⟨fun _=>Below.refl _ _,fun h=>absurd h (by decide)⟩⟩
   ·intro x wx hG
    have g10:(x.tmps.getD 105 undef)= .int .i64 ((n4+1:Nat)):=hG.claims 10 _ rfl (by decide+kernel) (by decide+kernel)
    have g10b:=g10
    rw[Array.getD_eq_getD_getElem?] at g10b
    have gg:TownAt wx w2.heap.size T2 g t4∧(x.tmps.getD 101 undef)= .bool true:=hG.claims 6 _ rfl (by decide+kernel) (by decide+kernel)
    replace gg:=gg.2
    replace gg:=Cl3.opt (hG.size.trans (show _=116 from rfl)) (by decide) gg
    have hg:=hG.good
    clear hG
    go_wp2
    exact⟨_,rfl,rfl,hg,⟨fun _=>Below.refl _ _,fun h=>absurd h (by decide)⟩⟩
   ·intro x wx hG
    have g9:(x.tmps.getD 104 undef)= .int .i64 (n4:Nat):=hG.claims 9 _ rfl (by decide+kernel) (by decide+kernel)
    have g9b:=g9
    rw[Array.getD_eq_getD_getElem?] at g9b
    have g11:(x.tmps.getD 106 undef)= .int .i64 (n4:Nat):=hG.claims 11 _ rfl (by decide+kernel) (by decide+kernel)
    have g11b:=g11
    rw[Array.getD_eq_getD_getElem?] at g11b
    have gg:TownAt wx w2.heap.size T2 g t4∧(x.tmps.getD 101 undef)= .bool true:=hG.claims 6 _ rfl (by decide+kernel) (by decide+kernel)
    replace gg:=gg.2
    replace gg:=Cl3.opt (hG.size.trans (show _=116 from rfl)) (by decide) gg
    have hg:=hG.good
    clear hG
    go_wp2
    exact⟨_,rfl,rfl,hg,⟨fun _=>Below.refl _ _,fun h=>absurd h (by decide)⟩⟩
   ·intro x wx hG
    have g6:TownAt wx w2.heap.size T2 g t4∧(x.tmps.getD 101 undef)= .bool true:=hG.claims 6 _ rfl (by decide+kernel) (by decide+kernel)
    have g12:(x.tmps.getD 107 undef)= .bool true:=hG.claims 12 _ rfl (by decide+kernel) (by decide+kernel)
    have g12b:=g12
    rw[Array.getD_eq_getD_getElem?] at g12b
    have hg:=hG.good
    clear hG
    have g6v:=g6.2
    have g6vb:=g6v
    rw[Array.getD_eq_getD_getElem?] at g6vb
    go_wp2
    exact⟨_,rfl,⟨g6.1,rfl⟩,hg,⟨fun _=>Below.refl _ _,fun h=>absurd h (by decide)⟩⟩
   ·intro x wx hG
    have g13:TownAt wx w2.heap.size T2 g t4∧(x.tmps.getD 108 undef)= .bool true:=hG.claims 13 _ rfl (by decide+kernel) (by decide+kernel)
    have hg:=hG.good
    clear hG
    have g13v:=g13.2
    have g13vb:=g13v
    rw[Array.getD_eq_getD_getElem?] at g13vb
    go_wp2
    exact⟨_,rfl,⟨g13.1,rfl⟩,hg,⟨fun _=>Below.refl _ _,fun h=>absurd h (by decide)⟩⟩
   ·intro x wx hG
    have f12:=hG.old 12 (by decide+kernel)
    have gg:TownAt wx w2.heap.size T2 g t4∧(x.tmps.getD 109 undef)= .bool true:=hG.claims 14 _ rfl (by decide+kernel) (by decide+kernel)
    replace gg:=gg.2
    replace gg:=Cl3.opt (hG.size.trans (show _=116 from rfl)) (by decide) gg
    have hg:=hG.good
    clear hG
    go_wp2
    exact⟨_,rfl,rfl,hg,⟨fun _=>Below.refl _ _,fun h=>absurd h (by decide)⟩⟩
   ·intro x wx hG
    have f13:=hG.old 13 (by decide+kernel)
    have gg:TownAt wx w2.heap.size T2 g t4∧(x.tmps.getD 109 undef)= .bool true:=hG.claims 14 _ rfl (by decide+kernel) (by decide+kernel)
    replace gg:=gg.2
    replace gg:=Cl3.opt (hG.size.trans (show _=116 from rfl)) (by decide) gg
    have hg:=hG.good
    clear hG
    go_wp2
    exact⟨_,rfl,rfl,hg,⟨fun _=>Below.refl _ _,fun h=>absurd h (by decide)⟩⟩
   ·intro x wx hG
    have f11:=hG.old 11 (by decide+kernel)
    have gg:TownAt wx w2.heap.size T2 g t4∧(x.tmps.getD 109 undef)= .bool true:=hG.claims 14 _ rfl (by decide+kernel) (by decide+kernel)
    replace gg:=gg.2
    replace gg:=Cl3.opt (hG.size.trans (show _=116 from rfl)) (by decide) gg
    have hg:=hG.good
    clear hG
    go_wp2
    exact⟨_,rfl,rfl,hg,⟨fun _=>Below.refl _ _,fun h=>absurd h (by decide)⟩⟩
   ·intro x wx hG
    have g17:(x.tmps.getD 112 undef)= .func (.func 61) #[] #[.pointer (some ⟨w3.heap.size,0,none⟩)]:=hG.claims 17 _ rfl (by decide+kernel) (by decide+kernel)
    have g17b:=g17
    rw[Array.getD_eq_getD_getElem?] at g17b
    have g14:TownAt wx w2.heap.size T2 g t4∧(x.tmps.getD 109 undef)= .bool true:=hG.claims 14 _ rfl (by decide+kernel) (by decide+kernel)
    have gg:TownAt wx w2.heap.size T2 g t4∧(x.tmps.getD 109 undef)= .bool true:=hG.claims 14 _ rfl (by decide+kernel) (by decide+kernel)
    replace gg:=gg.2
    replace gg:=Cl3.opt (hG.size.trans (show _=116 from rfl)) (by decide) gg
    have hg:=hG.good
    clear hG
    have g14v:=g14.2
    have g14vb:=g14v
    rw[Array.getD_eq_getD_getElem?] at g14vb
    have HN:=Lib.hid (HWA.out wx hg g14.1)
    go_wp2_with fail
    (with_reducible refine(HN.out).mono ?_)
    rintro e wq ⟨vq,rfl,h1,h2⟩
    obtain⟨qa,qc,hq⟩:=h1.shape
    subst hq
    have H1:=Lib.hid h1
    have H2:=Lib.hid h2
    clear h1 h2
    clear HN
    go_wp2
    exact⟨_,rfl,H1.out,hg.below H2.out,⟨fun _=>H2.out,fun h=>absurd h (by decide)⟩⟩
   ·intro x wx hG
    have g15:(x.tmps.getD 110 undef)= .func (.func 62) #[] #[]:=hG.claims 15 _ rfl (by decide+kernel) (by decide+kernel)
    have g15b:=g15
    rw[Array.getD_eq_getD_getElem?] at g15b
    have g16:(x.tmps.getD 111 undef)= .slice ba SH.length bc:=hG.claims 16 _ rfl (by decide+kernel) (by decide+kernel)
    have g16b:=g16
    rw[Array.getD_eq_getD_getElem?] at g16b
    have g18:RowAt shE wx (x.tmps.getD 113 undef) SH:=hG.claims 18 _ rfl (by decide+kernel) (by decide+kernel)
    have gg:TownAt wx w2.heap.size T2 g t4∧(x.tmps.getD 109 undef)= .bool true:=hG.claims 14 _ rfl (by decide+kernel) (by decide+kernel)
    replace gg:=gg.2
    replace gg:=Cl3.opt (hG.size.trans (show _=116 from rfl)) (by decide) gg
    have hg:=hG.good
    clear hG
    have G18:=Lib.hid g18
    obtain⟨a8,c8,e8⟩:=g18.shape
    rw[e8] at G18
    have e8b:=e8
    rw[Array.getD_eq_getD_getElem?] at e8b
    clear g18
    have HN:=Lib.hid (tl2_c _ _ SH wx (HRW.out wx hg) G18.out)
    go_wp2_with fail
    (with_reducible refine(HN.out).mono ?_)
    rintro e wq ⟨rfl,h2⟩
    have H2:=Lib.hid h2
    clear h2
    clear HN
    go_wp2
    exact⟨_,rfl,rfl,hg.below H2.out,⟨fun _=>H2.out,fun h=>absurd h (by decide)⟩⟩
   ·intro x wx hG
    have g14:TownAt wx w2.heap.size T2 g t4∧(x.tmps.getD 109 undef)= .bool true:=hG.claims 14 _ rfl (by decide+kernel) (by decide+kernel)
    have g19:(x.tmps.getD 114 undef)= .bool true:=hG.claims 19 _ rfl (by decide+kernel) (by decide+kernel)
    have g19b:=g19
    rw[Array.getD_eq_getD_getElem?] at g19b
    have hg:=hG.good
    clear hG
    have g14v:=g14.2
    have g14vb:=g14v
    rw[Array.getD_eq_getD_getElem?] at g14vb
    go_wp2
    exact⟨_,rfl,rfl,hg,⟨fun _=>Below.refl _ _,fun h=>absurd h (by decide)⟩⟩
   ·intro x wx hG
    have g20:(x.tmps.getD 115 undef)= .bool true:=hG.claims 20 _ rfl (by decide+kernel) (by decide+kernel)
    have g20b:=g20
    rw[Array.getD_eq_getD_getElem?] at g20b
    have hg:=hG.good
    clear hG
    go_wp2
    exact⟨_,rfl,rfl,hg,⟨fun _=>Below.refl _ _,fun h=>absurd h (by decide)⟩⟩
  ·intro vals w21 hg hF
   obtain⟨g0,g1,g2,g3,g4,g5,g6,g7,g8,g9,g10,g11,g12,g13,g14,g15,g16,g17,g18,g19,g20,g21, -⟩:=hF
   have e0:vals 0= .pointer (some ⟨g,0,none⟩):=g0 rfl
   have e1:vals 1= .int .i64 cj:=g1 rfl
   have e2:vals 2= .int .i64 ((n4+1:Nat)):=g2 rfl
   have e3:vals 3= .int .i64 (kq:Nat):=g3 rfl
   have e7:vals 7= .pointer (some ⟨g,0,none⟩):=g7 rfl
   have e9:vals 9= .int .i64 (n4:Nat):=g9 rfl
   have e10:vals 10= .int .i64 ((n4+1:Nat)):=g10 rfl
   have e11:vals 11= .int .i64 (n4:Nat):=g11 rfl
   have e12:vals 12= .bool true:=g12 rfl
   have e15:vals 15= .func (.func 62) #[] #[]:=g15 rfl
   have e16:vals 16= .slice ba SH.length bc:=g16 rfl
   have e17:vals 17= .func (.func 61) #[] #[.pointer (some ⟨w3.heap.size,0,none⟩)]:=g17 rfl
   have e19:vals 19= .bool true:=g19 rfl
   have e20:vals 20= .bool true:=g20 rfl
   have e21:vals 21= .bool true:=g21 rfl
   simp only[Cl3.puts,e0,e1,e2,e3,e7,e9,e10,e11,e12,e15,e16,e17,e19,e20,e21]
   clear e0 e1 e2 e3 e7 e9 e10 e11 e12 e15 e16 e17 e19 e20 e21 g0 g1 g2 g3 g4 g5 g6 g7 g8 g9 g10 g11 g12 g13 g14 g15 g16 g17 g18 g19 g20 g21
   go_simp
   have HG:=Lib.hid hg
   clear hg
   go_wp2
   go_ret
   exact⟨rfl,HFIN.out _ HG.out⟩
end Go.Proofs.YtihpddhngbgcdaaGreat
