/- The reader of a text: a number. Written by a small program (gen/text3.py). -/
import Derived.Test.YtdljflabokhedaaDoorText2
import Derived.Test.YtdljflabokhedaaDoorTextLay
import Derived.Lib.AtoiTie
namespace Go.Proofs.YtdljflabokhedaaDoor
open Go.RowKit
structure Gl (w:World) (R:Nat):Prop where
 syn: ∃ev,w.cell? ⟨atoiLay_ren.g 15,0,none⟩=some ev∧(ev= .nilIface∨ ∃te pe,ev= .iface te pe)
 ran: ∃ev,w.cell? ⟨atoiLay_ren.g 16,0,none⟩=some ev∧(ev= .nilIface∨ ∃te pe,ev= .iface te pe)
 ltS:atoiLay_ren.g 15 < R
 ltR:atoiLay_ren.g 16 < R
theorem Gl.below {w w':World} {R:Nat} (h:Gl w R) (hb:Below R w w'):Gl w' R:=by
 obtain⟨e1,h1,k1⟩:=h.syn
 obtain⟨e2,h2,k2⟩:=h.ran
 exact⟨⟨e1,(World.cell?_of_block (hb.block _ h.ltS)).trans h1,k1⟩,⟨e2,(World.cell?_of_block (hb.block _ h.ltR)).trans h2,k2⟩,h.ltS,h.ltR⟩
theorem Gl.up {w:World} {R R2:Nat} (h:Gl w R) (hR:R≤R2):Gl w R2:=⟨h.syn,h.ran,Nat.lt_of_lt_of_le h.ltS hR,Nat.lt_of_lt_of_le h.ltR hR⟩
def atOf (w:World) (R:Nat):Nat:=match w.cell? ⟨R,1,none⟩ with | some v=>(intOf v).toNat | none=>0
theorem Rd.atOf {w:World} {R:Nat} {s:ByteArray} {i:Nat} {nv:Value} {ns:Nds} (h:Rd w R s i nv ns):atOf w R=i:=by
 unfold Go.Proofs.YtdljflabokhedaaDoor.atOf
 rw[h.cells.2.1]
 simp[intOf]
theorem isDig_iff {c:Nat} :isDig c=true↔48≤c∧c≤57:=by simp[isDig]
theorem isDig_no {c:Nat} :isDig c=false↔c < 48∨57 < c:=by
 cases h:isDig c
 ·simp only[true_iff]
  by_cases h1:48≤c∧c≤57
  ·rw[isDig_iff.2 h1] at h;cases h
  ·omega
 ·have:=isDig_iff.1 h
  simp only[Bool.true_eq_false,false_iff];omega
theorem num1 (a:UInt8) (h:48≤a.toNat∧a.toNat≤57):Lib.atoiAll [a]= .ok ((a.toNat - 48:Nat):Int)∧Lib.decDigits (a.toNat - 48)=[a]:=by
 have h45:(a==45)=false:=by rw[beq_eq_false_iff_ne];intro e;rw [e] at h;exact absurd h.1 (by decide)
 have h43:(a==43)=false:=by rw[beq_eq_false_iff_ne];intro e;rw [e] at h;exact absurd h.1 (by decide)
 refine⟨?_, ?_⟩
 ·rw[Lib.atoiAll_short _ (by simp)]
  simp[Lib.atoi,h45,h43,Lib.decNat,Lib.decFrom,Lib.digitVal,h,Lib.NumEnd.ofOption]
 ·rw[Lib.decDigits,dif_pos (by omega),show 48+(a.toNat - 48)=a.toNat by omega,UInt8.ofNat_toNat]
theorem num2 (a b:UInt8) (ha:48≤a.toNat∧a.toNat≤57) (hb:48≤b.toNat∧b.toNat≤57):Lib.atoiAll [a,b]= .ok (((a.toNat - 48)*10+(b.toNat - 48):Nat):Int)∧(Lib.decDigits ((a.toNat - 48)*10+(b.toNat - 48))=[a,b]↔a.toNat≠48):=by
 have h45:(a==45)=false:=by rw[beq_eq_false_iff_ne];intro e;rw [e] at ha;exact absurd ha.1 (by decide)
 have h43:(a==43)=false:=by rw[beq_eq_false_iff_ne];intro e;rw [e] at ha;exact absurd ha.1 (by decide)
 refine⟨?_, ?_⟩
 ·rw[Lib.atoiAll_short _ (by simp)]
  simp[Lib.atoi,h45,h43,Lib.decNat,Lib.decFrom,Lib.digitVal,ha,hb,Lib.NumEnd.ofOption]
 ·by_cases e:a.toNat=48
  ·rw[Lib.decDigits,dif_pos (by omega)]
   simp[e]
  ·rw[Lib.decDigits,dif_neg (by omega),Lib.decDigits,dif_pos (by omega),show 48+((a.toNat - 48)*10+(b.toNat - 48)) / 10=a.toNat by omega,show 48+((a.toNat - 48)*10+(b.toNat - 48))%10=b.toNat by omega,UInt8.ofNat_toNat,UInt8.ofNat_toNat]
   simp[e]
theorem ext_list (s:ByteArray) (i k:Nat):(s.extract i k).data.toList=(s.data.toList.drop i).take (k - i):=by
 rw[ByteArray.data_extract,Array.toList_extract]
theorem ext1 {s:ByteArray} {i:Nat} (h:i < s.size):(s.extract i (i+1)).data.toList=[s[i]]:=by
 rw[ext_list,show i+1 - i=1 by omega,List.take_one,List.head?_drop,List.getElem?_eq_getElem (by simpa using h)]
 rfl
theorem ext2 {s:ByteArray} {i:Nat} (h:i+1 < s.size):(s.extract i (i+2)).data.toList=[s[i]'(by omega),s[i+1]]:=by
 rw[ext_list,show i+2 - i=2 by omega,List.drop_eq_getElem_cons (show i < s.data.toList.length by simp;exact Nat.lt_of_succ_lt h),List.take_succ_cons,List.take_one,List.head?_drop,List.getElem?_eq_getElem (by simpa using h)]
 rfl
theorem num_cases {s:ByteArray} {i k:Nat} (hik:i≤k) (hk:k≤s.size) (hd: ∀q,i≤q→q < k→isDig (chr s q)=true) (he:isDig (chr s k)=false):
  (k=i∧Lib.atoiAll (s.extract i k).data.toList= .syntax∧numP s i=none)∨
  (k - i≤2∧ ∃v:Nat,v < 100∧Lib.atoiAll (s.extract i k).data.toList= .ok (v:Int)∧((Lib.decDigits v=(s.extract i k).data.toList∧numP s i=some (k,v))∨(Lib.decDigits v≠(s.extract i k).data.toList∧numP s i=none)))∨
  (3≤k - i∧numP s i=none):=by
 by_cases h0:k=i
 ·subst h0
  refine .inl ⟨rfl, ?_,by rw[numP,if_pos he]⟩
  rw[ext_list,Nat.sub_self,List.take_zero];rfl
 have d0:=hd i (Nat.le_refl _) (by omega)
 have b0:=isDig_lt d0
 have e0:=isDig_iff.1 d0
 by_cases h1:k=i+1
 ·subst h1
  rw[chr_lt b0] at e0
  obtain⟨n1,n2⟩:=num1 s[i] e0
  refine .inr (.inl ⟨by omega,s[i].toNat - 48,by omega, ?_, .inl ⟨?_, ?_⟩⟩)
  ·rw[ext1 b0];exact n1
  ·rw[ext1 b0];exact n2
  ·rw[numP,if_neg (by rw[d0];decide),if_pos he,chr_lt b0]
 have d1:=hd (i+1) (by omega) (by omega)
 have b1:=isDig_lt d1
 have e1:=isDig_iff.1 d1
 by_cases h2:k=i+2
 ·subst h2
  rw[chr_lt b0] at e0
  rw[chr_lt b1] at e1
  obtain⟨n1,n2⟩:=num2 s[i] s[i+1] e0 e1
  refine .inr (.inl ⟨by omega,(s[i].toNat - 48)*10+(s[i+1].toNat - 48),by omega, ?_, ?_⟩)
  ·rw[ext2 b1];exact n1
  ·rw[ext2 b1]
   by_cases hz:s[i].toNat=48
   ·refine .inr ⟨fun e=>n2.1 e hz, ?_⟩
    rw[numP,if_neg (by rw[d0];decide),if_neg (by rw[d1];decide),if_pos (.inr (by rw[chr_lt b0];exact hz))]
   ·refine .inl ⟨n2.2 hz, ?_⟩
    rw[numP,if_neg (by rw[d0];decide),if_neg (by rw[d1];decide),if_neg,chr_lt b0,chr_lt b1]
    rintro(e | e)
    ·rw[he] at e;cases e
    ·rw[chr_lt b0] at e;exact hz e
 ·have d2:=hd (i+2) (by omega) (by omega)
  exact .inr (.inr ⟨by omega,by rw[numP,if_neg (by rw[d0];decide),if_neg (by rw[d1];decide),if_pos (.inl d2)]⟩)
theorem atoi_world {w w2:World} {t5:TypeId} (h:w2=w∨ ∃t,w2=Lib.bytesWorld w t5 t):Below w.heap.size w w2:=by
 rcases h with rfl | ⟨t,rfl⟩
 ·exact Below.refl _ _
 ·exact Lib.bytesWorld_below _ _ _
set_option maxRecDepth 100000 in
set_option maxHeartbeats 8000000 in
theorem number_c (R:Nat) (s:ByteArray) (i:Nat) (nv:Value) (ns:Nds) (w:World) (h:Rd w R s i nv ns) (hg:Gl w R) (hsz:s.size≤400) (hi:i≤s.size):
  Calls Tryd.prog 26 #[.pointer (some ⟨R,0,none⟩)] w fun e w'=>
   (∀j v,numP s i=some (j,v)→e= .returned (.int .i64 v)∧Rd w' R s j nv ns)∧(numP s i=none→e=fl9)∧Kp R nv nv w w':=by
 obtain⟨c0,c1,c2,z1,z2⟩:=h.cells
 have HR:=Lib.hid h
 have HG:=Lib.hid hg
 clear h hg
 go_enter Tryd.func26,Tryd.ntmps26
 go_wp2
 clear c0 c1 c2 z1 z2
 go_loopw [] (fun wr=> ∃k,i≤k∧k≤s.size∧Rd wr R s k nv ns∧Kp R nv nv w wr∧ ∀q,i≤q→q < k→isDig (chr s q)=true) (fun wr=>s.size - atOf wr R)
 case atStart=>exact ⟨i,Nat.le_refl _,hi,HR.out,Kp.refl _ _ _,fun q h1 h2=>absurd h2 (by omega)⟩
 case round=>
  obtain⟨k,hik,hks,hrd,hkp,hdig⟩:=hrel
  have HAT:=Lib.hid hrd.atOf
  have M:=Lib.hid hrd
  have HK:=Lib.hid hkp
  have HD:=Lib.hid hdig
  have HGR:=Lib.hid (HG.out.below (hkp.toBelow (fun q hq=>(HR.out.row q hq).1) (Nat.le_refl _) HR.out.lt))
  obtain⟨c0,c1,c2,z1,z2⟩:=hrd.cells
  clear hrd hkp hdig HR HG
  by_cases hlt:k < s.size
  rotate_left
  ·have hd:decide ((k:Int) < (s.size:Int))=false:=by rw[decide_eq_false_iff_not];omega
   have HC:=num_cases hik hks HD.out (isDig_no.2 (.inr (by rw[chr_end (by omega)];omega)))
   go_wp2_with fail
   go_quiet (fail)
   go_wp2
   go_quiet (fail)
   go_wp2_with fail
   have hzz:(s.extract i k).size=k - i:=by rw[ByteArray.size_extract];omega
   rcases HC with⟨he,ha,hn⟩ | ⟨hl,v,hv,ha,hc⟩ | ⟨hl,hn⟩
   ·obtain⟨ev,hev1,hev2⟩:=HGR.out.syn
    refine(Any.strconv_Atoi_syntax atoiLay (s.extract i k) (by omega) ha ev _ ?_ hev2).mono ?_
    ·exact ckeep (below_drewN (Below.refl _ _) _) hev1
    rintro e w2 ⟨N,rfl,hN1,hN2,hb⟩
    have HKE:=Lib.hid (HK.out.trans (Kp.of_below (bstep (below_drewN (Below.refl _ _) _) hb)))
    clear hN1 hN2 hb
    go_wp2_with fail
    refine(bad_c 9 _).mono ?_
    rintro e w3 ⟨rfl,rfl⟩
    go_wp2
    exact⟨rfl,fun j v h=>absurd (hn.symm.trans h) (by simp),fun _=>rfl,HKE.out⟩
   ·refine(Any.strconv_Atoi_ok atoiLay (s.extract i k) (by omega) v ha _).mono ?_
    rintro e w2 ⟨rfl,hw2⟩
    have hb:=atoi_world hw2
    have HKE:=Lib.hid (HK.out.trans (Kp.of_below (bstep (below_drewN (Below.refl _ _) _) hb)))
    have HRE:=Lib.hid (M.out.below (bstep (below_drewN (Below.refl _ _) _) hb))
    clear hw2 hb
    rcases hc with⟨hc1,hc2⟩ | ⟨hc1,hc2⟩
    ·rw[←ByteArray.toList_eq] at hc1
     go_wp2_with fail
     refine(Any.strconv_Itoa_small itoaLay v hv _).mono ?_
     rintro e w3 ⟨rfl,rfl⟩
     go_wp2_with fail
     go_ret
     refine⟨fun j v' h=> ?_,fun h=>absurd (hc2.symm.trans h) (by simp),HKE.out⟩
     obtain⟨rfl,rfl⟩:k=j∧v=v':=by simpa using hc2.symm.trans h
     exact⟨rfl,HRE.out⟩
    ·rw[←ByteArray.toList_eq] at hc1
     replace hc1:=beq_eq_false_iff_ne.2 hc1
     go_wp2_with fail
     refine(Any.strconv_Itoa_small itoaLay v hv _).mono ?_
     rintro e w3 ⟨rfl,rfl⟩
     go_wp2_with fail
     refine(bad_c 9 _).mono ?_
     rintro e w3 ⟨rfl,rfl⟩
     go_wp2
     exact⟨rfl,fun j v h=>absurd (hc2.symm.trans h) (by simp),fun _=>rfl,HKE.out⟩
   ·have hbig:decide ((2:Int) < ((k - i:Nat):Int))=true:=by rw[decide_eq_true_eq];omega
    cases ha:Lib.atoiAll (s.extract i k).data.toList with
    | ok v=>
     refine(Any.strconv_Atoi_ok atoiLay (s.extract i k) (by omega) v ha _).mono ?_
     rintro e w2 ⟨rfl,hw2⟩
     have hb:=atoi_world hw2
     have HKE:=Lib.hid (HK.out.trans (Kp.of_below (bstep (below_drewN (Below.refl _ _) _) hb)))
     clear hw2 hb
     go_wp2_with fail
     refine(bad_c 9 _).mono ?_
     rintro e w3 ⟨rfl,rfl⟩
     go_wp2
     exact⟨rfl,fun j v h=>absurd (hn.symm.trans h) (by simp),fun _=>rfl,HKE.out⟩
    | range=>
     obtain⟨ev,hev1,hev2⟩:=HGR.out.ran
     refine(Any.strconv_Atoi_range atoiLay (s.extract i k) (by omega) ha ev _ ?_ hev2).mono ?_
     ·exact ckeep (below_drewN (Below.refl _ _) _) hev1
     rintro e w2 ⟨N,rfl,hN1,hN2,hb⟩
     have HKE:=Lib.hid (HK.out.trans (Kp.of_below (bstep (below_drewN (Below.refl _ _) _) hb)))
     clear hN1 hN2 hb
     go_wp2_with fail
     refine(bad_c 9 _).mono ?_
     rintro e w3 ⟨rfl,rfl⟩
     go_wp2
     exact⟨rfl,fun j v h=>absurd (hn.symm.trans h) (by simp),fun _=>rfl,HKE.out⟩
    | _ =>
     obtain⟨ev,hev1,hev2⟩:=HGR.out.syn
     refine(Any.strconv_Atoi_syntax atoiLay (s.extract i k) (by omega) ha ev _ ?_ hev2).mono ?_
     ·exact ckeep (below_drewN (Below.refl _ _) _) hev1
     rintro e w2 ⟨N,rfl,hN1,hN2,hb⟩
     have HKE:=Lib.hid (HK.out.trans (Kp.of_below (bstep (below_drewN (Below.refl _ _) _) hb)))
     clear hN1 hN2 hb
     go_wp2_with fail
     refine(bad_c 9 _).mono ?_
     rintro e w3 ⟨rfl,rfl⟩
     go_wp2
     exact⟨rfl,fun j v h=>absurd (hn.symm.trans h) (by simp),fun _=>rfl,HKE.out⟩
  have hb:s[k].toNat < 256:=s[k].toNat_lt
  have hget: ∀h,s[(k:Int).toNat]'h=s[k]:=fun _=>rfl
  have hch:=chr_lt hlt
  by_cases h48:48≤s[k].toNat
  rotate_left
  ·have HC:=num_cases hik hks HD.out (isDig_no.2 (.inl (by rw[hch];omega)))
   have hq1:decide ((48:Int)≤(s[k].toNat:Int))=false:=by rw[decide_eq_false_iff_not];omega
   go_wp2_with fail
   go_quiet (fail)
   go_wp2
   go_quiet (fail)
   go_wp2_with fail
   have hzz:(s.extract i k).size=k - i:=by rw[ByteArray.size_extract];omega
   rcases HC with⟨he,ha,hn⟩ | ⟨hl,v,hv,ha,hc⟩ | ⟨hl,hn⟩
   ·obtain⟨ev,hev1,hev2⟩:=HGR.out.syn
    refine(Any.strconv_Atoi_syntax atoiLay (s.extract i k) (by omega) ha ev _ ?_ hev2).mono ?_
    ·exact ckeep (below_drewN (Below.refl _ _) _) hev1
    rintro e w2 ⟨N,rfl,hN1,hN2,hb⟩
    have HKE:=Lib.hid (HK.out.trans (Kp.of_below (bstep (below_drewN (Below.refl _ _) _) hb)))
    clear hN1 hN2 hb
    go_wp2_with fail
    refine(bad_c 9 _).mono ?_
    rintro e w3 ⟨rfl,rfl⟩
    go_wp2
    exact⟨rfl,fun j v h=>absurd (hn.symm.trans h) (by simp),fun _=>rfl,HKE.out⟩
   ·refine(Any.strconv_Atoi_ok atoiLay (s.extract i k) (by omega) v ha _).mono ?_
    rintro e w2 ⟨rfl,hw2⟩
    have hb:=atoi_world hw2
    have HKE:=Lib.hid (HK.out.trans (Kp.of_below (bstep (below_drewN (Below.refl _ _) _) hb)))
    have HRE:=Lib.hid (M.out.below (bstep (below_drewN (Below.refl _ _) _) hb))
    clear hw2 hb
    rcases hc with⟨hc1,hc2⟩ | ⟨hc1,hc2⟩
    ·rw[←ByteArray.toList_eq] at hc1
     go_wp2_with fail
     refine(Any.strconv_Itoa_small itoaLay v hv _).mono ?_
     rintro e w3 ⟨rfl,rfl⟩
     go_wp2_with fail
     go_ret
     refine⟨fun j v' h=> ?_,fun h=>absurd (hc2.symm.trans h) (by simp),HKE.out⟩
     obtain⟨rfl,rfl⟩:k=j∧v=v':=by simpa using hc2.symm.trans h
     exact⟨rfl,HRE.out⟩
    ·rw[←ByteArray.toList_eq] at hc1
     replace hc1:=beq_eq_false_iff_ne.2 hc1
     go_wp2_with fail
     refine(Any.strconv_Itoa_small itoaLay v hv _).mono ?_
     rintro e w3 ⟨rfl,rfl⟩
     go_wp2_with fail
     refine(bad_c 9 _).mono ?_
     rintro e w3 ⟨rfl,rfl⟩
     go_wp2
     exact⟨rfl,fun j v h=>absurd (hc2.symm.trans h) (by simp),fun _=>rfl,HKE.out⟩
   ·have hbig:decide ((2:Int) < ((k - i:Nat):Int))=true:=by rw[decide_eq_true_eq];omega
    cases ha:Lib.atoiAll (s.extract i k).data.toList with
    | ok v=>
     refine(Any.strconv_Atoi_ok atoiLay (s.extract i k) (by omega) v ha _).mono ?_
     rintro e w2 ⟨rfl,hw2⟩
     have hb:=atoi_world hw2
     have HKE:=Lib.hid (HK.out.trans (Kp.of_below (bstep (below_drewN (Below.refl _ _) _) hb)))
     clear hw2 hb
     go_wp2_with fail
     refine(bad_c 9 _).mono ?_
     rintro e w3 ⟨rfl,rfl⟩
     go_wp2
     exact⟨rfl,fun j v h=>absurd (hn.symm.trans h) (by simp),fun _=>rfl,HKE.out⟩
    | range=>
     obtain⟨ev,hev1,hev2⟩:=HGR.out.ran
     refine(Any.strconv_Atoi_range atoiLay (s.extract i k) (by omega) ha ev _ ?_ hev2).mono ?_
     ·exact ckeep (below_drewN (Below.refl _ _) _) hev1
     rintro e w2 ⟨N,rfl,hN1,hN2,hb⟩
     have HKE:=Lib.hid (HK.out.trans (Kp.of_below (bstep (below_drewN (Below.refl _ _) _) hb)))
     clear hN1 hN2 hb
     go_wp2_with fail
     refine(bad_c 9 _).mono ?_
     rintro e w3 ⟨rfl,rfl⟩
     go_wp2
     exact⟨rfl,fun j v h=>absurd (hn.symm.trans h) (by simp),fun _=>rfl,HKE.out⟩
    | _ =>
     obtain⟨ev,hev1,hev2⟩:=HGR.out.syn
     refine(Any.strconv_Atoi_syntax atoiLay (s.extract i k) (by omega) ha ev _ ?_ hev2).mono ?_
     ·exact ckeep (below_drewN (Below.refl _ _) _) hev1
     rintro e w2 ⟨N,rfl,hN1,hN2,hb⟩
     have HKE:=Lib.hid (HK.out.trans (Kp.of_below (bstep (below_drewN (Below.refl _ _) _) hb)))
     clear hN1 hN2 hb
     go_wp2_with fail
     refine(bad_c 9 _).mono ?_
     rintro e w3 ⟨rfl,rfl⟩
     go_wp2
     exact⟨rfl,fun j v h=>absurd (hn.symm.trans h) (by simp),fun _=>rfl,HKE.out⟩
  have hq1:decide ((48:Int)≤(s[k].toNat:Int))=true:=by rw[decide_eq_true_eq];omega
  by_cases h57:s[k].toNat≤57
  rotate_left
  ·have HC:=num_cases hik hks HD.out (isDig_no.2 (.inr (by rw[hch];omega)))
   have hq2:decide ((s[k].toNat:Int)≤(57:Int))=false:=by rw[decide_eq_false_iff_not];omega
   go_wp2_with fail
   go_quiet (fail)
   go_wp2
   go_quiet (fail)
   go_wp2_with fail
   have hzz:(s.extract i k).size=k - i:=by rw[ByteArray.size_extract];omega
   rcases HC with⟨he,ha,hn⟩ | ⟨hl,v,hv,ha,hc⟩ | ⟨hl,hn⟩
   ·obtain⟨ev,hev1,hev2⟩:=HGR.out.syn
    refine(Any.strconv_Atoi_syntax atoiLay (s.extract i k) (by omega) ha ev _ ?_ hev2).mono ?_
    ·exact ckeep (below_drewN (Below.refl _ _) _) hev1
    rintro e w2 ⟨N,rfl,hN1,hN2,hb⟩
    have HKE:=Lib.hid (HK.out.trans (Kp.of_below (bstep (below_drewN (Below.refl _ _) _) hb)))
    clear hN1 hN2 hb
    go_wp2_with fail
    refine(bad_c 9 _).mono ?_
    rintro e w3 ⟨rfl,rfl⟩
    go_wp2
    exact⟨rfl,fun j v h=>absurd (hn.symm.trans h) (by simp),fun _=>rfl,HKE.out⟩
   ·refine(Any.strconv_Atoi_ok atoiLay (s.extract i k) (by omega) v ha _).mono ?_
    rintro e w2 ⟨rfl,hw2⟩
    have hb:=atoi_world hw2
    have HKE:=Lib.hid (HK.out.trans (Kp.of_below (bstep (below_drewN (Below.refl _ _) _) hb)))
    have HRE:=Lib.hid (M.out.below (bstep (below_drewN (Below.refl _ _) _) hb))
    clear hw2 hb
    rcases hc with⟨hc1,hc2⟩ | ⟨hc1,hc2⟩
    ·rw[←ByteArray.toList_eq] at hc1
     go_wp2_with fail
     refine(Any.strconv_Itoa_small itoaLay v hv _).mono ?_
     rintro e w3 ⟨rfl,rfl⟩
     go_wp2_with fail
     go_ret
     refine⟨fun j v' h=> ?_,fun h=>absurd (hc2.symm.trans h) (by simp),HKE.out⟩
     obtain⟨rfl,rfl⟩:k=j∧v=v':=by simpa using hc2.symm.trans h
     exact⟨rfl,HRE.out⟩
    ·rw[←ByteArray.toList_eq] at hc1
     replace hc1:=beq_eq_false_iff_ne.2 hc1
     go_wp2_with fail
     refine(Any.strconv_Itoa_small itoaLay v hv _).mono ?_
     rintro e w3 ⟨rfl,rfl⟩
     go_wp2_with fail
     refine(bad_c 9 _).mono ?_
     rintro e w3 ⟨rfl,rfl⟩
     go_wp2
     exact⟨rfl,fun j v h=>absurd (hc2.symm.trans h) (by simp),fun _=>rfl,HKE.out⟩
   ·have hbig:decide ((2:Int) < ((k - i:Nat):Int))=true:=by rw[decide_eq_true_eq];omega
    cases ha:Lib.atoiAll (s.extract i k).data.toList with
    | ok v=>
     refine(Any.strconv_Atoi_ok atoiLay (s.extract i k) (by omega) v ha _).mono ?_
     rintro e w2 ⟨rfl,hw2⟩
     have hb:=atoi_world hw2
     have HKE:=Lib.hid (HK.out.trans (Kp.of_below (bstep (below_drewN (Below.refl _ _) _) hb)))
     clear hw2 hb
     go_wp2_with fail
     refine(bad_c 9 _).mono ?_
     rintro e w3 ⟨rfl,rfl⟩
     go_wp2
     exact⟨rfl,fun j v h=>absurd (hn.symm.trans h) (by simp),fun _=>rfl,HKE.out⟩
    | range=>
     obtain⟨ev,hev1,hev2⟩:=HGR.out.ran
     refine(Any.strconv_Atoi_range atoiLay (s.extract i k) (by omega) ha ev _ ?_ hev2).mono ?_
     ·exact ckeep (below_drewN (Below.refl _ _) _) hev1
     rintro e w2 ⟨N,rfl,hN1,hN2,hb⟩
     have HKE:=Lib.hid (HK.out.trans (Kp.of_below (bstep (below_drewN (Below.refl _ _) _) hb)))
     clear hN1 hN2 hb
     go_wp2_with fail
     refine(bad_c 9 _).mono ?_
     rintro e w3 ⟨rfl,rfl⟩
     go_wp2
     exact⟨rfl,fun j v h=>absurd (hn.symm.trans h) (by simp),fun _=>rfl,HKE.out⟩
    | _ =>
     obtain⟨ev,hev1,hev2⟩:=HGR.out.syn
     refine(Any.strconv_Atoi_syntax atoiLay (s.extract i k) (by omega) ha ev _ ?_ hev2).mono ?_
     ·exact ckeep (below_drewN (Below.refl _ _) _) hev1
     rintro e w2 ⟨N,rfl,hN1,hN2,hb⟩
     have HKE:=Lib.hid (HK.out.trans (Kp.of_below (bstep (below_drewN (Below.refl _ _) _) hb)))
     clear hN1 hN2 hb
     go_wp2_with fail
     refine(bad_c 9 _).mono ?_
     rintro e w3 ⟨rfl,rfl⟩
     go_wp2
     exact⟨rfl,fun j v h=>absurd (hn.symm.trans h) (by simp),fun _=>rfl,HKE.out⟩
  have hq2:decide ((s[k].toNat:Int)≤(57:Int))=true:=by rw[decide_eq_true_eq];omega
  have HX:=Lib.hid (show isDig (chr s k)=true from isDig_iff.2 ⟨by omega,by omega⟩)
  clear hch
  go_wp2_with fail
  go_quiet (fail)
  go_wp2
  go_roundw
  case rel=>
   refine⟨k+1,by omega,by omega,(M.out.drewN _).step (k+1),HK.out.trans ((Kp.drewN _ _ _ _).trans (Kp.step _ _ _ _ _)),fun q h1 h2=> ?_⟩
   by_cases hq:q=k
   ·subst hq;exact HX.out
   ·exact HD.out q h1 (by omega)
  case measure=>
   rw[HAT.out]
   refine Nat.lt_of_le_of_lt (Nat.le_of_eq (congrArg (s.size - ·) (((M.out.drewN _).step (k+1)).atOf))) ?_
   omega
end Go.Proofs.YtdljflabokhedaaDoor
