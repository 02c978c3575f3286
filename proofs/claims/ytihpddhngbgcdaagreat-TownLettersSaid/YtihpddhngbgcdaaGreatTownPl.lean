/- What the laws' play of a town does. Written by a small program (gen/townpl.py). -/
import Derived.Test.YtihpddhngbgcdaaGreatMTownB
import Derived.Test.YtihpddhngbgcdaaGreatMSiteD
import Derived.Test.YtihpddhngbgcdaaGreatMShelf1
import Derived.Deep.CutBlock
namespace Go.Proofs.YtihpddhngbgcdaaGreat
open Go.RowKit
def PlayPost (wz:World) (b g:Nat) (T:Nat→Prop) (e:Ending) (w':World):Prop:= ∃(H A:List Ver) (t:TownS) (a:Option Addr) (c:Nat),e= .returned (.slice a A.length c)∧PlSt wz b g T 60 H A t (.slice a A.length c) w'
set_option maxRecDepth 100000 in
theorem pl_p (B:Nat) (v:Ver) (y z:Value) (w:World) (hB:w.heap[B]? =some (Obj.cells (verC v y z) 75 (0,0))):
  PredV VerOk 115 #[.pointer (some ⟨B,0,none⟩)] (fun x=>decide (x.ds=v.ds)&&decide (x.dc=v.dc)) w:=by
 refine⟨enters_of Tryz.func115 (by kernel_rfl) rfl,fun a u x W hok hbl ha=> ?_⟩
 show Calls Tryz.prog 115 #[.agg (verC a u x), .pointer (some ⟨B,0,none⟩)] W _
 have hB2:=below_keep hbl hB
 obtain⟨xa,ca,rfl⟩:=ha.vec.shape
 obtain⟨ya,da,rfl⟩:=ha.more.shape
 have hbel:=bal (W:=W) (.cells (verC a (.slice xa a.past.vec.length ca) (.slice ya a.past.more.length da)) 75)
 have c1:W.cell? ⟨B,1,none⟩=some (.int .i64 v.ds):=cell_of_block (j:=1) hB2 rfl
 have c2:W.cell? ⟨B,2,none⟩=some (.int .i64 v.dc):=cell_of_block (j:=2) hB2 rfl
 have hlt:=hlt_of hB2
 clear ha hB2 hbl hB
 unfold verC at*
 have HBE:=Lib.hid hbel
 clear hbel
 go_enter Tryz.func115,Tryz.ntmps115
 by_cases e1:a.ds=v.ds
 ·by_cases e2:a.dc=v.dc
  ·have HD:=Lib.hid (show(decide (a.ds=v.ds)&&decide (a.dc=v.dc))=true by rw[decide_eq_true e1,decide_eq_true e2];rfl)
   have b1:(a.ds==v.ds)=true:=by simpa using e1
   have b2:(a.dc==v.dc)=true:=by simpa using e2
   clear e1 e2
   go_wp2
   go_ret
   exact⟨by rw[HD.out];rfl,HBE.out⟩
  ·have HD:=Lib.hid (show(decide (a.ds=v.ds)&&decide (a.dc=v.dc))=false by rw[decide_eq_true e1,decide_eq_false e2];rfl)
   have b1:(a.ds==v.ds)=true:=by simpa using e1
   have b2:(a.dc==v.dc)=false:=by simpa using e2
   clear e1 e2
   go_wp2
   go_ret
   exact⟨by rw[HD.out];rfl,HBE.out⟩
 ·have HD:=Lib.hid (show(decide (a.ds=v.ds)&&decide (a.dc=v.dc))=false by rw[decide_eq_false e1];rfl)
  have b1:(a.ds==v.ds)=false:=by simpa using e1
  clear e1
  go_wp2
  go_ret
  exact⟨by rw[HD.out];rfl,HBE.out⟩
set_option maxRecDepth 100000 in
set_option maxHeartbeats 40000000 in
theorem tplayed_c (b g:Nat) (T:Nat→Prop) (t:TownS) (fv lv:Value) (F:List Bxs) (l:List (List Int)) (wz:World) (h:TownAt wz b T g t) (hI:TownI [] t 0) (h3:t.sites.length=3) (hTn: ∀q,wz.heap.size≤q→T q) (W0:World) (hW:Stp T W0 wz) (hT0: ∀q,T q→W0.heap.size≤q)
  (hF:RowAt bxsE W0 fv F) (hFc: ∀x∈F,fChk x=0) (hF1:1≤F.length∧F.length≤100) (hl:RowAt vecE W0 lv l):
  Calls Tryz.prog 55 #[.pointer (some ⟨g,0,none⟩),fv,lv] wz (PlayPost wz b g T):=by
 have HSB:=Lib.hid (fun w' (hs:Stp T wz w')=>show Sub W0 w' from Lw.sub (show Lw W0 w' from(hW.trans hs).mono hT0))
 obtain⟨la,lc,rfl,hlc, -, -, -⟩:=hl.open_
 obtain⟨fa,fc,rfl, -, -, -,hvf⟩:=hF.open_
 have HVF:=Lib.hid hvf
 obtain⟨n,hn⟩: ∃n,n=min l.length 60:=⟨_,rfl⟩
 have hn1:n≤l.length:=by omega
 have hn2:n≤60:=by omega
 have hn3:n≤lc:=by omega
 have hmin:min (l.length:Int) 60=(n:Int):=by omega
 have HL:=Lib.hid (fun w' (hs:Stp T wz w')=>RowAt.take (hl.sub (HSB.out w' hs)) n hn1)
 have HFC:=Lib.hid hFc
 have HF1:=Lib.hid hF1
 have HTN:=Lib.hid hTn
 have HP0:=Lib.hid (show PlSt wz b g T 0 [] [] t (.slice none 0 0) wz from⟨h,hI,h3,AllAt.nil _ _,⟨by simp,List.nodup_nil⟩,by simp,Stp.refl _ _⟩)
 clear h hI h3 hl hn hF hFc hF1 hTn hvf hW hT0
 go_enter Tryz.func55,Tryz.ntmps55
 go_wp2
 go_loopw [23,7] (fun i ov wr=> ∃k:Nat,k≤n∧i= .int .i64 k∧ ∃H A t,PlSt wz b g T k H A t ov wr) (fun i _ _=>n - (intOf i).toNat)
 case atStart=>exact ⟨0,Nat.zero_le _,rfl,[],[],t,HP0.out⟩
 case round=>
  clear HP0
  obtain⟨k,hk,rfl,H,A,t',hst⟩:=hrel
  obtain⟨css0, -,h20⟩:=hst.all.1
  obtain⟨oa,oc,hov⟩:=owns_slice h20
  subst hov
  clear h20
  have HST:=Lib.hid hst
  by_cases hlt:k < n
  rotate_left
  ·obtain rfl:k=n:=by omega
   have hkb:decide ((k:Int) < (k:Int))=false:=by simp
   clear hst
   go_wp2
   go_ret
   have h1:=HST.out
   exact⟨H,A,t',oa,oc,rfl,h1.town,h1.inv.up hn2,h1.n3,h1.all,h1.seen,h1.eq,h1.stp⟩
  have hkb:decide ((k:Int) < (n:Int))=true:=by simp;omega
  have HLr:=Lib.hid (HL.out wr hst.stp)
  obtain⟨a',cap',ha', -, -, -,hvl2⟩:=HLr.out.open_
  simp only[Value.slice.injEq] at ha'
  obtain⟨hla, -,hlc2⟩:=ha'
  have hltk:k < (l.take n).length:=by rw[List.length_take];omega
  rcases hvl2 with hnil | ⟨b7,off,ha7,hb,hc⟩
  ·rw[hnil] at hltk;simp at hltk
  rw[ha7] at hla
  subst hla
  obtain⟨c,⟨u,rfl,hu⟩,hcc⟩:=hc k hltk
  have c1:wr.cell? ⟨b7,off+k,none⟩=some u:=by have:=hcc 0 u rfl;simpa [vecE] using this
  generalize (l.take n)[k]=cs at*
  obtain⟨ua,uc,hus⟩:=hu.shape
  subst hus
  have HU:=Lib.hid hu
  clear hc hcc hst hu HLr ha7 hlc2
  by_cases h3:cs.length < 3
  ·have hd:decide ((cs.length:Int) < 3)=true:=by simp;omega
   go_wp2
   go_roundw
   case rel=>exact ⟨k+1,by omega,by go_num,H,A,t',by have h1:=HST.out;exact ⟨h1.town,h1.inv.up (by omega),h1.n3,h1.all,h1.seen,h1.eq,h1.stp⟩⟩
   case measure=>simp [intOf] <;> omega
  have hd:decide ((cs.length:Int) < 3)=false:=by simp;omega
  obtain⟨cb,coff,cc,hcs,hcb,x0,x1,x2,q0,q1,q2, -⟩:=three_ints HU.out (by omega)
  simp only[Value.slice.injEq,true_and] at hcs
  obtain⟨rfl,rfl⟩:=hcs
  clear HU
  obtain⟨ki,hki⟩: ∃ki,ki=wiN x1 3:=⟨_,rfl⟩
  obtain⟨kq,hkq⟩: ∃kq,kq=wiN x0 8:=⟨_,rfl⟩
  have hki3:ki < 3:=by rw[hki];exact wiN_lt x1 3 (by decide)
  have hkq8:kq < 8:=by rw[hkq];exact wiN_lt x0 8 (by decide)
  have HC0:=Lib.hid q0
  have HC1:=Lib.hid q1
  have HC2:=Lib.hid q2
  go_wp2_with fail
  (with_reducible refine(wiN_c x1 3 wr (by decide) (by decide)).mono ?_)
  rintro e w1 ⟨rfl,hb1⟩
  rw[←hki]
  replace q0:=ckeep hb1 q0
  have HB1:=Lib.hid hb1
  clear hki hb1 q1 q2 c1
  go_wp2_with fail
  (with_reducible refine(wiN_c x0 8 w1 (by decide) (by decide)).mono ?_)
  rintro e w2 ⟨rfl,hb2⟩
  rw[←hkq]
  have HB2:=Lib.hid (bstep HB1.out hb2)
  have HX0:=Lib.hid (ckeep HB2.out HC0.out)
  have HX1:=Lib.hid (ckeep HB2.out HC1.out)
  have HX2:=Lib.hid (ckeep HB2.out HC2.out)
  have HT2:=Lib.hid (HST.out.town.below HB2.out)
  have HS2:=Lib.hid (Stp.of_below (G:=T) HB2.out)
  have HN3:=Lib.hid HST.out.n3
  have HIV:=Lib.hid HST.out.inv
  have hk60:k < 60:=by omega
  have HIS:=Lib.hid (show ki < t'.sites.length by rw[HST.out.n3];exact hki3)
  have HGT:=Lib.hid (fun q (hq:w2.heap.size≤q)=>HTN.out q (Nat.le_trans (Nat.le_trans HST.out.stp.size HB2.out.size) hq))
  have hcs3:2 < (cs.length:Int):=by omega
  clear hkq hb2 q0 HB1 h3 hd hkb hmin
  go_upto_block 2 with fail
  go_cut [11] from 24 to 131 (fun s11 wx=>TurnR wz b g T k H A (.slice oa A.length oc) wx)
  case rest=>
   obtain⟨⟨H',t2,hm,hnew,hinv,hn3,htw⟩,hall,hstp⟩:=hcut
   have L0:=Lib.hid (show LookSt wz b g T k H' A A t2 (shelves (t2.sites.take 0)) (.slice oa A.length oc) wc from⟨htw,hinv,hn3,hall,HST.out.seen.mono hm,fun x=>by simp[shelves],hstp⟩)
   have HM:=Lib.hid hm
   have HNEW:=Lib.hid hnew
   have HHX:=Lib.hid hinv.hx
   have HHL:=Lib.hid hinv.len
   have HTG:=Lib.hid htw.ok
   have HN32:=Lib.hid hn3
   have HSEQ:=Lib.hid HST.out.eq
   clear hm hnew hinv hn3 htw hall hstp HT2 HS2 HIS HGT HX0 HX1 HX2 HB2 HC0 HC1 HC2
   go_wp2
   clear hk60
   go_loopw [106,7] (fun i ov wq=> ∃j:Nat,j≤3∧i= .int .i64 j∧ ∃A',LookSt wz b g T k H' A A' t2 (shelves (t2.sites.take j)) ov wq) (fun i _ _=>3 - (intOf i).toNat)
   case atStart=>exact ⟨0,by omega,rfl,A,L0.out⟩
   case round=>
    clear L0
    obtain⟨j,hj,rfl,A1,hlk⟩:=hrel
    obtain⟨cssA, -,h21⟩:=hlk.all.1
    obtain⟨pa,pc,hpv⟩:=owns_slice h21
    subst hpv
    clear h21
    have HLK:=Lib.hid hlk
    clear hlk
    by_cases hj3:j < 3
    rotate_left
    ·obtain rfl:j=3:=by omega
     have hjb:decide (((3:Nat):Int) < 3)=false:=by decide
     go_wp2
     go_roundw
     case rel=>
      have h1:=HLK.out
      have e3:t2.sites.take 3=t2.sites:=List.take_of_length_le (by rw[HN32.out];exact Nat.le_refl _)
      refine⟨k+1,by omega,by go_num,H',A1,t2,h1.town,h1.inv,h1.n3,h1.all,h1.seen,fun x hx=> ?_,h1.stp⟩
      rw[h1.eq,e3]
      rcases HNEW.out x hx with h2 | ⟨i,hi,h2⟩
      ·exact .inl (HSEQ.out x h2)
      ·exact .inr (mem_shelves hi h2)
     case measure=>simp [intOf] <;> omega
    have hjb:decide ((j:Int) < 3)=true:=by simp;omega
    have HJS:=Lib.hid (show j < t2.sites.length by rw[HN32.out];exact hj3)
    go_wp2_with fail
    (with_reducible refine(tshelf_c g b T t2 j HJS.out _ HLK.out.town).mono ?_)
    rintro e w3 ⟨xa,xc,rfl,hx,hb3⟩
    have HXV:=Lib.hid (VOwn.mono hx (Nat.zero_le _))
    have HKB:=Lib.hid (show wz.heap.size≤w3.heap.size from Nat.le_trans HLK.out.stp.size hb3.size)
    have HXB:=Lib.hid (VOwn.mono hx HLK.out.stp.size)
    have HXOK:=Lib.hid (HLK.out.inv.sites j HJS.out).ok.L
    have HXH:=Lib.hid (HLK.out.inv.sites j HJS.out).sub
    have L1:=Lib.hid (show LookSt wz b g T k H' A A1 t2 (shelves (t2.sites.take j)++(t2.sites[j]'HJS.out).L.take 0) (.slice pa A1.length pc) w3 from
     ⟨HLK.out.town.below hb3,HLK.out.inv,HLK.out.n3,HLK.out.all.below hb3,HLK.out.seen,fun x=>by rw[HLK.out.eq];simp,HLK.out.stp.below hb3⟩)
    have HSN:=Lib.hid (show shelves (t2.sites.take (j+1))=shelves (t2.sites.take j)++(t2.sites[j]'HJS.out).L by rw[List.take_succ_eq_append_getElem HJS.out,shelves_snoc])
    generalize (t2.sites[j]'HJS.out).L=L at*
    generalize shelves (t2.sites.take j)=S0 at*
    have hl60:L.length≤60:=HXOK.out.len
    clear hx hb3 HLK
    go_wp2
    go_loopw [117,7] (fun i ov wq=> ∃m:Nat,m≤L.length∧i= .int .i64 m∧VOwn wq wz.heap.size (.slice xa L.length xc) L∧ ∃A',LookSt wz b g T k H' A A' t2 (S0++L.take m) ov wq) (fun i _ _=>L.length - (intOf i).toNat)
    case atStart=>exact ⟨0,Nat.zero_le _,rfl,HXB.out,A1,L1.out⟩
    case round=>
     clear L1
     obtain⟨m,hm,rfl,hxv,A2,hlk⟩:=hrel
     obtain⟨cssA2,hveA,hroA⟩:=hlk.all.1
     obtain⟨qa,qc,hqv⟩:=owns_slice hroA
     subst hqv
     have HLK:=Lib.hid hlk
     by_cases hml:m < L.length
     rotate_left
     ·obtain rfl:m=L.length:=by omega
      have hmb:decide ((L.length:Int) < (L.length:Int))=false:=by simp
      rw[List.take_length,←HSN.out] at HLK
      clear hlk hxv hveA hroA
      go_wp2
      go_roundw
      case rel=>exact ⟨j+1,by omega,by go_num,A2,HLK.out⟩
      case measure=>simp [intOf] <;> omega
     have hmb:decide ((m:Int) < (L.length:Int))=true:=by simp;omega
     obtain⟨gx,cx,a1,n1,d1,a2,n2,d2,hsx,hgx,hkn,hcl⟩:=hxv.cell hml
     simp only[Value.slice.injEq,true_and] at hsx
     obtain⟨rfl,rfl⟩:=hsx
     have HVOK:=Lib.hid (HXOK.out.ok _ (List.getElem_mem hml))
     have HVH:=Lib.hid (HXH.out _ (List.getElem_mem hml))
     have HTM:=Lib.hid (show L.take (m+1)=L.take m++[L[m]] from List.take_succ_eq_append_getElem hml)
     generalize L[m]=v1 at*
     have HXR:=Lib.hid hxv
     have HKN:=Lib.hid hkn
     have c0:=hcl 0 _ rfl
     have c1:=hcl 1 _ rfl
     have c2:=hcl 2 _ rfl
     have c3:=hcl 3 _ rfl
     have c4:=hcl 4 _ rfl
     have c5:=hcl 5 _ rfl
     have c6:=hcl 6 _ rfl
     have c7:=hcl 7 _ rfl
     rw[Nat.add_zero] at c0
     obtain⟨BV,hBV⟩: ∃BV,BV=wr.heap.size:=⟨_,rfl⟩
     obtain⟨W1,hW1⟩: ∃W1,W1=wr.alloc (.cells #[.string v1.id, .int .i64 v1.ds, .int .i64 v1.dc, .int .i64 v1.tg, .int .i64 v1.nm, .int .i64 v1.bd, .slice a1 n1 d1, .slice a2 n2 d2] 75):=⟨_,rfl⟩
     have hb1:Below wr.heap.size wr W1:=by rw[hW1];exact bal _
     have HV1:=Lib.hid (show W1.heap[BV]? =some (Obj.cells #[.string v1.id, .int .i64 v1.ds, .int .i64 v1.dc, .int .i64 v1.tg, .int .i64 v1.nm, .int .i64 v1.bd, .slice a1 n1 d1, .slice a2 n2 d2] 75 (0,0)) by rw[hW1];exact alloc_new _ _ _ _ hBV)
     have HB1:=Lib.hid hb1
     have hA60:A2.length≤61:=by have:=hlk.seen.len;have:=HHL.out;omega
     have HAOK:=Lib.hid (show ∀v∈A2,VerOk v from fun v hv=>HHX.out.ok v (hlk.seen.sub v hv))
     have HCN:=Lib.hid (containsV_c VerOk _ A2 _ _ _ W1 ((hlk.all.1.below hb1).at_ (shok_bd HAOK.out) (by omega)) HAOK.out (pl_p BV v1 (.slice a1 n1 d1) (.slice a2 n2 d2) W1 HV1.out))
     clear hlk hxv hkn hcl hveA hroA hgx hb1
     go_wp2_with fail
     rw[←hW1,←hBV]
     clear hW1 hBV c0 c1 c2 c3 c4 c5 c6 c7
     (with_reducible refine(HCN.out).mono ?_)
     rintro e w4 ⟨rfl,hb4⟩
     have HB4:=Lib.hid (bstep HB1.out hb4)
     have HV4:=Lib.hid (below_keep hb4 HV1.out)
     clear hb4 HCN HV1 HB1
     cases hany:A2.any (fun x=>decide (x.ds=v1.ds)&&decide (x.dc=v1.dc))
     ·have HAN:=Lib.hid hany
      clear hany
      have e0:=cell_of_block (j:=0) HV4.out rfl
      have e1:=cell_of_block (j:=1) HV4.out rfl
      have e2:=cell_of_block (j:=2) HV4.out rfl
      have e3:=cell_of_block (j:=3) HV4.out rfl
      have e4:=cell_of_block (j:=4) HV4.out rfl
      have e5:=cell_of_block (j:=5) HV4.out rfl
      have e6:=cell_of_block (j:=6) HV4.out rfl
      have e7:=cell_of_block (j:=7) HV4.out rfl
      have e9:=hlt_of HV4.out
      have L4:=Lib.hid (HLK.out.all.below HB4.out)
      obtain⟨⟨css5,hve5,hro5⟩,hzt5⟩:=L4.out
      have HVE5:=Lib.hid hve5
      have HRO5:=Lib.hid hro5
      have HZT5:=Lib.hid hzt5
      clear hve5 hro5 hzt5
      have HBN:=Lib.hid (bal (W:=w4) (.cells #[.string v1.id, .int .i64 v1.ds, .int .i64 v1.dc, .int .i64 v1.tg, .int .i64 v1.nm, .int .i64 v1.bd, .slice a1 n1 d1, .slice a2 n2 d2] 75))
      have HRO6:=Lib.hid (owns_below HRO5.out HBN.out)
      have HN:=Lib.hid (show ∀j u,([.string v1.id, .int .i64 v1.ds, .int .i64 v1.dc, .int .i64 v1.tg, .int .i64 v1.nm, .int .i64 v1.bd, .slice a1 n1 d1, .slice a2 n2 d2]:List Value)[j]? =some u→(w4.alloc (.cells #[.string v1.id, .int .i64 v1.ds, .int .i64 v1.dc, .int .i64 v1.tg, .int .i64 v1.nm, .int .i64 v1.bd, .slice a1 n1 d1, .slice a2 n2 d2] 75)).cell? ((⟨w4.heap.size,0,none⟩:Addr).add j)=some u from fun j u hj=>by
       rw[Addr.add_lit,Nat.zero_add]
       exact cell_of_block (j:=j) (alloc_new _ _ _ _ rfl) (by simpa using hj))
      have HON:=Lib.hid (show ∀u∈([.string v1.id, .int .i64 v1.ds, .int .i64 v1.dc, .int .i64 v1.tg, .int .i64 v1.nm, .int .i64 v1.bd, .slice a1 n1 d1, .slice a2 n2 d2]:List Value),u.oneCell'=true by intro u hu;simp only[List.mem_cons,List.not_mem_nil,or_false] at hu;rcases hu with rfl | rfl | rfl | rfl | rfl | rfl | rfl | rfl <;> rfl)
      have HBS:=Lib.hid (show wz.heap.size≤(w4.alloc (.cells #[.string v1.id, .int .i64 v1.ds, .int .i64 v1.dc, .int .i64 v1.tg, .int .i64 v1.nm, .int .i64 v1.bd, .slice a1 n1 d1, .slice a2 n2 d2] 75)).heap.size by have:=HLK.out.stp.size;have:=HB4.out.size;rw [World.size_alloc];omega)
      go_wp2_with (at_builtin;apply Classical.byContradiction;intro hcon)
      refine hcon ?_
      (refine wpList_append_ownS rfl (.tmp 125) (.tmp 127) 48 rfl wz.heap.size 75 (.agg zeroVC) 8 104 Tryz.underlying48 VTy.info rfl (by decide) (.slice qa A2.length qc) A2.length css5.flatten (by simp[go_sem]) HRO6.out ⟨w4.heap.size,0,none⟩ 1 1 _ (by simp[go_sem]) rfl HN.out HON.out (by unfold maxLen;omega) (by omega) HBS.out ?_)
      intro v9 w9 AP
      obtain⟨va,vc,hva⟩:=owns_slice AP.own
      subst hva
      have HAP:=Lib.hid AP
      clear AP hcon e0 e1 e2 e3 e4 e5 e6 e7 e9
      go_wp2
      go_roundw
      case rel=>
       have h1:=HLK.out
       have hb5:=bstep HB4.out HBN.out
       have hA:=HAP.out
       have hzt:=HZT5.out.keep (w':=(w4.alloc (.cells #[.string v1.id, .int .i64 v1.ds, .int .i64 v1.dc, .int .i64 v1.tg, .int .i64 v1.nm, .int .i64 v1.bd, .slice a1 n1 d1, .slice a2 n2 d2] 75))) fun q hq=>by
        obtain⟨-,hlt⟩:=HRO5.out.lt q hq
        exact HBN.out.block q hlt
       obtain⟨sn1,sn2⟩:=addV_seen HHX.out h1.seen HVH.out
       rw[addV_new HAN.out] at sn1 sn2
       have hpush:=AllAt.push (x:=v1) (HVE5.out.map fun _ _ _ hh=>hh.below HBN.out) HRO6.out hzt (HKN.out.below hb5) ⟨⟨_,_,_,rfl⟩,_,_,_,rfl⟩ hA
       refine⟨m+1,by omega,by go_num,(HXR.out.below hb5).app HXOK.out.ok hA hzt HRO6.out,A2++[v1],(h1.town.below hb5).app hA hzt HRO6.out,h1.inv,h1.n3, ?_,sn1,fun x=> ?_,(h1.stp.below hb5).app hA HRO6.out HTN.out⟩
       ·exact hpush
       ·rw[sn2,h1.eq,HTM.out,List.mem_append,List.mem_append,List.mem_append,List.mem_singleton]
        constructor
        ·rintro((h | h | h) | h)
         ·exact .inl h
         ·exact .inr (.inl h)
         ·exact .inr (.inr (.inl h))
         ·exact .inr (.inr (.inr h))
        ·rintro(h | h | h | h)
         ·exact .inl (.inl h)
         ·exact .inl (.inr (.inl h))
         ·exact .inl (.inr (.inr h))
         ·exact .inr h
      case measure=>simp [intOf] <;> omega
     ·have HAN:=Lib.hid hany
      clear hany
      go_wp2
      go_roundw
      case rel=>
       have h1:=HLK.out
       obtain⟨sn1,sn2⟩:=addV_seen HHX.out h1.seen HVH.out
       rw[addV_any HAN.out] at sn1 sn2
       refine⟨m+1,by omega,by go_num,HXR.out.below HB4.out,A2,h1.town.below HB4.out,h1.inv,h1.n3,h1.all.below HB4.out,h1.seen,fun x=> ?_,h1.stp.below HB4.out⟩
       have h2:=sn2 x
       rw[h1.eq,List.mem_append] at h2
       rw[h1.eq,HTM.out,List.mem_append,List.mem_append,List.mem_append,List.mem_singleton]
       constructor
       ·rintro(h | h | h)
        ·exact .inl h
        ·exact .inr (.inl h)
        ·exact .inr (.inr (.inl h))
       ·rintro(h | h | h | h)
        ·exact .inl h
        ·exact .inr (.inl h)
        ·exact .inr (.inr h)
        ·exact h2.2 (.inr h)
      case measure=>simp [intOf] <;> omega
  case first=>
   have hcase:kq=0∨kq=1∨kq=2∨kq=3∨kq=4∨kq=5∨kq=6∨kq=7:=by omega
   rcases hcase with rfl | rfl | rfl | rfl | rfl | rfl | rfl | rfl
   ·obtain⟨k0,hk0⟩: ∃k0,k0=wiN x2 2:=⟨_,rfl⟩
    obtain⟨k1,hk1⟩: ∃k1,k1=wiN x2 16:=⟨_,rfl⟩
    obtain⟨k2,hk2⟩: ∃k2,k2=wiN (wrap64 (x2.tdiv 2)) 32:=⟨_,rfl⟩
    have hk02:k0 < 2:=by rw[hk0];exact wiN_lt x2 2 (by decide)
    have HW0:=Lib.hid (fun (y:World)=>wiN_c x2 2 y (by decide) (by decide))
    have HW1:=Lib.hid (fun (y:World)=>wiN_c x2 16 y (by decide) (by decide))
    have HW2:=Lib.hid (fun (y:World)=>wiN_c (wrap64 (x2.tdiv 2)) 32 y (by decide) (by decide))
    rw[←hk0] at HW0
    rw[←hk1] at HW1
    rw[←hk2] at HW2
    have HK0:=Lib.hid hk02
    have HNM:=Lib.hid (names2 hk02)
    obtain⟨d0,hd0⟩: ∃d0,d0=(madeD (t'.sites[ki]'HIS.out) (sidA k0) k1 k2 0).1:=⟨_,rfl⟩
    obtain⟨d1,hd1⟩: ∃d1,d1=(madeD (t'.sites[ki]'HIS.out) (sidA k0) k1 k2 0).2:=⟨_,rfl⟩
    obtain⟨E9,hE9⟩: ∃E9,E9=madeE (t'.sites[ki]'HIS.out) (sidA k0) k1 k2 0:=⟨_,rfl⟩
    obtain⟨t9,ht9⟩: ∃t9,t9=makeT t' ki HIS.out (sidA k0) k1 k2 0:=⟨_,rfl⟩
    have HT9:=Lib.hid ht9
    have HMK:=Lib.hid (fun (wx:World) (hx:TownAt wx b T g t')=>show Calls Tryz.prog 23 #[.pointer (some ⟨g,0,none⟩), .int .i64 (ki:Nat), .string (sidA k0), .agg #[.int .i64 (k1:Nat), .int .i64 (k2:Nat)], .int .i64 0] wx fun e w'=>e= .returned (.tuple #[.agg #[.int .i64 d0, .int .i64 d1], .int .i64 E9])∧TownAt w' b T g t9∧Stp T wx w' from by
     rw[hd0,hd1,hE9,ht9];exact tmake_c g b T t' ki HIS.out (sidA k0) k1 k2 0 wx hx)
    clear hk0 hk1 hk2 hd0 hd1 hE9 ht9 hk02
    have HS:=Lib.hid HT2.out
    go_wp2_with fail
    refine Cl2.region0 133 rfl [19] (fun w=>Below w2.heap.size w2 w) (fun jq=>match jq with | 2=>[19] | 7=>[19] | _=>[]) (fun jq v ww=>match jq with | 0=>v= .pointer (some ⟨g,0,none⟩) | 1=>v= .int .i64 (ki:Nat) | 2=>StrRow ww w2.heap.size 2 #[.string { data:= #[97] }, .string { data:= #[98] }] v | 3=>v= .slice (some ⟨cb,coff,none⟩) cs.length uc | 4=>v= .pointer (some ⟨cb,coff+2,none⟩) | 5=>v= .int .i64 x2 | 6=>v= .int .i64 (k0:Nat) | 7=>StrPt ww w2.heap.size k0 #[.string { data:= #[97] }, .string { data:= #[98] }] v | 8=>v= .string (sidA k0) | 9=>v= .slice (some ⟨cb,coff,none⟩) cs.length uc | 10=>v= .pointer (some ⟨cb,coff+2,none⟩) | 11=>v= .int .i64 x2 | 12=>v= .int .i64 (k1:Nat) | 13=>v= .slice (some ⟨cb,coff,none⟩) cs.length uc | 14=>v= .pointer (some ⟨cb,coff+2,none⟩) | 15=>v= .int .i64 x2 | 16=>v= .int .i64 (wrap64 (x2.tdiv 2)) | 17=>v= .int .i64 (k2:Nat) | 18=>v= .agg #[.int .i64 (k1:Nat), .int .i64 (k2:Nat)] | 19=>TownAt ww b T g t9∧v= .tuple #[.agg #[.int .i64 d0, .int .i64 d1], .int .i64 E9] | _=>True) (fun ww=>Stp T w2 ww) (fun jq ww ww'=>(jq≠19→Below ww.heap.size ww ww')∧(jq=19→Stp T ww ww')) Tryz.mixed (by decide+kernel) (Stp.refl _ _).drew ((Below.refl _ _).drew) ?_ (fun q w w' hk h hR=>bstep h (hR.1 (by intro e;subst e;exact absurd hk (by decide)))) ?_ ?_
    ·intro q r v w w' hne hk hlt h hR
     match r,hk,hlt,h,hne with
     | 0,_,_,h,_=>exact h
     | 1,_,_,h,_=>exact h
     | 2,hk,hlt,h,hne=>
      exact h.below (hR.1 (by intro e;subst e;first | exact absurd hlt (by decide+kernel) | exact absurd rfl hne | simp at hk))
     | 3,_,_,h,_=>exact h
     | 4,_,_,h,_=>exact h
     | 5,_,_,h,_=>exact h
     | 6,_,_,h,_=>exact h
     | 7,hk,hlt,h,hne=>
      exact h.below (hR.1 (by intro e;subst e;first | exact absurd hlt (by decide+kernel) | exact absurd rfl hne | simp at hk))
     | 8,_,_,h,_=>exact h
     | 9,_,_,h,_=>exact h
     | 10,_,_,h,_=>exact h
     | 11,_,_,h,_=>exact h
     | 12,_,_,h,_=>exact h
     | 13,_,_,h,_=>exact h
     | 14,_,_,h,_=>exact h
     | 15,_,_,h,_=>exact h
     | 16,_,_,h,_=>exact h
     | 17,_,_,h,_=>exact h
     | 18,_,_,h,_=>exact h
     | 19,hk,hlt,h,hne=>
      exact⟨h.1.below (hR.1 (by intro e;subst e;first | exact absurd hlt (by decide+kernel) | exact absurd rfl hne | simp at hk)),h.2⟩
     | _+20,_,_,_,_=>trivial
    ·refine⟨?_, ?_, ?_, ?_, ?_, ?_, ?_, ?_, ?_, ?_, ?_, ?_, ?_, ?_, ?_, ?_, ?_, ?_, ?_, ?_,trivial⟩
     ·intro x wx hG
      have f0:=hG.old 0 (by decide+kernel)
      have hg:=hG.good
      clear hG
      go_wp2
      exact⟨_,rfl,rfl,hg,⟨fun _=>Below.refl _ _,fun h=>absurd h (by decide)⟩⟩
     ·intro x wx hG
      have f10:=hG.old 10 (by decide+kernel)
      have hg:=hG.good
      clear hG
      go_wp2
      exact⟨_,rfl,rfl,hg,⟨fun _=>Below.refl _ _,fun h=>absurd h (by decide)⟩⟩
     ·intro x wx hG
      have hp:=hG.pre (by decide+kernel)
      have hg:=hG.good
      clear hG
      go_wp2
      exact⟨_,rfl,⟨_,rfl,alloc_new _ _ _ _ rfl,hp.size⟩,hg.below (bal _),⟨fun _=>bal _,fun h=>absurd h (by decide)⟩⟩
     ·intro x wx hG
      have f9:=hG.old 9 (by decide+kernel)
      have hg:=hG.good
      clear hG
      go_wp2
      exact⟨_,rfl,rfl,hg,⟨fun _=>Below.refl _ _,fun h=>absurd h (by decide)⟩⟩
     ·intro x wx hG
      have g3:(x.tmps.getD 50 undef)= .slice (some ⟨cb,coff,none⟩) cs.length uc:=hG.claims 3 _ rfl (by decide+kernel) (by decide+kernel)
      have g3b:=g3
      rw[Array.getD_eq_getD_getElem?] at g3b
      have hg:=hG.good
      clear hG
      go_wp2
      exact⟨_,rfl,rfl,hg,⟨fun _=>Below.refl _ _,fun h=>absurd h (by decide)⟩⟩
     ·intro x wx hG
      have g4:(x.tmps.getD 51 undef)= .pointer (some ⟨cb,coff+2,none⟩):=hG.claims 4 _ rfl (by decide+kernel) (by decide+kernel)
      have g4b:=g4
      rw[Array.getD_eq_getD_getElem?] at g4b
      have hp:=hG.pre (by decide+kernel)
      have hg:=hG.good
      clear hG
      have c_HX2:=ckeep hp HX2.out
      go_wp2
      exact⟨_,rfl,rfl,hg,⟨fun _=>Below.refl _ _,fun h=>absurd h (by decide)⟩⟩
     ·intro x wx hG
      have g5:(x.tmps.getD 52 undef)= .int .i64 x2:=hG.claims 5 _ rfl (by decide+kernel) (by decide+kernel)
      have g5b:=g5
      rw[Array.getD_eq_getD_getElem?] at g5b
      have hg:=hG.good
      clear hG
      go_wp2_with fail
      (with_reducible refine(HW0.out wx).mono ?_)
      rintro e wq ⟨rfl,hb⟩
      have HBB:=Lib.hid hb
      clear hb
      go_wp2
      exact⟨_,rfl,rfl,hg.below HBB.out,⟨fun _=>HBB.out,fun h=>absurd h (by decide)⟩⟩
     ·intro x wx hG
      have g2:StrRow wx w2.heap.size 2 #[.string { data:= #[97] }, .string { data:= #[98] }] (x.tmps.getD 49 undef):=hG.claims 2 _ rfl (by decide+kernel) (by decide+kernel)
      have g6:(x.tmps.getD 53 undef)= .int .i64 (k0:Nat):=hG.claims 6 _ rfl (by decide+kernel) (by decide+kernel)
      have g6b:=g6
      rw[Array.getD_eq_getD_getElem?] at g6b
      have hg:=hG.good
      clear hG
      obtain⟨q,hv,hq,hlo⟩:=g2
      have hvb:=hv
      rw[Array.getD_eq_getD_getElem?] at hvb
      have hk0:=HK0.out
      have hk1:(k0:Int) < 2:=by omega
      have HQ:=Lib.hid (And.intro hq hlo)
      clear hq hlo
      go_wp2
      exact⟨_,rfl,⟨q,by simp,HQ.out.1,HQ.out.2⟩,hg,⟨fun _=>Below.refl _ _,fun h=>absurd h (by decide)⟩⟩
     ·intro x wx hG
      have g7:StrPt wx w2.heap.size k0 #[.string { data:= #[97] }, .string { data:= #[98] }] (x.tmps.getD 54 undef):=hG.claims 7 _ rfl (by decide+kernel) (by decide+kernel)
      have hg:=hG.good
      clear hG
      obtain⟨q,hv,hq,hlo⟩:=g7
      have hvb:=hv
      rw[Array.getD_eq_getD_getElem?] at hvb
      have hcq:=cell_of_block (j:=k0) hq HNM.out
      clear hq hlo
      go_wp2
      exact⟨_,rfl,rfl,hg,⟨fun _=>Below.refl _ _,fun h=>absurd h (by decide)⟩⟩
     ·intro x wx hG
      have f9:=hG.old 9 (by decide+kernel)
      have hg:=hG.good
      clear hG
      go_wp2
      exact⟨_,rfl,rfl,hg,⟨fun _=>Below.refl _ _,fun h=>absurd h (by decide)⟩⟩
     ·intro x wx hG
      have g9:(x.tmps.getD 56 undef)= .slice (some ⟨cb,coff,none⟩) cs.length uc:=hG.claims 9 _ rfl (by decide+kernel) (by decide+kernel)
      have g9b:=g9
      rw[Array.getD_eq_getD_getElem?] at g9b
      have hg:=hG.good
      clear hG
      go_wp2
      exact⟨_,rfl,rfl,hg,⟨fun _=>Below.refl _ _,fun h=>absurd h (by decide)⟩⟩
     ·intro x wx hG
      have g10:(x.tmps.getD 57 undef)= .pointer (some ⟨cb,coff+2,none⟩):=hG.claims 10 _ rfl (by decide+kernel) (by decide+kernel)
      have g10b:=g10
      rw[Array.getD_eq_getD_getElem?] at g10b
      have hp:=hG.pre (by decide+kernel)
      have hg:=hG.good
      clear hG
      have c_HX2:=ckeep hp HX2.out
      go_wp2
      exact⟨_,rfl,rfl,hg,⟨fun _=>Below.refl _ _,fun h=>absurd h (by decide)⟩⟩
     ·intro x wx hG
      have g11:(x.tmps.getD 58 undef)= .int .i64 x2:=hG.claims 11 _ rfl (by decide+kernel) (by decide+kernel)
      have g11b:=g11
      rw[Array.getD_eq_getD_getElem?] at g11b
      have hg:=hG.good
      clear hG
      go_wp2_with fail
      (with_reducible refine(HW1.out wx).mono ?_)
      rintro e wq ⟨rfl,hb⟩
      have HBB:=Lib.hid hb
      clear hb
      go_wp2
      exact⟨_,rfl,rfl,hg.below HBB.out,⟨fun _=>HBB.out,fun h=>absurd h (by decide)⟩⟩
     ·intro x wx hG
      have f9:=hG.old 9 (by decide+kernel)
      have hg:=hG.good
      clear hG
      go_wp2
      exact⟨_,rfl,rfl,hg,⟨fun _=>Below.refl _ _,fun h=>absurd h (by decide)⟩⟩
     ·intro x wx hG
      have g13:(x.tmps.getD 60 undef)= .slice (some ⟨cb,coff,none⟩) cs.length uc:=hG.claims 13 _ rfl (by decide+kernel) (by decide+kernel)
      have g13b:=g13
      rw[Array.getD_eq_getD_getElem?] at g13b
      have hg:=hG.good
      clear hG
      go_wp2
      exact⟨_,rfl,rfl,hg,⟨fun _=>Below.refl _ _,fun h=>absurd h (by decide)⟩⟩
     ·intro x wx hG
      have g14:(x.tmps.getD 61 undef)= .pointer (some ⟨cb,coff+2,none⟩):=hG.claims 14 _ rfl (by decide+kernel) (by decide+kernel)
      have g14b:=g14
      rw[Array.getD_eq_getD_getElem?] at g14b
      have hp:=hG.pre (by decide+kernel)
      have hg:=hG.good
      clear hG
      have c_HX2:=ckeep hp HX2.out
      go_wp2
      exact⟨_,rfl,rfl,hg,⟨fun _=>Below.refl _ _,fun h=>absurd h (by decide)⟩⟩
     ·intro x wx hG
      have g15:(x.tmps.getD 62 undef)= .int .i64 x2:=hG.claims 15 _ rfl (by decide+kernel) (by decide+kernel)
      have g15b:=g15
      rw[Array.getD_eq_getD_getElem?] at g15b
      have hg:=hG.good
      clear hG
      go_wp2
      exact⟨_,rfl,rfl,hg,⟨fun _=>Below.refl _ _,fun h=>absurd h (by decide)⟩⟩
     ·intro x wx hG
      have g16:(x.tmps.getD 63 undef)= .int .i64 (wrap64 (x2.tdiv 2)):=hG.claims 16 _ rfl (by decide+kernel) (by decide+kernel)
      have g16b:=g16
      rw[Array.getD_eq_getD_getElem?] at g16b
      have hg:=hG.good
      clear hG
      go_wp2_with fail
      (with_reducible refine(HW2.out wx).mono ?_)
      rintro e wq ⟨rfl,hb⟩
      have HBB:=Lib.hid hb
      clear hb
      go_wp2
      exact⟨_,rfl,rfl,hg.below HBB.out,⟨fun _=>HBB.out,fun h=>absurd h (by decide)⟩⟩
     ·intro x wx hG
      have g12:(x.tmps.getD 59 undef)= .int .i64 (k1:Nat):=hG.claims 12 _ rfl (by decide+kernel) (by decide+kernel)
      have g12b:=g12
      rw[Array.getD_eq_getD_getElem?] at g12b
      have g17:(x.tmps.getD 64 undef)= .int .i64 (k2:Nat):=hG.claims 17 _ rfl (by decide+kernel) (by decide+kernel)
      have g17b:=g17
      rw[Array.getD_eq_getD_getElem?] at g17b
      have hg:=hG.good
      clear hG
      go_wp2
      exact⟨_,rfl,rfl,hg,⟨fun _=>Below.refl _ _,fun h=>absurd h (by decide)⟩⟩
     ·intro x wx hG
      have g0:(x.tmps.getD 47 undef)= .pointer (some ⟨g,0,none⟩):=hG.claims 0 _ rfl (by decide+kernel) (by decide+kernel)
      have g0b:=g0
      rw[Array.getD_eq_getD_getElem?] at g0b
      have g1:(x.tmps.getD 48 undef)= .int .i64 (ki:Nat):=hG.claims 1 _ rfl (by decide+kernel) (by decide+kernel)
      have g1b:=g1
      rw[Array.getD_eq_getD_getElem?] at g1b
      have g8:(x.tmps.getD 55 undef)= .string (sidA k0):=hG.claims 8 _ rfl (by decide+kernel) (by decide+kernel)
      have g8b:=g8
      rw[Array.getD_eq_getD_getElem?] at g8b
      have g18:(x.tmps.getD 65 undef)= .agg #[.int .i64 (k1:Nat), .int .i64 (k2:Nat)]:=hG.claims 18 _ rfl (by decide+kernel) (by decide+kernel)
      have g18b:=g18
      rw[Array.getD_eq_getD_getElem?] at g18b
      have hp:=hG.pre (by decide+kernel)
      have hg:=hG.good
      clear hG
      have HN:=Lib.hid (HMK.out wx (HS.out.below hp))
      go_wp2_with fail
      (with_reducible refine(HN.out).mono ?_)
      rintro e wq ⟨rfl,h1,h2⟩
      have H1:=Lib.hid h1
      have H2:=Lib.hid h2
      clear h1 h2 HN
      go_wp2
      exact⟨_,rfl,⟨H1.out,rfl⟩,hg.trans H2.out,⟨fun h=>absurd rfl h,fun _=>H2.out⟩⟩
    ·intro vals w9 hg hF
     obtain⟨g0,g1,g2,g3,g4,g5,g6,g7,g8,g9,g10,g11,g12,g13,g14,g15,g16,g17,g18,g19, -⟩:=hF
     have e0:vals 0= .pointer (some ⟨g,0,none⟩):=g0 rfl
     have e1:vals 1= .int .i64 (ki:Nat):=g1 rfl
     have e3:vals 3= .slice (some ⟨cb,coff,none⟩) cs.length uc:=g3 rfl
     have e4:vals 4= .pointer (some ⟨cb,coff+2,none⟩):=g4 rfl
     have e5:vals 5= .int .i64 x2:=g5 rfl
     have e6:vals 6= .int .i64 (k0:Nat):=g6 rfl
     have e8:vals 8= .string (sidA k0):=g8 rfl
     have e9:vals 9= .slice (some ⟨cb,coff,none⟩) cs.length uc:=g9 rfl
     have e10:vals 10= .pointer (some ⟨cb,coff+2,none⟩):=g10 rfl
     have e11:vals 11= .int .i64 x2:=g11 rfl
     have e12:vals 12= .int .i64 (k1:Nat):=g12 rfl
     have e13:vals 13= .slice (some ⟨cb,coff,none⟩) cs.length uc:=g13 rfl
     have e14:vals 14= .pointer (some ⟨cb,coff+2,none⟩):=g14 rfl
     have e15:vals 15= .int .i64 x2:=g15 rfl
     have e16:vals 16= .int .i64 (wrap64 (x2.tdiv 2)):=g16 rfl
     have e17:vals 17= .int .i64 (k2:Nat):=g17 rfl
     have e18:vals 18= .agg #[.int .i64 (k1:Nat), .int .i64 (k2:Nat)]:=g18 rfl
     replace g19:TownAt w9 b T g t9∧(vals 19)= .tuple #[.agg #[.int .i64 d0, .int .i64 d1], .int .i64 E9]:=g19 rfl
     simp only[Cl2.puts,e0,e1,e3,e4,e5,e6,e8,e9,e10,e11,e12,e13,e14,e15,e16,e17,e18]
     clear e0 e1 e3 e4 e5 e6 e8 e9 e10 e11 e12 e13 e14 e15 e16 e17 e18 g0 g1 g2 g3 g4 g5 g6 g7 g8 g9 g10 g11 g12 g13 g14 g15 g16 g17 g18
     go_simp
     generalize vals 19=mk9 at*
     have HTW:=Lib.hid g19.1
     have HSG:=Lib.hid hg
     clear g19 hg
     generalize vals 2=jbs at*
     generalize vals 7=jsx at*
     go_wp2
     go_meet
     case rel=>
      have h2:=HTW.out
      rw[HT9.out] at h2
      exact HST.out.make (by omega) HIS.out h2 (HS2.out.trans HSG.out)
   ·obtain⟨k0,hk0⟩: ∃k0,k0=wiN x2 2:=⟨_,rfl⟩
    obtain⟨k1,hk1⟩: ∃k1,k1=wiN x2 16:=⟨_,rfl⟩
    obtain⟨k2,hk2⟩: ∃k2,k2=wiN (wrap64 (x2.tdiv 2)) 32:=⟨_,rfl⟩
    have hk02:k0 < 2:=by rw[hk0];exact wiN_lt x2 2 (by decide)
    have HW0:=Lib.hid (fun (y:World)=>wiN_c x2 2 y (by decide) (by decide))
    have HW1:=Lib.hid (fun (y:World)=>wiN_c x2 16 y (by decide) (by decide))
    have HW2:=Lib.hid (fun (y:World)=>wiN_c (wrap64 (x2.tdiv 2)) 32 y (by decide) (by decide))
    rw[←hk0] at HW0
    rw[←hk1] at HW1
    rw[←hk2] at HW2
    have HK0:=Lib.hid hk02
    have HNM:=Lib.hid (names2 hk02)
    obtain⟨d0,hd0⟩: ∃d0,d0=(madeD (t'.sites[ki]'HIS.out) (sidA k0) k1 k2 0).1:=⟨_,rfl⟩
    obtain⟨d1,hd1⟩: ∃d1,d1=(madeD (t'.sites[ki]'HIS.out) (sidA k0) k1 k2 0).2:=⟨_,rfl⟩
    obtain⟨E9,hE9⟩: ∃E9,E9=madeE (t'.sites[ki]'HIS.out) (sidA k0) k1 k2 0:=⟨_,rfl⟩
    obtain⟨t9,ht9⟩: ∃t9,t9=makeT t' ki HIS.out (sidA k0) k1 k2 0:=⟨_,rfl⟩
    have HT9:=Lib.hid ht9
    have HMK:=Lib.hid (fun (wx:World) (hx:TownAt wx b T g t')=>show Calls Tryz.prog 23 #[.pointer (some ⟨g,0,none⟩), .int .i64 (ki:Nat), .string (sidA k0), .agg #[.int .i64 (k1:Nat), .int .i64 (k2:Nat)], .int .i64 0] wx fun e w'=>e= .returned (.tuple #[.agg #[.int .i64 d0, .int .i64 d1], .int .i64 E9])∧TownAt w' b T g t9∧Stp T wx w' from by
     rw[hd0,hd1,hE9,ht9];exact tmake_c g b T t' ki HIS.out (sidA k0) k1 k2 0 wx hx)
    clear hk0 hk1 hk2 hd0 hd1 hE9 ht9 hk02
    have HS:=Lib.hid HT2.out
    go_wp2_with fail
    refine Cl2.region0 133 rfl [19] (fun w=>Below w2.heap.size w2 w) (fun jq=>match jq with | 2=>[19] | 7=>[19] | _=>[]) (fun jq v ww=>match jq with | 0=>v= .pointer (some ⟨g,0,none⟩) | 1=>v= .int .i64 (ki:Nat) | 2=>StrRow ww w2.heap.size 2 #[.string { data:= #[97] }, .string { data:= #[98] }] v | 3=>v= .slice (some ⟨cb,coff,none⟩) cs.length uc | 4=>v= .pointer (some ⟨cb,coff+2,none⟩) | 5=>v= .int .i64 x2 | 6=>v= .int .i64 (k0:Nat) | 7=>StrPt ww w2.heap.size k0 #[.string { data:= #[97] }, .string { data:= #[98] }] v | 8=>v= .string (sidA k0) | 9=>v= .slice (some ⟨cb,coff,none⟩) cs.length uc | 10=>v= .pointer (some ⟨cb,coff+2,none⟩) | 11=>v= .int .i64 x2 | 12=>v= .int .i64 (k1:Nat) | 13=>v= .slice (some ⟨cb,coff,none⟩) cs.length uc | 14=>v= .pointer (some ⟨cb,coff+2,none⟩) | 15=>v= .int .i64 x2 | 16=>v= .int .i64 (wrap64 (x2.tdiv 2)) | 17=>v= .int .i64 (k2:Nat) | 18=>v= .agg #[.int .i64 (k1:Nat), .int .i64 (k2:Nat)] | 19=>TownAt ww b T g t9∧v= .tuple #[.agg #[.int .i64 d0, .int .i64 d1], .int .i64 E9] | _=>True) (fun ww=>Stp T w2 ww) (fun jq ww ww'=>(jq≠19→Below ww.heap.size ww ww')∧(jq=19→Stp T ww ww')) Tryz.mixed (by decide+kernel) (Stp.refl _ _).drew ((Below.refl _ _).drew) ?_ (fun q w w' hk h hR=>bstep h (hR.1 (by intro e;subst e;exact absurd hk (by decide)))) ?_ ?_
    ·intro q r v w w' hne hk hlt h hR
     match r,hk,hlt,h,hne with
     | 0,_,_,h,_=>exact h
     | 1,_,_,h,_=>exact h
     | 2,hk,hlt,h,hne=>
      exact h.below (hR.1 (by intro e;subst e;first | exact absurd hlt (by decide+kernel) | exact absurd rfl hne | simp at hk))
     | 3,_,_,h,_=>exact h
     | 4,_,_,h,_=>exact h
     | 5,_,_,h,_=>exact h
     | 6,_,_,h,_=>exact h
     | 7,hk,hlt,h,hne=>
      exact h.below (hR.1 (by intro e;subst e;first | exact absurd hlt (by decide+kernel) | exact absurd rfl hne | simp at hk))
     | 8,_,_,h,_=>exact h
     | 9,_,_,h,_=>exact h
     | 10,_,_,h,_=>exact h
     | 11,_,_,h,_=>exact h
     | 12,_,_,h,_=>exact h
     | 13,_,_,h,_=>exact h
     | 14,_,_,h,_=>exact h
     | 15,_,_,h,_=>exact h
     | 16,_,_,h,_=>exact h
     | 17,_,_,h,_=>exact h
     | 18,_,_,h,_=>exact h
     | 19,hk,hlt,h,hne=>
      exact⟨h.1.below (hR.1 (by intro e;subst e;first | exact absurd hlt (by decide+kernel) | exact absurd rfl hne | simp at hk)),h.2⟩
     | _+20,_,_,_,_=>trivial
    ·refine⟨?_, ?_, ?_, ?_, ?_, ?_, ?_, ?_, ?_, ?_, ?_, ?_, ?_, ?_, ?_, ?_, ?_, ?_, ?_, ?_,trivial⟩
     ·intro x wx hG
      have f0:=hG.old 0 (by decide+kernel)
      have hg:=hG.good
      clear hG
      go_wp2
      exact⟨_,rfl,rfl,hg,⟨fun _=>Below.refl _ _,fun h=>absurd h (by decide)⟩⟩
     ·intro x wx hG
      have f10:=hG.old 10 (by decide+kernel)
      have hg:=hG.good
      clear hG
      go_wp2
      exact⟨_,rfl,rfl,hg,⟨fun _=>Below.refl _ _,fun h=>absurd h (by decide)⟩⟩
     ·intro x wx hG
      have hp:=hG.pre (by decide+kernel)
      have hg:=hG.good
      clear hG
      go_wp2
      exact⟨_,rfl,⟨_,rfl,alloc_new _ _ _ _ rfl,hp.size⟩,hg.below (bal _),⟨fun _=>bal _,fun h=>absurd h (by decide)⟩⟩
     ·intro x wx hG
      have f9:=hG.old 9 (by decide+kernel)
      have hg:=hG.good
      clear hG
      go_wp2
      exact⟨_,rfl,rfl,hg,⟨fun _=>Below.refl _ _,fun h=>absurd h (by decide)⟩⟩
     ·intro x wx hG
      have g3:(x.tmps.getD 50 undef)= .slice (some ⟨cb,coff,none⟩) cs.length uc:=hG.claims 3 _ rfl (by decide+kernel) (by decide+kernel)
      have g3b:=g3
      rw[Array.getD_eq_getD_getElem?] at g3b
      have hg:=hG.good
      clear hG
      go_wp2
      exact⟨_,rfl,rfl,hg,⟨fun _=>Below.refl _ _,fun h=>absurd h (by decide)⟩⟩
     ·intro x wx hG
      have g4:(x.tmps.getD 51 undef)= .pointer (some ⟨cb,coff+2,none⟩):=hG.claims 4 _ rfl (by decide+kernel) (by decide+kernel)
      have g4b:=g4
      rw[Array.getD_eq_getD_getElem?] at g4b
      have hp:=hG.pre (by decide+kernel)
      have hg:=hG.good
      clear hG
      have c_HX2:=ckeep hp HX2.out
      go_wp2
      exact⟨_,rfl,rfl,hg,⟨fun _=>Below.refl _ _,fun h=>absurd h (by decide)⟩⟩
     ·intro x wx hG
      have g5:(x.tmps.getD 52 undef)= .int .i64 x2:=hG.claims 5 _ rfl (by decide+kernel) (by decide+kernel)
      have g5b:=g5
      rw[Array.getD_eq_getD_getElem?] at g5b
      have hg:=hG.good
      clear hG
      go_wp2_with fail
      (with_reducible refine(HW0.out wx).mono ?_)
      rintro e wq ⟨rfl,hb⟩
      have HBB:=Lib.hid hb
      clear hb
      go_wp2
      exact⟨_,rfl,rfl,hg.below HBB.out,⟨fun _=>HBB.out,fun h=>absurd h (by decide)⟩⟩
     ·intro x wx hG
      have g2:StrRow wx w2.heap.size 2 #[.string { data:= #[97] }, .string { data:= #[98] }] (x.tmps.getD 49 undef):=hG.claims 2 _ rfl (by decide+kernel) (by decide+kernel)
      have g6:(x.tmps.getD 53 undef)= .int .i64 (k0:Nat):=hG.claims 6 _ rfl (by decide+kernel) (by decide+kernel)
      have g6b:=g6
      rw[Array.getD_eq_getD_getElem?] at g6b
      have hg:=hG.good
      clear hG
      obtain⟨q,hv,hq,hlo⟩:=g2
      have hvb:=hv
      rw[Array.getD_eq_getD_getElem?] at hvb
      have hk0:=HK0.out
      have hk1:(k0:Int) < 2:=by omega
      have HQ:=Lib.hid (And.intro hq hlo)
      clear hq hlo
      go_wp2
      exact⟨_,rfl,⟨q,by simp,HQ.out.1,HQ.out.2⟩,hg,⟨fun _=>Below.refl _ _,fun h=>absurd h (by decide)⟩⟩
     ·intro x wx hG
      have g7:StrPt wx w2.heap.size k0 #[.string { data:= #[97] }, .string { data:= #[98] }] (x.tmps.getD 54 undef):=hG.claims 7 _ rfl (by decide+kernel) (by decide+kernel)
      have hg:=hG.good
      clear hG
      obtain⟨q,hv,hq,hlo⟩:=g7
      have hvb:=hv
      rw[Array.getD_eq_getD_getElem?] at hvb
      have hcq:=cell_of_block (j:=k0) hq HNM.out
      clear hq hlo
      go_wp2
      exact⟨_,rfl,rfl,hg,⟨fun _=>Below.refl _ _,fun h=>absurd h (by decide)⟩⟩
     ·intro x wx hG
      have f9:=hG.old 9 (by decide+kernel)
      have hg:=hG.good
      clear hG
      go_wp2
      exact⟨_,rfl,rfl,hg,⟨fun _=>Below.refl _ _,fun h=>absurd h (by decide)⟩⟩
     ·intro x wx hG
      have g9:(x.tmps.getD 56 undef)= .slice (some ⟨cb,coff,none⟩) cs.length uc:=hG.claims 9 _ rfl (by decide+kernel) (by decide+kernel)
      have g9b:=g9
      rw[Array.getD_eq_getD_getElem?] at g9b
      have hg:=hG.good
      clear hG
      go_wp2
      exact⟨_,rfl,rfl,hg,⟨fun _=>Below.refl _ _,fun h=>absurd h (by decide)⟩⟩
     ·intro x wx hG
      have g10:(x.tmps.getD 57 undef)= .pointer (some ⟨cb,coff+2,none⟩):=hG.claims 10 _ rfl (by decide+kernel) (by decide+kernel)
      have g10b:=g10
      rw[Array.getD_eq_getD_getElem?] at g10b
      have hp:=hG.pre (by decide+kernel)
      have hg:=hG.good
      clear hG
      have c_HX2:=ckeep hp HX2.out
      go_wp2
      exact⟨_,rfl,rfl,hg,⟨fun _=>Below.refl _ _,fun h=>absurd h (by decide)⟩⟩
     ·intro x wx hG
      have g11:(x.tmps.getD 58 undef)= .int .i64 x2:=hG.claims 11 _ rfl (by decide+kernel) (by decide+kernel)
      have g11b:=g11
      rw[Array.getD_eq_getD_getElem?] at g11b
      have hg:=hG.good
      clear hG
      go_wp2_with fail
      (with_reducible refine(HW1.out wx).mono ?_)
      rintro e wq ⟨rfl,hb⟩
      have HBB:=Lib.hid hb
      clear hb
      go_wp2
      exact⟨_,rfl,rfl,hg.below HBB.out,⟨fun _=>HBB.out,fun h=>absurd h (by decide)⟩⟩
     ·intro x wx hG
      have f9:=hG.old 9 (by decide+kernel)
      have hg:=hG.good
      clear hG
      go_wp2
      exact⟨_,rfl,rfl,hg,⟨fun _=>Below.refl _ _,fun h=>absurd h (by decide)⟩⟩
     ·intro x wx hG
      have g13:(x.tmps.getD 60 undef)= .slice (some ⟨cb,coff,none⟩) cs.length uc:=hG.claims 13 _ rfl (by decide+kernel) (by decide+kernel)
      have g13b:=g13
      rw[Array.getD_eq_getD_getElem?] at g13b
      have hg:=hG.good
      clear hG
      go_wp2
      exact⟨_,rfl,rfl,hg,⟨fun _=>Below.refl _ _,fun h=>absurd h (by decide)⟩⟩
     ·intro x wx hG
      have g14:(x.tmps.getD 61 undef)= .pointer (some ⟨cb,coff+2,none⟩):=hG.claims 14 _ rfl (by decide+kernel) (by decide+kernel)
      have g14b:=g14
      rw[Array.getD_eq_getD_getElem?] at g14b
      have hp:=hG.pre (by decide+kernel)
      have hg:=hG.good
      clear hG
      have c_HX2:=ckeep hp HX2.out
      go_wp2
      exact⟨_,rfl,rfl,hg,⟨fun _=>Below.refl _ _,fun h=>absurd h (by decide)⟩⟩
     ·intro x wx hG
      have g15:(x.tmps.getD 62 undef)= .int .i64 x2:=hG.claims 15 _ rfl (by decide+kernel) (by decide+kernel)
      have g15b:=g15
      rw[Array.getD_eq_getD_getElem?] at g15b
      have hg:=hG.good
      clear hG
      go_wp2
      exact⟨_,rfl,rfl,hg,⟨fun _=>Below.refl _ _,fun h=>absurd h (by decide)⟩⟩
     ·intro x wx hG
      have g16:(x.tmps.getD 63 undef)= .int .i64 (wrap64 (x2.tdiv 2)):=hG.claims 16 _ rfl (by decide+kernel) (by decide+kernel)
      have g16b:=g16
      rw[Array.getD_eq_getD_getElem?] at g16b
      have hg:=hG.good
      clear hG
      go_wp2_with fail
      (with_reducible refine(HW2.out wx).mono ?_)
      rintro e wq ⟨rfl,hb⟩
      have HBB:=Lib.hid hb
      clear hb
      go_wp2
      exact⟨_,rfl,rfl,hg.below HBB.out,⟨fun _=>HBB.out,fun h=>absurd h (by decide)⟩⟩
     ·intro x wx hG
      have g12:(x.tmps.getD 59 undef)= .int .i64 (k1:Nat):=hG.claims 12 _ rfl (by decide+kernel) (by decide+kernel)
      have g12b:=g12
      rw[Array.getD_eq_getD_getElem?] at g12b
      have g17:(x.tmps.getD 64 undef)= .int .i64 (k2:Nat):=hG.claims 17 _ rfl (by decide+kernel) (by decide+kernel)
      have g17b:=g17
      rw[Array.getD_eq_getD_getElem?] at g17b
      have hg:=hG.good
      clear hG
      go_wp2
      exact⟨_,rfl,rfl,hg,⟨fun _=>Below.refl _ _,fun h=>absurd h (by decide)⟩⟩
     ·intro x wx hG
      have g0:(x.tmps.getD 47 undef)= .pointer (some ⟨g,0,none⟩):=hG.claims 0 _ rfl (by decide+kernel) (by decide+kernel)
      have g0b:=g0
      rw[Array.getD_eq_getD_getElem?] at g0b
      have g1:(x.tmps.getD 48 undef)= .int .i64 (ki:Nat):=hG.claims 1 _ rfl (by decide+kernel) (by decide+kernel)
      have g1b:=g1
      rw[Array.getD_eq_getD_getElem?] at g1b
      have g8:(x.tmps.getD 55 undef)= .string (sidA k0):=hG.claims 8 _ rfl (by decide+kernel) (by decide+kernel)
      have g8b:=g8
      rw[Array.getD_eq_getD_getElem?] at g8b
      have g18:(x.tmps.getD 65 undef)= .agg #[.int .i64 (k1:Nat), .int .i64 (k2:Nat)]:=hG.claims 18 _ rfl (by decide+kernel) (by decide+kernel)
      have g18b:=g18
      rw[Array.getD_eq_getD_getElem?] at g18b
      have hp:=hG.pre (by decide+kernel)
      have hg:=hG.good
      clear hG
      have HN:=Lib.hid (HMK.out wx (HS.out.below hp))
      go_wp2_with fail
      (with_reducible refine(HN.out).mono ?_)
      rintro e wq ⟨rfl,h1,h2⟩
      have H1:=Lib.hid h1
      have H2:=Lib.hid h2
      clear h1 h2 HN
      go_wp2
      exact⟨_,rfl,⟨H1.out,rfl⟩,hg.trans H2.out,⟨fun h=>absurd rfl h,fun _=>H2.out⟩⟩
    ·intro vals w9 hg hF
     obtain⟨g0,g1,g2,g3,g4,g5,g6,g7,g8,g9,g10,g11,g12,g13,g14,g15,g16,g17,g18,g19, -⟩:=hF
     have e0:vals 0= .pointer (some ⟨g,0,none⟩):=g0 rfl
     have e1:vals 1= .int .i64 (ki:Nat):=g1 rfl
     have e3:vals 3= .slice (some ⟨cb,coff,none⟩) cs.length uc:=g3 rfl
     have e4:vals 4= .pointer (some ⟨cb,coff+2,none⟩):=g4 rfl
     have e5:vals 5= .int .i64 x2:=g5 rfl
     have e6:vals 6= .int .i64 (k0:Nat):=g6 rfl
     have e8:vals 8= .string (sidA k0):=g8 rfl
     have e9:vals 9= .slice (some ⟨cb,coff,none⟩) cs.length uc:=g9 rfl
     have e10:vals 10= .pointer (some ⟨cb,coff+2,none⟩):=g10 rfl
     have e11:vals 11= .int .i64 x2:=g11 rfl
     have e12:vals 12= .int .i64 (k1:Nat):=g12 rfl
     have e13:vals 13= .slice (some ⟨cb,coff,none⟩) cs.length uc:=g13 rfl
     have e14:vals 14= .pointer (some ⟨cb,coff+2,none⟩):=g14 rfl
     have e15:vals 15= .int .i64 x2:=g15 rfl
     have e16:vals 16= .int .i64 (wrap64 (x2.tdiv 2)):=g16 rfl
     have e17:vals 17= .int .i64 (k2:Nat):=g17 rfl
     have e18:vals 18= .agg #[.int .i64 (k1:Nat), .int .i64 (k2:Nat)]:=g18 rfl
     replace g19:TownAt w9 b T g t9∧(vals 19)= .tuple #[.agg #[.int .i64 d0, .int .i64 d1], .int .i64 E9]:=g19 rfl
     simp only[Cl2.puts,e0,e1,e3,e4,e5,e6,e8,e9,e10,e11,e12,e13,e14,e15,e16,e17,e18]
     clear e0 e1 e3 e4 e5 e6 e8 e9 e10 e11 e12 e13 e14 e15 e16 e17 e18 g0 g1 g2 g3 g4 g5 g6 g7 g8 g9 g10 g11 g12 g13 g14 g15 g16 g17 g18
     go_simp
     generalize vals 19=mk9 at*
     have HTW:=Lib.hid g19.1
     have HSG:=Lib.hid hg
     clear g19 hg
     generalize vals 2=jbs at*
     generalize vals 7=jsx at*
     go_wp2
     go_meet
     case rel=>
      have h2:=HTW.out
      rw[HT9.out] at h2
      exact HST.out.make (by omega) HIS.out h2 (HS2.out.trans HSG.out)
   ·obtain⟨kf,hkf⟩: ∃kf,kf=wiN x2 F.length:=⟨_,rfl⟩
    have hkf2:kf < F.length:=by rw[hkf];have:=wiN_lt x2 F.length (by have:=HF1.out.1;omega);exact this
    rcases HVF.out with hnil | ⟨fb,foff,rfl,hfb,hfc⟩
    ·rw[hnil] at hkf2;simp at hkf2
    obtain⟨c7,⟨v7,rfl,hv7⟩,hcc7⟩:=hfc kf hkf2
    have HS2W:=Lib.hid (HST.out.stp.trans HS2.out)
    have hf7:w2.cell? ⟨fb,foff+kf,none⟩=some v7:=(HSB.out w2 HS2W.out).cell _ _ (by have:=hcc7 0 v7 rfl;simpa [bxsE] using this)
    have HV7:=Lib.hid hv7
    have HC7:=Lib.hid (HFC.out _ (List.getElem_mem hkf2))
    generalize F[kf]=G7 at*
    obtain⟨za,zc,hz7⟩:=hv7.shape
    subst hz7
    have hkfi:(kf:Int) < (F.length:Int):=by omega
    have q2:=HX2.out
    have hF1:=HF1.out
    clear hv7 hcc7 hfc
    go_wp2_with fail
    (with_reducible refine(wiN_c x2 (F.length:Int) w2 (by have:=hF1.1;omega) (by have:=hF1.2;omega)).mono ?_)
    rintro e w3 ⟨rfl,hb3⟩
    rw[←hkf]
    replace hf7:=ckeep hb3 hf7
    have HS3:=Lib.hid (HS2.out.below hb3)
    have HT3:=Lib.hid (HT2.out.below hb3)
    have HSZ:=Lib.hid (HS2W.out.below hb3)
    have HST0:=Lib.hid (show(t'.sites[ki]'HIS.out).stamp < 1000000 by have:=HIV.out.st ki HIS.out;omega)
    clear hb3 q2 hF1 hkf
    go_wp2_with fail
    clear hf7
    (with_reducible refine(twant_c g b T t' ki HIS.out _ G7 w3 HT3.out (fun w' hs=>HV7.out.sub (HSB.out w' (HSZ.out.trans hs))) HC7.out HST0.out).mono ?_)
    rintro e w4 ⟨rfl,h4,hs4⟩
    have H4:=Lib.hid h4
    have HS4:=Lib.hid (HS3.out.trans hs4)
    clear h4 hs4 hkfi hkf2
    go_wp2
    go_meet
    case rel=>exact HST.out.want (by omega) HIS.out H4.out HS4.out
   ·obtain⟨kf,hkf⟩: ∃kf,kf=wiN x2 3:=⟨_,rfl⟩
    have hkf2:kf < t'.sites.length:=by rw[hkf,HN3.out];exact wiN_lt x2 3 (by decide)
    have q2:=HX2.out
    go_wp2_with fail
    (with_reducible refine(wiN_c x2 3 w2 (by decide) (by decide)).mono ?_)
    rintro e w3 ⟨rfl,hb3⟩
    rw[←hkf]
    have HS3:=Lib.hid (HS2.out.below hb3)
    have HT3:=Lib.hid (HT2.out.below hb3)
    have HG3:=Lib.hid (fun q (hq:w3.heap.size≤q)=>HGT.out q (Nat.le_trans hb3.size hq))
    clear hb3 q2 hkf
    go_wp2_with fail
    (with_reducible refine(tsend_c g b T t' ki kf HIS.out hkf2 w3 HT3.out HG3.out).mono ?_)
    rintro e w4 ⟨rfl,h4,hs4⟩
    have H4:=Lib.hid h4
    have HS4:=Lib.hid (HS3.out.trans hs4)
    have HSR:=Lib.hid (HIV.out.sendR HIS.out hkf2)
    generalize sendE t' ki kf=E9 at*
    clear h4 hs4 hkf2
    go_wp2
    go_meet
    case rel=>exact HST.out.turn HSR.out.1 HSR.out.2 H4.out HS4.out
   ·obtain⟨kf,hkf⟩: ∃kf,kf=wiN x2 3:=⟨_,rfl⟩
    have hkf2:kf < t'.sites.length:=by rw[hkf,HN3.out];exact wiN_lt x2 3 (by decide)
    have q2:=HX2.out
    go_wp2_with fail
    (with_reducible refine(wiN_c x2 3 w2 (by decide) (by decide)).mono ?_)
    rintro e w3 ⟨rfl,hb3⟩
    rw[←hkf]
    have HS3:=Lib.hid (HS2.out.below hb3)
    have HT3:=Lib.hid (HT2.out.below hb3)
    have HG3:=Lib.hid (fun q (hq:w3.heap.size≤q)=>HGT.out q (Nat.le_trans hb3.size hq))
    clear hb3 q2 hkf
    go_wp2_with fail
    (with_reducible refine(tsend_c g b T t' ki kf HIS.out hkf2 w3 HT3.out HG3.out).mono ?_)
    rintro e w4 ⟨rfl,h4,hs4⟩
    have H4:=Lib.hid h4
    have HS4:=Lib.hid (HS3.out.trans hs4)
    have HSR:=Lib.hid (HIV.out.sendR HIS.out hkf2)
    generalize sendE t' ki kf=E9 at*
    clear h4 hs4 hkf2
    go_wp2
    go_meet
    case rel=>exact HST.out.turn HSR.out.1 HSR.out.2 H4.out HS4.out
   ·go_wp2_with fail
    (with_reducible refine(tway_c g b T t' w2 HT2.out).mono ?_)
    rintro e w3 ⟨ya,yc,rfl, -,hb3⟩
    have HS3:=Lib.hid (HS2.out.below hb3)
    have HT3:=Lib.hid (HT2.out.below hb3)
    have HG3:=Lib.hid (fun q (hq:w3.heap.size≤q)=>HGT.out q (Nat.le_trans hb3.size hq))
    have q2:=ckeep hb3 HX2.out
    have H60:=Lib.hid HIV.out.ok.lw
    clear hb3
    by_cases hw0:t'.way.length=0
    ·have hd0:decide (0 < (t'.way.length:Int))=false:=by simp[hw0]
     have hd1:decide (0 < t'.way.length)=false:=by simp[hw0]
     have HI9:=Lib.hid HIV.out
     clear hw0 q2
     go_wp2
     go_meet
     case rel=>exact HST.out.turn HI9.out rfl HT3.out HS3.out
    have hd0:decide (0 < (t'.way.length:Int))=true:=by simp;omega
    have hd1:decide (0 < t'.way.length)=true:=by simp;omega
    obtain⟨kf,hkf⟩: ∃kf,kf=wiN x2 t'.way.length:=⟨_,rfl⟩
    have hkf2:kf < t'.way.length:=by rw[hkf];have:=wiN_lt x2 t'.way.length (by omega);exact this
    go_wp2_with fail
    (with_reducible refine(wiN_c x2 (t'.way.length:Int) w3 (by omega) (by have:=H60.out;omega)).mono ?_)
    rintro e w4 ⟨rfl,hb4⟩
    rw[←hkf]
    have HS4:=Lib.hid (HS3.out.below hb4)
    have HT4:=Lib.hid (HT3.out.below hb4)
    have HG4:=Lib.hid (fun q (hq:w4.heap.size≤q)=>HG3.out q (Nat.le_trans hb4.size hq))
    clear hb4 q2 hkf
    go_wp2_with fail
    (with_reducible refine(tbring_c g b T t' kf hkf2 w4 HT4.out HG4.out).mono ?_)
    rintro e w5 ⟨t9,E9,rfl,hbs,h5,hs5⟩
    have H5:=Lib.hid h5
    have HS5:=Lib.hid (HS4.out.trans hs5)
    have HSR:=Lib.hid (HIV.out.bringS (by omega) hbs)
    clear h5 hs5 hbs hkf2 hw0 hd0 hd1
    go_wp2
    go_meet
    case rel=>exact HST.out.turn HSR.out.1 HSR.out.2 H5.out HS5.out
   ·go_wp2_with fail
    (with_reducible refine(tway_c g b T t' w2 HT2.out).mono ?_)
    rintro e w3 ⟨ya,yc,rfl, -,hb3⟩
    have HS3:=Lib.hid (HS2.out.below hb3)
    have HT3:=Lib.hid (HT2.out.below hb3)
    have HG3:=Lib.hid (fun q (hq:w3.heap.size≤q)=>HGT.out q (Nat.le_trans hb3.size hq))
    have q2:=ckeep hb3 HX2.out
    have H60:=Lib.hid HIV.out.ok.lw
    clear hb3
    by_cases hw0:t'.way.length=0
    ·have hd0:decide (0 < (t'.way.length:Int))=false:=by simp[hw0]
     have hd1:decide (0 < t'.way.length)=false:=by simp[hw0]
     have HI9:=Lib.hid HIV.out
     clear hw0 q2
     go_wp2
     go_meet
     case rel=>exact HST.out.turn HI9.out rfl HT3.out HS3.out
    have hd0:decide (0 < (t'.way.length:Int))=true:=by simp;omega
    have hd1:decide (0 < t'.way.length)=true:=by simp;omega
    obtain⟨kf,hkf⟩: ∃kf,kf=wiN x2 t'.way.length:=⟨_,rfl⟩
    have hkf2:kf < t'.way.length:=by rw[hkf];have:=wiN_lt x2 t'.way.length (by omega);exact this
    go_wp2_with fail
    (with_reducible refine(wiN_c x2 (t'.way.length:Int) w3 (by omega) (by have:=H60.out;omega)).mono ?_)
    rintro e w4 ⟨rfl,hb4⟩
    rw[←hkf]
    have HS4:=Lib.hid (HS3.out.below hb4)
    have HT4:=Lib.hid (HT3.out.below hb4)
    have HG4:=Lib.hid (fun q (hq:w4.heap.size≤q)=>HG3.out q (Nat.le_trans hb4.size hq))
    clear hb4 q2 hkf
    go_wp2_with fail
    (with_reducible refine(tbring_c g b T t' kf hkf2 w4 HT4.out HG4.out).mono ?_)
    rintro e w5 ⟨t9,E9,rfl,hbs,h5,hs5⟩
    have H5:=Lib.hid h5
    have HS5:=Lib.hid (HS4.out.trans hs5)
    have HSR:=Lib.hid (HIV.out.bringS (by omega) hbs)
    clear h5 hs5 hbs hkf2 hw0 hd0 hd1
    go_wp2
    go_meet
    case rel=>exact HST.out.turn HSR.out.1 HSR.out.2 H5.out HS5.out
   ·obtain⟨kf,hkf⟩: ∃kf,kf=wiN x2 20:=⟨_,rfl⟩
    have q2:=HX2.out
    go_wp2_with fail
    (with_reducible refine(wiN_c x2 20 w2 (by decide) (by decide)).mono ?_)
    rintro e w3 ⟨rfl,hb3⟩
    rw[←hkf]
    have HS3:=Lib.hid (HS2.out.below hb3)
    have HT3:=Lib.hid (HT2.out.below hb3)
    clear hb3 q2 hkf
    go_wp2_with fail
    (with_reducible refine(tlose_c g b T t' (kf:Int) w3 HT3.out).mono ?_)
    rintro e w4 ⟨rfl,h4,hs4⟩
    have H4:=Lib.hid h4
    have HS4:=Lib.hid (HS3.out.trans hs4)
    have HSR:=Lib.hid (HIV.out.loseR (kf:Int))
    generalize loseE t' (kf:Int)=E9 at*
    clear h4 hs4
    go_wp2
    go_meet
    case rel=>exact HST.out.turn HSR.out.1 HSR.out.2 H4.out HS4.out
end Go.Proofs.YtihpddhngbgcdaaGreat
