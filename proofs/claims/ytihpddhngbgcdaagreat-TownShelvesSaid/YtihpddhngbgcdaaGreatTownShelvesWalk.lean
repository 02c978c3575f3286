/- What TownShelves does. Written by a small program (gen/townlaws.py). -/
import Derived.Test.YtihpddhngbgcdaaGreatMTownF
namespace Go.Proofs.YtihpddhngbgcdaaGreat
open Go.RowKit
set_option maxRecDepth 100000 in
set_option maxHeartbeats 16000000 in
theorem TownShelves_walk (fv lv:Value) (F:List Bxs) (l:List (List Int)) (w:World) (hF:RowAt bxsE w fv F) (hl:RowAt vecE w lv l):
  Calls Tryz.prog 10 #[fv,lv] w fun e w'=>e= .returned (.bool true)∧Below w.heap.size w w':=by
 obtain⟨fa,fc,rfl⟩:=hF.shape
 obtain⟨la,lc,rfl⟩:=hl.shape
 have HF:=Lib.hid hF
 have HL:=Lib.hid hl
 clear hF hl
 go_enter Tryz.func10,Tryz.ntmps10
 go_wp2_with fail
 (with_reducible refine(townBegun_c w).mono ?_)
 rintro e w1 ⟨rfl,hb⟩
 have HB1:=Lib.hid hb
 clear hb
 go_wp2_with fail
 (with_reducible refine(tfilters_c _ F w1 (HF.out.below HB1.out)).mono ?_)
 rintro e w2 ⟨R,ra,rc,rfl,hR,hRc,hR3,hR7,hb⟩
 have HB2:=Lib.hid (bstep HB1.out hb)
 have HR:=Lib.hid hR
 have HRC:=Lib.hid hRc
 have HR3:=Lib.hid (show 1≤R.length∧R.length≤100 from⟨by omega,by omega⟩)
 obtain⟨ra',rc',hra,hrcap, -, -, -⟩:=hR.open_
 simp only[Value.slice.injEq,true_and] at hra
 obtain⟨rfl,rfl⟩:=hra
 have HRT:=Lib.hid (RowAt.take hR 3 hR3)
 have HLT:=Lib.hid (show(R.take 3).length=3 by rw[List.length_take];omega)
 have hr33:(3:Int)≤(rc:Int):=by omega
 have hr34:3≤rc:=by omega
 obtain⟨TT,hTT⟩: ∃TT:Nat→Prop,TT=fun q=>w2.heap.size≤q:=⟨_,rfl⟩
 have HTN:=Lib.hid (show ∀q,w2.heap.size≤q→TT q from fun q hq=>by rw[hTT];exact hq)
 have HT0:=Lib.hid (show ∀q,TT q→w2.heap.size≤q from fun q hq=>by rw[hTT] at hq;exact hq)
 have HNW:=Lib.hid (tnew_c (.slice ra 3 rc) (R.take 3) TT w2 (by have h:=HRT.out;exact h) (by rw[HLT.out];decide) (fun x hx=>HRC.out x (List.mem_of_mem_take hx)) HTN.out)
 clear hb hR hRc hrcap hTT
 go_wp2_with fail
 (with_reducible refine(HNW.out).mono ?_)
 rintro e w3 ⟨g,rfl,ht,hb⟩
 have HTW:=Lib.hid ht
 have HB3:=Lib.hid hb
 have HSZ:=Lib.hid hb.size
 clear ht hb HNW hr33 hr34 hR3 hR7
 have HPL:=Lib.hid (tplayed_c w2.heap.size g TT (newT (R.take 3)) (.slice ra R.length rc) (.slice la l.length lc) R l w3 HTW.out (newT_I (by rw[HLT.out];decide)) (by show(newL _).length=3;rw [newL_len,HLT.out]) (fun q hq=>HTN.out q (Nat.le_trans HSZ.out hq)) w2 (Stp.of_below HB3.out) HT0.out HR.out HRC.out HR3.out (HL.out.below HB2.out))
 go_wp2_with fail
 (with_reducible refine(HPL.out).mono ?_)
 rintro e w4 ⟨H,A,t,aa,ac,rfl,hp⟩
 have HP:=Lib.hid hp
 have HB4:=Lib.hid (show Below w.heap.size w w4 from bstep HB2.out (((Stp.of_below HB3.out).trans hp.stp).sp.toBelow (base:=w2.heap.size) (fun q hq=>HT0.out q hq) (Nat.le_refl _)))
 have HN3:=Lib.hid hp.n3
 have hA60:A.length≤60:=by have:=hp.seen.len;have:=hp.inv.len;omega
 clear hp HPL HTW HRT HLT HB3 HSZ HR HRC HR3
 go_wp2
 go_loopw [29] (fun i wr=> ∃j:Nat,j≤3∧i= .int .i64 j∧Below w4.heap.size w4 wr) (fun i _=>3 - (intOf i).toNat)
 case atStart=>exact ⟨0,by omega,rfl,Below.refl _ _⟩
 case round=>
  obtain⟨j,hj,rfl,hbl⟩:=hrel
  by_cases hj3:j < 3
  rotate_left
  ·obtain rfl:j=3:=by omega
   have hjb:decide (((3:Nat):Int) < 3)=false:=by decide
   have HB:=Lib.hid (bstep HB4.out hbl)
   clear hbl
   go_wp2
   go_ret
   exact⟨rfl,HB.out⟩
  have hjb:decide ((j:Int) < 3)=true:=by simp;omega
  have HJS:=Lib.hid (show j < t.sites.length by rw[HN3.out];exact hj3)
  have HSH:=Lib.hid (tshelf_c _ _ _ t j HJS.out _ (HP.out.below hbl).town)
  have HBLJ:=Lib.hid hbl
  clear hbl
  go_wp2_with fail
  (with_reducible refine(HSH.out).mono ?_)
  rintro e w5 ⟨xa,xc,rfl,hx,hb5⟩
  have HXOK:=Lib.hid ((HP.out.inv.sites j HJS.out).ok.L)
  have HXV:=Lib.hid (VOwn.mono hx (Nat.zero_le _))
  have HB5:=Lib.hid (bstep HBLJ.out hb5)
  have HMD:=Lib.hid (fun (v:Ver) (hv:v∈(t.sites[j]'HJS.out).L)=>HP.out.made HJS.out hv)
  have HCH:=Lib.hid (HP.out.chk HJS.out)
  generalize (t.sites[j]'HJS.out).L=X at*
  have hx60:X.length≤60:=HXOK.out.len
  have HCK:=Lib.hid (shelfChk_c _ X w5 (HXV.out.at_ (shok_bd HXOK.out.ok) (by omega)))
  rw[HCH.out] at HCK
  clear hx hb5 HSH
  go_wp2_with fail
  (with_reducible refine(HCK.out).mono ?_)
  rintro e w6 ⟨rfl,hb6⟩
  have HB6:=Lib.hid (bstep HB5.out hb6)
  have HX6:=Lib.hid (HXV.out.below hb6)
  clear hb6 HCK HXV
  go_wp2
  go_loopw [47] (fun i wr=> ∃k:Nat,k≤X.length∧i= .int .i64 k∧Below w4.heap.size w4 wr∧VOwn wr 0 (.slice xa X.length xc) X) (fun i _=>X.length - (intOf i).toNat)
  case atStart=>exact ⟨0,Nat.zero_le _,rfl,HB6.out,HX6.out⟩
  case round=>
   obtain⟨k,hk,rfl,hbl,hxr⟩:=hrel
   have HBL:=Lib.hid hbl
   have HXR:=Lib.hid hxr
   clear hbl hxr HX6
   by_cases hlt:k < X.length
   rotate_left
   ·obtain rfl:k=X.length:=by omega
    have hkb:decide ((X.length:Int) < (X.length:Int))=false:=by simp
    go_wp2
    go_roundw
    case rel=>exact ⟨j+1,by omega,by go_num,HBL.out⟩
    case measure=>simp [intOf] <;> omega
   have hkb:decide ((k:Int) < (X.length:Int))=true:=by simp;omega
   have HPR:=Lib.hid (HP.out.below HBL.out)
   obtain⟨gx,cx,a1,n1,d1,a2,n2,d2,hsx,hgx,hkn,hcl⟩:=HXR.out.cell hlt
   simp only[Value.slice.injEq,true_and] at hsx
   obtain⟨rfl,rfl⟩:=hsx
   have HVOK:=Lib.hid (HXOK.out.ok _ (List.getElem_mem hlt))
   have HVA:=Lib.hid (HMD.out _ (List.getElem_mem hlt))
   generalize X[k]=v1 at*
   have c0:=hcl 0 _ rfl
   have c1:=hcl 1 _ rfl
   have c2:=hcl 2 _ rfl
   have c3:=hcl 3 _ rfl
   have c4:=hcl 4 _ rfl
   have c5:=hcl 5 _ rfl
   have c6:=hcl 6 _ rfl
   have c7:=hcl 7 _ rfl
   rw[Nat.add_zero] at c0
   obtain⟨BV,hBV⟩: ∃BV,BV=wr.heap.size:=⟨_,rfl⟩
   obtain⟨W1,hW1⟩: ∃W1,W1=wr.alloc (.cells #[.string v1.id, .int .i64 v1.ds, .int .i64 v1.dc, .int .i64 v1.tg, .int .i64 v1.nm, .int .i64 v1.bd, .slice a1 n1 d1, .slice a2 n2 d2] 75):=⟨_,rfl⟩
   have hb1:Below wr.heap.size wr W1:=by rw[hW1];exact bal _
   have HV1:=Lib.hid (show W1.heap[BV]? =some (Obj.cells #[.string v1.id, .int .i64 v1.ds, .int .i64 v1.dc, .int .i64 v1.tg, .int .i64 v1.nm, .int .i64 v1.bd, .slice a1 n1 d1, .slice a2 n2 d2] 75 (0,0)) by rw[hW1];exact alloc_new _ _ _ _ hBV)
   have HKA:=Lib.hid ((hkn.below hb1).at_ HVOK.out.past.len (by have:=HVOK.out.len;omega))
   have HP1:=Lib.hid (HPR.out.below hb1)
   have HB1:=Lib.hid (bstep HBL.out hb1)
   have HX1:=Lib.hid (HXR.out.below hb1)
   have HC1:=Lib.hid (containsV_c VerOk _ A _ _ _ W1 (HP1.out.all.1.at_ (shok_bd HP1.out.okA) (by omega)) HP1.out.okA (shv1_p BV v1 (.slice a1 n1 d1) (.slice a2 n2 d2) W1 HV1.out HKA.out HVOK.out.dot))
   rw[HVA.out] at HC1
   clear hkn hcl hb1 HPR HP1 hgx HXR HV1
   go_wp2_with fail
   rw[←hW1,←hBV]
   clear hW1 hBV c0 c1 c2 c3 c4 c5 c6 c7
   (with_reducible refine(HC1.out).mono ?_)
   rintro e w7 ⟨rfl,hb7⟩
   have HB7:=Lib.hid (bstep HB1.out hb7)
   have HX7:=Lib.hid (HX1.out.below hb7)
   clear hb7 HC1
   go_wp2
   go_roundw
   case rel=>exact ⟨k+1,by omega,by go_num,HB7.out,HX7.out⟩
   case measure=>simp [intOf] <;> omega
end Go.Proofs.YtihpddhngbgcdaaGreat
