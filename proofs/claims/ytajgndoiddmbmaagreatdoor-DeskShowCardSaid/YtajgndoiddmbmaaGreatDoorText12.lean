/- What text.Show does. -/
import Derived.Test.YtajgndoiddmbmaaGreatDoorText11
import Derived.Test.YtajgndoiddmbmaaGreatDoorText5
import Derived.Test.YtajgndoiddmbmaaGreatDoorTextLay
import Derived.Test.YtajgndoiddmbmaaGreatDoorMClaims
import Derived.Test.YtajgndoiddmbmaaGreatDoorMBase
namespace Go.Proofs.YtajgndoiddmbmaaGreatDoor
open Go.RowKit
def rowL (ss:List ByteArray) (n:Nat):List Value:=ss.map Value.string++List.replicate (n - ss.length) (Value.string ByteArray.empty)
theorem rowL_get {ss:List ByteArray} {n a:Nat} (h:a < ss.length):(rowL ss n)[a]? =some (.string (ss.getD a ByteArray.empty)):=by
 simp[rowL,List.getElem?_append_left (show a < (ss.map Value.string).length by simpa using h),List.getD,List.getElem?_eq_getElem h]
theorem rowL_at {ss:List ByteArray} {n a:Nat} (h:a < n): ∃x,(rowL ss n)[a]? =some (.string x):=by
 by_cases ha:a < ss.length
 ·exact⟨_,rowL_get ha⟩
 ·exact⟨ByteArray.empty,by rw[rowL,List.getElem?_append_right (by simp;omega),List.getElem?_replicate,if_pos (by simp;omega)]⟩
theorem rowL_set {ss:List ByteArray} {n:Nat} (h:ss.length < n) (x:ByteArray):(rowL ss n).set ss.length (.string x)=rowL (ss++[x]) n:=by
 unfold rowL
 obtain⟨q,hq⟩: ∃q,n - ss.length=q+1:=⟨n - ss.length - 1,by omega⟩
 rw[hq,List.length_append,List.length_singleton,show n - (ss.length+1)=q by omega,List.replicate_succ]
 simp[List.set_append]
theorem rowL_set2 {ss:List ByteArray} {n:Nat} (x y:ByteArray):(rowL (ss++[x]) n).set ss.length (.string y)=rowL (ss++[y]) n:=by
 unfold rowL
 rw[List.length_append,List.length_append,List.length_singleton,List.length_singleton]
 simp[List.set_append]
structure ShS (ss:List ByteArray) (n g:Nat) (w0 w:World):Prop where
 own:w.ownsRow g 9 1 (.slice (some ⟨g,0,none⟩) n n) n (rowL ss n)
 bel:Below w0.heap.size w0 w
theorem ShS.below {ss:List ByteArray} {n g:Nat} {w0 w w':World} (h:ShS ss n g w0 w) (hb:Below w.heap.size w w'):ShS ss n g w0 w':=⟨owns_below h.own hb,bstep h.bel hb⟩
theorem ShS.put {ss:List ByteArray} {n g k:Nat} {w0 w:World} (h:ShS ss n g w0 w) (hk:k=ss.length) (hg:w0.heap.size≤g) (hn:ss.length < n) (x:ByteArray):ShS (ss++[x]) n g w0 (w.setCell ⟨g,k,none⟩ (.string x)):=by
 subst hk
 exact⟨by have:=(h.own.stored ss.length (.string x)).1;rwa [rowL_set hn] at this,h.bel.trans ⟨rfl,rfl,rfl,by simp[World.setCell],fun k hk=>setCell_out (by omega)⟩⟩
theorem ShS.put2 {ss:List ByteArray} {n g k:Nat} {w0 w:World} {x:ByteArray} (h:ShS (ss++[x]) n g w0 w) (hk:k=ss.length) (hg:w0.heap.size≤g) (y:ByteArray):ShS (ss++[y]) n g w0 (w.setCell ⟨g,k,none⟩ (.string y)):=by
 subst hk
 exact⟨by have:=(h.own.stored ss.length (.string y)).1;rwa [rowL_set2] at this,h.bel.trans ⟨rfl,rfl,rfl,by simp[World.setCell],fun k hk=>setCell_out (by omega)⟩⟩
theorem ShS.get {ss:List ByteArray} {n g a:Nat} {w0 w:World} (h:ShS ss n g w0 w) (ha:a < ss.length) (hn:ss.length≤n):w.cell? ⟨g,a,none⟩=some (.string (ss.getD a ByteArray.empty)):=by
 rw[h.own.cellAt a (by omega)];exact rowL_get ha
theorem ShS.has {ss:List ByteArray} {n g a:Nat} {w0 w:World} (h:ShS ss n g w0 w) (ha:a < n): ∃x,w.cell? ⟨g,a,none⟩=some (.string x):=by
 obtain⟨x,hx⟩:=rowL_at (ss:=ss) ha
 exact⟨x,by rw[h.own.cellAt a (by omega)];exact hx⟩
theorem cutS_size (b:ByteArray):(cutS b).size≤401:=by
 unfold cutS
 split
 ·rw[ByteArray.size_extract];omega
 ·omega
theorem txtsK_size (l:Nds) (a k:Nat) (h:a < k):((txtsK l k).getD a ByteArray.empty).size≤401:=by
 rw[txtsK_get l a k h];exact cutS_size _
theorem ShS.last {ss:List ByteArray} {n g k:Nat} {w0 w:World} {x:ByteArray} (h:ShS (ss++[x]) n g w0 w) (hk:k=ss.length) (hn:ss.length < n):w.cell? ⟨g,k,none⟩=some (.string x):=by
 subst hk
 have:=h.get (a:=ss.length) (by simp) (by simp;omega)
 simpa[List.getD] using this
theorem digB_size (a:Nat):(digB a).size≤2:=by
 unfold digB
 split
 ·exact Nat.le_succ 1
 ·exact Nat.le_refl 2
set_option maxRecDepth 100000 in
theorem StrTy.info:(Tryz.prog.info? 9).map (fun i=>(i.zero,i.size,i.bytes))=some (some (.string ByteArray.empty),1,16):=by kernel_rfl
set_option maxRecDepth 100000 in
set_option maxHeartbeats 8000000 in
theorem show_c (vz:Value) (l:Nds) (wz:World) (hs:NdsAt wz vz l):
  Calls Tryz.prog 45 #[vz] wz fun e w'=>e= .returned (.tuple #[.string (showS l), .int .i64 (showE l)])∧Below wz.heap.size wz w':=by
 obtain⟨va,vc,rfl,hcap,hlen, -,hvl⟩:=hs.open_
 have HS:=Lib.hid hs
 clear hs
 go_enter Tryz.func45,Tryz.ntmps45
 go_wp2_with fail
 refine(formChk_c _ l _ HS.out).mono ?_
 rintro e w1 ⟨rfl,hb1⟩
 have HB1:=Lib.hid hb1
 by_cases hl:formChk l=0
 rotate_left
 ·have hlb:(formChk l==0)=false:=beq_eq_false_iff_ne.2 hl
  have HE:=Lib.hid (show showE l=formChk l by rw[showE,if_neg hl])
  have HE2:=Lib.hid (show showS l=ByteArray.empty by rw[showS,if_neg (by rw[HE.out];exact hl)])
  go_wp2
  go_ret2
  exact⟨by rw[HE.out,HE2.out];rfl,HB1.out⟩
 have HL:=Lib.hid (formChk_all hl)
 have h30:=HL.out.2.1
 rw[hl]
 obtain⟨w2,hmk,hown,hbm⟩:=mk_slice (P:=Tryz.prog) w1 31 9 (.string ByteArray.empty) 1 16 Tryz.underlying31 StrTy.info l.length (by omega) (by unfold maxLen;omega)
 rw[madeCells_one _ rfl] at hown
 have HST:=Lib.hid (show ShS [] l.length w1.heap.size wz w2 from⟨by simpa[rowL] using hown,bstep hb1 hbm⟩)
 have hbm1:Below w1.heap.size w1 w2:=hbm
 clear hown hbm
 go_wp2
 clear hmk
 have hg1:=hb1.size
 have HVL:=Lib.hid hvl
 generalize hg:w1.heap.size=g at*
 clear hvl
 go_loopw [19] (fun i wr=> ∃k:Nat,k≤l.length∧i= .int .i64 k∧ShS (txtsK l k) l.length g wz wr) (fun i _=>l.length - (intOf i).toNat)
 case atStart=>exact ⟨0,Nat.zero_le _,rfl,HST.out⟩
 case round=>
  clear HST
  obtain⟨k,hk,rfl,hst⟩:=hrel
  have ST:=Lib.hid hst
  clear hst
  by_cases hlt:k < l.length
  rotate_left
  ·obtain rfl:k=l.length:=by omega
   have hkb:decide ((l.length:Int) < (l.length:Int))=false:=by simp
   have hpos:=HL.out.1
   have hlen1:(txtsK l l.length).length=l.length:=txtsK_length _ _
   have e0:=ST.out.get (a:=l.length - 1) (by omega) (by omega)
   have hw1:IntKind.i64.wrap ((l.length:Int) - 1)=((l.length - 1:Nat):Int):=by rw[IntKind.wrap_i64];omega
   have hix:((l.length:Int) - 1)=((l.length - 1:Nat):Int):=by omega
   have HLS:=Lib.hid (show lastS l=(txtsK l l.length).getD (l.length - 1) ByteArray.empty from rfl)
   rw[←HLS.out] at e0
   have HSE:=Lib.hid (show showE l=if 400 < (lastS l).size then 2 else 0 by rw[showE,if_pos hl])
   have hlt2:l.length - 1 < l.length:=by omega
   by_cases hbig:400 < (lastS l).size
   ·have hd:decide ((400:Int) < ((lastS l).size:Int))=true:=by rw[decide_eq_true_eq];omega
    have HE:=Lib.hid (HSE.out.trans (if_pos hbig))
    have HE2:=Lib.hid (show showS l=ByteArray.empty by rw[showS,if_neg (by rw[HE.out];decide)])
    go_wp2
    go_ret2
    exact⟨by rw[HE.out,HE2.out];rfl,ST.out.bel⟩
   ·have hd:decide ((400:Int) < ((lastS l).size:Int))=false:=by rw[decide_eq_false_iff_not];omega
    have HE:=Lib.hid (HSE.out.trans (if_neg hbig))
    have HE2:=Lib.hid (show showS l=lastS l by rw[showS,if_pos HE.out])
    go_wp2
    go_ret2
    exact⟨by rw[HE.out,HE2.out];rfl,ST.out.bel⟩
  rcases HVL.out with rfl | ⟨b,off,rfl,hb,hc⟩
  ·simp at hlt
  obtain⟨d1,d2,d3⟩:=hc k hlt
  clear hc
  replace d1:=(ST.out.bel.cell (p:=⟨b,off+k*3,none⟩) hb).trans d1
  replace d2:=(ST.out.bel.cell (p:=⟨b,off+k*3+1,none⟩) hb).trans d2
  replace d3:=(ST.out.bel.cell (p:=⟨b,off+k*3+2,none⟩) hb).trans d3
  have hq:=ndChk_zero (HL.out.2.2 k hlt)
  have hkl:(txtsK l k).length=k:=txtsK_length _ _
  have HT:=Lib.hid (show txtsK l (k+1)=txtsK l k++[cutS (rawS (txtsK l k) l[k])] by
   simp only[txtsK];rw [show l.getD k ⟨0,0,0⟩=l[k] by simp[List.getD,hlt]])
  generalize hx:l[k]=x at*
  obtain⟨kk,aa,bb⟩:=x
  simp only at d1 d2 d3 hq
  clear hx
  have hkb:decide ((k:Int) < (l.length:Int))=true:=by rw[decide_eq_true_eq];omega
  have hTS: ∀a,a < k→((txtsK l k).getD a ByteArray.empty).size≤401:=fun a ha=>txtsK_size l a k ha
  generalize hTX:txtsK l k=TX at*
  clear hTX
  rcases hq with rfl | ⟨rfl,h0,h1⟩ | ⟨rfl,h0,h1,h2⟩ | ⟨rfl,h0,h1⟩ | ⟨h5,h0,h1,h2,h3⟩
  ·have SA:=Lib.hid (ST.out.below (bal (Obj.cells #[Value.int .i64 1,Value.int .i64 aa,Value.int .i64 bb] 80)))
   obtain⟨x0,e0⟩:=SA.out.has (a:=k) hlt
   have f0:=SA.out.own.frozenAt k
   have y0:=cat wr #[Value.int .i64 1,Value.int .i64 aa,Value.int .i64 bb] 80 0 _ rfl _ rfl
   have y1:=cat wr #[Value.int .i64 1,Value.int .i64 aa,Value.int .i64 bb] 80 1 _ rfl _ rfl
   have y2:=cat wr #[Value.int .i64 1,Value.int .i64 aa,Value.int .i64 bb] 80 2 _ rfl _ rfl
   go_wp2
   go_roundw
   case rel=>exact ⟨k+1,by omega,by go_num,by rw[HT.out,show cutS _=⟨#[42]⟩ from rfl];exact SA.out.put hkl.symm hg1 (by omega) _⟩
   case measure=>simp [intOf] <;> omega
  ·obtain⟨a,rfl⟩: ∃a:Nat,aa=a:=⟨aa.toNat,by omega⟩
   have ha:a < 100:=by omega
   have SA:=Lib.hid (ST.out.below (bal (Obj.cells #[Value.int .i64 2,Value.int .i64 (a:Nat),Value.int .i64 bb] 80)))
   obtain⟨x0,e0⟩:=SA.out.has (a:=k) hlt
   have f0:=SA.out.own.frozenAt k
   have y0:=cat wr #[Value.int .i64 2,Value.int .i64 (a:Nat),Value.int .i64 bb] 80 0 _ rfl _ rfl
   have y1:=cat wr #[Value.int .i64 2,Value.int .i64 (a:Nat),Value.int .i64 bb] 80 1 _ rfl _ rfl
   have y2:=cat wr #[Value.int .i64 2,Value.int .i64 (a:Nat),Value.int .i64 bb] 80 2 _ rfl _ rfl
   go_wp2_with fail
   refine(Any.strconv_Itoa_small itoaLay a ha _).mono ?_
   rintro e w4 ⟨rfl,rfl⟩
   have hsz:(⟨#[35]⟩++itB a:ByteArray).size≤400:=by rw[itB_dig ha];exact (tag_par a (by omega)).2
   have HRW:=Lib.hid (show rawS TX ⟨2,(a:Nat),bb⟩=⟨#[35]⟩++itB a from rfl)
   have hit:(⟨(Lib.decDigits a).toArray⟩:ByteArray)=itB a:=rfl
   rw[hit]
   generalize itB a=sa at*
   have hsa:1+sa.size≤400:=by rw[size_app,size1] at hsz;exact hsz
   have hd:decide ((400:Int) < 1+(sa.size:Int))=false:=by rw[decide_eq_false_iff_not];omega
   go_wp2
   go_roundw
   case rel=>exact ⟨k+1,by omega,by go_num,by rw[HT.out,show cutS _=⟨#[35]⟩++sa from by rw[HRW.out,cutS,if_neg (by omega)]];exact SA.out.put hkl.symm hg1 (by omega) _⟩
   case measure=>simp [intOf] <;> omega
  ·obtain⟨a,rfl⟩: ∃a:Nat,aa=a:=⟨aa.toNat,by omega⟩
   obtain⟨a2,rfl⟩: ∃a:Nat,bb=a:=⟨bb.toNat,by omega⟩
   have ha:a < 100:=by omega
   have ha2:a2 < 100:=by omega
   have hq1:(itB a).size≤2:=by rw[itB_dig ha];exact digB_size a
   have hq2:(itB a2).size≤2:=by rw[itB_dig ha2];exact digB_size a2
   have SA:=Lib.hid (ST.out.below (bal (Obj.cells #[Value.int .i64 3,Value.int .i64 (a:Nat),Value.int .i64 (a2:Nat)] 80)))
   have Y0:=Lib.hid (cat wr #[Value.int .i64 3,Value.int .i64 (a:Nat),Value.int .i64 (a2:Nat)] 80 0 _ rfl _ rfl)
   have Y1:=Lib.hid (cat wr #[Value.int .i64 3,Value.int .i64 (a:Nat),Value.int .i64 (a2:Nat)] 80 1 _ rfl _ rfl)
   have Y2:=Lib.hid (cat wr #[Value.int .i64 3,Value.int .i64 (a:Nat),Value.int .i64 (a2:Nat)] 80 2 _ rfl _ rfl)
   have hsz:(((((⟨#[91]⟩++itB a)++⟨#[44]⟩)++itB a2)++⟨#[41]⟩:ByteArray)).size≤400:=by rw[itB_dig ha,itB_dig ha2];exact (in_par a2 (by omega) a (by omega)).2
   have y0:=Y0.out
   go_wp2
   clear y0 Y0
   generalize (wr.alloc (Obj.cells #[Value.int .i64 3,Value.int .i64 (a:Nat),Value.int .i64 (a2:Nat)] 80))=W at*
   generalize wr.heap.size=BN at*
   refine Cl.region0 129 rfl [13] (fun ww=>Below W.heap.size W ww) (fun _=>[]) (fun jq v ww=>match jq with | 0=>v= .slice (some ⟨g,0,none⟩) l.length l.length | 1=>v= .int .i64 (k:Nat) | 2=>v= .pointer (some ⟨BN,1,none⟩) | 3=>v= .int .i64 (a:Nat) | 4=>v= .string (itB a) | 5=>v= .string (⟨#[91]⟩++itB a) | 6=>v= .string ((⟨#[91]⟩++itB a)++⟨#[44]⟩) | 7=>v= .pointer (some ⟨BN,2,none⟩) | 8=>v= .int .i64 (a2:Nat) | 9=>v= .string (itB a2) | 10=>v= .string (((⟨#[91]⟩++itB a)++⟨#[44]⟩)++itB a2) | 11=>v= .string ((((⟨#[91]⟩++itB a)++⟨#[44]⟩)++itB a2)++⟨#[41]⟩) | 12=>v= .pointer (some ⟨g,k,none⟩) | 13=>ShS (TX++[(((⟨#[91]⟩++itB a)++⟨#[44]⟩)++itB a2)++⟨#[41]⟩]) l.length g wz ww | _=>True) (fun ww=>True) (fun jq ww ww'=>jq≠13→Below ww.heap.size ww ww') Tryz.mixed (by decide+kernel) trivial ((Below.refl _ _).drew) ?_ (fun jq ww ww' hk h hR=>bstep h (hR (by simpa using hk))) ?_ ?_
   ·intro qq r v w w' hne hk hlt h hR
    match r,hk,hlt,h,hne with
    | 0,_,_,h,_=>exact h
    | 1,_,_,h,_=>exact h
    | 2,_,_,h,_=>exact h
    | 3,_,_,h,_=>exact h
    | 4,_,_,h,_=>exact h
    | 5,_,_,h,_=>exact h
    | 6,_,_,h,_=>exact h
    | 7,_,_,h,_=>exact h
    | 8,_,_,h,_=>exact h
    | 9,_,_,h,_=>exact h
    | 10,_,_,h,_=>exact h
    | 11,_,_,h,_=>exact h
    | 12,_,_,h,_=>exact h
    | 13,_,_,h,hne=>exact ShS.below h (hR (by exact hne))
    | _+14,_,_,_,_=>trivial
   ·refine⟨?_, ?_, ?_, ?_, ?_, ?_, ?_, ?_, ?_, ?_, ?_, ?_, ?_, ?_,trivial⟩
    ·intro x wx hG
     have f5:=hG.old 5 (by decide+kernel)
     have hp:=hG.pre (by decide+kernel)
     have hg:=hG.good
     clear hG
     have hg:=hp
     go_wp2
     exact⟨_,rfl,rfl,trivial,fun _=>Below.refl _ _⟩
    ·intro x wx hG
     have f6:=hG.old 6 (by decide+kernel)
     have hp:=hG.pre (by decide+kernel)
     have hg:=hG.good
     clear hG
     have hg:=hp
     go_wp2
     exact⟨_,rfl,rfl,trivial,fun _=>Below.refl _ _⟩
    ·intro x wx hG
     have f7:=hG.old 7 (by decide+kernel)
     have hp:=hG.pre (by decide+kernel)
     have hg:=hG.good
     clear hG
     have hg:=hp
     go_wp2
     exact⟨_,rfl,rfl,trivial,fun _=>Below.refl _ _⟩
    ·intro x wx hG
     have g2:(x.tmps.getD 44 undef)= .pointer (some ⟨BN,1,none⟩):=hG.claims 2 _ rfl (by decide+kernel) (by decide+kernel)
     have hp:=hG.pre (by decide+kernel)
     have hg:=hG.good
     clear hG
     have hg:=hp
     have c_Y1:=ckeep hg Y1.out
     go_wp2
     exact⟨_,rfl,rfl,trivial,fun _=>Below.refl _ _⟩
    ·intro x wx hG
     have g3:(x.tmps.getD 45 undef)= .int .i64 (a:Nat):=hG.claims 3 _ rfl (by decide+kernel) (by decide+kernel)
     have hp:=hG.pre (by decide+kernel)
     have hg:=hG.good
     clear hG
     have hg:=hp
     go_wp2_with fail
     (refine(Any.strconv_Itoa_small itoaLay a ha _).mono ?_)
     rintro e wq ⟨rfl,rfl⟩
     go_wp2
     exact⟨_,rfl,rfl,trivial,fun _=>Below.refl _ _⟩
    ·intro x wx hG
     have g4:(x.tmps.getD 46 undef)= .string (itB a):=hG.claims 4 _ rfl (by decide+kernel) (by decide+kernel)
     have hp:=hG.pre (by decide+kernel)
     have hg:=hG.good
     clear hG
     have hg:=hp
     go_wp2
     exact⟨_,rfl,rfl,trivial,fun _=>Below.refl _ _⟩
    ·intro x wx hG
     have g5:(x.tmps.getD 47 undef)= .string (⟨#[91]⟩++itB a):=hG.claims 5 _ rfl (by decide+kernel) (by decide+kernel)
     have hp:=hG.pre (by decide+kernel)
     have hg:=hG.good
     clear hG
     have hg:=hp
     go_wp2
     exact⟨_,rfl,rfl,trivial,fun _=>Below.refl _ _⟩
    ·intro x wx hG
     have f7:=hG.old 7 (by decide+kernel)
     have hp:=hG.pre (by decide+kernel)
     have hg:=hG.good
     clear hG
     have hg:=hp
     go_wp2
     exact⟨_,rfl,rfl,trivial,fun _=>Below.refl _ _⟩
    ·intro x wx hG
     have g7:(x.tmps.getD 49 undef)= .pointer (some ⟨BN,2,none⟩):=hG.claims 7 _ rfl (by decide+kernel) (by decide+kernel)
     have hp:=hG.pre (by decide+kernel)
     have hg:=hG.good
     clear hG
     have hg:=hp
     have c_Y2:=ckeep hg Y2.out
     go_wp2
     exact⟨_,rfl,rfl,trivial,fun _=>Below.refl _ _⟩
    ·intro x wx hG
     have g8:(x.tmps.getD 50 undef)= .int .i64 (a2:Nat):=hG.claims 8 _ rfl (by decide+kernel) (by decide+kernel)
     have hp:=hG.pre (by decide+kernel)
     have hg:=hG.good
     clear hG
     have hg:=hp
     go_wp2_with fail
     (refine(Any.strconv_Itoa_small itoaLay a2 ha2 _).mono ?_)
     rintro e wq ⟨rfl,rfl⟩
     go_wp2
     exact⟨_,rfl,rfl,trivial,fun _=>Below.refl _ _⟩
    ·intro x wx hG
     have g6:(x.tmps.getD 48 undef)= .string ((⟨#[91]⟩++itB a)++⟨#[44]⟩):=hG.claims 6 _ rfl (by decide+kernel) (by decide+kernel)
     have g9:(x.tmps.getD 51 undef)= .string (itB a2):=hG.claims 9 _ rfl (by decide+kernel) (by decide+kernel)
     have hp:=hG.pre (by decide+kernel)
     have hg:=hG.good
     clear hG
     have hg:=hp
     go_wp2
     exact⟨_,rfl,rfl,trivial,fun _=>Below.refl _ _⟩
    ·intro x wx hG
     have g10:(x.tmps.getD 52 undef)= .string (((⟨#[91]⟩++itB a)++⟨#[44]⟩)++itB a2):=hG.claims 10 _ rfl (by decide+kernel) (by decide+kernel)
     have hp:=hG.pre (by decide+kernel)
     have hg:=hG.good
     clear hG
     have hg:=hp
     go_wp2
     exact⟨_,rfl,rfl,trivial,fun _=>Below.refl _ _⟩
    ·intro x wx hG
     have g0:(x.tmps.getD 42 undef)= .slice (some ⟨g,0,none⟩) l.length l.length:=hG.claims 0 _ rfl (by decide+kernel) (by decide+kernel)
     have g1:(x.tmps.getD 43 undef)= .int .i64 (k:Nat):=hG.claims 1 _ rfl (by decide+kernel) (by decide+kernel)
     have hp:=hG.pre (by decide+kernel)
     have hg:=hG.good
     clear hG
     have hg:=hp
     go_wp2
     exact⟨_,rfl,rfl,trivial,fun _=>Below.refl _ _⟩
    ·intro x wx hG
     have g12:(x.tmps.getD 54 undef)= .pointer (some ⟨g,k,none⟩):=hG.claims 12 _ rfl (by decide+kernel) (by decide+kernel)
     have g11:(x.tmps.getD 53 undef)= .string ((((⟨#[91]⟩++itB a)++⟨#[44]⟩)++itB a2)++⟨#[41]⟩):=hG.claims 11 _ rfl (by decide+kernel) (by decide+kernel)
     have hp:=hG.pre (by decide+kernel)
     have hg:=hG.good
     clear hG
     have hg:=hp
     have hM:=SA.out.below hp
     have SX:=Lib.hid hM
     obtain⟨xq,eq⟩:=hM.has (a:=k) hlt
     have fq:=hM.own.frozenAt k
     clear hM hp hg
     go_wp2
     exact⟨undef,rfl,SX.out.put hkl.symm hg1 (by omega) _,trivial,fun h=>absurd rfl h⟩
   ·intro vals w6 hg hF
    obtain⟨g0,g1,g2,g3,g4,g5,g6,g7,g8,g9,g10,g11,g12,g13, -⟩:=hF
    have e0:vals 0= .slice (some ⟨g,0,none⟩) l.length l.length:=g0 rfl
    have e1:vals 1= .int .i64 (k:Nat):=g1 rfl
    have e2:vals 2= .pointer (some ⟨BN,1,none⟩):=g2 rfl
    have e3:vals 3= .int .i64 (a:Nat):=g3 rfl
    have e4:vals 4= .string (itB a):=g4 rfl
    have e5:vals 5= .string (⟨#[91]⟩++itB a):=g5 rfl
    have e6:vals 6= .string ((⟨#[91]⟩++itB a)++⟨#[44]⟩):=g6 rfl
    have e7:vals 7= .pointer (some ⟨BN,2,none⟩):=g7 rfl
    have e8:vals 8= .int .i64 (a2:Nat):=g8 rfl
    have e9:vals 9= .string (itB a2):=g9 rfl
    have e10:vals 10= .string (((⟨#[91]⟩++itB a)++⟨#[44]⟩)++itB a2):=g10 rfl
    have e11:vals 11= .string ((((⟨#[91]⟩++itB a)++⟨#[44]⟩)++itB a2)++⟨#[41]⟩):=g11 rfl
    have e12:vals 12= .pointer (some ⟨g,k,none⟩):=g12 rfl
    replace g13:ShS (TX++[(((⟨#[91]⟩++itB a)++⟨#[44]⟩)++itB a2)++⟨#[41]⟩]) l.length g wz w6:=g13 rfl
    simp only[Cl.puts,e0,e1,e2,e3,e4,e5,e6,e7,e8,e9,e10,e11,e12]
    clear e0 e1 e2 e3 e4 e5 e6 e7 e8 e9 e10 e11 e12 g0 g1 g2 g3 g4 g5 g6 g7 g8 g9 g10 g11 g12
    go_simp
    have S6:=Lib.hid g13
    clear g13
    have e6:=S6.out.last hkl.symm (by omega)
    have f6:=S6.out.own.frozenAt k
    have HRW:=Lib.hid (show cutS (rawS TX ⟨3,(a:Nat),(a2:Nat)⟩)=(((⟨#[91]⟩++itB a)++⟨#[44]⟩)++itB a2)++⟨#[41]⟩ by
     rw[show rawS TX ⟨3,(a:Nat),(a2:Nat)⟩=(((⟨#[91]⟩++itB a)++⟨#[44]⟩)++itB a2)++⟨#[41]⟩ from rfl,cutS,if_neg (by omega)])
    generalize (((⟨#[91]⟩++itB a)++⟨#[44]⟩)++itB a2)++⟨#[41]⟩=sr at*
    have hd:decide ((400:Int) < (sr.size:Int))=false:=by rw[decide_eq_false_iff_not];omega
    go_wp2
    go_roundw
    case rel=>exact ⟨k+1,by omega,by go_num,by rw[HT.out,HRW.out];exact S6.out⟩
    case measure=>simp [intOf] <;> omega
  ·obtain⟨a,rfl⟩: ∃a:Nat,aa=a:=⟨aa.toNat,by omega⟩
   have SA:=Lib.hid (ST.out.below (bal (Obj.cells #[Value.int .i64 4,Value.int .i64 (a:Nat),Value.int .i64 bb] 80)))
   obtain⟨x0,e0⟩:=SA.out.has (a:=k) hlt
   have f0:=SA.out.own.frozenAt k
   have y0:=cat wr #[Value.int .i64 4,Value.int .i64 (a:Nat),Value.int .i64 bb] 80 0 _ rfl _ rfl
   have y1:=cat wr #[Value.int .i64 4,Value.int .i64 (a:Nat),Value.int .i64 bb] 80 1 _ rfl _ rfl
   have y2:=cat wr #[Value.int .i64 4,Value.int .i64 (a:Nat),Value.int .i64 bb] 80 2 _ rfl _ rfl
   have ea:=SA.out.get (a:=a) (by omega) (by omega)
   have HRW:=Lib.hid (show rawS TX ⟨4,(a:Nat),bb⟩=⟨#[33]⟩++TX.getD a ByteArray.empty from rfl)
   have hal:a < l.length:=by omega
   have hsa:=hTS a (by omega)
   generalize TX.getD a ByteArray.empty=sa at*
   have hsz:(⟨#[33]⟩++sa:ByteArray).size=1+sa.size:=by rw[size_app,size1]
   by_cases hbig:400 < (⟨#[33]⟩++sa:ByteArray).size
   ·have hd:decide ((400:Int) < 1+(sa.size:Int))=true:=by rw[decide_eq_true_eq];omega
    have hd2:(401:Int)≤1+(sa.size:Int):=by omega
    go_wp2
    go_roundw
    case rel=>exact ⟨k+1,by omega,by go_num,by rw[HT.out,show cutS _=(⟨#[33]⟩++sa:ByteArray).extract 0 401 from by rw[HRW.out,cutS,if_pos hbig]];exact (SA.out.put hkl.symm hg1 (by omega) _).put2 hkl.symm hg1 _⟩
    case measure=>simp [intOf] <;> omega
   ·have hd:decide ((400:Int) < 1+(sa.size:Int))=false:=by rw[decide_eq_false_iff_not];omega
    go_wp2
    go_roundw
    case rel=>exact ⟨k+1,by omega,by go_num,by rw[HT.out,show cutS _=⟨#[33]⟩++sa from by rw[HRW.out,cutS,if_neg hbig]];exact SA.out.put hkl.symm hg1 (by omega) _⟩
    case measure=>simp [intOf] <;> omega
  ·rcases h5 with rfl | rfl
   ·obtain⟨a,rfl⟩: ∃a:Nat,aa=a:=⟨aa.toNat,by omega⟩
    obtain⟨a2,rfl⟩: ∃a:Nat,bb=a:=⟨bb.toNat,by omega⟩
    have hal:a < l.length:=by omega
    have hal2:a2 < l.length:=by omega
    have hka:a < TX.length:=by omega
    have hka2:a2 < TX.length:=by omega
    have hts:=hTS a (by omega)
    have hts2:=hTS a2 (by omega)
    clear hTS
    have SA:=Lib.hid (ST.out.below (bal (Obj.cells #[Value.int .i64 5,Value.int .i64 (a:Nat),Value.int .i64 (a2:Nat)] 80)))
    have Y0:=Lib.hid (cat wr #[Value.int .i64 5,Value.int .i64 (a:Nat),Value.int .i64 (a2:Nat)] 80 0 _ rfl _ rfl)
    have Y1:=Lib.hid (cat wr #[Value.int .i64 5,Value.int .i64 (a:Nat),Value.int .i64 (a2:Nat)] 80 1 _ rfl _ rfl)
    have Y2:=Lib.hid (cat wr #[Value.int .i64 5,Value.int .i64 (a:Nat),Value.int .i64 (a2:Nat)] 80 2 _ rfl _ rfl)
    have HRW0:=Lib.hid (show rawS TX ⟨5,(a:Nat),(a2:Nat)⟩=(((⟨#[40]⟩++TX.getD a ByteArray.empty)++⟨#[38]⟩)++TX.getD a2 ByteArray.empty)++⟨#[41]⟩ from rfl)
    have EA:=Lib.hid (SA.out.get (a:=a) hka (by omega))
    have EB:=Lib.hid (SA.out.get (a:=a2) hka2 (by omega))
    generalize TX.getD a ByteArray.empty=sa at*
    generalize TX.getD a2 ByteArray.empty=sb at*
    have hsz:(((((⟨#[40]⟩++sa)++⟨#[38]⟩)++sb)++⟨#[41]⟩:ByteArray)).size=sa.size+sb.size+3:=twoB_size 38 sa sb
    have y0:=Y0.out
    go_wp2
    clear y0 Y0
    generalize (wr.alloc (Obj.cells #[Value.int .i64 5,Value.int .i64 (a:Nat),Value.int .i64 (a2:Nat)] 80))=W at*
    generalize wr.heap.size=BN at*
    refine Cl.region0 129 rfl [17] (fun ww=>Below W.heap.size W ww) (fun _=>[]) (fun jq v ww=>match jq with | 0=>v= .slice (some ⟨g,0,none⟩) l.length l.length | 1=>v= .int .i64 (k:Nat) | 2=>v= .slice (some ⟨g,0,none⟩) l.length l.length | 3=>v= .pointer (some ⟨BN,1,none⟩) | 4=>v= .int .i64 (a:Nat) | 5=>v= .pointer (some ⟨g,a,none⟩) | 6=>v= .string sa | 7=>v= .string (⟨#[40]⟩++sa) | 8=>v= .string ((⟨#[40]⟩++sa)++⟨#[38]⟩) | 9=>v= .slice (some ⟨g,0,none⟩) l.length l.length | 10=>v= .pointer (some ⟨BN,2,none⟩) | 11=>v= .int .i64 (a2:Nat) | 12=>v= .pointer (some ⟨g,a2,none⟩) | 13=>v= .string sb | 14=>v= .string (((⟨#[40]⟩++sa)++⟨#[38]⟩)++sb) | 15=>v= .string ((((⟨#[40]⟩++sa)++⟨#[38]⟩)++sb)++⟨#[41]⟩) | 16=>v= .pointer (some ⟨g,k,none⟩) | 17=>ShS (TX++[(((⟨#[40]⟩++sa)++⟨#[38]⟩)++sb)++⟨#[41]⟩]) l.length g wz ww | _=>True) (fun ww=>True) (fun jq ww ww'=>jq≠17→Below ww.heap.size ww ww') Tryz.mixed (by decide+kernel) trivial ((Below.refl _ _).drew) ?_ (fun jq ww ww' hk h hR=>bstep h (hR (by simpa using hk))) ?_ ?_
    ·intro qq r v w w' hne hk hlt h hR
     match r,hk,hlt,h,hne with
     | 0,_,_,h,_=>exact h
     | 1,_,_,h,_=>exact h
     | 2,_,_,h,_=>exact h
     | 3,_,_,h,_=>exact h
     | 4,_,_,h,_=>exact h
     | 5,_,_,h,_=>exact h
     | 6,_,_,h,_=>exact h
     | 7,_,_,h,_=>exact h
     | 8,_,_,h,_=>exact h
     | 9,_,_,h,_=>exact h
     | 10,_,_,h,_=>exact h
     | 11,_,_,h,_=>exact h
     | 12,_,_,h,_=>exact h
     | 13,_,_,h,_=>exact h
     | 14,_,_,h,_=>exact h
     | 15,_,_,h,_=>exact h
     | 16,_,_,h,_=>exact h
     | 17,_,_,h,hne=>exact ShS.below h (hR (by exact hne))
     | _+18,_,_,_,_=>trivial
    ·refine⟨?_, ?_, ?_, ?_, ?_, ?_, ?_, ?_, ?_, ?_, ?_, ?_, ?_, ?_, ?_, ?_, ?_, ?_,trivial⟩
     ·intro x wx hG
      have f5:=hG.old 5 (by decide+kernel)
      have hp:=hG.pre (by decide+kernel)
      have hg:=hG.good
      clear hG
      have hg:=hp
      go_wp2
      exact⟨_,rfl,rfl,trivial,fun _=>Below.refl _ _⟩
     ·intro x wx hG
      have f6:=hG.old 6 (by decide+kernel)
      have hp:=hG.pre (by decide+kernel)
      have hg:=hG.good
      clear hG
      have hg:=hp
      go_wp2
      exact⟨_,rfl,rfl,trivial,fun _=>Below.refl _ _⟩
     ·intro x wx hG
      have f5:=hG.old 5 (by decide+kernel)
      have hp:=hG.pre (by decide+kernel)
      have hg:=hG.good
      clear hG
      have hg:=hp
      go_wp2
      exact⟨_,rfl,rfl,trivial,fun _=>Below.refl _ _⟩
     ·intro x wx hG
      have f7:=hG.old 7 (by decide+kernel)
      have hp:=hG.pre (by decide+kernel)
      have hg:=hG.good
      clear hG
      have hg:=hp
      go_wp2
      exact⟨_,rfl,rfl,trivial,fun _=>Below.refl _ _⟩
     ·intro x wx hG
      have g3:(x.tmps.getD 71 undef)= .pointer (some ⟨BN,1,none⟩):=hG.claims 3 _ rfl (by decide+kernel) (by decide+kernel)
      have hp:=hG.pre (by decide+kernel)
      have hg:=hG.good
      clear hG
      have hg:=hp
      have c_Y1:=ckeep hg Y1.out
      go_wp2
      exact⟨_,rfl,rfl,trivial,fun _=>Below.refl _ _⟩
     ·intro x wx hG
      have g2:(x.tmps.getD 70 undef)= .slice (some ⟨g,0,none⟩) l.length l.length:=hG.claims 2 _ rfl (by decide+kernel) (by decide+kernel)
      have g4:(x.tmps.getD 72 undef)= .int .i64 (a:Nat):=hG.claims 4 _ rfl (by decide+kernel) (by decide+kernel)
      have hp:=hG.pre (by decide+kernel)
      have hg:=hG.good
      clear hG
      have hg:=hp
      go_wp2
      exact⟨_,rfl,rfl,trivial,fun _=>Below.refl _ _⟩
     ·intro x wx hG
      have g5:(x.tmps.getD 73 undef)= .pointer (some ⟨g,a,none⟩):=hG.claims 5 _ rfl (by decide+kernel) (by decide+kernel)
      have hp:=hG.pre (by decide+kernel)
      have hg:=hG.good
      clear hG
      have hg:=hp
      have c9:=ckeep hg EA.out
      go_wp2
      exact⟨_,rfl,rfl,trivial,fun _=>Below.refl _ _⟩
     ·intro x wx hG
      have g6:(x.tmps.getD 74 undef)= .string sa:=hG.claims 6 _ rfl (by decide+kernel) (by decide+kernel)
      have hp:=hG.pre (by decide+kernel)
      have hg:=hG.good
      clear hG
      have hg:=hp
      go_wp2
      exact⟨_,rfl,rfl,trivial,fun _=>Below.refl _ _⟩
     ·intro x wx hG
      have g7:(x.tmps.getD 75 undef)= .string (⟨#[40]⟩++sa):=hG.claims 7 _ rfl (by decide+kernel) (by decide+kernel)
      have hp:=hG.pre (by decide+kernel)
      have hg:=hG.good
      clear hG
      have hg:=hp
      go_wp2
      exact⟨_,rfl,rfl,trivial,fun _=>Below.refl _ _⟩
     ·intro x wx hG
      have f5:=hG.old 5 (by decide+kernel)
      have hp:=hG.pre (by decide+kernel)
      have hg:=hG.good
      clear hG
      have hg:=hp
      go_wp2
      exact⟨_,rfl,rfl,trivial,fun _=>Below.refl _ _⟩
     ·intro x wx hG
      have f7:=hG.old 7 (by decide+kernel)
      have hp:=hG.pre (by decide+kernel)
      have hg:=hG.good
      clear hG
      have hg:=hp
      go_wp2
      exact⟨_,rfl,rfl,trivial,fun _=>Below.refl _ _⟩
     ·intro x wx hG
      have g10:(x.tmps.getD 78 undef)= .pointer (some ⟨BN,2,none⟩):=hG.claims 10 _ rfl (by decide+kernel) (by decide+kernel)
      have hp:=hG.pre (by decide+kernel)
      have hg:=hG.good
      clear hG
      have hg:=hp
      have c_Y2:=ckeep hg Y2.out
      go_wp2
      exact⟨_,rfl,rfl,trivial,fun _=>Below.refl _ _⟩
     ·intro x wx hG
      have g9:(x.tmps.getD 77 undef)= .slice (some ⟨g,0,none⟩) l.length l.length:=hG.claims 9 _ rfl (by decide+kernel) (by decide+kernel)
      have g11:(x.tmps.getD 79 undef)= .int .i64 (a2:Nat):=hG.claims 11 _ rfl (by decide+kernel) (by decide+kernel)
      have hp:=hG.pre (by decide+kernel)
      have hg:=hG.good
      clear hG
      have hg:=hp
      go_wp2
      exact⟨_,rfl,rfl,trivial,fun _=>Below.refl _ _⟩
     ·intro x wx hG
      have g12:(x.tmps.getD 80 undef)= .pointer (some ⟨g,a2,none⟩):=hG.claims 12 _ rfl (by decide+kernel) (by decide+kernel)
      have hp:=hG.pre (by decide+kernel)
      have hg:=hG.good
      clear hG
      have hg:=hp
      have c9:=ckeep hg EB.out
      go_wp2
      exact⟨_,rfl,rfl,trivial,fun _=>Below.refl _ _⟩
     ·intro x wx hG
      have g8:(x.tmps.getD 76 undef)= .string ((⟨#[40]⟩++sa)++⟨#[38]⟩):=hG.claims 8 _ rfl (by decide+kernel) (by decide+kernel)
      have g13:(x.tmps.getD 81 undef)= .string sb:=hG.claims 13 _ rfl (by decide+kernel) (by decide+kernel)
      have hp:=hG.pre (by decide+kernel)
      have hg:=hG.good
      clear hG
      have hg:=hp
      go_wp2
      exact⟨_,rfl,rfl,trivial,fun _=>Below.refl _ _⟩
     ·intro x wx hG
      have g14:(x.tmps.getD 82 undef)= .string (((⟨#[40]⟩++sa)++⟨#[38]⟩)++sb):=hG.claims 14 _ rfl (by decide+kernel) (by decide+kernel)
      have hp:=hG.pre (by decide+kernel)
      have hg:=hG.good
      clear hG
      have hg:=hp
      go_wp2
      exact⟨_,rfl,rfl,trivial,fun _=>Below.refl _ _⟩
     ·intro x wx hG
      have g0:(x.tmps.getD 68 undef)= .slice (some ⟨g,0,none⟩) l.length l.length:=hG.claims 0 _ rfl (by decide+kernel) (by decide+kernel)
      have g1:(x.tmps.getD 69 undef)= .int .i64 (k:Nat):=hG.claims 1 _ rfl (by decide+kernel) (by decide+kernel)
      have hp:=hG.pre (by decide+kernel)
      have hg:=hG.good
      clear hG
      have hg:=hp
      go_wp2
      exact⟨_,rfl,rfl,trivial,fun _=>Below.refl _ _⟩
     ·intro x wx hG
      have g16:(x.tmps.getD 84 undef)= .pointer (some ⟨g,k,none⟩):=hG.claims 16 _ rfl (by decide+kernel) (by decide+kernel)
      have g15:(x.tmps.getD 83 undef)= .string ((((⟨#[40]⟩++sa)++⟨#[38]⟩)++sb)++⟨#[41]⟩):=hG.claims 15 _ rfl (by decide+kernel) (by decide+kernel)
      have hp:=hG.pre (by decide+kernel)
      have hg:=hG.good
      clear hG
      have hg:=hp
      have hM:=SA.out.below hp
      have SX:=Lib.hid hM
      obtain⟨xq,eq⟩:=hM.has (a:=k) hlt
      have fq:=hM.own.frozenAt k
      clear hM hp hg
      go_wp2
      exact⟨undef,rfl,SX.out.put hkl.symm hg1 (by omega) _,trivial,fun h=>absurd rfl h⟩
    ·intro vals w6 hg hF
     obtain⟨g0,g1,g2,g3,g4,g5,g6,g7,g8,g9,g10,g11,g12,g13,g14,g15,g16,g17, -⟩:=hF
     have e0:vals 0= .slice (some ⟨g,0,none⟩) l.length l.length:=g0 rfl
     have e1:vals 1= .int .i64 (k:Nat):=g1 rfl
     have e2:vals 2= .slice (some ⟨g,0,none⟩) l.length l.length:=g2 rfl
     have e3:vals 3= .pointer (some ⟨BN,1,none⟩):=g3 rfl
     have e4:vals 4= .int .i64 (a:Nat):=g4 rfl
     have e5:vals 5= .pointer (some ⟨g,a,none⟩):=g5 rfl
     have e6:vals 6= .string sa:=g6 rfl
     have e7:vals 7= .string (⟨#[40]⟩++sa):=g7 rfl
     have e8:vals 8= .string ((⟨#[40]⟩++sa)++⟨#[38]⟩):=g8 rfl
     have e9:vals 9= .slice (some ⟨g,0,none⟩) l.length l.length:=g9 rfl
     have e10:vals 10= .pointer (some ⟨BN,2,none⟩):=g10 rfl
     have e11:vals 11= .int .i64 (a2:Nat):=g11 rfl
     have e12:vals 12= .pointer (some ⟨g,a2,none⟩):=g12 rfl
     have e13:vals 13= .string sb:=g13 rfl
     have e14:vals 14= .string (((⟨#[40]⟩++sa)++⟨#[38]⟩)++sb):=g14 rfl
     have e15:vals 15= .string ((((⟨#[40]⟩++sa)++⟨#[38]⟩)++sb)++⟨#[41]⟩):=g15 rfl
     have e16:vals 16= .pointer (some ⟨g,k,none⟩):=g16 rfl
     replace g17:ShS (TX++[(((⟨#[40]⟩++sa)++⟨#[38]⟩)++sb)++⟨#[41]⟩]) l.length g wz w6:=g17 rfl
     simp only[Cl.puts,e0,e1,e2,e3,e4,e5,e6,e7,e8,e9,e10,e11,e12,e13,e14,e15,e16]
     clear e0 e1 e2 e3 e4 e5 e6 e7 e8 e9 e10 e11 e12 e13 e14 e15 e16 g0 g1 g2 g3 g4 g5 g6 g7 g8 g9 g10 g11 g12 g13 g14 g15 g16
     go_simp
     have S6:=Lib.hid g17
     clear g17
     have e6:=S6.out.last hkl.symm (by omega)
     have f6:=S6.out.own.frozenAt k
     generalize (((⟨#[40]⟩++sa)++⟨#[38]⟩)++sb)++⟨#[41]⟩=sr at*
     by_cases hbig:400 < sr.size
     ·have hd:decide ((400:Int) < (sr.size:Int))=true:=by rw[decide_eq_true_eq];omega
      have hd2:(401:Int)≤(sr.size:Int):=by omega
      have HRW:=Lib.hid (show cutS (rawS TX ⟨5,(a:Nat),(a2:Nat)⟩)=sr.extract 0 401 by rw[HRW0.out,cutS,if_pos hbig])
      go_wp2
      go_roundw
      case rel=>exact ⟨k+1,by omega,by go_num,by rw[HT.out,HRW.out];exact S6.out.put2 hkl.symm hg1 _⟩
      case measure=>simp [intOf] <;> omega
     ·have hd:decide ((400:Int) < (sr.size:Int))=false:=by rw[decide_eq_false_iff_not];omega
      have HRW:=Lib.hid (show cutS (rawS TX ⟨5,(a:Nat),(a2:Nat)⟩)=sr by rw[HRW0.out,cutS,if_neg hbig])
      go_wp2
      go_roundw
      case rel=>exact ⟨k+1,by omega,by go_num,by rw[HT.out,HRW.out];exact S6.out⟩
      case measure=>simp [intOf] <;> omega
   ·obtain⟨a,rfl⟩: ∃a:Nat,aa=a:=⟨aa.toNat,by omega⟩
    obtain⟨a2,rfl⟩: ∃a:Nat,bb=a:=⟨bb.toNat,by omega⟩
    have hal:a < l.length:=by omega
    have hal2:a2 < l.length:=by omega
    have hka:a < TX.length:=by omega
    have hka2:a2 < TX.length:=by omega
    have hts:=hTS a (by omega)
    have hts2:=hTS a2 (by omega)
    clear hTS
    have SA:=Lib.hid (ST.out.below (bal (Obj.cells #[Value.int .i64 6,Value.int .i64 (a:Nat),Value.int .i64 (a2:Nat)] 80)))
    have Y0:=Lib.hid (cat wr #[Value.int .i64 6,Value.int .i64 (a:Nat),Value.int .i64 (a2:Nat)] 80 0 _ rfl _ rfl)
    have Y1:=Lib.hid (cat wr #[Value.int .i64 6,Value.int .i64 (a:Nat),Value.int .i64 (a2:Nat)] 80 1 _ rfl _ rfl)
    have Y2:=Lib.hid (cat wr #[Value.int .i64 6,Value.int .i64 (a:Nat),Value.int .i64 (a2:Nat)] 80 2 _ rfl _ rfl)
    have HRW0:=Lib.hid (show rawS TX ⟨6,(a:Nat),(a2:Nat)⟩=(((⟨#[40]⟩++TX.getD a ByteArray.empty)++⟨#[124]⟩)++TX.getD a2 ByteArray.empty)++⟨#[41]⟩ from rfl)
    have EA:=Lib.hid (SA.out.get (a:=a) hka (by omega))
    have EB:=Lib.hid (SA.out.get (a:=a2) hka2 (by omega))
    generalize TX.getD a ByteArray.empty=sa at*
    generalize TX.getD a2 ByteArray.empty=sb at*
    have hsz:(((((⟨#[40]⟩++sa)++⟨#[124]⟩)++sb)++⟨#[41]⟩:ByteArray)).size=sa.size+sb.size+3:=twoB_size 124 sa sb
    have y0:=Y0.out
    go_wp2
    clear y0 Y0
    generalize (wr.alloc (Obj.cells #[Value.int .i64 6,Value.int .i64 (a:Nat),Value.int .i64 (a2:Nat)] 80))=W at*
    generalize wr.heap.size=BN at*
    refine Cl.region0 129 rfl [17] (fun ww=>Below W.heap.size W ww) (fun _=>[]) (fun jq v ww=>match jq with | 0=>v= .slice (some ⟨g,0,none⟩) l.length l.length | 1=>v= .int .i64 (k:Nat) | 2=>v= .slice (some ⟨g,0,none⟩) l.length l.length | 3=>v= .pointer (some ⟨BN,1,none⟩) | 4=>v= .int .i64 (a:Nat) | 5=>v= .pointer (some ⟨g,a,none⟩) | 6=>v= .string sa | 7=>v= .string (⟨#[40]⟩++sa) | 8=>v= .string ((⟨#[40]⟩++sa)++⟨#[124]⟩) | 9=>v= .slice (some ⟨g,0,none⟩) l.length l.length | 10=>v= .pointer (some ⟨BN,2,none⟩) | 11=>v= .int .i64 (a2:Nat) | 12=>v= .pointer (some ⟨g,a2,none⟩) | 13=>v= .string sb | 14=>v= .string (((⟨#[40]⟩++sa)++⟨#[124]⟩)++sb) | 15=>v= .string ((((⟨#[40]⟩++sa)++⟨#[124]⟩)++sb)++⟨#[41]⟩) | 16=>v= .pointer (some ⟨g,k,none⟩) | 17=>ShS (TX++[(((⟨#[40]⟩++sa)++⟨#[124]⟩)++sb)++⟨#[41]⟩]) l.length g wz ww | _=>True) (fun ww=>True) (fun jq ww ww'=>jq≠17→Below ww.heap.size ww ww') Tryz.mixed (by decide+kernel) trivial ((Below.refl _ _).drew) ?_ (fun jq ww ww' hk h hR=>bstep h (hR (by simpa using hk))) ?_ ?_
    ·intro qq r v w w' hne hk hlt h hR
     match r,hk,hlt,h,hne with
     | 0,_,_,h,_=>exact h
     | 1,_,_,h,_=>exact h
     | 2,_,_,h,_=>exact h
     | 3,_,_,h,_=>exact h
     | 4,_,_,h,_=>exact h
     | 5,_,_,h,_=>exact h
     | 6,_,_,h,_=>exact h
     | 7,_,_,h,_=>exact h
     | 8,_,_,h,_=>exact h
     | 9,_,_,h,_=>exact h
     | 10,_,_,h,_=>exact h
     | 11,_,_,h,_=>exact h
     | 12,_,_,h,_=>exact h
     | 13,_,_,h,_=>exact h
     | 14,_,_,h,_=>exact h
     | 15,_,_,h,_=>exact h
     | 16,_,_,h,_=>exact h
     | 17,_,_,h,hne=>exact ShS.below h (hR (by exact hne))
     | _+18,_,_,_,_=>trivial
    ·refine⟨?_, ?_, ?_, ?_, ?_, ?_, ?_, ?_, ?_, ?_, ?_, ?_, ?_, ?_, ?_, ?_, ?_, ?_,trivial⟩
     ·intro x wx hG
      have f5:=hG.old 5 (by decide+kernel)
      have hp:=hG.pre (by decide+kernel)
      have hg:=hG.good
      clear hG
      have hg:=hp
      go_wp2
      exact⟨_,rfl,rfl,trivial,fun _=>Below.refl _ _⟩
     ·intro x wx hG
      have f6:=hG.old 6 (by decide+kernel)
      have hp:=hG.pre (by decide+kernel)
      have hg:=hG.good
      clear hG
      have hg:=hp
      go_wp2
      exact⟨_,rfl,rfl,trivial,fun _=>Below.refl _ _⟩
     ·intro x wx hG
      have f5:=hG.old 5 (by decide+kernel)
      have hp:=hG.pre (by decide+kernel)
      have hg:=hG.good
      clear hG
      have hg:=hp
      go_wp2
      exact⟨_,rfl,rfl,trivial,fun _=>Below.refl _ _⟩
     ·intro x wx hG
      have f7:=hG.old 7 (by decide+kernel)
      have hp:=hG.pre (by decide+kernel)
      have hg:=hG.good
      clear hG
      have hg:=hp
      go_wp2
      exact⟨_,rfl,rfl,trivial,fun _=>Below.refl _ _⟩
     ·intro x wx hG
      have g3:(x.tmps.getD 90 undef)= .pointer (some ⟨BN,1,none⟩):=hG.claims 3 _ rfl (by decide+kernel) (by decide+kernel)
      have hp:=hG.pre (by decide+kernel)
      have hg:=hG.good
      clear hG
      have hg:=hp
      have c_Y1:=ckeep hg Y1.out
      go_wp2
      exact⟨_,rfl,rfl,trivial,fun _=>Below.refl _ _⟩
     ·intro x wx hG
      have g2:(x.tmps.getD 89 undef)= .slice (some ⟨g,0,none⟩) l.length l.length:=hG.claims 2 _ rfl (by decide+kernel) (by decide+kernel)
      have g4:(x.tmps.getD 91 undef)= .int .i64 (a:Nat):=hG.claims 4 _ rfl (by decide+kernel) (by decide+kernel)
      have hp:=hG.pre (by decide+kernel)
      have hg:=hG.good
      clear hG
      have hg:=hp
      go_wp2
      exact⟨_,rfl,rfl,trivial,fun _=>Below.refl _ _⟩
     ·intro x wx hG
      have g5:(x.tmps.getD 92 undef)= .pointer (some ⟨g,a,none⟩):=hG.claims 5 _ rfl (by decide+kernel) (by decide+kernel)
      have hp:=hG.pre (by decide+kernel)
      have hg:=hG.good
      clear hG
      have hg:=hp
      have c9:=ckeep hg EA.out
      go_wp2
      exact⟨_,rfl,rfl,trivial,fun _=>Below.refl _ _⟩
     ·intro x wx hG
      have g6:(x.tmps.getD 93 undef)= .string sa:=hG.claims 6 _ rfl (by decide+kernel) (by decide+kernel)
      have hp:=hG.pre (by decide+kernel)
      have hg:=hG.good
      clear hG
      have hg:=hp
      go_wp2
      exact⟨_,rfl,rfl,trivial,fun _=>Below.refl _ _⟩
     ·intro x wx hG
      have g7:(x.tmps.getD 94 undef)= .string (⟨#[40]⟩++sa):=hG.claims 7 _ rfl (by decide+kernel) (by decide+kernel)
      have hp:=hG.pre (by decide+kernel)
      have hg:=hG.good
      clear hG
      have hg:=hp
      go_wp2
      exact⟨_,rfl,rfl,trivial,fun _=>Below.refl _ _⟩
     ·intro x wx hG
      have f5:=hG.old 5 (by decide+kernel)
      have hp:=hG.pre (by decide+kernel)
      have hg:=hG.good
      clear hG
      have hg:=hp
      go_wp2
      exact⟨_,rfl,rfl,trivial,fun _=>Below.refl _ _⟩
     ·intro x wx hG
      have f7:=hG.old 7 (by decide+kernel)
      have hp:=hG.pre (by decide+kernel)
      have hg:=hG.good
      clear hG
      have hg:=hp
      go_wp2
      exact⟨_,rfl,rfl,trivial,fun _=>Below.refl _ _⟩
     ·intro x wx hG
      have g10:(x.tmps.getD 97 undef)= .pointer (some ⟨BN,2,none⟩):=hG.claims 10 _ rfl (by decide+kernel) (by decide+kernel)
      have hp:=hG.pre (by decide+kernel)
      have hg:=hG.good
      clear hG
      have hg:=hp
      have c_Y2:=ckeep hg Y2.out
      go_wp2
      exact⟨_,rfl,rfl,trivial,fun _=>Below.refl _ _⟩
     ·intro x wx hG
      have g9:(x.tmps.getD 96 undef)= .slice (some ⟨g,0,none⟩) l.length l.length:=hG.claims 9 _ rfl (by decide+kernel) (by decide+kernel)
      have g11:(x.tmps.getD 98 undef)= .int .i64 (a2:Nat):=hG.claims 11 _ rfl (by decide+kernel) (by decide+kernel)
      have hp:=hG.pre (by decide+kernel)
      have hg:=hG.good
      clear hG
      have hg:=hp
      go_wp2
      exact⟨_,rfl,rfl,trivial,fun _=>Below.refl _ _⟩
     ·intro x wx hG
      have g12:(x.tmps.getD 99 undef)= .pointer (some ⟨g,a2,none⟩):=hG.claims 12 _ rfl (by decide+kernel) (by decide+kernel)
      have hp:=hG.pre (by decide+kernel)
      have hg:=hG.good
      clear hG
      have hg:=hp
      have c9:=ckeep hg EB.out
      go_wp2
      exact⟨_,rfl,rfl,trivial,fun _=>Below.refl _ _⟩
     ·intro x wx hG
      have g8:(x.tmps.getD 95 undef)= .string ((⟨#[40]⟩++sa)++⟨#[124]⟩):=hG.claims 8 _ rfl (by decide+kernel) (by decide+kernel)
      have g13:(x.tmps.getD 100 undef)= .string sb:=hG.claims 13 _ rfl (by decide+kernel) (by decide+kernel)
      have hp:=hG.pre (by decide+kernel)
      have hg:=hG.good
      clear hG
      have hg:=hp
      go_wp2
      exact⟨_,rfl,rfl,trivial,fun _=>Below.refl _ _⟩
     ·intro x wx hG
      have g14:(x.tmps.getD 101 undef)= .string (((⟨#[40]⟩++sa)++⟨#[124]⟩)++sb):=hG.claims 14 _ rfl (by decide+kernel) (by decide+kernel)
      have hp:=hG.pre (by decide+kernel)
      have hg:=hG.good
      clear hG
      have hg:=hp
      go_wp2
      exact⟨_,rfl,rfl,trivial,fun _=>Below.refl _ _⟩
     ·intro x wx hG
      have g0:(x.tmps.getD 87 undef)= .slice (some ⟨g,0,none⟩) l.length l.length:=hG.claims 0 _ rfl (by decide+kernel) (by decide+kernel)
      have g1:(x.tmps.getD 88 undef)= .int .i64 (k:Nat):=hG.claims 1 _ rfl (by decide+kernel) (by decide+kernel)
      have hp:=hG.pre (by decide+kernel)
      have hg:=hG.good
      clear hG
      have hg:=hp
      go_wp2
      exact⟨_,rfl,rfl,trivial,fun _=>Below.refl _ _⟩
     ·intro x wx hG
      have g16:(x.tmps.getD 103 undef)= .pointer (some ⟨g,k,none⟩):=hG.claims 16 _ rfl (by decide+kernel) (by decide+kernel)
      have g15:(x.tmps.getD 102 undef)= .string ((((⟨#[40]⟩++sa)++⟨#[124]⟩)++sb)++⟨#[41]⟩):=hG.claims 15 _ rfl (by decide+kernel) (by decide+kernel)
      have hp:=hG.pre (by decide+kernel)
      have hg:=hG.good
      clear hG
      have hg:=hp
      have hM:=SA.out.below hp
      have SX:=Lib.hid hM
      obtain⟨xq,eq⟩:=hM.has (a:=k) hlt
      have fq:=hM.own.frozenAt k
      clear hM hp hg
      go_wp2
      exact⟨undef,rfl,SX.out.put hkl.symm hg1 (by omega) _,trivial,fun h=>absurd rfl h⟩
    ·intro vals w6 hg hF
     obtain⟨g0,g1,g2,g3,g4,g5,g6,g7,g8,g9,g10,g11,g12,g13,g14,g15,g16,g17, -⟩:=hF
     have e0:vals 0= .slice (some ⟨g,0,none⟩) l.length l.length:=g0 rfl
     have e1:vals 1= .int .i64 (k:Nat):=g1 rfl
     have e2:vals 2= .slice (some ⟨g,0,none⟩) l.length l.length:=g2 rfl
     have e3:vals 3= .pointer (some ⟨BN,1,none⟩):=g3 rfl
     have e4:vals 4= .int .i64 (a:Nat):=g4 rfl
     have e5:vals 5= .pointer (some ⟨g,a,none⟩):=g5 rfl
     have e6:vals 6= .string sa:=g6 rfl
     have e7:vals 7= .string (⟨#[40]⟩++sa):=g7 rfl
     have e8:vals 8= .string ((⟨#[40]⟩++sa)++⟨#[124]⟩):=g8 rfl
     have e9:vals 9= .slice (some ⟨g,0,none⟩) l.length l.length:=g9 rfl
     have e10:vals 10= .pointer (some ⟨BN,2,none⟩):=g10 rfl
     have e11:vals 11= .int .i64 (a2:Nat):=g11 rfl
     have e12:vals 12= .pointer (some ⟨g,a2,none⟩):=g12 rfl
     have e13:vals 13= .string sb:=g13 rfl
     have e14:vals 14= .string (((⟨#[40]⟩++sa)++⟨#[124]⟩)++sb):=g14 rfl
     have e15:vals 15= .string ((((⟨#[40]⟩++sa)++⟨#[124]⟩)++sb)++⟨#[41]⟩):=g15 rfl
     have e16:vals 16= .pointer (some ⟨g,k,none⟩):=g16 rfl
     replace g17:ShS (TX++[(((⟨#[40]⟩++sa)++⟨#[124]⟩)++sb)++⟨#[41]⟩]) l.length g wz w6:=g17 rfl
     simp only[Cl.puts,e0,e1,e2,e3,e4,e5,e6,e7,e8,e9,e10,e11,e12,e13,e14,e15,e16]
     clear e0 e1 e2 e3 e4 e5 e6 e7 e8 e9 e10 e11 e12 e13 e14 e15 e16 g0 g1 g2 g3 g4 g5 g6 g7 g8 g9 g10 g11 g12 g13 g14 g15 g16
     go_simp
     have S6:=Lib.hid g17
     clear g17
     have e6:=S6.out.last hkl.symm (by omega)
     have f6:=S6.out.own.frozenAt k
     generalize (((⟨#[40]⟩++sa)++⟨#[124]⟩)++sb)++⟨#[41]⟩=sr at*
     by_cases hbig:400 < sr.size
     ·have hd:decide ((400:Int) < (sr.size:Int))=true:=by rw[decide_eq_true_eq];omega
      have hd2:(401:Int)≤(sr.size:Int):=by omega
      have HRW:=Lib.hid (show cutS (rawS TX ⟨6,(a:Nat),(a2:Nat)⟩)=sr.extract 0 401 by rw[HRW0.out,cutS,if_pos hbig])
      go_wp2
      go_roundw
      case rel=>exact ⟨k+1,by omega,by go_num,by rw[HT.out,HRW.out];exact S6.out.put2 hkl.symm hg1 _⟩
      case measure=>simp [intOf] <;> omega
     ·have hd:decide ((400:Int) < (sr.size:Int))=false:=by rw[decide_eq_false_iff_not];omega
      have HRW:=Lib.hid (show cutS (rawS TX ⟨6,(a:Nat),(a2:Nat)⟩)=sr by rw[HRW0.out,cutS,if_neg hbig])
      go_wp2
      go_roundw
      case rel=>exact ⟨k+1,by omega,by go_num,by rw[HT.out,HRW.out];exact S6.out⟩
      case measure=>simp [intOf] <;> omega
end Go.Proofs.YtajgndoiddmbmaaGreatDoor
