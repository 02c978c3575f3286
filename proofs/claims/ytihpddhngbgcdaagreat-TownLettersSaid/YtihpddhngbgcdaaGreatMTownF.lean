/- What every law on towns does first: a town of two, an ask and its answer. The filters that the laws on towns take: those of the arguments that may be, and enough that want everything. What follows from a town's play: each site keeps its own, knows what it has, has what some site made. No walk here. -/
import Derived.Test.YtihpddhngbgcdaaGreatMTownB
import Derived.Test.YtihpddhngbgcdaaGreatMTown1
import Derived.Test.YtihpddhngbgcdaaGreatMSiteD
import Derived.Test.YtihpddhngbgcdaaGreatMPartO
import Derived.Test.YtihpddhngbgcdaaGreatMTown0
import Derived.Test.YtihpddhngbgcdaaGreatTownPl
import Derived.Test.YtihpddhngbgcdaaGreatMShelf7
import Derived.Test.YtihpddhngbgcdaaGreatMShelf1
import Derived.Test.YtihpddhngbgcdaaGreatMElt
import Derived.Test.YtihpddhngbgcdaaGreatMPure
import Derived.Test.YtihpddhngbgcdaaGreatMKnow1
import Derived.Test.YtihpddhngbgcdaaGreatChecked
import Derived.Test.YtihpddhngbgcdaaGreatMClone
import Derived.Laws.Bits64b
import Derived.Test.YtihpddhngbgcdaaGreatMClaims
import Derived.Deep.QuietTactic
import Derived.BigQuiet
import Derived.Test.YtihpddhngbgcdaaGreatMKnow5
import Derived.Test.YtihpddhngbgcdaaGreatMShelf4
namespace Go.Proofs.YtihpddhngbgcdaaGreat
open Go.RowKit
def boolE:Elt Bool where
 size:=1
 El _ a cs:=cs=[.bool a]
 len:=fun h=>by rw[h];rfl
 one:=fun h=>by rw[h];simp [Value.oneCell']
 sub:=fun h _=>h
 pos:=by decide
theorem boolE_els (w:World): ∀l:List Bool,∃css,Els boolE w l css∧css.flatten=l.map Value.bool
 | []=>⟨[],trivial,rfl⟩
 | b::l=>by
  obtain⟨css,h1,h2⟩:=boolE_els w l
  exact⟨[.bool b]::css,⟨rfl,h1⟩,by rw[List.flatten_cons,h2];rfl⟩
theorem boolE_at {w:World} {v:Value} {l:List Bool} (h:CellsAt w v l.length (l.map Value.bool)):RowAt boolE w v l:=by
 obtain⟨css,h1,h2⟩:=boolE_els w l
 exact⟨css,h1,by rw[h2];exact h⟩
set_option maxRecDepth 100000 in
set_option maxHeartbeats 800000 in
theorem eqBools_c (va vb:Value) (l:List Bool) (w:World) (ha:RowAt boolE w va l) (hb:RowAt boolE w vb l):
  Calls Tryz.prog 76 #[va,vb] w fun e w'=>e= .returned (.bool true)∧Below w.heap.size w w':=by
 obtain⟨xa,ca,rfl,hcap,hm, -,hla⟩:=ha.open_
 obtain⟨xb,cb,rfl,hcapb,hmb, -,hlb⟩:=hb.open_
 have HLA:=Lib.hid hla
 have HLB:=Lib.hid hlb
 clear ha hb hla hlb
 go_enter Tryz.func76,Tryz.ntmps76
 go_wp2
 go_loopw [13] (fun i wr=> ∃k:Nat,k≤l.length∧i= .int .i64 k∧Below w.heap.size w wr) (fun i _=>l.length - (intOf i).toNat)
 case atStart=>exact ⟨0,Nat.zero_le _,rfl,Below.refl _ _⟩
 case round=>
  obtain⟨k,hk,rfl,hbl⟩:=hrel
  by_cases hlt:k < l.length
  ·rcases HLA.out with hnil | ⟨b0,off,rfl,hb0,hc⟩
   ·rw[hnil] at hlt;simp at hlt
   rcases HLB.out with hnil | ⟨b1,off1,rfl,hb1,hc1⟩
   ·rw[hnil] at hlt;simp at hlt
   obtain⟨c0,rfl,hc0⟩:=hc k hlt
   obtain⟨c1,rfl,hc1⟩:=hc1 k hlt
   have d1:=(hbl.cell (p:=⟨b0,off+k,none⟩) hb0).trans (by have:=hc0 0 _ rfl;simpa [boolE] using this)
   have d2:=(hbl.cell (p:=⟨b1,off1+k,none⟩) hb1).trans (by have:=hc1 0 _ rfl;simpa [boolE] using this)
   generalize l[k]=x at*
   have hx:(x != x)=false:=by simp
   clear hc hc0 hc1
   go_wp2
   go_quiet (fail)
   go_wp2
   go_roundw
   case rel=>exact ⟨k+1,by omega,by go_num,below_drewN hbl _⟩
   case measure=>simp [intOf];omega
  ·go_wp2
   go_ret
   exact⟨rfl,hbl⟩
set_option maxRecDepth 100000 in
set_option maxHeartbeats 8000000 in
theorem townBegun_c (w:World):Calls Tryz.prog 53 #[] w fun e w'=>e= .returned (.bool true)∧Below w.heap.size w w':=by
 go_enter Tryz.func53,Tryz.ntmps53
 go_wp2_with fail
 (with_reducible refine(everyS w).mono ?_)
 rintro e w1 ⟨ev,rfl,hev,hb⟩
 obtain⟨ea,ec,hevs⟩:=(hev.at_ok every_chk).shape
 subst hevs
 have HEV:=Lib.hid (FOwn.at_ok hev every_chk)
 have HB1:=Lib.hid hb
 obtain⟨BS,hBS⟩: ∃BS,BS=w1.heap.size:=⟨_,rfl⟩
 obtain⟨W2,hW2⟩: ∃W2,W2=w1.alloc (.cells #[.slice ea everyB.length ec, .slice none 0 0] 33):=⟨_,rfl⟩
 have hb2:Below w1.heap.size w1 W2:=by rw[hW2];exact bal _
 have HBL:=Lib.hid (show W2.heap[BS]? =some (Obj.cells #[.slice ea everyB.length ec, .slice none 0 0] 33 (0,0)) by rw[hW2];exact alloc_new _ _ _ _ hBS)
 have HB2:=Lib.hid (bstep HB1.out hb2)
 have HROW:=Lib.hid (show RowAt bxsE W2 (.slice (some ⟨BS,0,none⟩) 2 2) [everyB,[]] from by
  refine⟨[[.slice ea everyB.length ec],[.slice none 0 0]],⟨⟨_,rfl,HEV.out.below hb2⟩,⟨_,rfl,BxsAt.nil _⟩,trivial⟩, ?_⟩
  exact CellsAt.mk (Nat.le_refl _) (by decide) (hlt_of HBL.out) fun j x hj=>by rw[Nat.zero_add];exact cell_of_block (j:=j) HBL.out (by simpa using hj))
 clear hev hb hb2
 go_wp2_with fail
 rw[←hW2,←hBS]
 clear hW2 hBS
 have HT:=Lib.hid (tnew_c _ _ (fun q=>W2.heap.size≤q) W2 HROW.out (by decide) (by intro F hF;simp only[List.mem_cons,List.not_mem_nil,or_false] at hF;rcases hF with rfl | rfl <;> decide) (fun _ h=>h))
 (with_reducible refine(HT.out).mono ?_)
 rintro e w3 ⟨g,rfl,ht,hb⟩
 have HTW:=Lib.hid ht
 have HB3:=Lib.hid (bstep HB2.out hb)
 have HSZ:=Lib.hid hb.size
 have HW2:=Lib.hid HB2.out.size
 clear ht hb HT
 have HS:=Lib.hid (show Calls Tryz.prog 24 #[.pointer (some ⟨g,0,none⟩), .int .i64 0, .int .i64 1] w3 _ from tsend_c g W2.heap.size (fun q=>W2.heap.size≤q) _ 0 1 (by decide) (by decide) w3 HTW.out (fun q hq=>Nat.le_trans HSZ.out hq))
 go_wp2_with fail
 (with_reducible refine(HS.out).mono ?_)
 rintro e w4 ⟨rfl,h4,hs4⟩
 have H4:=Lib.hid h4
 have HST:=Lib.hid hs4
 clear h4 hs4 HS
 have he:sendE (newT [everyB,[]]) 0 1=0:=by decide
 have hsr:sendR (newT [everyB,[]]) 0 (by decide) 1=sendT (newT [everyB,[]]) 0 (by decide) 1:=by unfold sendR;rw [if_pos he]
 rw[he]
 rw[hsr] at H4
 clear he hsr
 have HBR:=Lib.hid (show Calls Tryz.prog 25 #[.pointer (some ⟨g,0,none⟩), .int .i64 0] w4 _ from tbring_ask g W2.heap.size (fun q=>W2.heap.size≤q) _ 0 1 _ rfl w4 H4.out (fun q hq=>Nat.le_trans HSZ.out (Nat.le_trans HST.out.size hq)) (by decide) (by decide))
 go_wp2_with fail
 (with_reducible refine(HBR.out).mono ?_)
 rintro e w5 ⟨rfl,h5,hs5⟩
 have H5:=Lib.hid h5
 have HS5:=Lib.hid (HST.out.trans hs5)
 clear h5 hs5 HBR
 have HWY:=Lib.hid (show Calls Tryz.prog 65 #[.pointer (some ⟨g,0,none⟩)] w5 fun e w'=> ∃a c,e= .returned (.slice a 2 c)∧w'.ownsRow w5.heap.size 4 1 (.slice a 2 c) 2 [.bool false, .bool true]∧Below w5.heap.size w5 w' from tway_c g W2.heap.size (fun q=>W2.heap.size≤q) _ w5 H5.out)
 go_wp2_with fail
 (with_reducible refine(HWY.out).mono ?_)
 rintro e w6 ⟨wa,wc,rfl,hw,hb6⟩
 have HB6:=Lib.hid (((Stp.of_below (G:=fun q=>W2.heap.size≤q) HB3.out).trans HS5.out).below hb6)
 obtain⟨BL,hBL⟩: ∃BL,BL=w6.heap.size:=⟨_,rfl⟩
 obtain⟨W7,hW7⟩: ∃W7,W7=w6.alloc (.cells #[.bool false, .bool true] 4):=⟨_,rfl⟩
 have hb7:Below w6.heap.size w6 W7:=by rw[hW7];exact bal _
 have HB7:=Lib.hid (HB6.out.below hb7)
 have hbl7:W7.heap[BL]? =some (Obj.cells #[.bool false, .bool true] 4 (0,0)):=by rw[hW7];exact alloc_new _ _ _ _ hBL
 have HQ1:=Lib.hid (show RowAt boolE W7 (.slice wa 2 wc) [false,true] from boolE_at ((CellsAt.of_owns hw (by decide)).below hb7))
 have HQ2:=Lib.hid (show RowAt boolE W7 (.slice (some ⟨BL,0,none⟩) 2 2) [false,true] from boolE_at (CellsAt.mk (Nat.le_refl _) (by decide) (hlt_of hbl7) fun j x hj=>by rw[Nat.zero_add];exact cell_of_block (j:=j) hbl7 (by simpa using hj)))
 clear hw hb6 hb7 hbl7 HWY
 have HEQ:=Lib.hid (eqBools_c _ _ _ W7 HQ1.out HQ2.out)
 go_wp2_with fail
 rw[←hW7,←hBL]
 clear hW7 hBL
 (with_reducible refine(HEQ.out).mono ?_)
 rintro e w8 ⟨rfl,hb8⟩
 have HB8:=Lib.hid ((HB7.out.below hb8).sp.toBelow (base:=w.heap.size) (fun _ hq=>Nat.le_trans HW2.out hq) (Nat.le_refl _))
 clear hb8
 go_wp2
 go_ret
 exact⟨rfl,HB8.out⟩
end Go.Proofs.YtihpddhngbgcdaaGreat
namespace Go.Proofs.YtihpddhngbgcdaaGreat
open Go.RowKit
set_option maxRecDepth 100000 in
theorem FsTy.info:(Tryz.prog.info? 33).map (fun i=>(i.zero,i.size,i.bytes))=some (some (.slice none 0 0),1,24):=rfl
def FEl (w wr:World) (v:Value) (F:Bxs):Prop:=fChk F=0∧(∃a c,v= .slice a F.length c)∧(BxsAt w v F∨FOwn wr w.heap.size v F)
theorem FEl.tk {w wr w2:World} {v:Value} {F:Bxs} (h:FEl w wr v F) (hk:TKeep (fun t=>t != 33) wr w2):FEl w w2 v F:=
 ⟨h.1,h.2.1,h.2.2.imp (fun h=>h) fun h=>FOwn.tk h hk (by decide) (by decide)⟩
theorem FEl.at_ {w wr:World} {v:Value} {F:Bxs} (h:FEl w wr v F) (hb:Below w.heap.size w wr):BxsAt wr v F:=h.2.2.elim (fun h=>h.below hb) fun h2=>FOwn.at_ok h2 h.1
structure FlSt (w wr:World) (ov:Value) (R:List Bxs):Prop where
 bel:Below w.heap.size w wr
 at_: ∃vs:List Value,wr.ownsRow w.heap.size 33 1 ov R.length vs∧vs.length=R.length∧ ∀i (h:i < vs.length) (h2:i < R.length),FEl w wr vs[i] R[i]
theorem FlSt.below {w wr w2:World} {ov:Value} {R:List Bxs} (h:FlSt w wr ov R) (hb:Below wr.heap.size wr w2):FlSt w w2 ov R:=by
 obtain⟨h1,vs,h2,h3,h4⟩:=h
 exact⟨bstep h1 hb,vs,owns_below h2 hb,h3,fun i a b=>(h4 i a b).tk (TKeep.of_below hb)⟩
theorem FlSt.push {w wr w4 w9:World} {ov v' x:Value} {R:List Bxs} {F:Bxs} {vs:List Value} {zc:Array Value} (hb:Below w.heap.size w wr) (hb4:Below wr.heap.size wr w4) (h2:wr.ownsRow w.heap.size 33 1 ov R.length vs) (h3:vs.length=R.length) (h4: ∀i (h:i < vs.length) (h2:i < R.length),FEl w wr vs[i] R[i])
  (hx:FEl w wr x F) (A:AppO w4 w9 w.heap.size 33 1 zc ov v' R.length 1 vs [x]):FlSt w w9 v' (R++[F]):=by
 have hr4:=owns_below h2 hb4
 have hk:TKeep (fun t=>t != 33) wr w9:=(TKeep.of_below hb4).trans (TKeep.of_app hr4 A.grown (by decide))
 refine⟨(bstep hb hb4).grown A.grown (by have:=hb.size;have:=hb4.size;omega) fun q hq=>(hr4.lt q hq).1,vs++[x],by rw[List.length_append,List.length_singleton];exact A.own,by simp[h3],fun i a b=> ?_⟩
 by_cases hi:i < R.length
 ·rw[List.getElem_append_left (by omega),List.getElem_append_left hi];exact (h4 i (by omega) hi).tk hk
 ·have:i=R.length:=by simp at b;omega
  subst this
  rw[List.getElem_append_right (by omega),List.getElem_append_right (by omega)]
  simp only[h3,Nat.sub_self,List.getElem_singleton]
  exact hx.tk hk
theorem FlSt.row {w wr:World} {ov:Value} {R:List Bxs} (h:FlSt w wr ov R) (hn:R.length≤1000):RowAt bxsE wr ov R∧ ∀F∈R,fChk F=0:=by
 obtain⟨h1,vs,h2,h3,h4⟩:=h
 refine⟨⟨vs.map fun v=>[v], ?_, ?_⟩,fun F hF=> ?_⟩
 ·clear h2
  induction R generalizing vs with
  | nil=>obtain rfl:vs=[]:=List.eq_nil_of_length_eq_zero (by simpa using h3);trivial
  | cons F R ih=>
   cases vs with
   | nil=>simp at h3
   | cons v vs=>
    refine⟨⟨v,rfl,(h4 0 (by simp) (by simp)).at_ h1⟩,ih (by simp at hn;omega) vs (by simpa using h3) fun i a b=> ?_⟩
    have:=h4 (i+1) (by simpa using a) (by simpa using b)
    simpa using this
 ·have e:(vs.map fun v=>[v]).flatten=vs:=by
   clear h2 h3 h4
   induction vs with
   | nil=>rfl
   | cons v vs ih=>rw [List.map_cons,List.flatten_cons,ih];rfl
  rw[e];exact CellsAt.of_owns h2 (by omega)
 ·obtain⟨i,hi,rfl⟩:=List.getElem_of_mem hF
  exact(h4 i (by omega) hi).1
def sliceLen:Value→Nat
 | .slice _ n _=>n
 | _=>0
def FltPost (w:World) (lo hi:Nat) (e:Ending) (w':World):Prop:= ∃(R:List Bxs) (a:Option Addr) (c:Nat),e= .returned (.slice a R.length c)∧RowAt bxsE w' (.slice a R.length c) R∧(∀F∈R,fChk F=0)∧lo≤R.length∧R.length≤hi∧Below w.heap.size w w'
set_option maxRecDepth 100000 in
set_option maxHeartbeats 8000000 in
theorem tfilters_c (fv:Value) (l:List Bxs) (w:World) (hl:RowAt bxsE w fv l):Calls Tryz.prog 54 #[fv] w (FltPost w 3 7):=by
 obtain⟨fa,fc,rfl,hlc, -, -, -⟩:=hl.open_
 obtain⟨n,hn⟩: ∃n,n=min l.length 6:=⟨_,rfl⟩
 have hn1:n≤l.length:=by omega
 have hn2:n≤6:=by omega
 have hn3:n≤fc:=by omega
 have hmin:min (l.length:Int) 6=(n:Int):=by omega
 have HL:=Lib.hid (RowAt.take hl n hn1)
 clear hl hn
 go_enter Tryz.func54,Tryz.ntmps54
 go_wp2_with fail
 (with_reducible refine(everyS w).mono ?_)
 rintro e w1 ⟨ev,rfl,hev,hb⟩
 obtain⟨ea,ec,hevs⟩:=(hev.at_ok every_chk).shape
 subst hevs
 have HEV:=Lib.hid hev
 have HB1:=Lib.hid hb
 obtain⟨BS,hBS⟩: ∃BS,BS=w1.heap.size:=⟨_,rfl⟩
 obtain⟨W2,hW2⟩: ∃W2,W2=w1.alloc (.cells #[.slice ea everyB.length ec] 33):=⟨_,rfl⟩
 have hb2:Below w1.heap.size w1 W2:=by rw[hW2];exact bal _
 have hbl:W2.heap[BS]? =some (Obj.cells #[.slice ea everyB.length ec] 33 (0,0)):=by rw[hW2];exact alloc_new _ _ _ _ hBS
 have F0:=Lib.hid (show FlSt w W2 (.slice (some ⟨BS,0,none⟩) 1 1) [everyB] from⟨bstep hb hb2,[.slice ea everyB.length ec],⟨by simp, .inr ⟨BS,1,_,rfl,by have:=hb.size;omega,hbl,Nat.le_refl _,by unfold maxLen;omega,rfl,rfl⟩⟩,rfl,fun i a b=>by
  obtain rfl:i=0:=by simp at a;omega
  exact⟨every_chk,⟨_,_,rfl⟩, .inr (hev.below hb2)⟩⟩)
 clear hev hb hb2 hbl HEV HB1
 go_wp2
 rw[←hW2,←hBS]
 clear hW2 hBS
 go_loopw [14,3] (fun i ov wr=> ∃k:Nat,k≤n∧i= .int .i64 k∧ ∃R,FlSt w wr ov R∧1≤R.length∧R.length≤k+1) (fun i _ _=>n - (intOf i).toNat)
 case atStart=>exact ⟨0,Nat.zero_le _,rfl,_,F0.out,by simp,by simp⟩
 case round=>
  clear F0
  obtain⟨k,hk,rfl,R,hst,hr1,hr2⟩:=hrel
  have HST:=Lib.hid hst
  obtain⟨hbl,vs,h2,h3,h4⟩:=hst
  obtain⟨oa,oc,hov⟩:=owns_slice h2
  subst hov
  by_cases hlt:k < n
  rotate_left
  ·have hkb:decide ((k:Int) < (n:Int))=false:=by simp;omega
   clear h2 h3 h4 hbl
   go_wp2
   go_loopw [3] (fun ov wr=> ∃R,FlSt w wr ov R∧1≤R.length∧R.length≤7) (fun ov _=>3 - sliceLen ov)
   case atStart=>exact ⟨R,HST.out,hr1,by omega⟩
   case round=>
    clear HST
    obtain⟨R2,hst,hr3,hr4⟩:=hrel
    have HST:=Lib.hid hst
    obtain⟨hbl,vs,h2,h3,h4⟩:=hst
    obtain⟨pa,pc,hpv⟩:=owns_slice h2
    subst hpv
    by_cases hl3:R2.length < 3
    rotate_left
    ·have hd:decide ((R2.length:Int) < 3)=false:=by simp;omega
     clear h2 h3 h4 hbl
     go_wp2
     go_ret
     obtain⟨h5,h6⟩:=HST.out.row (by omega)
     exact⟨R2,pa,pc,rfl,h5,h6,by omega,hr4,HST.out.bel⟩
    have hd:decide ((R2.length:Int) < 3)=true:=by simp;omega
    have H2:=Lib.hid h2
    have H3:=Lib.hid h3
    have H4:=Lib.hid h4
    have HBL:=Lib.hid hbl
    clear h2 h3 h4 hbl
    go_wp2_with fail
    (with_reducible refine(everyS _).mono ?_)
    rintro e w5 ⟨ev5,rfl,hev5,hb5⟩
    obtain⟨ea5,ec5,hevs⟩:=(hev5.at_ok every_chk).shape
    subst hevs
    have HE5:=Lib.hid (show FEl w w5 (.slice ea5 everyB.length ec5) everyB from⟨every_chk,⟨_,_,rfl⟩, .inr (BxsOwn.mono hev5 HBL.out.size)⟩)
    have HR5:=Lib.hid (owns_below H2.out hb5)
    have H45:=Lib.hid (fun i (a:i < vs.length) (b:i < R2.length)=>(H4.out i a b).tk (TKeep.of_below (T:=fun t=>t != 33) hb5))
    have HB5:=Lib.hid (bstep HBL.out hb5)
    have HR6:=Lib.hid (owns_below HR5.out (bal (W:=w5) (.cells #[.slice ea5 everyB.length ec5] 33)))
    have HN:=Lib.hid (show ∀j u,[Value.slice ea5 everyB.length ec5][j]? =some u→(w5.alloc (.cells #[.slice ea5 everyB.length ec5] 33)).cell? ((⟨w5.heap.size,0,none⟩:Addr).add j)=some u from fun j u hj=>by
     rw[Addr.add_lit,Nat.zero_add]
     exact cell_of_block (j:=j) (alloc_new _ _ _ _ rfl) (by simpa using hj))
    have hbs:w.heap.size≤(w5.alloc (.cells #[.slice ea5 everyB.length ec5] 33)).heap.size:=by have:=HB5.out.size;rw [World.size_alloc];omega
    clear hev5 hb5 HST
    go_wp2_with (at_builtin;refine wpList_append_ownS rfl (.tmp 29) (.tmp 31) 22 rfl w.heap.size 33 (.slice none 0 0) 1 24 Tryz.underlying22 FsTy.info rfl (by decide) _ R2.length vs rfl HR6.out ⟨w5.heap.size,0,none⟩ 1 1 _ rfl rfl HN.out (by intro u hu;simp only[List.mem_singleton] at hu;subst hu;rfl) (by unfold maxLen;omega) (by omega) hbs ?_)
    intro v9 w9 A
    obtain⟨va,vc,hva⟩:=owns_slice A.own
    subst hva
    have HA:=Lib.hid A
    clear A hbs
    go_wp2
    go_roundw
    case rel=>exact ⟨R2++[everyB],FlSt.push HB5.out (bal _) HR5.out H3.out H45.out HE5.out HA.out,by simp,by simp;omega⟩
    case measure=>simp [sliceLen];omega
  have hkb:decide ((k:Int) < (n:Int))=true:=by simp;omega
  obtain⟨a7,c7,ha7, -, -, -,hvl7⟩:=HL.out.open_
  simp only[Value.slice.injEq] at ha7
  obtain⟨rfl, -,rfl⟩:=ha7
  have hltk:k < (l.take n).length:=by rw[List.length_take];omega
  rcases hvl7 with hnil | ⟨b7,off,rfl,hb7,hc7⟩
  ·rw[hnil] at hltk;simp at hltk
  obtain⟨cc,⟨v,rfl,hv⟩,hcc⟩:=hc7 k hltk
  have c0:=(hbl.cell (p:=⟨b7,off+k,none⟩) hb7).trans (by have:=hcc 0 _ rfl;simpa [bxsE] using this)
  generalize (l.take n)[k]=F at*
  obtain⟨xa,xc,hxv⟩:=hv.shape
  subst hxv
  have HV:=Lib.hid hv
  have H2:=Lib.hid h2
  have H3:=Lib.hid h3
  have H4:=Lib.hid h4
  have HBL:=Lib.hid hbl
  clear h2 h3 h4 hc7 hcc hv hbl
  go_wp2_with fail
  clear c0
  (with_reducible refine(fChk_c _ F _ (HV.out.below HBL.out)).mono ?_)
  rintro e w5 ⟨rfl,hb5⟩
  have HB5:=Lib.hid (bstep HBL.out hb5)
  have HST5:=Lib.hid (HST.out.below hb5)
  have HR5:=Lib.hid (owns_below H2.out hb5)
  have H45:=Lib.hid (fun i (a:i < vs.length) (b:i < R.length)=>(H4.out i a b).tk (TKeep.of_below (T:=fun t=>t != 33) hb5))
  clear hb5
  by_cases hz:fChk F=0
  rotate_left
  ·have hd:(fChk F==0)=false:=by simpa using hz
   have hd2:decide (fChk F=0)=false:=by simpa using hz
   go_wp2
   go_roundw
   case rel=>exact ⟨k+1,by omega,by go_num,R,HST5.out,hr1,by omega⟩
   case measure=>simp [intOf] <;> omega
  have HZ:=Lib.hid hz
  have HE5:=Lib.hid (show FEl w w5 (.slice xa F.length xc) F from⟨hz,⟨_,_,rfl⟩, .inl HV.out⟩)
  rw[hz]
  clear hz
  have HR6:=Lib.hid (owns_below HR5.out (bal (W:=w5) (.cells #[.slice xa F.length xc] 33)))
  have HN:=Lib.hid (show ∀j u,[Value.slice xa F.length xc][j]? =some u→(w5.alloc (.cells #[.slice xa F.length xc] 33)).cell? ((⟨w5.heap.size,0,none⟩:Addr).add j)=some u from fun j u hj=>by
   rw[Addr.add_lit,Nat.zero_add]
   exact cell_of_block (j:=j) (alloc_new _ _ _ _ rfl) (by simpa using hj))
  have hbs:w.heap.size≤(w5.alloc (.cells #[.slice xa F.length xc] 33)).heap.size:=by have:=HB5.out.size;rw [World.size_alloc];omega
  go_wp2_with (at_builtin;refine wpList_append_ownS rfl (.tmp 21) (.tmp 23) 22 rfl w.heap.size 33 (.slice none 0 0) 1 24 Tryz.underlying22 FsTy.info rfl (by decide) _ R.length vs rfl HR6.out ⟨w5.heap.size,0,none⟩ 1 1 _ rfl rfl HN.out (by intro u hu;simp only[List.mem_singleton] at hu;subst hu;rfl) (by unfold maxLen;omega) (by omega) hbs ?_)
  intro v9 w9 A
  obtain⟨va,vc,hva⟩:=owns_slice A.own
  subst hva
  have HA:=Lib.hid A
  clear A hbs
  go_wp2
  go_roundw
  case rel=>exact ⟨k+1,by omega,by go_num,R++[F],FlSt.push HB5.out (bal _) HR5.out H3.out H45.out HE5.out HA.out,by simp,by simp;omega⟩
  case measure=>simp [intOf] <;> omega
end Go.Proofs.YtihpddhngbgcdaaGreat
namespace Go.Proofs.YtihpddhngbgcdaaGreat
open Go.RowKit
theorem newT_I {l:List Bxs} (h:l.length≤5):TownI [] (newT l) 0:=by
 refine⟨newT_ok h,Hx.nil,by simp,by simp,fun i hi=> ?_,fun i hi=> ?_,fun x hx=>by simp[newT] at hx⟩
 ·have hi':i < (newL l).length:=hi
  show SiteI [] ((newL l)[i]'hi')
  rw[newL_get hi' (by rw[newL_len] at hi';exact hi')]
  exact siteI_new _ (by rw[newL_len] at hi';omega) _
 ·have hi':i < (newL l).length:=hi
  show((newL l)[i]'hi').stamp≤_
  rw[newL_get hi' (by rw[newL_len] at hi';exact hi')];exact Int.le_refl _
section
variable {wz wr:World} {b g k:Nat} {T:Nat→Prop} {H A:List Ver} {t:TownS} {ov:Value}
end
end Go.Proofs.YtihpddhngbgcdaaGreat
