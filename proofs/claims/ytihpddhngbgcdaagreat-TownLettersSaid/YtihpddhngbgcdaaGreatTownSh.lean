/- The shelves of a town, all told, and compared: the closures of TownLetters. -/
import Derived.Test.YtihpddhngbgcdaaGreatMTownF
import Derived.Test.YtihpddhngbgcdaaGreatMShelf7
namespace Go.Proofs.YtihpddhngbgcdaaGreat
open Go.RowKit
theorem TownAt.retype {w:World} {b g:Nat} {T T':Nat→Prop} {t:TownS} (h:TownAt w b T g t) (hT: ∀q,q < w.heap.size→T q→T' q):TownAt w b T' g t:=by
 obtain⟨sv,wv,gs,css,V⟩:=h.at_
 refine⟨h.ok,⟨h.ge.1,hT g V.lt h.ge.2⟩,sv,wv,gs,css,V.blk,V.srow,V.sites,fun q hq=> ?_,V.lets,V.wrow,fun q hq=>hT q (V.wrow.lt q hq).2 (V.wT q hq)⟩
 obtain⟨i,hi,rfl⟩:=List.getElem_of_mem hq
 exact hT _ (V.sites.each i hi (by have:=V.sites.len;omega)).lt (V.gT _ hq)
set_option maxRecDepth 100000 in
theorem VsTy.info:(Tryz.prog.info? 48).map (fun i=>(i.zero,i.size,i.bytes))=some (some (.slice none 0 0),1,24):=rfl
def shE:Elt (List Ver) where
 size:=1
 El w L cs:= ∃v,cs=[v]∧RowAt verE w v L
 len:=by rintro w L cs ⟨v,rfl, -⟩;rfl
 one:=by
  rintro w L cs ⟨v,rfl,h⟩ z hz
  obtain⟨a,c,rfl⟩:=h.shape
  simp only[List.mem_singleton] at hz
  subst hz;rfl
 sub:=by rintro w w' L cs ⟨v,rfl,h⟩ hs;exact ⟨v,rfl,h.sub hs⟩
 pos:=by decide
structure ShSt (w wr:World) (ov:Value) (R:List (List Ver)):Prop where
 bel:Below w.heap.size w wr
 at_: ∃vs:List Value,wr.ownsRow w.heap.size 48 1 ov R.length vs∧vs.length=R.length∧ ∀i (h:i < vs.length) (h2:i < R.length),VOwn wr w.heap.size vs[i] R[i]∧ShOk R[i]
def ShR (wr:World) (b:Nat) (ov:Value) (R:List (List Ver)):Prop:= ∃vs:List Value,wr.ownsRow b 48 1 ov R.length vs∧vs.length=R.length∧ ∀i (h:i < vs.length) (h2:i < R.length),VOwn wr b vs[i] R[i]∧ShOk R[i]
theorem ShR.row {b:Nat} {wr:World} {ov:Value} {R:List (List Ver)} (h:ShR wr b ov R) (hn:R.length≤1000):RowAt shE wr ov R:=by
 obtain⟨vs,h2,h3,h4⟩:=h
 refine⟨vs.map fun v=>[v], ?_, ?_⟩
 ·clear h2
  induction R generalizing vs with
  | nil=>obtain rfl:vs=[]:=List.eq_nil_of_length_eq_zero (by simpa using h3);trivial
  | cons F R ih=>
   cases vs with
   | nil=>simp at h3
   | cons v vs=>
    obtain⟨h5,h6⟩:=h4 0 (by simp) (by simp)
    refine⟨⟨v,rfl,h5.at_ (shok_bd h6.ok) (show F.length≤1000 from by have h7:F.length≤60:=h6.len;omega)⟩,ih (by simp at hn;omega) vs (by simpa using h3) fun i a b=> ?_⟩
    have:=h4 (i+1) (by simpa using a) (by simpa using b)
    simpa using this
 ·have e:(vs.map fun v=>[v]).flatten=vs:=by
   clear h2 h3 h4
   induction vs with
   | nil=>rfl
   | cons v vs ih=>rw [List.map_cons,List.flatten_cons,ih];rfl
  rw[e];exact CellsAt.of_owns h2 (by omega)
theorem ShSt.stp {G:Nat→Prop} {w wr w':World} {ov:Value} {R:List (List Ver)} (h:ShSt w wr ov R) (hs:Stp G wr w') (hG: ∀q,G q→q < w.heap.size∨wr.heap.size≤q):ShR w' w.heap.size ov R:=by
 obtain⟨-,vs,h2,h3,h4⟩:=h
 exact⟨vs,owns_sp h2 hs.sp (fun k hk hg=>by have:=h2.lt k hk;have:=hG k hg;omega),h3,fun i a b=>⟨(h4 i a b).1.stp hs,(h4 i a b).2⟩⟩
theorem ShSt.push {w wr w4 w9:World} {ov v' x:Value} {R:List (List Ver)} {L:List Ver} {vs:List Value} {zc:Array Value} (hb:Below w.heap.size w wr) (hb4:Below wr.heap.size wr w4) (h2:wr.ownsRow w.heap.size 48 1 ov R.length vs) (h3:vs.length=R.length) (h4: ∀i (h:i < vs.length) (h2:i < R.length),VOwn wr w.heap.size vs[i] R[i]∧ShOk R[i])
  (hx:VOwn wr w.heap.size x L) (hok:ShOk L) (A:AppO w4 w9 w.heap.size 48 1 zc ov v' R.length 1 vs [x]):ShSt w w9 v' (R++[L]):=by
 have hr4:=owns_below h2 hb4
 have hk:TKeep (fun t=>t != 48) wr w9:=(TKeep.of_below hb4).trans (TKeep.of_app hr4 A.grown (by decide))
 refine⟨(bstep hb hb4).grown A.grown (by have:=hb.size;have:=hb4.size;omega) fun q hq=>(hr4.lt q hq).1,vs++[x],by rw[List.length_append,List.length_singleton];exact A.own,by simp[h3],fun i a b=> ?_⟩
 by_cases hi:i < R.length
 ·rw[List.getElem_append_left (by omega),List.getElem_append_left hi];exact ⟨(h4 i (by omega) hi).1.tk hk (by decide) (by decide) (by decide),(h4 i (by omega) hi).2⟩
 ·have:i=R.length:=by simp at b;omega
  subst this
  rw[List.getElem_append_right (by omega),List.getElem_append_right (by omega)]
  simp only[h3,Nat.sub_self,List.getElem_singleton]
  exact⟨hx.tk hk (by decide) (by decide) (by decide),hok⟩
def shelvesR (t:TownS):List (List Ver):=t.sites.map fun s=>s.L
set_option maxRecDepth 100000 in
set_option maxHeartbeats 8000000 in
theorem tl1_c (B g b:Nat) (T:Nat→Prop) (t:TownS) (w:World) (hB:w.heap[B]? =some (.cells #[.pointer (some ⟨g,0,none⟩)] 29 (0,0))) (h:TownAt w b T g t) (h3:t.sites.length=3):
  Calls Tryz.prog 61 #[.pointer (some ⟨B,0,none⟩)] w fun e w'=> ∃v,e= .returned v∧ShSt w w' v (shelvesR t):=by
 have HT:=Lib.hid h
 have HBB:=Lib.hid hB
 have H3:=Lib.hid h3
 clear h hB h3
 go_enter Tryz.func61,Tryz.ntmps61
 go_wp2
 go_loopw [6,2] (fun i ov wr=> ∃j:Nat,j≤3∧i= .int .i64 j∧ShSt w wr ov ((shelvesR t).take j)) (fun i _ _=>3 - (intOf i).toNat)
 case atStart=>exact ⟨0,by omega,rfl,Below.refl _ _,[],World.ownsRow_nil _ _ _ _,rfl,fun i a=>absurd a (by simp)⟩
 case round=>
  obtain⟨j,hj,rfl,hst⟩:=hrel
  have HST:=Lib.hid hst
  obtain⟨hbl,vs,h2,h3,h4⟩:=hst
  obtain⟨oa,oc,hov⟩:=owns_slice h2
  subst hov
  by_cases hj3:j < 3
  rotate_left
  ·obtain rfl:j=3:=by omega
   have hjb:decide (((3:Nat):Int) < 3)=false:=by decide
   clear h2 h3 h4 hbl
   go_wp2
   go_ret
   have e:(shelvesR t).take 3=shelvesR t:=List.take_of_length_le (by unfold shelvesR;rw [List.length_map,H3.out];exact Nat.le_refl _)
   have h5:=HST.out
   rw[e] at h5
   exact⟨_,rfl,by rw[e];exact h5⟩
  have hjb:decide ((j:Int) < 3)=true:=by simp;omega
  have HJS:=Lib.hid (show j < t.sites.length by rw[H3.out];exact hj3)
  have HTL:=Lib.hid (show((shelvesR t).take j).length=j by unfold shelvesR;rw [List.length_take,List.length_map,H3.out];omega)
  have HTK:=Lib.hid (show(shelvesR t).take (j+1)=(shelvesR t).take j++[(t.sites[j]'HJS.out).L] by
   rw[List.take_succ_eq_append_getElem (by unfold shelvesR;rw [List.length_map];exact HJS.out)]
   congr 1
   unfold shelvesR
   rw[List.getElem_map])
  have H2:=Lib.hid h2
  have H3':=Lib.hid h3
  have H4:=Lib.hid h4
  have HBL:=Lib.hid hbl
  have c0:_=some (Value.pointer (some ⟨g,0,none⟩)):=cell_of_block (j:=0) (below_keep hbl HBB.out) rfl
  generalize (shelvesR t).take j=R at*
  clear h2 h3 h4 hbl
  go_wp2_with fail
  clear c0
  (with_reducible refine(tshelf_c g b T t j HJS.out _ (HT.out.below HBL.out)).mono ?_)
  rintro e w5 ⟨xa,xc,rfl,hx,hb5⟩
  have HXOK:=Lib.hid (show ShOk (t.sites[j]'HJS.out).L from by
   obtain⟨qs,cap,gi,wv, -, -, -,hS, -⟩:=HT.out.use HJS.out
   exact hS.ok.L)
  have HX:=Lib.hid (VOwn.mono hx HBL.out.size)
  have HR5:=Lib.hid (owns_below H2.out hb5)
  have H45:=Lib.hid (fun i (a:i < vs.length) (b:i < R.length)=>(show VOwn w5 w.heap.size vs[i] R[i]∧ShOk R[i] from⟨(H4.out i a b).1.below hb5,(H4.out i a b).2⟩))
  have HB5:=Lib.hid (bstep HBL.out hb5)
  generalize (t.sites[j]'HJS.out).L=L at*
  have HR6:=Lib.hid (owns_below HR5.out (bal (W:=w5) (.cells #[.slice xa L.length xc] 48)))
  have HN:=Lib.hid (show ∀j u,[Value.slice xa L.length xc][j]? =some u→(w5.alloc (.cells #[.slice xa L.length xc] 48)).cell? ((⟨w5.heap.size,0,none⟩:Addr).add j)=some u from fun j u hj=>by
   rw[Addr.add_lit,Nat.zero_add]
   exact cell_of_block (j:=j) (alloc_new _ _ _ _ rfl) (by simpa using hj))
  have hbs:w.heap.size≤(w5.alloc (.cells #[.slice xa L.length xc] 48)).heap.size:=by have:=HB5.out.size;rw [World.size_alloc];omega
  have hrj:R.length=j:=HTL.out
  clear hx hb5 HST
  go_wp2_with (at_builtin;apply Classical.byContradiction;intro hcon)
  refine hcon ?_
  (refine wpList_append_ownS rfl (.tmp 15) (.tmp 17) 100 rfl w.heap.size 48 (.slice none 0 0) 1 24 Tryz.underlying100 VsTy.info rfl (by decide) _ R.length vs (by simp[go_sem,hrj]) HR6.out ⟨w5.heap.size,0,none⟩ 1 1 _ (by simp[go_sem]) rfl HN.out (by intro u hu;simp only[List.mem_singleton] at hu;subst hu;rfl) (by unfold maxLen;omega) (by omega) hbs ?_)
  intro v9 w9 A
  obtain⟨va,vc,hva⟩:=owns_slice A.own
  subst hva
  have HA:=Lib.hid A
  clear A hbs hcon hrj
  go_wp2
  go_roundw
  case rel=>exact ⟨j+1,by omega,by go_num,by rw[HTK.out];exact ShSt.push HB5.out (bal _) HR5.out H3'.out H45.out HX.out HXOK.out HA.out⟩
  case measure=>simp [intOf] <;> omega
set_option maxRecDepth 100000 in
set_option maxHeartbeats 4000000 in
theorem tl3_c (va vb:Value) (L:List Ver) (w:World) (ha:RowAt verE w va L) (hb:RowAt verE w vb L):
  Calls Tryz.prog 64 #[va,vb] w fun e w'=>e= .returned (.bool true)∧Below w.heap.size w w':=by
 have H:=Lib.hid (sameS_c va vb L L w ha hb)
 obtain⟨xa,ca,rfl⟩:=ha.shape
 obtain⟨xb,cb,rfl⟩:=hb.shape
 clear ha hb
 go_enter Tryz.func64,Tryz.ntmps64
 go_wp2_with fail
 (with_reducible refine(H.out).mono ?_)
 rintro e w1 ⟨bb,rfl,hbb,hb1⟩
 obtain rfl:bb=true:=by simpa using hbb
 clear H hbb
 go_wp2
 go_ret
 exact⟨rfl,hb1⟩
set_option maxRecDepth 100000 in
set_option maxHeartbeats 8000000 in
theorem eqSh_c (va vb:Value) (R:List (List Ver)) (w:World) (ha:RowAt shE w va R) (hb:RowAt shE w vb R):
  Calls Tryz.prog 63 #[va,vb, .func (.func 64) #[] #[]] w fun e w'=>e= .returned (.bool true)∧Below w.heap.size w w':=by
 obtain⟨xa,ca,rfl,hcap,hm, -,hla⟩:=ha.open_
 obtain⟨xb,cb,rfl,hcapb,hmb, -,hlb⟩:=hb.open_
 have HLA:=Lib.hid hla
 have HLB:=Lib.hid hlb
 clear ha hb hla hlb
 have hne:((R.length:Int) != (R.length:Int))=false:=by simp
 go_enter Tryz.func63,Tryz.ntmps63
 go_wp2
 go_loopw [17] (fun i wr=> ∃k:Nat,k≤R.length∧i= .int .i64 k∧Below w.heap.size w wr) (fun i _=>R.length - (intOf i).toNat)
 case atStart=>exact ⟨0,Nat.zero_le _,rfl,Below.refl _ _⟩
 case round=>
  obtain⟨k,hk,rfl,hbl⟩:=hrel
  by_cases hlt:k < R.length
  rotate_left
  ·obtain rfl:k=R.length:=by omega
   have hkb:decide ((R.length:Int) < (R.length:Int))=false:=by simp
   go_wp2
   go_ret
   exact⟨rfl,hbl⟩
  rcases HLA.out with hnil | ⟨b0,off,rfl,hb0,hc⟩
  ·rw[hnil] at hlt;simp at hlt
  rcases HLB.out with hnil | ⟨b1,off1,rfl,hb1,hc1⟩
  ·rw[hnil] at hlt;simp at hlt
  obtain⟨c0,⟨x0,rfl,hx0⟩,hc0⟩:=hc k hlt
  obtain⟨c1,⟨x1,rfl,hx1⟩,hc1'⟩:=hc1 k hlt
  have d1:=(hbl.cell (p:=⟨b0,off+k,none⟩) hb0).trans (by have:=hc0 0 _ rfl;simpa [shE] using this)
  have d2:=(hbl.cell (p:=⟨b1,off1+k,none⟩) hb1).trans (by have:=hc1' 0 _ rfl;simpa [shE] using this)
  have HSS:=Lib.hid (tl3_c _ _ R[k] _ (hx0.below hbl) (hx1.below hbl))
  obtain⟨p0,q0,hp0⟩:=hx0.shape
  obtain⟨p1,q1,hp1⟩:=hx1.shape
  subst hp0 hp1
  generalize R[k]=L at*
  have hkb:decide ((k:Int) < (R.length:Int))=true:=by simp;omega
  have HBL:=Lib.hid hbl
  have hbw2:=Nat.lt_of_lt_of_le hb1 hbl.size
  clear hc hc0 hc1 hc1' hx0 hx1 hbl
  go_wp2_with fail
  (with_reducible refine(HSS.out).mono ?_)
  rintro e w5 ⟨rfl,hb5⟩
  have HB5:=Lib.hid (bstep HBL.out hb5)
  clear hb5 HSS d1 d2
  go_wp2
  go_roundw
  case rel=>exact ⟨k+1,by omega,by go_num,HB5.out⟩
  case measure=>simp [intOf] <;> omega
set_option maxRecDepth 100000 in
set_option maxHeartbeats 4000000 in
theorem tl2_c (va vb:Value) (R:List (List Ver)) (w:World) (ha:RowAt shE w va R) (hb:RowAt shE w vb R):
  Calls Tryz.prog 62 #[va,vb] w fun e w'=>e= .returned (.bool true)∧Below w.heap.size w w':=by
 have H:=Lib.hid (eqSh_c va vb R w ha hb)
 obtain⟨xa,ca,rfl⟩:=ha.shape
 obtain⟨xb,cb,rfl⟩:=hb.shape
 clear ha hb
 go_enter Tryz.func62,Tryz.ntmps62
 go_wp2_with fail
 (with_reducible refine(H.out).mono ?_)
 rintro e w1 ⟨rfl,hb1⟩
 clear H
 go_wp2
 go_ret
 exact⟨rfl,hb1⟩
end Go.Proofs.YtihpddhngbgcdaaGreat
