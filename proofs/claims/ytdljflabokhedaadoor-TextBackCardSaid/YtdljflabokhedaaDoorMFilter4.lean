/- What filter.Join, Meet, Less, Same, Within, Count, In, Has, Every do. What filter.Count, Every, In, Has do; the laws' helpers. What slices.Clone does at []reedmace/api.Span. Written by a small program (gen/clone.py). What filter.Copied does. -/
import Derived.Test.YtdljflabokhedaaDoorMFilter1
import Derived.Test.YtdljflabokhedaaDoorMFilterP
import Derived.Test.YtdljflabokhedaaDoorMForm
import Derived.Test.YtdljflabokhedaaDoorMSpan
import Derived.Test.YtdljflabokhedaaDoorMBase
namespace Go.Proofs.YtdljflabokhedaaDoor
open Go.RowKit
theorem fTwo_zero {f g:Bxs} (h:fTwo f g=0):fChk f=0∧fChk g=0:=by
 unfold fTwo at h
 by_cases hf:fChk f=0
 ·rw[if_pos hf] at h;exact ⟨hf,h⟩
 ·rw[if_neg hf] at h;exact absurd h hf
theorem tab_bits {f g:Bxs} (h:fTwo f g=0):(∀k n:Nat,(tabN f k).testBit n=inF f k n)∧(∀k n:Nat,(tabN g k).testBit n=inF g k n)∧(∀k,tabN f k < 4294967296)∧ ∀k,tabN g k < 4294967296:=by
 obtain⟨h1,h2⟩:=fTwo_zero h
 have hf:=(fChk_zero.1 h1).2
 have hg:=(fChk_zero.1 h2).2
 exact⟨fun k=>(tabN_good f k hf).2,fun k=>(tabN_good g k hg).2,fun k=>(tabN_good f k hf).1,fun k=>(tabN_good g k hg).1⟩
theorem andNot_bit (a b n:Nat) (hb:b < 4294967296) (hn:n < 32):(a &&& (4294967295 - b)).testBit n=(a.testBit n&& !b.testBit n):=by
 rw[Nat.testBit_and]
 congr 1
 have:4294967295 - b=2^32 - (b+1):=by omega
 rw[this,Nat.testBit_two_pow_sub_succ (by omega)]
 simp[hn]
set_option maxRecDepth 100000 in
theorem joinf_c (va vb:Value) (f g:Bxs) (w:World) (hf:BxsAt w va f) (hg:BxsAt w vb g):
  Calls Tryd.prog 12 #[va,vb] w fun e w'=> ∃v,e= .returned (.tuple #[v, .int .i64 (fTwo f g)])∧FOut w.heap.size w' v (fTwo f g) (fun k n=>inF f k n || inF g k n)∧Below w.heap.size w w':=by
 obtain⟨fa,fc,rfl⟩:=hf.shape
 obtain⟨ga,gc,rfl⟩:=hg.shape
 have hm: ∀args W,(callFunc 22 args).run Tryd.prog W= .ok (.enter 22 args) W:=fun _ _=>by kernel_rfl
 have HB:=Lib.hid (both_c 22 (fun a b=>a ||| b) hm join1_f (fun a b=>or_lt a b) (fun k n=>inF f k n || inF g k n) _ _ f g (fun h k n _ _=>by rw[Nat.testBit_or,(tab_bits h).1,(tab_bits h).2.1]) w hf hg)
 clear hm hf hg
 go_enter Tryd.func12,Tryd.ntmps12
 go_wp2_with fail
 (with_reducible refine HB.out.mono ?_)
 rintro e w1 ⟨v,rfl,ho,hb⟩
 have HO:=Lib.hid ho
 clear ho HB
 go_wp2
 go_ret2
 exact⟨v,rfl,HO.out,hb⟩
set_option maxRecDepth 100000 in
theorem meetf_c (va vb:Value) (f g:Bxs) (w:World) (hf:BxsAt w va f) (hg:BxsAt w vb g):
  Calls Tryd.prog 11 #[va,vb] w fun e w'=> ∃v,e= .returned (.tuple #[v, .int .i64 (fTwo f g)])∧FOut w.heap.size w' v (fTwo f g) (fun k n=>inF f k n&&inF g k n)∧Below w.heap.size w w':=by
 obtain⟨fa,fc,rfl⟩:=hf.shape
 obtain⟨ga,gc,rfl⟩:=hg.shape
 have hm: ∀args W,(callFunc 21 args).run Tryd.prog W= .ok (.enter 21 args) W:=fun _ _=>by kernel_rfl
 have HB:=Lib.hid (both_c 21 (fun a b=>a &&& b) hm meet1_f (fun a b h _=>and_lt a b h) (fun k n=>inF f k n&&inF g k n) _ _ f g (fun h k n _ _=>by rw[Nat.testBit_and,(tab_bits h).1,(tab_bits h).2.1]) w hf hg)
 clear hm hf hg
 go_enter Tryd.func11,Tryd.ntmps11
 go_wp2_with fail
 (with_reducible refine HB.out.mono ?_)
 rintro e w1 ⟨v,rfl,ho,hb⟩
 have HO:=Lib.hid ho
 clear ho HB
 go_wp2
 go_ret2
 exact⟨v,rfl,HO.out,hb⟩
set_option maxRecDepth 100000 in
theorem lessf_c (va vb:Value) (f g:Bxs) (w:World) (hf:BxsAt w va f) (hg:BxsAt w vb g):
  Calls Tryd.prog 8 #[va,vb] w fun e w'=> ∃v,e= .returned (.tuple #[v, .int .i64 (fTwo f g)])∧FOut w.heap.size w' v (fTwo f g) (fun k n=>inF f k n&& !inF g k n)∧Below w.heap.size w w':=by
 obtain⟨fa,fc,rfl⟩:=hf.shape
 obtain⟨ga,gc,rfl⟩:=hg.shape
 have hm: ∀args W,(callFunc 19 args).run Tryd.prog W= .ok (.enter 19 args) W:=fun _ _=>by kernel_rfl
 have HB:=Lib.hid (both_c 19 (fun a b=>a &&& (4294967295 - b)) hm less1_f (fun a b h _=>and_lt a _ h) (fun k n=>inF f k n&& !inF g k n) _ _ f g (fun h k n _ hn=>by rw[andNot_bit _ _ _ ((tab_bits h).2.2.2 k) hn,(tab_bits h).1,(tab_bits h).2.1]) w hf hg)
 clear hm hf hg
 go_enter Tryd.func8,Tryd.ntmps8
 go_wp2_with fail
 (with_reducible refine HB.out.mono ?_)
 rintro e w1 ⟨v,rfl,ho,hb⟩
 have HO:=Lib.hid ho
 clear ho HB
 go_wp2
 go_ret2
 exact⟨v,rfl,HO.out,hb⟩
theorem FOut.empty {base:Nat} {w:World} {v:Value} {p:Nat→Nat→Bool} (h:FOut base w v 0 p): ∃a l cap,v= .slice a l cap∧((l:Int)==0)=allPt (fun k n=> !p k n):=by
 obtain⟨l,hl,hg⟩:=h.1 rfl
 obtain⟨a,c,hv⟩:=hl.shape
 refine⟨a,_,c,hv, ?_⟩
 rw[Bool.eq_iff_iff,beq_iff_eq,allPt_iff]
 have e:((l.length:Int)=0)↔l=[]:=by rw[←List.length_eq_zero_iff];omega
 rw[e,hg.nil]
 exact⟨fun h t n ht hn=>by rw[h t n ht hn];rfl,fun h t n ht hn=>by have:=h t n ht hn;simpa using this⟩
def sameE (f g:Bxs):Bool:=if fTwo f g=0 then allPt (fun k n=> !(inF f k n ^^ inF g k n)) else false
set_option maxRecDepth 100000 in
set_option maxHeartbeats 400000 in
theorem samef_c (va vb:Value) (f g:Bxs) (w:World) (hf:BxsAt w va f) (hg:BxsAt w vb g):
  Calls Tryd.prog 20 #[va,vb] w fun e w'=>e= .returned (.tuple #[.bool (sameE f g), .int .i64 (fTwo f g)])∧Below w.heap.size w w':=by
 obtain⟨fa,fc,rfl⟩:=hf.shape
 obtain⟨ga,gc,rfl⟩:=hg.shape
 have hm: ∀args W,(callFunc 32 args).run Tryd.prog W= .ok (.enter 32 args) W:=fun _ _=>by kernel_rfl
 have HB:=Lib.hid (both_c 32 (fun a b=>a ^^^ b) hm same1_f (fun a b=>xor_lt a b) (fun k n=>inF f k n ^^ inF g k n) _ _ f g (fun h k n _ _=>by rw[Nat.testBit_xor,(tab_bits h).1,(tab_bits h).2.1]) w hf hg)
 clear hm hf hg
 go_enter Tryd.func20,Tryd.ntmps20
 go_wp2_with fail
 (with_reducible refine HB.out.mono ?_)
 rintro e w1 ⟨v,rfl,ho,hb⟩
 clear HB
 by_cases h0:fTwo f g=0
 ·have H:=Lib.hid (show sameE f g=allPt (fun k n=> !(inF f k n ^^ inF g k n))∧fTwo f g=0 by simp only[sameE,if_pos h0];exact ⟨trivial,h0⟩)
  rw[h0] at ho ⊢
  obtain⟨a,n,c,hv,he⟩:=ho.empty
  subst hv
  have HE:=Lib.hid he
  clear ho he h0
  go_wp2
  go_ret2
  exact⟨ret_be (by rw[H.out.1];exact HE.out) H.out.2.symm,hb⟩
 ·have H:=Lib.hid (show sameE f g=false by simp only[sameE,if_neg h0])
  have h':(fTwo f g==0)=false:=by simpa using h0
  clear h0 ho
  go_wp2
  go_ret2
  exact⟨ret_be H.out.symm rfl,hb⟩
end Go.Proofs.YtdljflabokhedaaDoor
namespace Go.Proofs.YtdljflabokhedaaDoor
open Go.RowKit
def FV (w:World) (v:Value) (p:Nat→Nat→Bool):Prop:= ∃l,BxsAt w v l∧fChk l=0∧ ∀k n:Nat,k < 16→n < 32→inF l k n=p k n
theorem FV.below {w w':World} {v:Value} {p:Nat→Nat→Bool} (h:FV w v p) (hb:Below w.heap.size w w'):FV w' v p:=by
 obtain⟨l,h1,h2,h3⟩:=h;exact ⟨l,h1.below hb,h2,h3⟩
theorem FV.shape {w:World} {v:Value} {p:Nat→Nat→Bool} (h:FV w v p): ∃a n c,v= .slice a n c:=by
 obtain⟨l,h1, -⟩:=h;obtain ⟨a,c,hv⟩:=h1.shape;exact ⟨a,_,c,hv⟩
theorem FGood.chk {l:Bxs} {p:Nat→Nat→Bool} (h:FGood l p):fChk l=0:=fChk_zero.2 ⟨by have:=h.len;omega,h.ok⟩
set_option maxRecDepth 100000 in
set_option maxHeartbeats 400000 in
theorem same_c (va vb:Value) (f g:Bxs) (w:World) (hf:BxsAt w va f) (hg:BxsAt w vb g):
  Calls Tryd.prog 10 #[va,vb] w fun e w'=>e= .returned (.bool (sameE f g))∧Below w.heap.size w w':=by
 obtain⟨fa,fc,rfl⟩:=hf.shape
 obtain⟨ga,gc,rfl⟩:=hg.shape
 have HB:=Lib.hid (samef_c _ _ f g w hf hg)
 clear hf hg
 go_enter Tryd.func10,Tryd.ntmps10
 go_wp2_with fail
 (with_reducible refine HB.out.mono ?_)
 rintro e w1 ⟨rfl,hb⟩
 clear HB
 by_cases h0:fTwo f g=0
 ·rw[h0]
  clear h0
  go_wp2
  go_ret
  exact⟨rfl,hb⟩
 ·have H:=Lib.hid (show sameE f g=false by simp only[sameE,if_neg h0])
  have h':(fTwo f g==0)=false:=by simpa using h0
  clear h0
  go_wp2
  go_ret
  exact⟨ret_bool H.out.symm,hb⟩
set_option maxRecDepth 100000 in
theorem sameF (va vb:Value) (p q:Nat→Nat→Bool) (w:World) (ha:FV w va p) (hb:FV w vb q):
  Calls Tryd.prog 10 #[va,vb] w fun e w'=>e= .returned (.bool (allPt fun k n=>p k n==q k n))∧Below w.heap.size w w':=by
 obtain⟨f,f1,f2,f3⟩:=ha;obtain ⟨g,g1,g2,g3⟩:=hb
 have h0:fTwo f g=0:=by simp[fTwo,f2,g2]
 refine(same_c va vb f g w f1 g1).mono ?_
 rintro e w' ⟨rfl,hb⟩
 exact⟨ret_bool (by simp only[sameE,if_pos h0];exact allPt_congr fun k n hk hn=>by rw[f3 k n hk hn,g3 k n hk hn];cases p k n <;> cases q k n <;> rfl),hb⟩
set_option maxRecDepth 100000 in
theorem sameT (va vb:Value) (p q:Nat→Nat→Bool) (w:World) (ha:FV w va p) (hb:FV w vb q) (h: ∀k n,p k n=q k n):
  Calls Tryd.prog 10 #[va,vb] w fun e w'=>e= .returned (.bool true)∧Below w.heap.size w w':=by
 refine(sameF va vb p q w ha hb).mono ?_
 rintro e w' ⟨rfl,hb⟩
 exact⟨ret_bool (allPt_iff _ |>.2 fun k n _ _=>by rw[h k n];simp),hb⟩
end Go.Proofs.YtdljflabokhedaaDoor
namespace Go.Proofs.YtdljflabokhedaaDoor
open Go.RowKit
set_option maxRecDepth 100000 in
set_option maxHeartbeats 400000 in
theorem SpanClone_c (v:Value) (n:Nat) (xs:List Value) (w:World) (hs:CellsAt w v n xs) (hl:xs.length=n*2) (h1: ∀u∈xs,u.oneCell'=true) (hb:n*16≤140737488355328):
  Calls Tryd.prog 28 #[v] w fun e w'=> ∃v',e= .returned v'∧w'.ownsRow w.heap.size 54 2 v' n xs∧Below w.heap.size w w':=by
 obtain⟨i0,hi,hz0,hz1,hz2⟩:=info_parts SpanTy.info
 have hs0:=hs
 obtain⟨a,cap,rfl,hn,hm,h0,hc⟩:=hs
 cases a with
 | none=>
  obtain rfl:=h0 rfl
  obtain rfl:n=0:=by omega
  obtain rfl:xs=[]:=List.eq_nil_of_length_eq_zero (by simpa using hl)
  clear hc hs0 h0 hn hm hl
  have heq:=Lib.run_eql_slice_nil (P:=Tryd.prog) w 50 54 none 0 0 0 0 Tryd.underlying50
  go_enter Tryd.func28,Tryd.ntmps28
  go_wp2
  go_ret
  exact⟨_,rfl,World.ownsRow_nil _ _ _ _,Below.refl _ _⟩
 | some ad=>
  have HS:=Lib.hid (hs0.below (bal (.cells #[] 54)))
  have HO:=Lib.hid (litOwn w w.heap.size 2 54 #[] 0 _ rfl (Nat.le_refl _) (by decide) rfl)
  have HL:=Lib.hid hl
  clear hc hs0 h0 hl
  have heq:=Lib.run_eql_slice_nil (P:=Tryd.prog) w 50 54 (some ad) n cap 0 0 Tryd.underlying50
  go_enter Tryd.func28,Tryd.ntmps28
  go_wp2_with (at_builtin;refine wpList_append_cells (w0:=w) rfl (.tmp 5) (.tmp 6) 50 rfl w.heap.size 54 (.agg #[.int .i64 0, .int .i64 0]) 2 16 Tryd.underlying50 SpanTy.info rfl (by decide) _ 0 [] rfl HO.out _ n xs rfl HS.out HL.out h1 (bal _) (by simp) (by unfold maxLen;omega) (by omega) ?_)
  intro v' w1 hown hb1
  go_wp2
  go_ret
  exact⟨_,rfl,by simpa using hown,hb1⟩
end Go.Proofs.YtdljflabokhedaaDoor
namespace Go.Proofs.YtdljflabokhedaaDoor
open Go.RowKit
set_option maxRecDepth 100000 in
set_option maxHeartbeats 2000000 in
theorem copied_c (v:Value) (l:Bxs) (w:World) (hs:BxsAt w v l) (hc:fChk l=0):
  Calls Tryd.prog 17 #[v] w fun e w'=> ∃v',e= .returned v'∧BxsOwn w' w.heap.size 52 54 v' l∧Below w.heap.size w w':=by
 obtain⟨a,cap,rfl,hcap,hm, -,hl⟩:=hs.open_
 obtain⟨hlen,hok⟩:=fChk_zero.1 hc
 clear hs hc
 go_enter Tryd.func17,Tryd.ntmps17
 go_wp2
 go_loopw [3,8] (fun vo i wr=> ∃k:Nat,k≤l.length∧i= .int .i64 k∧BxsOwn wr w.heap.size 52 54 vo (l.take k)∧Below w.heap.size w wr) (fun _ i _=>l.length - (intOf i).toNat)
 case atStart=>exact ⟨0,Nat.zero_le _,rfl,BxsOwn.nil _ _ _ _,Below.refl _ _⟩
 case round=>
  obtain⟨k,hk,rfl,hown,hbl⟩:=hrel
  by_cases hlt:k < l.length
  ·rcases hl with rfl | ⟨b,off,rfl,hb,hcc⟩
   ·simp at hlt
   obtain⟨u,d1,d2,d3,hsp⟩:=hcc k hlt
   replace d1:=(hbl.cell (p:=⟨b,off+k*3,none⟩) hb).trans d1
   replace d2:=(hbl.cell (p:=⟨b,off+k*3+1,none⟩) hb).trans d2
   replace d3:=(hbl.cell (p:=⟨b,off+k*3+2,none⟩) hb).trans d3
   replace hsp:=hsp.below hbl
   have hsl:=(spansChk_bounds (bxChk_zero.1 (hok _ (List.getElem_mem hlt))).2).1
   have HTK:=Lib.hid (List.take_succ_eq_append_getElem hlt)
   clear hcc
   generalize hx:l[k]=bx at*
   obtain⟨y,n,sp⟩:=bx
   simp only at d1 d2 d3 hsp hsl
   clear hx
   have hcl:CellsAt (wr.alloc (.cells #[.int .i64 y, .int .i64 n,u] 52)) u sp.length (spansCells sp):=hsp.below (bal _)
   have HCL:=Lib.hid hcl
   obtain⟨ua,uc,rfl⟩:=hsp.shape
   have HO:=Lib.hid hown
   clear hsp hcl hown
   go_wp2_with fail
   (with_reducible refine(SpanClone_c _ sp.length (spansCells sp) _ HCL.out (spansCells_length sp) (spansCells_one sp) (by omega)).mono ?_)
   rintro e w1 ⟨v1,rfl,ho1,hb1⟩
   have hz1:wr.heap.size < w1.heap.size:=by have:=hb1.size;simp at this;omega
   have c0:=ckeep hb1 (cat wr #[.int .i64 y, .int .i64 n, .slice ua sp.length uc] 52 0 _ rfl _ rfl)
   have c1:=ckeep hb1 (cat wr #[.int .i64 y, .int .i64 n, .slice ua sp.length uc] 52 1 _ rfl _ rfl)
   have c2:=ckeep hb1 (cat wr #[.int .i64 y, .int .i64 n, .slice ua sp.length uc] 52 2 _ rfl _ rfl)
   have f2:=fkeep hb1 (cat wr #[.int .i64 y, .int .i64 n, .slice ua sp.length uc] 52 2 _ rfl _ rfl) (fat _ _ _ 2 _ rfl)
   obtain⟨ra,rc,hv⟩:=owns_slice ho1
   subst hv
   rw[World.size_alloc] at ho1
   have HO1:=Lib.hid ho1
   have hbw:Below wr.heap.size wr w1:=ba1 hb1
   have HBW:=Lib.hid hbw
   clear ho1 hb1 hbw HCL
   obtain⟨us,o1,o2,o3⟩:=HO.out
   have hk2:(l.take k).length=k:=by simp;omega
   have hB2:Below wr.heap.size wr ((w1.setCell ⟨wr.heap.size,2,none⟩ (.slice ra sp.length rc)).alloc (.cells #[.int .i64 y, .int .i64 n, .slice ra sp.length rc] 52)):=
    (HBW.out.setCell (p:=⟨wr.heap.size,2,none⟩) (Nat.le_refl _) _).alloc (by simp;omega) _
   have O1:=Lib.hid o1
   have O2:=Lib.hid (owns_below o2 hB2)
   have O3:=Lib.hid (fun i hi hi'=>owns_below (o3 i hi hi') hB2)
   have U:=Lib.hid ((own_low (j:=2) (u:= .slice ra sp.length rc) HO1.out (Nat.lt_succ_self _)).alloc (.cells #[.int .i64 y, .int .i64 n, .slice ra sp.length rc] 52))
   have ROW:=Lib.hid (CellsAt.mk (w:=(w1.setCell ⟨wr.heap.size,2,none⟩ (.slice ra sp.length rc)).alloc (.cells #[.int .i64 y, .int .i64 n, .slice ra sp.length rc] 52)) (b:=w1.heap.size) (off:=0) (n:=1) (cap:=1) (xs:=[.int .i64 y, .int .i64 n, .slice ra sp.length rc]) (Nat.le_refl _) (by decide) (by simp) (fun j x hj=>by
    rw[Nat.zero_add,World.cell?_alloc_at _ _ _ _ (by simp)];simpa using hj))
   have HB2:=Lib.hid hB2
   have hws:=hbl.size
   have HK2:=Lib.hid hk2
   obtain⟨za,zc,hz⟩:=owns_slice o2
   rw[hk2] at hz
   subst hz
   clear o1 o2 o3 hB2 HO hk2
   go_wp2_with (at_builtin;refine wpList_append_cells2 rfl (.tmp 16) (.tmp 18) 27 rfl w.heap.size 52 _ 3 40 Tryd.underlying27 BoxTy.info rfl (by decide) _ (l.take k).length _ rfl O2.out _ 1 _ rfl ROW.out rfl (by intro z hz;simp at hz;rcases hz with rfl | rfl | rfl <;> rfl) (by have:=HB2.out.size;omega) (by rw[HK2.out];unfold maxLen;omega) (by rw[HK2.out];omega) ?_)
   intro v9 w9 ho hgr
   have HN:=Lib.hid (BxsOwn.push (b:=⟨y,n,sp⟩) (by decide) O1.out O2.out O3.out (owns_mono U.out (by omega)) (by rw[HK2.out];exact ho) hgr)
   have HG:=Lib.hid hgr
   obtain⟨qa,qc,hq⟩:=owns_slice ho
   subst hq
   clear ho hgr
   go_wp2
   go_roundw
   case rel=>
    refine⟨k+1,by omega,by go_num, ?_,(hbl.trans (HB2.out.mono hws)).grown HG.out (by have:=HB2.out.size;omega) (fun q hq=>(O2.out.lt q hq).1)⟩
    rw[HTK.out];exact HN.out
   case measure=>first | (simp[intOf];done) | (simp[intOf];omega)
  ·obtain rfl:k=l.length:=by omega
   rw[List.take_length] at hown
   obtain⟨va,vc,hv⟩:=hown.shape
   subst hv
   have HO:=Lib.hid hown
   clear hown
   go_wp2
   go_ret
   exact⟨_,rfl,HO.out,hbl⟩
end Go.Proofs.YtdljflabokhedaaDoor
