/- What filter.Join, Meet, Less, Same, Within, Count, In, Has, Every do. What filter.Count, Every, In, Has do; the laws' helpers. What filter.In and filter.Has do. What slices.Clone does at []reedmace/api.Span. Written by a small program (gen/clone.py). What filter.Copied does. -/
import Derived.Test.YtgkgdedhicnohaaGreatMFilter1
namespace Go.Proofs.YtgkgdedhicnohaaGreat
set_option maxRecDepth 100000
set_option maxHeartbeats 40000000
open Go.RowKit
theorem fTwo_zero {f g:Bxs} (h:fTwo f g=0):fChk f=0∧fChk g=0:=by
 unfold fTwo at h
 by_cases hf:fChk f=0
 ·rw[if_pos hf] at h;exact ⟨hf,h⟩
 ·rw[if_neg hf] at h;exact absurd h hf
theorem tab_bits {f g:Bxs} (h:fTwo f g=0):(∀k n:Nat,(tabN f k).testBit n=inF f k n)∧(∀k n:Nat,(tabN g k).testBit n=inF g k n)∧(∀k,tabN f k < 4294967296)∧ ∀k,tabN g k < 4294967296:=by
 obtain⟨h1,h2⟩:=fTwo_zero h
 have hf:=(fChk_zero.1 h1).2
 have hg:=(fChk_zero.1 h2).2
 exact⟨fun k=>(tabN_good f k hf).2,fun k=>(tabN_good g k hg).2,fun k=>(tabN_good f k hf).1,fun k=>(tabN_good g k hg).1⟩
theorem andNot_bit (a b n:Nat) (hb:b < 4294967296) (hn:n < 32):(a &&& (4294967295 - b)).testBit n=(a.testBit n&& !b.testBit n):=by
 rw[Nat.testBit_and]
 congr 1
 have:4294967295 - b=2^32 - (b+1):=by omega
 rw[this,Nat.testBit_two_pow_sub_succ (by omega)]
 simp[hn]
theorem meetf_c (va vb:Value) (f g:Bxs) (w:World) (hf:BxsAt w va f) (hg:BxsAt w vb g):
  Calls Tryz.prog 129 #[va,vb] w fun e w'=> ∃v,e= .returned (.tuple #[v, .int .i64 (fTwo f g)])∧FOut w.heap.size w' v (fTwo f g) (fun k n=>inF f k n&&inF g k n)∧Below w.heap.size w w':=by
 obtain⟨fa,fc,rfl⟩:=hf.shape
 obtain⟨ga,gc,rfl⟩:=hg.shape
 have hm: ∀args W,(callFunc 167 args).run Tryz.prog W= .ok (.enter 167 args) W:=fun _ _=>by kernel_rfl
 have HB:=jD (both_c 167 (fun a b=>a &&& b) hm meet1_f (fun a b h _=>and_lt a b h) (fun k n=>inF f k n&&inF g k n) _ _ f g (fun h k n _ _=>by rw[Nat.testBit_and,(tab_bits h).1,(tab_bits h).2.1]) w hf hg)
 clear hm hf hg
 go_enter Tryz.func129,Tryz.ntmps129
 go_wp2_with fail
 (with_reducible refine HB.out.mono ?_)
 rintro e w1 ⟨v,rfl,ho,hb⟩
 have HO:=jD ho
 clear ho HB
 go_wp2
 go_ret2
 exact⟨v,rfl,HO.out,hb⟩
theorem lessf_c (va vb:Value) (f g:Bxs) (w:World) (hf:BxsAt w va f) (hg:BxsAt w vb g):
  Calls Tryz.prog 29 #[va,vb] w fun e w'=> ∃v,e= .returned (.tuple #[v, .int .i64 (fTwo f g)])∧FOut w.heap.size w' v (fTwo f g) (fun k n=>inF f k n&& !inF g k n)∧Below w.heap.size w w':=by
 obtain⟨fa,fc,rfl⟩:=hf.shape
 obtain⟨ga,gc,rfl⟩:=hg.shape
 have hm: ∀args W,(callFunc 82 args).run Tryz.prog W= .ok (.enter 82 args) W:=fun _ _=>by kernel_rfl
 have HB:=jD (both_c 82 (fun a b=>a &&& (4294967295 - b)) hm less1_f (fun a b h _=>and_lt a _ h) (fun k n=>inF f k n&& !inF g k n) _ _ f g (fun h k n _ hn=>by rw[andNot_bit _ _ _ ((tab_bits h).2.2.2 k) hn,(tab_bits h).1,(tab_bits h).2.1]) w hf hg)
 clear hm hf hg
 go_enter Tryz.func29,Tryz.ntmps29
 go_wp2_with fail
 (with_reducible refine HB.out.mono ?_)
 rintro e w1 ⟨v,rfl,ho,hb⟩
 have HO:=jD ho
 clear ho HB
 go_wp2
 go_ret2
 exact⟨v,rfl,HO.out,hb⟩
theorem FOut.empty {base:Nat} {w:World} {v:Value} {p:Nat→Nat→Bool} (h:FOut base w v 0 p): ∃a l cap,v= .slice a l cap∧((l:Int)==0)=allPt (fun k n=> !p k n):=by
 obtain⟨l,hl,hg⟩:=h.1 rfl
 obtain⟨a,c,hv⟩:=hl.shape
 refine⟨a,_,c,hv, ?_⟩
 rw[Bool.eq_iff_iff,beq_iff_eq,allPt_iff]
 have e:((l.length:Int)=0)↔l=[]:=by rw[←List.length_eq_zero_iff];omega
 rw[e,hg.nil]
 exact⟨fun h t n ht hn=>by rw[h t n ht hn];rfl,fun h t n ht hn=>by have:=h t n ht hn;simpa using this⟩
def sameE (f g:Bxs):Bool:=if fTwo f g=0 then allPt (fun k n=> !(inF f k n ^^ inF g k n)) else false
def withinE (f g:Bxs):Bool:=if fTwo f g=0 then allPt (fun k n=> !(inF f k n&& !inF g k n)) else false
theorem samef_c (va vb:Value) (f g:Bxs) (w:World) (hf:BxsAt w va f) (hg:BxsAt w vb g):
  Calls Tryz.prog 105 #[va,vb] w fun e w'=>e= .returned (.tuple #[.bool (sameE f g), .int .i64 (fTwo f g)])∧Below w.heap.size w w':=by
 obtain⟨fa,fc,rfl⟩:=hf.shape
 obtain⟨ga,gc,rfl⟩:=hg.shape
 have hm: ∀args W,(callFunc 152 args).run Tryz.prog W= .ok (.enter 152 args) W:=fun _ _=>by kernel_rfl
 have HB:=jD (both_c 152 (fun a b=>a ^^^ b) hm same1_f (fun a b=>xor_lt a b) (fun k n=>inF f k n ^^ inF g k n) _ _ f g (fun h k n _ _=>by rw[Nat.testBit_xor,(tab_bits h).1,(tab_bits h).2.1]) w hf hg)
 clear hm hf hg
 go_enter Tryz.func105,Tryz.ntmps105
 go_wp2_with fail
 (with_reducible refine HB.out.mono ?_)
 rintro e w1 ⟨v,rfl,ho,hb⟩
 clear HB
 by_cases h0:fTwo f g=0
 ·have H:=jD (show sameE f g=allPt (fun k n=> !(inF f k n ^^ inF g k n))∧fTwo f g=0 by simp only[sameE,if_pos h0];exact ⟨trivial,h0⟩)
  rw[h0] at ho ⊢
  obtain⟨a,n,c,hv,he⟩:=ho.empty
  subst hv
  have HE:=jD he
  clear ho he h0
  go_wp2
  go_ret2
  exact⟨ret_be (by rw[H.out.1];exact HE.out) H.out.2.symm,hb⟩
 ·have H:=jD (show sameE f g=false by simp only[sameE,if_neg h0])
  have h':(fTwo f g==0)=false:=by simpa using h0
  clear h0 ho
  go_wp2
  go_ret2
  exact⟨ret_be H.out.symm rfl,hb⟩
theorem withinf_c (va vb:Value) (f g:Bxs) (w:World) (hf:BxsAt w va f) (hg:BxsAt w vb g):
  Calls Tryz.prog 181 #[va,vb] w fun e w'=>e= .returned (.tuple #[.bool (withinE f g), .int .i64 (fTwo f g)])∧Below w.heap.size w w':=by
 obtain⟨fa,fc,rfl⟩:=hf.shape
 obtain⟨ga,gc,rfl⟩:=hg.shape
 have HB:=jD (lessf_c _ _ f g w hf hg)
 clear hf hg
 go_enter Tryz.func181,Tryz.ntmps181
 go_wp2_with fail
 (with_reducible refine HB.out.mono ?_)
 rintro e w1 ⟨v,rfl,ho,hb⟩
 clear HB
 by_cases h0:fTwo f g=0
 ·have H:=jD (show withinE f g=allPt (fun k n=> !(inF f k n&& !inF g k n))∧fTwo f g=0 by simp only[withinE,if_pos h0];exact ⟨trivial,h0⟩)
  rw[h0] at ho ⊢
  obtain⟨a,n,c,hv,he⟩:=ho.empty
  subst hv
  have HE:=jD he
  clear ho he h0
  go_wp2
  go_ret2
  exact⟨ret_be (by rw[H.out.1];exact HE.out) H.out.2.symm,hb⟩
 ·have H:=jD (show withinE f g=false by simp only[withinE,if_neg h0])
  have h':(fTwo f g==0)=false:=by simpa using h0
  clear h0 ho
  go_wp2
  go_ret2
  exact⟨ret_be H.out.symm rfl,hb⟩
theorem index_tab (q:Nat→Nat) (j:Nat) (hj:j < 16) (W:World):(Instr.index 182 (.agg (tabC q)) (.int .i64 (j:Int))).run Tryz.prog W= .ok (.int .u32 (q j:Nat)) W:=by
 have hu:=Tryz.underlying182
 have hi:(Tryz.prog.info? 150).map (·.size)=some 1:=by kernel_rfl
 have hg:(tabC q)[j]? =some (.int .u32 (q j:Nat)):=tabC_get q j hj
 have hsz:=tabC_size q
 have hag: ∀W,(isAgg 150).run Tryz.prog W= .ok false W:=fun W=>by kernel_rfl
 obtain⟨i,hi2,hs⟩: ∃i,Tryz.prog.info? 150=some i∧i.size=1:=by
  cases h:Tryz.prog.info? 150 with
  | none=>rw [h] at hi;simp at hi
  | some i=>rw [h] at hi;exact ⟨i,rfl,by simpa using hi⟩
 simp only[Instr.index,asIntOf,run_underlying hu,Sem.run_bind,Sem.run_pure,Result.andThen_ok]
 rw[if_pos (by omega)]
 simp[part,sizeOf,typeInfo,hi2,hs,hag,hsz,Int.toNat_natCast,hj]
 exact(Array.getElem?_eq_some_iff.1 hg).2
def cntE (f:Bxs):Int:=if fChk f=0 then cntF (inF f · ·) else 0
theorem u32_pred (x:Nat) (h:0 < x) (h2:x < 4294967296):bits .and .u32 (x:Int) ((x:Int) - 1)=((x &&& (x - 1):Nat):Int):=by
 rw[show((x:Int) - 1)=((x - 1:Nat):Int) by omega]
 exact u32_and_nat x (x - 1) h2 (by omega)
theorem countf_c (v:Value) (f:Bxs) (w:World) (hf:BxsAt w v f):
  Calls Tryz.prog 62 #[v] w fun e w'=>e= .returned (.tuple #[.int .i64 (cntE f), .int .i64 (fChk f)])∧Below w.heap.size w w':=by
 obtain⟨fa,fc,rfl⟩:=hf.shape
 go_enter Tryz.func62,Tryz.ntmps62
 go_wp2_with fail
 (with_reducible refine(fChk_c _ f _ hf).mono ?_)
 rintro e w1 ⟨rfl,hb⟩
 replace hf:=hf.below hb
 have hbel:=hb
 clear hb
 cases hx:(fChk f==0)
 ·have H:=jD (show cntE f=0 by simp at hx;simp [cntE,hx])
  have h':(fChk f != 0)=true:=by simp[bne,hx]
  clear hx hf
  go_wp2
  go_ret2
  exact⟨ret_ie H.out.symm rfl,hbel⟩
 have h0:fChk f=0:=by simpa using hx
 have hfo:=(fChk_zero.1 h0).2
 have HF:=jD (show cntE f=cntF (fun k n=>(tabN f k).testBit n)∧fChk f=0 by
  simp only[cntE,if_pos h0];exact ⟨cntF_congr fun t n _ _=>((tabN_good f t hfo).2 n).symm,h0⟩)
 have HT:=jD (fun k=>(tabN_good f k hfo).1)
 rw[h0]
 clear h0 hx
 go_wp2_with fail
 (with_reducible refine(tabled_c _ f _ hf hfo).mono ?_)
 rintro e w2 ⟨rfl,hb⟩
 replace hbel:=bstep hbel hb
 clear hb hf hfo
 generalize tabN f=t at*
 have HBD:=jD (cntT_bd (fun k n=>(t k).testBit n))
 go_wp2
 go_loop [5,15] (fun nn i=> ∃j:Nat,j≤16∧i= .int .i64 j∧nn= .int .i64 (cntT (fun k n=>(t k).testBit n) j)) (fun _ i=>16 - (intOf i).toNat)
 case atStart=>exact ⟨0,by omega,rfl,rfl⟩
 case round=>
  obtain⟨j,hj,rfl,rfl⟩:=hrel
  by_cases hjl:j < 16
  ·have hdj:decide ((j:Int) < 16)=true:=by simp only[decide_eq_true_eq];omega
   have hidx:=index_tab t j hjl w2
   have HSUC:=jD (show cntT (fun k n=>(t k).testBit n) (j+1)=cntT (fun k n=>(t k).testBit n) j+cnt (fun n=>(t j).testBit n) 32 from rfl)
   have hbd0:=HBD.out j
   have hbd1:=cnt_bd (fun n=>(t j).testBit n) 32
   have HTJ:=jD (HT.out j)
   generalize cntT (fun k n=>(t k).testBit n) j=c0 at*
   obtain⟨hc0,hc1⟩:=hbd0
   obtain⟨hd0,hd1⟩:=hbd1
   go_wp2
   have HS0:=jD (rfl:cnt (fun n=>(t j).testBit n) 32=cnt (fun n=>(t j).testBit n) 32)
   clear hidx
   go_loop [5,7] (fun nn y=> ∃(x:Nat) (c:Int),y= .int .u32 x∧x < 4294967296∧0≤c∧c≤32∧nn= .int .i64 (c0+c)∧c+cnt (fun n=>x.testBit n) 32=cnt (fun n=>(t j).testBit n) 32) (fun _ y=>(intOf y).toNat)
   case atStart=>exact ⟨t j,0,rfl,HTJ.out,by omega,by omega,by simp,by simp⟩
   case round=>
    obtain⟨x,c,rfl,hx,hcc0,hcc1,rfl,hsum⟩:=hrel
    have HSUM:=jD hsum
    clear hsum
    by_cases hz:x=0
    ·subst hz
     have hcz:c=cnt (fun n=>(t j).testBit n) 32:=by
      have:=HSUM.out
      rw[show cnt (fun n=>Nat.testBit 0 n) 32=0 from by
       have:(fun n=>Nat.testBit 0 n)=fun _=>false:=by funext n;simp
       rw[this];exact cnt_false 32] at this
      omega
     have HCZ:=jD hcz
     clear hcz
     go_wp2
     go_round
     case rel=>exact ⟨j+1,by omega,by go_num,by rw[HSUC.out,HCZ.out]⟩
     case measure=>first | (simp[intOf];done) | (simp[intOf];omega)
    ·have hp:0 < x:=by omega
     have hne:((x:Int) != 0)=true:=by rw[bne_iff_ne];omega
     have hcl:=cnt_clear 32 x hp hx
     have hcb:=cnt_bd (fun n=>(x &&& (x - 1)).testBit n) 32
     have hle:c+1≤32:=by have:=HSUM.out;omega
     have hlt:=and_pred_lt x hp
     have HU:=jD (u32_pred x hp hx)
     have HCL:=jD (show(c+1)+cnt (fun n=>(x &&& (x - 1)).testBit n) 32=cnt (fun n=>(t j).testBit n) 32 by have:=HSUM.out;omega)
     clear hcl hcb
     go_wp2
     go_round
     case rel=>exact ⟨x &&& (x - 1),c+1,by rw[HU.out],by omega,by omega,hle,by rw[Int.add_assoc],HCL.out⟩
     case measure=>simp only[intOf];rw [HU.out];omega
  ·obtain rfl:j=16:=by omega
   go_wp2
   go_ret2
   exact⟨ret_ie HF.out.1.symm HF.out.2.symm,hbel⟩
theorem FGood.chk {l:Bxs} {p:Nat→Nat→Bool} (h:FGood l p):fChk l=0:=fChk_zero.2 ⟨by have:=h.len;omega,h.ok⟩
theorem same_c (va vb:Value) (f g:Bxs) (w:World) (hf:BxsAt w va f) (hg:BxsAt w vb g):
  Calls Tryz.prog 57 #[va,vb] w fun e w'=>e= .returned (.bool (sameE f g))∧Below w.heap.size w w':=by
 obtain⟨fa,fc,rfl⟩:=hf.shape
 obtain⟨ga,gc,rfl⟩:=hg.shape
 have HB:=jD (samef_c _ _ f g w hf hg)
 clear hf hg
 go_enter Tryz.func57,Tryz.ntmps57
 go_wp2_with fail
 (with_reducible refine HB.out.mono ?_)
 rintro e w1 ⟨rfl,hb⟩
 clear HB
 by_cases h0:fTwo f g=0
 ·rw[h0]
  clear h0
  go_wp2
  go_ret
  exact⟨rfl,hb⟩
 ·have H:=jD (show sameE f g=false by simp only[sameE,if_neg h0])
  have h':(fTwo f g==0)=false:=by simpa using h0
  clear h0
  go_wp2
  go_ret
  exact⟨ret_bool H.out.symm,hb⟩
theorem in1_c (y n:Int) (sp:Spans) (u:Value) (P:Nat) (t m:Int) (W:World) (hs:SpansAt W u sp) (h0:W.cell? ⟨P,0,none⟩=some (.int .i64 t)) (h1:W.cell? ⟨P,1,none⟩=some (.int .i64 m)):
  Calls Tryz.prog 122 #[.agg #[.int .i64 y, .int .i64 n,u], .pointer (some ⟨P,0,none⟩)] W fun e w'=>e= .returned (.bool (cubeIn y n t&&inB sp m))∧Below W.heap.size W w':=by
 obtain⟨ua,uc,rfl⟩:=hs.shape
 have hlt:=blt h0
 have HC:=jD (fun (w1:World) (h:Below (W.alloc (.cells #[.int .i64 y, .int .i64 n, .slice ua sp.length uc] 124)).heap.size (W.alloc (.cells #[.int .i64 y, .int .i64 n, .slice ua sp.length uc] 124)) w1)=>
    (show w1.cell? ⟨W.heap.size,2,none⟩=some (.slice ua sp.length uc)∧Below W.heap.size W w1∧SpansAt w1 (.slice ua sp.length uc) sp∧w1.cell? ⟨P,1,none⟩=some (.int .i64 m) from
     ⟨ckeep h (cat _ _ _ 2 _ rfl _ rfl),ba1 h,hs.below (ba1 h),ckeep (ba1 h) h1⟩))
 clear hs
 go_enter Tryz.func122,Tryz.ntmps122
 go_wp2_with fail
 (with_reducible refine(cubeIn_c _ _ _ _).mono ?_)
 rintro e w1 ⟨rfl,hb⟩
 obtain⟨c2,hbel,hs1,cm⟩:=HC.out _ hb
 clear HC hb h0 h1
 cases hc:cubeIn y n t
 ·have H:=jD hc
  clear hc hs1
  go_wp2
  go_ret
  exact⟨ret_bool (by rw[H.out];rfl),hbel⟩
 ·have H:=jD hc
  clear hc
  go_wp2_with fail
  (with_reducible refine(in_c _ sp m _ hs1).mono ?_)
  rintro e w2 ⟨rfl,hb⟩
  clear c2 hs1 cm
  go_wp2
  go_ret
  exact⟨ret_bool (by rw[H.out];simp),bstep hbel hb⟩
def BxPred (g:FuncId) (caps:Array Value) (q:Bx→Bool) (w:World):Prop:=
 (∀args W,(callFunc g args).run Tryz.prog W= .ok (.enter g args) W)∧ ∀(b:Bx) (u:Value) (W:World),SpansAt W u b.sp→Below w.heap.size w W→Calls Tryz.prog g (#[.agg #[.int .i64 b.y, .int .i64 b.n,u]]++caps) W fun e w'=>e= .returned (.bool (q b))∧Below W.heap.size W w'
def bxIdx (l:Bxs) (q:Bx→Bool):Int:=match l.findIdx? q with | some i=>i | none=> -1
theorem bxIdx_hit (l:Bxs) (q:Bx→Bool) (k:Nat) (hk:k < l.length) (hno: ∀j (h:j < k),q (l[j]'(by omega))=false) (h:q l[k]=true):bxIdx l q=k:=by
 unfold bxIdx
 rw[List.findIdx?_eq_some_iff_getElem.2 ⟨hk,h,fun j hj=>by simp[hno j hj]⟩]
theorem bxIdx_miss (l:Bxs) (q:Bx→Bool) (hno: ∀j (h:j < l.length),q l[j]=false):bxIdx l q= -1:=by
 unfold bxIdx
 rw[List.findIdx?_eq_none_iff.2 fun x hx=>by
  obtain⟨j,hj,rfl⟩:=List.getElem_of_mem hx
  exact hno j hj]
theorem bxIdx_any (l:Bxs) (q:Bx→Bool):decide (0≤bxIdx l q)=l.any q:=by
 unfold bxIdx
 cases h:l.findIdx? q with
 | none=>
  rw[List.findIdx?_eq_none_iff] at h
  have:l.any q=false:=by rw[List.any_eq_false];intro x hx;simp [h x hx]
  rw[this];decide
 | some i=>
  obtain⟨hi,hq, -⟩:=List.findIdx?_eq_some_iff_getElem.1 h
  have:l.any q=true:=List.any_eq_true.2 ⟨_,List.getElem_mem hi,hq⟩
  rw[this];simp
theorem bxIndex_c (g:FuncId) (caps:Array Value) (q:Bx→Bool) (v:Value) (l:Bxs) (w:World) (hs:BxsAt w v l) (hg:BxPred g caps q w):
  Calls Tryz.prog 164 #[v, .func (.func g) #[] caps] w fun e w'=>e= .returned (.int .i64 (bxIdx l q))∧Below w.heap.size w w':=by
 obtain⟨a,cap,rfl,hcap,hm, -,hl⟩:=hs.open_
 clear hs
 obtain⟨hcall,hg⟩:=hg
 have HG:=jD hg
 clear hg
 go_enter Tryz.func164,Tryz.ntmps164
 go_wp2
 go_loopw [8] (fun i wr=> ∃k:Nat,k≤l.length∧i= .int .i64 k∧(∀j (h:j < k) (h':j < l.length),q l[j]=false)∧Below w.heap.size w wr) (fun i _=>l.length - (intOf i).toNat)
 case atStart=>exact ⟨0,Nat.zero_le _,rfl,fun j h=>by omega,Below.refl _ _⟩
 case round=>
  obtain⟨k,hk,rfl,hno,hbl⟩:=hrel
  have HN:=jD hno
  clear hno
  by_cases hlt:k < l.length
  ·rcases hl with rfl | ⟨b,off,rfl,hb,hc⟩
   ·simp at hlt
   obtain⟨u,d1,d2,d3,hsp⟩:=hc k hlt
   replace d1:=(hbl.cell (p:=⟨b,off+k*3,none⟩) hb).trans d1
   replace d2:=(hbl.cell (p:=⟨b,off+k*3+1,none⟩) hb).trans d2
   replace d3:=(hbl.cell (p:=⟨b,off+k*3+2,none⟩) hb).trans d3
   replace hsp:=hsp.below hbl
   have HH:=jD (fun h=>bxIdx_hit l q k hlt (fun j hj=>HN.out j hj (by omega)) h)
   have HNX:=jD (fun (h:q l[k]=false)=>show ∀j (h:j < k+1) (h':j < l.length),q l[j]=false from fun j hj hj'=>by
    by_cases e:j=k
    ·subst e;exact h
    ·exact HN.out j (by omega) hj')
   clear hc
   generalize hx:l[k]=bx at*
   clear hx
   have hdk:decide ((k:Int) < (l.length:Int))=true:=by simp only[decide_eq_true_eq];omega
   go_wp2_with fail
   refine(HG.out bx u _ hsp hbl).mono ?_
   rintro e w1 ⟨rfl,hb1⟩
   replace hbl:=bstep hbl hb1
   clear hb1 d1 d2 d3 hsp
   cases hq:q bx
   ·have H:=jD (HNX.out hq)
    clear hq HH
    go_wp2
    go_roundw
    case rel=>exact ⟨k+1,by omega,by go_num,H.out,hbl⟩
    case measure=>first | (simp[intOf];done) | (simp[intOf];omega)
   ·have H:=jD (HH.out hq)
    clear hq HH
    go_wp2
    go_ret
    exact⟨ret_int H.out.symm,hbl⟩
  ·obtain rfl:k=l.length:=by omega
   go_wp2
   go_ret
   exact⟨ret_int (bxIdx_miss l q fun j h=>HN.out j h h).symm,hbl⟩
theorem bxContains_c (g:FuncId) (caps:Array Value) (q:Bx→Bool) (v:Value) (l:Bxs) (w:World) (hs:BxsAt w v l) (hg:BxPred g caps q w):
  Calls Tryz.prog 121 #[v, .func (.func g) #[] caps] w fun e w'=>e= .returned (.bool (l.any q))∧Below w.heap.size w w':=by
 have HI:=jD (bxIndex_c g caps q v l w hs hg)
 have HA:=jD (bxIdx_any l q)
 clear hs hg
 go_enter Tryz.func121,Tryz.ntmps121
 go_wp2_with fail
 (with_reducible refine HI.out.mono ?_)
 rintro e w1 ⟨rfl,hb⟩
 generalize bxIdx l q=x at*
 clear HI
 go_wp2
 go_ret
 exact⟨ret_bool HA.out,hb⟩
theorem inf_c (v:Value) (l:Bxs) (t n:Int) (w:World) (hs:BxsAt w v l):
  Calls Tryz.prog 69 #[v, .agg #[.int .i64 t, .int .i64 n]] w fun e w'=>e= .returned (.bool (inF l t n))∧Below w.heap.size w w':=by
 obtain⟨a,cap,rfl⟩:=hs.shape
 have hm: ∀args W,(callFunc 122 args).run Tryz.prog W= .ok (.enter 122 args) W:=fun _ _=>by kernel_rfl
 have hp:BxPred 122 #[.pointer (some ⟨w.heap.size,0,none⟩)] (fun b=>cubeIn b.y b.n t&&inB b.sp n) (w.alloc (.cells #[.int .i64 t, .int .i64 n] 39)):=
  ⟨hm,fun b u W hsp hW=>in1_c b.y b.n b.sp u _ t n W hsp (ckeep hW (cat _ _ _ 0 _ rfl _ rfl)) (ckeep hW (cat _ _ _ 1 _ rfl _ rfl))⟩
 have HB:=jD (bxContains_c _ _ _ _ l _ (hs.below (bal _)) hp)
 clear hm hp hs
 go_enter Tryz.func69,Tryz.ntmps69
 go_wp2_with fail
 (with_reducible refine HB.out.mono ?_)
 rintro e w1 ⟨rfl,hb⟩
 clear HB
 go_wp2
 go_ret
 exact⟨rfl,ba1 hb⟩
theorem SpanClone_c (v:Value) (n:Nat) (xs:List Value) (w:World) (hs:CellsAt w v n xs) (hl:xs.length=n*2) (h1: ∀u∈xs,u.oneCell'=true) (hb:n*16≤140737488355328):
  Calls Tryz.prog 132 #[v] w fun e w'=> ∃v',e= .returned v'∧w'.ownsRow w.heap.size 119 2 v' n xs∧Below w.heap.size w w':=by
 obtain⟨i0,hi,hz0,hz1,hz2⟩:=info_parts SpanTy.info
 have hs0:=hs
 obtain⟨a,cap,rfl,hn,hm,h0,hc⟩:=hs
 cases a with
 | none=>
  obtain rfl:=h0 rfl
  obtain rfl:n=0:=by omega
  obtain rfl:xs=[]:=List.eq_nil_of_length_eq_zero (by simpa using hl)
  clear hc hs0 h0 hn hm hl
  have heq:=Lib.run_eql_slice_nil (P:=Tryz.prog) w 120 119 none 0 0 0 0 Tryz.underlying120
  go_enter Tryz.func132,Tryz.ntmps132
  go_wp2
  go_ret
  exact⟨_,rfl,World.ownsRow_nil _ _ _ _,Below.refl _ _⟩
 | some ad=>
  have HS:=jD (hs0.below (bal (.cells #[] 119)))
  have HO:=jD (litOwn w w.heap.size 2 119 #[] 0 _ rfl (Nat.le_refl _) (by decide) rfl)
  have HL:=jD hl
  clear hc hs0 h0 hl
  have heq:=Lib.run_eql_slice_nil (P:=Tryz.prog) w 120 119 (some ad) n cap 0 0 Tryz.underlying120
  go_enter Tryz.func132,Tryz.ntmps132
  go_wp2_with (at_builtin;refine wpList_append_cells (w0:=w) rfl (.tmp 5) (.tmp 6) 120 rfl w.heap.size 119 (.agg #[.int .i64 0, .int .i64 0]) 2 16 Tryz.underlying120 SpanTy.info rfl (by decide) _ 0 [] rfl HO.out _ n xs rfl HS.out HL.out h1 (bal _) (by simp) (by unfold maxLen;omega) (by omega) ?_)
  intro v' w1 hown hb1
  go_wp2
  go_ret
  exact⟨_,rfl,by simpa using hown,hb1⟩
theorem copied_c (v:Value) (l:Bxs) (w:World) (hs:BxsAt w v l) (hc:fChk l=0):
  Calls Tryz.prog 73 #[v] w fun e w'=> ∃v',e= .returned v'∧BxsOwn w' w.heap.size 124 119 v' l∧Below w.heap.size w w':=by
 obtain⟨a,cap,rfl,hcap,hm, -,hl⟩:=hs.open_
 obtain⟨hlen,hok⟩:=fChk_zero.1 hc
 clear hs hc
 go_enter Tryz.func73,Tryz.ntmps73
 go_wp2
 go_loopw [3,8] (fun vo i wr=> ∃k:Nat,k≤l.length∧i= .int .i64 k∧BxsOwn wr w.heap.size 124 119 vo (l.take k)∧Below w.heap.size w wr) (fun _ i _=>l.length - (intOf i).toNat)
 case atStart=>exact ⟨0,Nat.zero_le _,rfl,BxsOwn.nil _ _ _ _,Below.refl _ _⟩
 case round=>
  obtain⟨k,hk,rfl,hown,hbl⟩:=hrel
  by_cases hlt:k < l.length
  ·rcases hl with rfl | ⟨b,off,rfl,hb,hcc⟩
   ·simp at hlt
   obtain⟨u,d1,d2,d3,hsp⟩:=hcc k hlt
   replace d1:=(hbl.cell (p:=⟨b,off+k*3,none⟩) hb).trans d1
   replace d2:=(hbl.cell (p:=⟨b,off+k*3+1,none⟩) hb).trans d2
   replace d3:=(hbl.cell (p:=⟨b,off+k*3+2,none⟩) hb).trans d3
   replace hsp:=hsp.below hbl
   have hsl:=(spansChk_bounds (bxChk_zero.1 (hok _ (List.getElem_mem hlt))).2).1
   have HTK:=jD (List.take_succ_eq_append_getElem hlt)
   clear hcc
   generalize hx:l[k]=bx at*
   obtain⟨y,n,sp⟩:=bx
   simp only at d1 d2 d3 hsp hsl
   clear hx
   have hcl:CellsAt (wr.alloc (.cells #[.int .i64 y, .int .i64 n,u] 124)) u sp.length (spansCells sp):=hsp.below (bal _)
   have HCL:=jD hcl
   obtain⟨ua,uc,rfl⟩:=hsp.shape
   have HO:=jD hown
   clear hsp hcl hown
   go_wp2_with fail
   (with_reducible refine(SpanClone_c _ sp.length (spansCells sp) _ HCL.out (spansCells_length sp) (spansCells_one sp) (by omega)).mono ?_)
   rintro e w1 ⟨v1,rfl,ho1,hb1⟩
   have hz1:wr.heap.size < w1.heap.size:=by have:=hb1.size;simp at this;omega
   have c0:=ckeep hb1 (cat wr #[.int .i64 y, .int .i64 n, .slice ua sp.length uc] 124 0 _ rfl _ rfl)
   have c1:=ckeep hb1 (cat wr #[.int .i64 y, .int .i64 n, .slice ua sp.length uc] 124 1 _ rfl _ rfl)
   have c2:=ckeep hb1 (cat wr #[.int .i64 y, .int .i64 n, .slice ua sp.length uc] 124 2 _ rfl _ rfl)
   have f2:=fkeep hb1 (cat wr #[.int .i64 y, .int .i64 n, .slice ua sp.length uc] 124 2 _ rfl _ rfl) (fat _ _ _ 2 _ rfl)
   obtain⟨ra,rc,hv⟩:=owns_slice ho1
   subst hv
   rw[World.size_alloc] at ho1
   have HO1:=jD ho1
   have hbw:Below wr.heap.size wr w1:=ba1 hb1
   have HBW:=jD hbw
   clear ho1 hb1 hbw HCL
   obtain⟨us,o1,o2,o3⟩:=HO.out
   have hk2:(l.take k).length=k:=by simp;omega
   have hB2:Below wr.heap.size wr ((w1.setCell ⟨wr.heap.size,2,none⟩ (.slice ra sp.length rc)).alloc (.cells #[.int .i64 y, .int .i64 n, .slice ra sp.length rc] 124)):=
    (HBW.out.setCell (p:=⟨wr.heap.size,2,none⟩) (Nat.le_refl _) _).alloc (by simp;omega) _
   have O1:=jD o1
   have O2:=jD (owns_below o2 hB2)
   have O3:=jD (fun i hi hi'=>owns_below (o3 i hi hi') hB2)
   have U:=jD ((own_low (j:=2) (u:= .slice ra sp.length rc) HO1.out (Nat.lt_succ_self _)).alloc (.cells #[.int .i64 y, .int .i64 n, .slice ra sp.length rc] 124))
   have ROW:=jD (CellsAt.mk (w:=(w1.setCell ⟨wr.heap.size,2,none⟩ (.slice ra sp.length rc)).alloc (.cells #[.int .i64 y, .int .i64 n, .slice ra sp.length rc] 124)) (b:=w1.heap.size) (off:=0) (n:=1) (cap:=1) (xs:=[.int .i64 y, .int .i64 n, .slice ra sp.length rc]) (Nat.le_refl _) (by decide) (by simp) (fun j x hj=>by
    rw[Nat.zero_add,World.cell?_alloc_at _ _ _ _ (by simp)];simpa using hj))
   have HB2:=jD hB2
   have hws:=hbl.size
   have HK2:=jD hk2
   obtain⟨za,zc,hz⟩:=owns_slice o2
   rw[hk2] at hz
   subst hz
   clear o1 o2 o3 hB2 HO hk2
   go_wp2_with (at_builtin;refine wpList_append_cells2 rfl (.tmp 16) (.tmp 18) 33 rfl w.heap.size 124 _ 3 40 Tryz.underlying33 BoxTy.info rfl (by decide) _ (l.take k).length _ rfl O2.out _ 1 _ rfl ROW.out rfl (by intro z hz;simp at hz;rcases hz with rfl | rfl | rfl <;> rfl) (by have:=HB2.out.size;omega) (by rw[HK2.out];unfold maxLen;omega) (by rw[HK2.out];omega) ?_)
   intro v9 w9 ho hgr
   have HN:=jD (BxsOwn.push (b:=⟨y,n,sp⟩) (by decide) O1.out O2.out O3.out (owns_mono U.out (by omega)) (by rw[HK2.out];exact ho) hgr)
   have HG:=jD hgr
   obtain⟨qa,qc,hq⟩:=owns_slice ho
   subst hq
   clear ho hgr
   go_wp2
   go_roundw
   case rel=>
    refine⟨k+1,by omega,by go_num, ?_,(hbl.trans (HB2.out.mono hws)).grown HG.out (by have:=HB2.out.size;omega) (fun q hq=>(O2.out.lt q hq).1)⟩
    rw[HTK.out];exact HN.out
   case measure=>first | (simp[intOf];done) | (simp[intOf];omega)
  ·obtain rfl:k=l.length:=by omega
   rw[List.take_length] at hown
   obtain⟨va,vc,hv⟩:=hown.shape
   subst hv
   have HO:=jD hown
   clear hown
   go_wp2
   go_ret
   exact⟨_,rfl,HO.out,hbl⟩
end Go.Proofs.YtgkgdedhicnohaaGreat
