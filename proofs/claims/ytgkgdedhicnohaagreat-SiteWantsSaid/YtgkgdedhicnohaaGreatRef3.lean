/- What the reference's Of does: a filter as [512]bool. -/
import Derived.Test.YtgkgdedhicnohaaGreatRef2
import Derived.Test.YtgkgdedhicnohaaGreatMFilter1
namespace Go.Proofs.YtgkgdedhicnohaaGreat
set_option maxRecDepth 100000
set_option maxHeartbeats 40000000
open Go.RowKit
theorem PtsTy.size (p:Nat→Bool):(Tryz.prog.info? 158).map (·.size)=some (boolC 512 p).size:=by rw[boolC_size];kernel_rfl
structure BxGood (b:Bx):Prop where
 y:0≤b.y∧b.y≤15
 n:0≤b.n∧b.n≤15
 sp: ∀s∈b.sp,0≤s.1∧s.1 < s.2∧s.2≤32
def pF (l:Bxs):Nat→Bool:=fun q=>inF l ((q / 32:Nat):Int) ((q%32:Nat):Int)
theorem inF_take (l:Bxs) (k:Nat) (h:k < l.length) (q:Nat):pF (l.take (k+1)) q=(pF (l.take k) q || (cubeIn l[k].y l[k].n ((q / 32:Nat):Int)&&inB l[k].sp ((q%32:Nat):Int))):=by
 unfold pF inF
 rw[List.take_succ_eq_append_getElem h,List.any_append]
 simp
theorem mark_no {P g:Nat→Bool} {q:Nat} (h:g q=false):(fun j=>P j || (decide (j < q+1)&&g j))=fun j=>P j || (decide (j < q)&&g j):=by
 funext j
 by_cases e:j=q
 ·subst e;rw [h,Bool.and_false,Bool.and_false]
 ·rw[show decide (j < q+1)=decide (j < q) from by rw[decide_eq_decide];omega]
theorem mark_yes {P g:Nat→Bool} {q:Nat} (h:g q=true):(fun j=>if j=q then true else P j || (decide (j < q)&&g j))=fun j=>P j || (decide (j < q+1)&&g j):=by
 funext j
 by_cases e:j=q
 ·subst e;rw [if_pos rfl,h,decide_eq_true (Nat.lt_succ_self _)];simp
 ·rw[if_neg e,show decide (j < q+1)=decide (j < q) from by rw[decide_eq_decide];omega]
theorem rof_c (v:Value) (l:Bxs) (w:World) (hl:BxsAt w v l) (hb: ∀b∈l,BxGood b):
  Calls Tryz.prog 89 #[v] w fun e w'=>e= .returned (.agg (boolC 512 (pF l)))∧Below w.heap.size w w':=by
 obtain⟨a,cap,rfl,hcap,hmax, -,hvl⟩:=hl.open_
 obtain⟨z,hz⟩: ∃z,z=boolC 512 (fun _=>false):=⟨_,rfl⟩
 have hz2:z=Tryz.zeroCells158:=by rw[hz,boolC_zero];rfl
 obtain⟨A,hA⟩: ∃A,A=w.heap.size:=⟨_,rfl⟩
 obtain⟨W,hW⟩: ∃W,W=(w.alloc (.cells z 158)).alloc (.cells z 158):=⟨_,rfl⟩
 have HA:=jD (show W.heap[A]? =some (Obj.cells z 158 (0,0)) by rw[hW];exact alloc_keep _ (alloc_new _ _ _ _ hA))
 have HB:=jD (show W.heap[A+1]? =some (Obj.cells (boolC 512 (pF (l.take 0))) 158 (0,0)) by rw[hW,←show z=boolC 512 (pF (l.take 0)) from hz];exact alloc_new _ _ _ _ (by rw[World.size_alloc,hA]))
 have HBW:=jD (show Below w.heap.size w W by rw[hW];exact (bal _).alloc (by simp) _)
 have HVL:=jD hvl
 have HBD:=jD hb
 have HAE:=jD hA
 clear hvl hb hl
 go_enter Tryz.func89,Tryz.ntmps89
 go_wp2_with fail
 rw[←hz2,←hW,←hA]
 clear hW hA hz2
 go_wp2
 go_loopw [10] (fun i wr=> ∃k:Nat,k≤l.length∧i= .int .i64 k∧wr.heap[A]? =some (Obj.cells z 158 (0,0))∧wr.heap[A+1]? =some (Obj.cells (boolC 512 (pF (l.take k))) 158 (0,0))∧Below w.heap.size w wr) (fun i _=>l.length - (intOf i).toNat)
 case atStart=>exact ⟨0,Nat.zero_le _,rfl,HA.out,HB.out,HBW.out⟩
 case round=>
  obtain⟨k,hk,rfl,ha,hb,hbl⟩:=hrel
  by_cases hlt:k < l.length
  rotate_left
  ·obtain rfl:k=l.length:=by omega
   have hkb:decide ((l.length:Int) < (l.length:Int))=false:=by simp
   rw[List.take_length] at hb
   have hi:=jD (PtsTy.size (pF l))
   have HZ:=jD ha
   have HT:=jD hb
   have HBL:=jD hbl
   clear ha hb hbl
   go_wp2_with (first | (with_reducible refine wpList_load_row rfl 158 (.tmp 3) rfl (A+1) rfl 158 (boolC 512 (pF l)) (0,0) _ HT.out Tryz.underlying158 rfl hi.out ?_) | (with_reducible refine wpList_store_row rfl 158 (.tmp 2) (.tmp 35) rfl A (boolC 512 (pF l)) rfl rfl 158 _ HZ.out hi.out ?sz ?one ?_))
   case sz=>rw [hz,boolC_size,boolC_size]
   case one=>exact boolC_one _ _
   exact bodyPost_ret (results_cell_row rfl _ _ A 158 (boolC 512 (pF l)) (0,0) _ rfl (setRow_heap _ _ _ _ _ _ HZ.out) Tryz.underlying158 rfl hi.out) rfl ⟨rfl,below_setRow HBL.out (by rw[HAE.out];exact Nat.le_refl _) _⟩
  have hkb:decide ((k:Int) < (l.length:Int))=true:=by simp;omega
  rcases HVL.out with hnil | ⟨b,off,rfl,hbb,hc⟩
  ·rw[hnil] at hlt;simp at hlt
  obtain⟨u,d1,d2,d3,hsp⟩:=hc k hlt
  replace d1:=(hbl.cell (p:=⟨b,off+k*3,none⟩) hbb).trans d1
  replace d2:=(hbl.cell (p:=⟨b,off+k*3+1,none⟩) hbb).trans d2
  replace d3:=(hbl.cell (p:=⟨b,off+k*3+2,none⟩) hbb).trans d3
  obtain⟨ua,uc,rfl⟩:=hsp.shape
  replace hsp:=hsp.below hbl
  have HGD:=jD (HBD.out _ (List.getElem_mem hlt))
  have HTK:=jD (inF_take l k hlt)
  clear hc
  generalize hx:l[k]=bx at*
  obtain⟨y,n,sp⟩:=bx
  simp only at d1 d2 d3 hsp HTK
  clear hx
  obtain⟨SB,hSB⟩: ∃SB,SB=wr.heap.size:=⟨_,rfl⟩
  obtain⟨W1,hW1⟩: ∃W1,W1=wr.alloc (.cells #[.int .i64 y, .int .i64 n, .slice ua sp.length uc] 124):=⟨_,rfl⟩
  have hS1:W1.heap[SB]? =some (Obj.cells #[.int .i64 y, .int .i64 n, .slice ua sp.length uc] 124 (0,0)):=by rw[hW1];exact alloc_new _ _ _ _ hSB
  have hb1:Below wr.heap.size wr W1:=by rw[hW1];exact bal _
  have HSP:=jD (hsp.below hb1)
  have HS1:=jD hS1
  have HA1:=jD (below_keep hb1 ha)
  have HB1:=jD (below_keep hb1 hb)
  have HBL1:=jD (bstep hbl hb1)
  have HSA:=jD (show A+1 < SB by rw[hSB];exact hlt_of hb)
  have c2:=cell_of_block (j:=2) hS1 rfl
  have HW1:=jD hW1
  have HSB:=jD hSB
  clear ha hb hbl hb1 hS1 hsp hW1 hSB
  go_wp2_with fail
  rw[←HW1.out,←HSB.out]
  clear d1 d2 d3
  go_wp2_with fail
  (with_reducible refine(rset_c _ sp W1 HSP.out HGD.out.sp).mono ?_)
  rintro e w2 ⟨rfl,hb2⟩
  have HX0:=jD (alloc_new w2 #[.bool false, .bool false, .bool false, .bool false, .bool false, .bool false, .bool false, .bool false, .bool false, .bool false, .bool false, .bool false, .bool false, .bool false, .bool false, .bool false, .bool false, .bool false, .bool false, .bool false, .bool false, .bool false, .bool false, .bool false, .bool false, .bool false, .bool false, .bool false, .bool false, .bool false, .bool false, .bool false] 221 _ rfl)
  have HI2:=jD (SetTy.size fun j=>inB sp j)
  go_wp2_with (first | (with_reducible refine wpList_store_row rfl 221 (.tmp 6) (.tmp 16) rfl w2.heap.size (boolC 32 fun j=>inB sp j) rfl rfl 221 _ HX0.out HI2.out ?sz ?one ?_) | fail)
  case sz=>rw [boolC_size];rfl
  case one=>exact boolC_one _ _
  obtain⟨XB,hXB⟩: ∃XB,XB=w2.heap.size:=⟨_,rfl⟩
  obtain⟨W4,hW4⟩: ∃W4,W4=(w2.alloc (.cells #[.bool false, .bool false, .bool false, .bool false, .bool false, .bool false, .bool false, .bool false, .bool false, .bool false, .bool false, .bool false, .bool false, .bool false, .bool false, .bool false, .bool false, .bool false, .bool false, .bool false, .bool false, .bool false, .bool false, .bool false, .bool false, .bool false, .bool false, .bool false, .bool false, .bool false, .bool false, .bool false] 221)).setRow w2.heap.size (boolC 32 fun j=>inB sp j):=⟨_,rfl⟩
  have hb4:Below w2.heap.size w2 W4:=by rw[hW4];exact below_setRow (bal _) (Nat.le_refl _) _
  have HX4:=jD (show W4.heap[XB]? =some (Obj.cells (boolC 32 fun j=>inB sp j) 221 (0,0)) by rw[hW4,hXB];exact setRow_heap _ _ _ _ _ _ HX0.out)
  have HS4:=jD (below_keep hb4 (below_keep hb2 HS1.out))
  have HA4:=jD (below_keep hb4 (below_keep hb2 HA1.out))
  have HB4:=jD (below_keep hb4 (below_keep hb2 HB1.out))
  have HBL4:=jD (bstep (bstep HBL1.out hb2) hb4)
  have HXS:=jD (show SB < XB by rw[hXB];exact hlt_of (below_keep hb2 HS1.out))
  rw[←hW4,←hXB]
  clear hb2 hb4 c2 HS1 HA1 HB1 HBL1 HSP HW1 HSB hW4 hXB HX0 HI2
  go_loopw [17] (fun i wv=> ∃q:Nat,q≤512∧i= .int .i64 q∧wv.heap[SB]? =some (Obj.cells #[.int .i64 y, .int .i64 n, .slice ua sp.length uc] 124 (0,0))∧wv.heap[XB]? =some (Obj.cells (boolC 32 fun j=>inB sp j) 221 (0,0))∧wv.heap[A]? =some (Obj.cells z 158 (0,0))∧wv.heap[A+1]? =some (Obj.cells (boolC 512 fun j=>pF (l.take k) j || (decide (j < q)&&(cubeIn y n ((j / 32:Nat):Int)&&inB sp ((j%32:Nat):Int)))) 158 (0,0))∧Below w.heap.size w wv) (fun i _=>512 - (intOf i).toNat)
  case atStart=>exact ⟨0,by omega,rfl,HS4.out,HX4.out,HA4.out,by rw[boolC_congr (q:=pF (l.take k)) (fun j _=>by simp)];exact HB4.out,HBL4.out⟩
  case round=>
   obtain⟨q,hq512,rfl,hs,hx,ha,hb,hbl⟩:=hrel
   have HS:=jD hs
   have HX:=jD hx
   have HA2:=jD ha
   have HB2:=jD hb
   have HBL2:=jD hbl
   by_cases hch:q < 512
   rotate_left
   ·obtain rfl:q=512:=by omega
    clear hs hx ha hb hbl
    go_wp2
    go_roundw
    case rel=>
     refine⟨k+1,by omega,by go_num,HA2.out, ?_,HBL2.out⟩
     rw[boolC_congr (q:=fun j=>pF (l.take k) j || (decide (j < 512)&&(cubeIn y n ((j / 32:Nat):Int)&&inB sp ((j%32:Nat):Int)))) (fun j hj=>by rw[HTK.out,decide_eq_true hj,Bool.true_and])]
     exact HB2.out
    case measure=>simp [intOf] <;> omega
   have hcb:decide ((q:Int) < 512)=true:=by simp;omega
   obtain⟨r,hr⟩: ∃r,r=q%32:=⟨_,rfl⟩
   obtain⟨d,hd⟩: ∃d,d=q / 32:=⟨_,rfl⟩
   have hr1:(q:Int)%32=(r:Int):=by omega
   have hd1:(q:Int) / 32=(d:Int):=by omega
   have hrm:(q:Int).tmod 32=(r:Int):=by rw[Int.tmod_eq_emod_of_nonneg (by omega)];exact hr1
   have hdm:(q:Int).tdiv 32=(d:Int):=by rw[Int.tdiv_eq_ediv_of_nonneg (by omega)];exact hd1
   have hr32:r < 32:=by omega
   have hd16:d≤15:=by omega
   have hrb:decide ((r:Int) < 32)=true:=by simp;omega
   have x0:=cell_of_block (j:=r) hx (boolC_get 32 _ r hr32)
   have s0:=cell_of_block (j:=0) hs rfl
   have s1:=cell_of_block (j:=1) hs rfl
   have HIN:=jD (rin_c y n (d:Int) wr HGD.out.y HGD.out.n ⟨by omega,by omega⟩)
   have HRD:=jD (And.intro hr hd)
   clear hs hx ha hb hbl hr hd
   cases hS:inB sp (r:Int)
   ·rw[hS] at x0
    have HNO:=jD (mark_no (P:=pF (l.take k)) (g:=fun j=>cubeIn y n ((j / 32:Nat):Int)&&inB sp ((j%32:Nat):Int)) (q:=q) (by show(cubeIn y n ((q / 32:Nat):Int)&&inB sp ((q%32:Nat):Int))=false;rw [←HRD.out.1,hS,Bool.and_false]))
    clear HIN
    go_wp2
    go_roundw
    case rel=>exact ⟨q+1,by omega,by go_num,HS.out,HX.out,HA2.out,by rw[HNO.out];exact HB2.out,HBL2.out⟩
    case measure=>simp [intOf] <;> omega
   ·rw[hS] at x0
    go_wp2_with fail
    (with_reducible refine(HIN.out).mono ?_)
    rintro e w5 ⟨rfl,hb5⟩
    have HS5:=jD (below_keep hb5 HS.out)
    have HX5:=jD (below_keep hb5 HX.out)
    have HA5:=jD (below_keep hb5 HA2.out)
    have hB5:=below_keep hb5 HB2.out
    have HB5:=jD hB5
    have HBL5:=jD (bstep HBL2.out hb5)
    have r0:=cell_of_block (j:=q) hB5 (boolC_get 512 _ q hch)
    have f0:=free_of_block (j:=q) hB5
    have hRl:=hlt_of hB5
    clear hb5 hB5 x0 s0 s1 HIN HS HX HA2 HB2 HBL2
    cases hC:cubeIn y n (d:Int)
    ·have HNO:=jD (mark_no (P:=pF (l.take k)) (g:=fun j=>cubeIn y n ((j / 32:Nat):Int)&&inB sp ((j%32:Nat):Int)) (q:=q) (by show(cubeIn y n ((q / 32:Nat):Int)&&inB sp ((q%32:Nat):Int))=false;rw [←HRD.out.2,hC,Bool.false_and]))
     clear r0 f0 hRl
     go_wp2
     go_roundw
     case rel=>exact ⟨q+1,by omega,by go_num,HS5.out,HX5.out,HA5.out,by rw[HNO.out];exact HB5.out,HBL5.out⟩
     case measure=>simp [intOf] <;> omega
    ·have HYE:=jD (mark_yes (P:=pF (l.take k)) (g:=fun j=>cubeIn y n ((j / 32:Nat):Int)&&inB sp ((j%32:Nat):Int)) (q:=q) (by show(cubeIn y n ((q / 32:Nat):Int)&&inB sp ((q%32:Nat):Int))=true;rw [←HRD.out.2,←HRD.out.1,hC,hS];rfl))
     go_wp2
     go_roundw
     case rel=>
      refine⟨q+1,by omega,by go_num, ?_, ?_, ?_, ?_, ?_⟩
      ·exact(heap_set_other (by have:=HSA.out;omega)).trans HS5.out
      ·exact(heap_set_other (by have:=HSA.out;have:=HXS.out;omega)).trans HX5.out
      ·exact(heap_set_other (by omega)).trans HA5.out
      ·refine(heap_set_same HB5.out).trans ?_
       rw[boolC_set,HYE.out]
      ·exact HBL5.out.setCell (p:=⟨A+1,q,none⟩) (by rw[HAE.out];exact Nat.le_succ _) _
     case measure=>simp [intOf] <;> omega
end Go.Proofs.YtgkgdedhicnohaaGreat
