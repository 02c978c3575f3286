/- What the reference's Set does: a row of spans as [32]bool. -/
import Derived.Test.YtgkgdedhicnohaaGreatRef1
import Derived.Test.YtgkgdedhicnohaaGreatMDots
namespace Go.Proofs.YtgkgdedhicnohaaGreat
set_option maxRecDepth 100000
set_option maxHeartbeats 40000000
open Go.RowKit
def boolC (n:Nat) (p:Nat→Bool):Array Value:=((List.range n).map fun k=>Value.bool (p k)).toArray
theorem boolC_size (n:Nat) (p:Nat→Bool):(boolC n p).size=n:=by simp[boolC]
theorem boolC_get (n:Nat) (p:Nat→Bool) (k:Nat) (h:k < n):(boolC n p)[k]? =some (.bool (p k)):=by simp[boolC,h]
theorem boolC_set (n:Nat) (p:Nat→Bool) (k:Nat) (x:Bool):(boolC n p).setIfInBounds k (.bool x)=boolC n (fun j=>if j=k then x else p j):=by
 apply Array.ext
 ·simp[boolC]
 ·intro i h1 h2
  simp[boolC] at h1
  simp only[boolC,List.setIfInBounds_toArray,List.getElem_toArray,List.getElem_set,List.getElem_map,List.getElem_range]
  by_cases e:k=i
  ·rw[if_pos e,if_pos e.symm]
  ·rw[if_neg e,if_neg fun h=>e h.symm]
theorem boolC_congr {n:Nat} {p q:Nat→Bool} (h: ∀k,k < n→p k=q k):boolC n p=boolC n q:=by
 unfold boolC
 congr 1
 exact List.map_congr_left fun k hk=>by rw[h k (List.mem_range.1 hk)]
theorem boolC_one (n:Nat) (p:Nat→Bool):(boolC n p).all (·.oneCell')=true:=by simp[boolC,Value.oneCell']
theorem boolC_zero (n:Nat):boolC n (fun _=>false)=Array.replicate n (.bool false):=by
 apply Array.ext
 ·simp[boolC]
 ·intro i h1 h2;simp [boolC]
theorem SetTy.size (p:Nat→Bool):(Tryz.prog.info? 221).map (·.size)=some (boolC 32 p).size:=by rw[boolC_size];kernel_rfl
theorem none_mid (lo j:Nat):(decide (lo≤j)&&decide (j < lo))=false:=by
 by_cases e:lo≤j
 ·rw[decide_eq_false (show ¬j < lo by omega),Bool.and_false]
 ·rw[decide_eq_false e];rfl
theorem rset_c (v:Value) (l:Spans) (w:World) (hl:SpansAt w v l) (hb: ∀s∈l,0≤s.1∧s.1 < s.2∧s.2≤32):
  Calls Tryz.prog 146 #[v] w fun e w'=>e= .returned (.agg (boolC 32 fun j=>inB l j))∧Below w.heap.size w w':=by
 obtain⟨a,cap,rfl,hcap,hmax, -,hvl⟩:=hl
 obtain⟨z,hz⟩: ∃z,z=boolC 32 (fun _=>false):=⟨_,rfl⟩
 have hz2:z= #[.bool false, .bool false, .bool false, .bool false, .bool false, .bool false, .bool false, .bool false, .bool false, .bool false, .bool false, .bool false, .bool false, .bool false, .bool false, .bool false, .bool false, .bool false, .bool false, .bool false, .bool false, .bool false, .bool false, .bool false, .bool false, .bool false, .bool false, .bool false, .bool false, .bool false, .bool false, .bool false]:=by rw[hz,boolC_zero];rfl
 obtain⟨A,hA⟩: ∃A,A=w.heap.size:=⟨_,rfl⟩
 obtain⟨W,hW⟩: ∃W,W=(w.alloc (.cells z 221)).alloc (.cells z 221):=⟨_,rfl⟩
 have HA:=jD (show W.heap[A]? =some (Obj.cells z 221 (0,0)) by rw[hW];exact alloc_keep _ (alloc_new _ _ _ _ hA))
 have HB:=jD (show W.heap[A+1]? =some (Obj.cells (boolC 32 fun j=>inB (l.take 0) j) 221 (0,0)) by rw[hW,←show z=boolC 32 (fun j=>inB (l.take 0) j) from hz];exact alloc_new _ _ _ _ (by rw[World.size_alloc,hA]))
 have HBW:=jD (show Below w.heap.size w W by rw[hW];exact (bal _).alloc (by simp) _)
 have HVL:=jD hvl
 have HBD:=jD hb
 have HAE:=jD hA
 clear hvl hb
 go_enter Tryz.func146,Tryz.ntmps146
 go_wp2_with fail
 rw[←hz2,←hW,←hA]
 clear hW hA hz2
 go_wp2
 go_loopw [9] (fun i wr=> ∃k:Nat,k≤l.length∧i= .int .i64 k∧wr.heap[A]? =some (Obj.cells z 221 (0,0))∧wr.heap[A+1]? =some (Obj.cells (boolC 32 fun j=>inB (l.take k) j) 221 (0,0))∧Below w.heap.size w wr) (fun i _=>l.length - (intOf i).toNat)
 case atStart=>exact ⟨0,Nat.zero_le _,rfl,HA.out,HB.out,HBW.out⟩
 case round=>
  obtain⟨k,hk,rfl,ha,hb,hbl⟩:=hrel
  by_cases hlt:k < l.length
  rotate_left
  ·obtain rfl:k=l.length:=by omega
   have hkb:decide ((l.length:Int) < (l.length:Int))=false:=by simp
   rw[List.take_length] at hb
   have hi:=jD (SetTy.size fun j=>inB l j)
   have HZ:=jD ha
   have HT:=jD hb
   have HBL:=jD hbl
   clear ha hb hbl
   go_wp2_with (first | (with_reducible refine wpList_load_row rfl 221 (.tmp 3) rfl (A+1) rfl 221 (boolC 32 fun j=>inB l j) (0,0) _ HT.out Tryz.underlying221 rfl hi.out ?_) | (with_reducible refine wpList_store_row rfl 221 (.tmp 2) (.tmp 24) rfl A (boolC 32 fun j=>inB l j) rfl rfl 221 _ HZ.out hi.out ?sz ?one ?_))
   case sz=>rw [hz,boolC_size,boolC_size]
   case one=>exact boolC_one _ _
   exact bodyPost_ret (results_cell_row rfl _ _ A 221 (boolC 32 fun j=>inB l j) (0,0) _ rfl (setRow_heap _ _ _ _ _ _ HZ.out) Tryz.underlying221 rfl hi.out) rfl ⟨rfl,below_setRow HBL.out (by rw[HAE.out];exact Nat.le_refl _) _⟩
  have hkb:decide ((k:Int) < (l.length:Int))=true:=by simp;omega
  rcases HVL.out with hnil | ⟨b,off,rfl,hbb,hc⟩
  ·have h9:=(spansCells_get l k hlt).1;rw [hnil] at h9;simp at h9
  have hbd:=HBD.out _ (List.getElem_mem hlt)
  have q0:=(hbl.cell (p:=⟨b,off+k*2,none⟩) hbb).trans (hc (k*2) _ (spansCells_get l k hlt).1)
  have q1:=(hbl.cell (p:=⟨b,off+(k*2+1),none⟩) hbb).trans (hc (k*2+1) _ (spansCells_get l k hlt).2)
  have q1':wr.cell? ⟨b,off+k*2+1,none⟩=some (.int .i64 l[k].2):=by rw[Nat.add_assoc];exact q1
  have HTK:=jD (fun j:Int=>inB_take l j k hlt)
  obtain⟨lo,hlo⟩: ∃lo:Nat,l[k].1=(lo:Int):=⟨l[k].1.toNat,by omega⟩
  obtain⟨hi,hhi⟩: ∃hi:Nat,l[k].2=(hi:Int):=⟨l[k].2.toNat,by omega⟩
  rw[hlo,hhi] at hbd HTK
  rw[hlo] at q0
  rw[hhi] at q1'
  have hlo1:lo < hi:=by omega
  have hhi1:hi≤32:=by omega
  obtain⟨SB,hSB⟩: ∃SB,SB=wr.heap.size:=⟨_,rfl⟩
  obtain⟨W1,hW1⟩: ∃W1,W1=wr.alloc (.cells #[.int .i64 lo, .int .i64 hi] 119):=⟨_,rfl⟩
  have hS1:W1.heap[SB]? =some (Obj.cells #[.int .i64 lo, .int .i64 hi] 119 (0,0)):=by rw[hW1];exact alloc_new _ _ _ _ hSB
  have hb1:Below wr.heap.size wr W1:=by rw[hW1];exact bal _
  have HS1:=jD hS1
  have HA1:=jD (below_keep hb1 ha)
  have HB1:=jD (below_keep hb1 hb)
  have HBL1:=jD (bstep hbl hb1)
  have HSA:=jD (show A+1 < SB by rw[hSB];exact hlt_of hb)
  have c0:=cell_of_block (j:=0) hS1 rfl
  have c1:=cell_of_block (j:=1) hS1 rfl
  clear hc q1 hbd hlo hhi ha hb hbl hb1 hS1
  go_wp2_with fail
  rw[←hW1,←hSB]
  clear q0 q1'
  go_wp2
  clear hW1 hSB c0 c1
  go_loopw [6] (fun i wv=> ∃c:Nat,lo≤c∧c≤hi∧i= .int .i64 c∧wv.heap[SB]? =some (Obj.cells #[.int .i64 lo, .int .i64 hi] 119 (0,0))∧wv.heap[A]? =some (Obj.cells z 221 (0,0))∧wv.heap[A+1]? =some (Obj.cells (boolC 32 fun j=>inB (l.take k) j || (decide (lo≤j)&&decide (j < c))) 221 (0,0))∧Below w.heap.size w wv) (fun i _=>hi - (intOf i).toNat)
  case atStart=>exact ⟨lo,Nat.le_refl _,by omega,rfl,HS1.out,HA1.out,by rw[boolC_congr (q:=fun j=>inB (l.take k) j) (fun j _=>by rw[none_mid,Bool.or_false])];exact HB1.out,HBL1.out⟩
  case round=>
   obtain⟨c,hc1,hc2,rfl,hs,ha,hb,hbl⟩:=hrel
   have c1:=cell_of_block (j:=1) hs rfl
   by_cases hch:c < hi
   ·have hcb:decide ((c:Int) < (hi:Int))=true:=by simp;omega
    have r0:=cell_of_block (j:=c) hb (boolC_get 32 _ c (by omega))
    have f0:=free_of_block (j:=c) hb
    have hRl:=hlt_of hb
    have hc32:(c:Int) < 32:=by omega
    have hcd:decide ((c:Int) < 32)=true:=decide_eq_true hc32
    have HS:=jD hs
    have HA2:=jD ha
    have HB2:=jD hb
    have HBL2:=jD hbl
    clear hs ha hb hbl
    go_wp2
    go_roundw
    case rel=>
     refine⟨c+1,by omega,by omega,by go_num, ?_, ?_, ?_, ?_⟩
     ·exact(heap_set_other (by have:=HSA.out;omega)).trans HS.out
     ·exact(heap_set_other (by omega)).trans HA2.out
     ·refine(heap_set_same HB2.out).trans ?_
      rw[boolC_set]
      congr 2
      refine boolC_congr fun j _=> ?_
      by_cases e:j=c
      ·rw[if_pos e];subst e;simp;omega
      ·rw[if_neg e]
       congr 2
       rw[decide_eq_decide];omega
     ·exact HBL2.out.setCell (p:=⟨A+1,c,none⟩) (by rw[HAE.out];exact Nat.le_succ _) _
    case measure=>simp [intOf] <;> omega
   ·obtain rfl:c=hi:=by omega
    have hcb:decide ((c:Int) < (c:Int))=false:=by simp
    have HA2:=jD ha
    have HB2:=jD hb
    have HBL2:=jD hbl
    clear hs ha hb hbl
    go_wp2
    go_roundw
    case rel=>
     refine⟨k+1,by omega,by go_num,HA2.out, ?_,HBL2.out⟩
     rw[boolC_congr (q:=fun j=>inB (l.take k) j || (decide (lo≤j)&&decide (j < c))) (fun j _=>by rw[HTK.out];congr 2 <;> (rw[decide_eq_decide];omega))]
     exact HB2.out
    case measure=>simp [intOf] <;> omega
end Go.Proofs.YtgkgdedhicnohaaGreat
