/- What the reference's Knows does. -/
import Derived.Test.YtgkgdedhicnohaaGreatRef5
import Derived.Deep.MidRow
namespace Go.Proofs.YtgkgdedhicnohaaGreat
set_option maxRecDepth 100000
set_option maxHeartbeats 40000000
open Go.RowKit
def mnK (l:List Mn) (t n s c:Nat):Bool:=l.any fun a=>a.p (32*t+n)&&memD a.m s c
theorem mnK_take (l:List Mn) (k:Nat) (h:k < l.length) (t n s c:Nat):mnK (l.take (k+1)) t n s c=(mnK (l.take k) t n s c || (l[k].p (32*t+n)&&memD l[k].m s c)):=by
 unfold mnK
 rw[List.take_succ_eq_append_getElem h,List.any_append];simp
theorem mnK_hit (l:List Mn) (k:Nat) (h:k < l.length) {t n s c:Nat} (h1:l[k].p (32*t+n)=true) (h2:memD l[k].m s c=true):mnK l t n s c=true:=
 List.any_eq_true.2 ⟨l[k],List.getElem_mem h,by rw[h1,h2];rfl⟩
theorem mnE_size:mnE.size=592:=rfl
theorem mnE_range {w:World} {a:Option Addr} {n cap:Nat} {l:List Mn} (h:RowAt mnE w (.slice a n cap) l):l=[]∨ ∃b off,a=some ⟨b,off,none⟩∧b < w.heap.size∧ ∀k (h:k < l.length),∀j u,(mnC l[k]).toList[j]? =some u→w.cell? ⟨b,off+k*592+j,none⟩=some u:=by
 obtain⟨a',cap',hv, -, -, -,hvl⟩:=h.open_
 simp only[Value.slice.injEq] at hv
 obtain⟨rfl, -, -⟩:=hv
 rcases hvl with h1 | ⟨b,off,h2,h3,h4⟩
 ·exact .inl h1
 ·refine .inr ⟨b,off,h2,h3,fun k hk j u hu=> ?_⟩
  obtain⟨cs,hcs,hcc⟩:=h4 k hk
  have e:mnE.El w l[k] cs=(cs=(mnC l[k]).toList):=rfl
  rw[e] at hcs
  rw[←hcs] at hu
  have:=hcc j u hu
  rw[mnE_size] at this
  rw[Nat.add_assoc];exact this
theorem wpList_load_midA {P:Program} {ops:Array Oper} {rest:List Oper} {op:Oper} {a:Act} {w:World} {Q:Exit→Act→World→Prop} (hgd:op.guard=none) (ty:TypeId) (x:Operand) (ho:op.op= .load ty x)
  (b o:Nat) (hx:a.eval x= .pointer (some ⟨b,o,none⟩)) (cs:Array Value) (d:TypeDesc) (hc:w.rangeAt b o cs.toList)
  (hu:P.underlying ty=some d) (hd:d.isRow=true) (hi:(P.info? ty).map (·.size)=some cs.size)
  (h:wpList P ops Q rest (a.put op.dst (.agg cs)) w):wpList P ops Q (op::rest) a w:=
 wpList_load_mid hgd ty x ho b o hx cs.toList d hc hu hd (by simpa using hi) (by simpa using h)
theorem wpList_load_midG {P:Program} {ops:Array Oper} {rest:List Oper} {op:Oper} {a:Act} {w:World} {Q:Exit→Act→World→Prop} (hgd:Region.wanted op (yielded ops a.tmps)=true) (ty:TypeId) (x:Operand) (ho:op.op= .load ty x)
  (b o:Nat) (hx:a.eval x= .pointer (some ⟨b,o,none⟩)) (cs:Array Value) (d:TypeDesc) (hc:w.rangeAt b o cs.toList)
  (hu:P.underlying ty=some d) (hd:d.isRow=true) (hi:(P.info? ty).map (·.size)=some cs.size)
  (h:wpList P ops Q rest (a.put op.dst (.agg cs)) w):wpList P ops Q (op::rest) a w:=
 wpList_step fun K hK=>by rw[if_pos hgd];exact wp_load_mid ty x ho b o hx cs.toList d hc hu hd (by simpa using hi) (by simpa using hK _ _ h)
theorem mn_lo {w:World} {g:Nat} {a:Mn} {t:TypeId} (h:w.heap[g]? =some (Obj.cells (mnC a) t (0,0))):w.rangeAt g 0 (boolC 512 a.p).toList:=fun j v hv=>by
 rw[Nat.zero_add]
 refine cell_of_block h ?_
 have hj:j < 512:=by have:=(List.getElem?_eq_some_iff.1 hv).1;rwa [Array.length_toList,boolC_size] at this
 unfold mnC
 rw[Array.getElem?_append_left (by rw[boolC_size];exact hj)]
 simpa using hv
theorem mn_hi {w:World} {g:Nat} {a:Mn} {t:TypeId} (h:w.heap[g]? =some (Obj.cells (mnC a) t (0,0))):w.rangeAt g 512 (dotC a.m).toList:=fun j v hv=>by
 refine cell_of_block h ?_
 unfold mnC
 rw[Array.getElem?_append_right (by rw[boolC_size];omega),boolC_size,Nat.add_sub_cancel_left]
 simpa using hv
theorem PartTy.size (a:Mn):(Tryz.prog.info? 165).map (·.size)=some (mnC a).size:=by rw[mnC_size];kernel_rfl
theorem PtsTy6.size (p:Nat→Bool):(Tryz.prog.info? 158).map (·.size)=some (boolC 512 p).size:=by rw[boolC_size];kernel_rfl
theorem DotsTy6.size (m:Nat→Nat):(Tryz.prog.info? 162).map (·.size)=some (dotC m).size:=by rw[dotC_size];kernel_rfl
theorem mnC_all (a:Mn):(mnC a).all (·.oneCell')=true:=by
 rw[Array.all_eq_true_iff_forall_mem]
 exact fun v hv=>mnC_one' a v (by simpa using hv)
theorem zero_part:(Tryz.zeroCells165).size=592:=by kernel_rfl
theorem rknows_c (v:Value) (l:List Mn) (t n s c:Nat) (w:World) (hv:RowAt mnE w v l) (hm: ∀a∈l,DWord a.m) (ht:t < 16) (hn:n < 32) (hs:s < 5) (hc:c < 1024):
  Calls Tryz.prog 46 #[v, .agg #[.int .i64 t, .int .i64 n], .agg #[.int .i64 s, .int .i64 c]] w fun e w'=>e= .returned (.bool (mnK l t n s c))∧Below w.heap.size w w':=by
 obtain⟨a,cap,rfl,hcap,hlen, -,hvl⟩:=hv.open_
 have HVL:=jD (mnE_range hv)
 have HM:=jD hm
 clear hv hvl hm
 go_enter Tryz.func46,Tryz.ntmps46
 obtain⟨W,hW⟩: ∃W,W=((w.alloc (.cells #[.int .i64 t, .int .i64 n] 39)).alloc (.cells #[.int .i64 s, .int .i64 c] 41)):=⟨_,rfl⟩
 have HBW:=jD (show Below w.heap.size w W by rw[hW];exact (bal _).alloc (by simp) _)
 have HPT:=jD (show W.heap[w.heap.size]? =some (Obj.cells #[.int .i64 t, .int .i64 n] 39 (0,0)) by rw[hW];exact alloc_keep _ (alloc_new _ _ _ _ rfl))
 have HDT:=jD (show W.heap[w.heap.size+1]? =some (Obj.cells #[.int .i64 s, .int .i64 c] 41 (0,0)) by rw[hW];exact alloc_new _ _ _ _ (by simp))
 go_wp2_with fail
 rw[←hW]
 clear hW
 go_loopw [11] (fun i wr=> ∃k:Nat,k≤l.length∧i= .int .i64 k∧mnK (l.take k) t n s c=false∧Below W.heap.size W wr) (fun i _=>l.length - (intOf i).toNat)
 case atStart=>exact ⟨0,Nat.zero_le _,rfl,rfl,Below.refl _ _⟩
 case round=>
  obtain⟨k,hk,rfl,hno,hbl⟩:=hrel
  by_cases hlt:k < l.length
  rotate_left
  ·obtain rfl:k=l.length:=by omega
   rw[List.take_length] at hno
   have hkb:decide ((l.length:Int) < (l.length:Int))=false:=by simp
   have HN:=jD hno
   have HB:=jD (bstep HBW.out hbl)
   clear hno hbl
   go_wp2
   go_ret
   exact⟨ret_bool HN.out.symm,HB.out⟩
  have hkb:decide ((k:Int) < (l.length:Int))=true:=by simp;omega
  rcases HVL.out with hnil | ⟨b,off,rfl,hbb,hcc⟩
  ·rw[hnil] at hlt;simp at hlt
  have HRG:=jD (show wr.rangeAt b (off+k*592) (mnC l[k]).toList from fun j u hu=>((bstep HBW.out hbl).cell (p:=⟨b,off+k*592+j,none⟩) hbb).trans (hcc k hlt j u hu))
  have HMK:=jD (HM.out _ (List.getElem_mem hlt))
  have HTK:=jD (mnK_take l k hlt t n s c)
  have HHT:=jD (fun h1 h2=>mnK_hit l k hlt (t:=t) (n:=n) (s:=s) (c:=c) h1 h2)
  have HNO:=jD hno
  have HBL:=jD hbl
  have hi:=jD (PartTy.size l[k])
  have HZ:=jD (show(wr.alloc (.cells Tryz.zeroCells165 165)).heap[wr.heap.size]? =some (Obj.cells Tryz.zeroCells165 165 (0,0)) from alloc_new _ _ _ _ rfl)
  generalize l[k]=a0 at*
  clear hcc hbb hno hbl
  go_upto_region 4 with(first | (with_reducible refine wpList_load_midA rfl 165 (.tmp 13) rfl b (off+k*592) rfl (mnC a0) _ HRG.out Tryz.underlying165 rfl hi.out ?_) | (with_reducible refine wpList_store_row rfl 165 (.tmp 8) (.tmp 14) rfl wr.heap.size (mnC a0) rfl rfl 165 _ HZ.out hi.out ?sz ?one ?_) | fail)
  case sz=>rw [zero_part,mnC_size]
  case one=>exact mnC_all _
  obtain⟨W2,hW2⟩: ∃W2,W2=(wr.alloc (.cells Tryz.zeroCells165 165)).setRow wr.heap.size (mnC a0):=⟨_,rfl⟩
  have hg2:W2.heap[wr.heap.size]? =some (Obj.cells (mnC a0) 165 (0,0)):=by rw[hW2];exact setRow_heap _ _ _ _ _ _ HZ.out
  have hb2:Below wr.heap.size wr W2:=by rw[hW2];exact below_setRow (bal _) (Nat.le_refl _) _
  rw[←hW2]
  have HG2:=jD hg2
  have HB2:=jD (bstep HBL.out hb2)
  have hpt:=below_keep HB2.out HPT.out
  have p0:=cell_of_block (j:=0) hpt rfl
  have p1:=cell_of_block (j:=1) hpt rfl
  have HR0:=jD (mn_lo hg2)
  have hi0:=jD (PtsTy6.size a0.p)
  clear hW2 hg2 hb2 hpt HZ hi HRG
  go_wp2_with (first | (with_reducible refine wpList_load_midA rfl 158 (.tmp 15) rfl wr.heap.size 0 rfl (boolC 512 a0.p) _ HR0.out Tryz.underlying158 rfl hi0.out ?_) | fail)
  (with_reducible refine(rat_c a0.p t n W2 ht hn).mono ?_)
  rintro e w3 ⟨rfl,hb3⟩
  have HB3:=jD (bstep HB2.out hb3)
  have HG3:=jD (below_keep hb3 HG2.out)
  clear p0 p1 hb3 HR0 hi0 HG2
  cases hp:a0.p (32*t+n)
  ·rw[hp,Bool.false_and,Bool.or_false] at HTK
   clear hp
   go_wp2
   go_roundw
   case rel=>exact ⟨k+1,by omega,by go_num,HTK.out.trans HNO.out,HB3.out⟩
   case measure=>simp [intOf] <;> omega
  have HR1:=jD (mn_hi HG3.out)
  have hi1:=jD (DotsTy6.size a0.m)
  have hdt:=below_keep HB3.out HDT.out
  have q0:=cell_of_block (j:=0) hdt rfl
  have q1:=cell_of_block (j:=1) hdt rfl
  rw[hp,Bool.true_and] at HTK
  have HHP:=jD (HHT.out hp)
  have HDH:=jD (fun y=>dhas_c a0.m s c y HMK.out hs hc)
  clear hdt hp HHT
  go_wp2_with (first | (with_reducible refine wpList_load_midG ?hw 162 (.tmp 20) rfl wr.heap.size 512 rfl (dotC a0.m) _ HR1.out Tryz.underlying162 rfl hi1.out ?_) | fail)
  (with_reducible refine(HDH.out w3).mono ?_)
  rintro e w4 ⟨rfl,hb4⟩
  have HB4:=jD (bstep HB3.out hb4)
  clear q0 q1 hb4 HR1 hi1 HDH
  cases hm:memD a0.m s c
  ·rw[hm,Bool.or_false] at HTK
   clear hm
   go_wp2
   go_roundw
   case rel=>exact ⟨k+1,by omega,by go_num,HTK.out.trans HNO.out,HB4.out⟩
   case measure=>simp [intOf] <;> omega
  have HN:=jD (HHP.out hm)
  have HB:=jD (bstep HBW.out HB4.out)
  clear hm HHP HTK
  go_wp2
  go_ret
  exact⟨ret_bool HN.out.symm,HB.out⟩
end Go.Proofs.YtgkgdedhicnohaaGreat
