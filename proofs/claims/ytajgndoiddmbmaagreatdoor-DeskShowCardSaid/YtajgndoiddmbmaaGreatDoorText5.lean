/- Reading a text: the deferred closure, and text.Read. -/
import Derived.Test.YtajgndoiddmbmaaGreatDoorText4
import Derived.Test.YtajgndoiddmbmaaGreatDoorMForm
import Derived.Defers
import Derived.Recover
import Derived.Laws.Pointers
import Derived.RegionTactic
import Derived.ChangeAlike
namespace Go.Proofs.YtajgndoiddmbmaaGreatDoor
open Go.RowKit
def twoV (B:Nat):Value:= .slice (some ⟨B+1,0,none⟩) 0 0
theorem catch_world {B:Nat} {x0 x1:Value} {w:World} (h0:w.heap[B]? =some (Obj.cells #[x0] 23 (0,0))) (h1:w.heap[B+1]? =some (Obj.cells #[x1] 24 (0,0))) (o:Obj) (u v:Value):
  (((w.setCell ⟨B,0,none⟩ u).setCell ⟨B+1,0,none⟩ v).alloc o).drew.heap[B]? =some (Obj.cells #[u] 23 (0,0))∧(((w.setCell ⟨B,0,none⟩ u).setCell ⟨B+1,0,none⟩ v).alloc o).drew.heap[B+1]? =some (Obj.cells #[v] 24 (0,0))∧Kp B (twoV B) (twoV B) w (((w.setCell ⟨B,0,none⟩ u).setCell ⟨B+1,0,none⟩ v).alloc o).drew:=by
 have k:Kp B (twoV B) (twoV B) w ((w.setCell ⟨B,0,none⟩ u).setCell ⟨B+1,0,none⟩ v):=⟨rfl,rfl,rfl,by simp[World.setCell],fun k _ hR hv=>by rw[setCell_out (fun e=>hv (by rw[e];rfl)),setCell_out hR], .inl rfl⟩
 refine⟨?_, ?_,k.trans (Kp.of_below ((bal o).trans (Below.refl _ _).drew))⟩
 ·exact alloc_keep (w:=(w.setCell ⟨B,0,none⟩ u).setCell ⟨B+1,0,none⟩ v) _ ((setCell_out (by omega)).trans (setCell_blk h0))
 ·exact alloc_keep (w:=(w.setCell ⟨B,0,none⟩ u).setCell ⟨B+1,0,none⟩ v) _ (setCell_blk ((setCell_out (by omega)).trans h1))
set_option maxRecDepth 100000 in
set_option maxHeartbeats 1000000 in
theorem catch_p (B:Nat) (x0 x1:Value) (older:List PanicEntry) (w:World) (h0:w.heap[B]? =some (Obj.cells #[x0] 23 (0,0))) (h1:w.heap[B+1]? =some (Obj.cells #[x1] 24 (0,0))):
  CallsD Tryz.prog 18 #[.pointer (some ⟨B,0,none⟩), .pointer (some ⟨B+1,0,none⟩)] (.panicking ({ v:= .iface 54 (.agg #[.int .i64 9]),recovered:=false } ::older)) w fun e u' w'=>
   e= .returned (.tuple #[])∧u'= .panicking ({ v:= .iface 54 (.agg #[.int .i64 9]),recovered:=true } ::older)∧w'.heap[B]? =some (Obj.cells #[.slice none 0 0] 23 (0,0))∧w'.heap[B+1]? =some (Obj.cells #[.int .i64 9] 24 (0,0))∧Kp B (twoV B) (twoV B) w w':=by
 refine callsD_of_wpS Tryz.func18 rfl fun c₀ cs hu=> ?_
 apply wpS_seq
 apply wpS_region
 simp[wpOpsS,go_sem,recoverD,hu,Tryz.ntmps18,Exit.thenS]
 apply wpS_seq
 apply wpS_region
 simp[wpOpsS,go_sem,Exit.thenS,Array.replicate]
 refine wpS_cond (t:=true) (by simp[Act.eval]) ?_
 simp only[if_true]
 refine wpS_of_wp ?_
 have hx0:=cell_of_block (j:=0) h0 rfl
 have hz0:=free_of_block (j:=0) h0
 have hx1:=cell_of_block (j:=0) h1 rfl
 have hz1:=free_of_block (j:=0) h1
 have hl0:=hlt_of h0
 have hl1:=hlt_of h1
 have hta: ∀w:World,(Instr.typeAssert (.iface 54 (.agg #[.int .i64 9])) 20 54 true).run Tryz.prog w= .ok (.tuple #[.agg #[.int .i64 9], .bool true]) w:=fun _=>by kernel_rfl
 go_wp2
 go_region
 go_wp2
 have CW:=Lib.hid (catch_world h0 h1 (Obj.cells #[Value.int IntKind.i64 9] 54) (.slice none 0 0) (.int .i64 9))
 clear h0 h1 hx0 hz0 hx1 hz1
 cases c₀
 simp_all only[bodyPostS]
 exact⟨trivial,_,rfl,_,results_none rfl _ _ _,rfl,rfl,CW.out⟩
set_option maxRecDepth 100000 in
theorem catch_i (B:Nat) (w:World):
  CallsD Tryz.prog 18 #[.pointer (some ⟨B,0,none⟩), .pointer (some ⟨B+1,0,none⟩)] .returning w fun e u' w'=>e= .returned (.tuple #[])∧u'= .returning∧w'=w:=by
 refine callsD_of_wpS Tryz.func18 rfl fun c₀ cs hu=> ?_
 apply wpS_seq
 apply wpS_region
 simp[wpOpsS,go_sem,recoverD,hu,Tryz.ntmps18,Exit.thenS]
 apply wpS_seq
 apply wpS_region
 simp[wpOpsS,go_sem,Exit.thenS,Array.replicate]
 refine wpS_cond (t:=false) (by simp[Act.eval]) ?_
 simp only[Bool.false_eq_true,if_false]
 refine wpS_of_wp (wp_skip ?_)
 cases c₀
 simp_all only[bodyPostS]
 exact⟨trivial,_,rfl,_,results_none rfl _ _ _,rfl,rfl,trivial⟩
def ReadOf (s:ByteArray) (w:World) (e:Ending) (w':World):Prop:= ∃u,e= .returned (.tuple #[u, .int .i64 (readE s)])∧NdsAt w' u (readL s)∧Below w.heap.size w w'
theorem NdsAt.nil (w:World):NdsAt w (.slice none 0 0) []:=CellsAt.nil w
theorem put2 {B:Nat} {x0 x1:Value} {w:World} (h0:w.heap[B]? =some (Obj.cells #[x0] 23 (0,0))) (h1:w.heap[B+1]? =some (Obj.cells #[x1] 24 (0,0))) (u v:Value):
  Below B w ((w.setCell ⟨B,0,none⟩ u).setCell ⟨B+1,0,none⟩ v)∧(∀k,B+1 < k→((w.setCell ⟨B,0,none⟩ u).setCell ⟨B+1,0,none⟩ v).heap[k]? =w.heap[k]?):=
 ⟨⟨rfl,rfl,rfl,by simp[World.setCell],fun k hk=>by rw[setCell_out (by omega),setCell_out (by omega)]⟩,fun k hk=>by rw[setCell_out (by omega),setCell_out (by omega)]⟩
structure RdW (w:World) (s:ByteArray) (W:World):Prop where
 b0:W.heap[w.heap.size]? =some (Obj.cells #[.slice none 0 0] 23 (0,0))
 b1:W.heap[w.heap.size+1]? =some (Obj.cells #[.int .i64 0] 24 (0,0))
 rd:Rd W (w.heap.size+1+1) s 0 (.slice none 0 0) []
 gl:Gl W (w.heap.size+1+1)
 bel:Below w.heap.size w W
theorem rdW {w:World} (hg:Gl w w.heap.size) (s:ByteArray):RdW w s (((w.alloc (Obj.cells #[Value.slice none 0 0] 23)).alloc (Obj.cells #[Value.int IntKind.i64 0] 24)).alloc (Obj.cells #[Value.string s,Value.int IntKind.i64 0,Value.slice none 0 0] 58)):=by
 have hb:Below w.heap.size w (((w.alloc (Obj.cells #[Value.slice none 0 0] 23)).alloc (Obj.cells #[Value.int IntKind.i64 0] 24)).alloc (Obj.cells #[Value.string s,Value.int IntKind.i64 0,Value.slice none 0 0] 58)):=((bal _).alloc (by simp) _).alloc (by simp;omega) _
 have hg2:=hg.below hb
 refine⟨alloc_keep _ (alloc_keep _ (alloc_new _ _ _ _ rfl)),alloc_keep _ (alloc_new _ _ _ _ (by simp)),⟨alloc_new _ _ _ _ (by simp),World.ownsRow_nil _ _ _ _⟩,⟨hg2.syn,hg2.ran, ?_, ?_⟩,hb⟩
 ·have:=hg.ltS;omega
 ·have:=hg.ltR;omega
set_option maxRecDepth 100000 in
set_option maxHeartbeats 8000000 in
theorem read_c (s:ByteArray) (w:World) (hg:Gl w w.heap.size) (hs:s.size≤4611686018427387904):
  Calls Tryz.prog 7 #[.string s] w fun e w'=>ReadOf s w e w':=by
 have hmf: ∀(fn:Fn) (first cap:Array Value) (w:World),(Instr.makeFunc fn first cap).run Tryz.prog w= .ok (.func fn first cap) w:=fun _ _ _ _=>rfl
 have HG:=Lib.hid hg
 clear hg
 by_cases hbig:400 < s.size
 ·have HE:=Lib.hid (show readE s=2 by rw[readE,if_pos hbig])
  have hd:decide ((400:Int) < (s.size:Int))=true:=by rw[decide_eq_true_eq];omega
  go_enter_defers Tryz.func7,Tryz.ntmps7
  go_wp2
  simp[bodyPostD,Leaves,settle,results,Tryz.results7,go_sem]
  refine⟨_,by rw[HE.out], ?_,(bal _).alloc (by simp) _⟩
  rw[readL,if_neg (by rw[HE.out];decide)]
  exact NdsAt.nil _
 have hd:decide ((400:Int) < (s.size:Int))=false:=by rw[decide_eq_false_iff_not];omega
 have h400:s.size≤400:=by omega
 go_enter_defers Tryz.func7,Tryz.ntmps7
 go_wp2_with fail
 have HW:=Lib.hid (rdW HG.out s)
 generalize (((w.alloc (Obj.cells #[Value.slice none 0 0] 23)).alloc (Obj.cells #[Value.int IntKind.i64 0] 24)).alloc (Obj.cells #[Value.string s,Value.int IntKind.i64 0,Value.slice none 0 0] 58))=W at HW ⊢
 refine(one_c _ s h400 401 0 _ [] _ HW.out.rd HW.out.gl (Nat.zero_le _) (by omega) (Nat.zero_le _)).mono ?_
 rintro e w1 h1
 have hwz:w.heap.size≠w.heap.size+1+1:=by omega
 have hwz1:w.heap.size+1≠w.heap.size+1+1:=by omega
 cases ho:oneP s 401 0 [] with
 | none=>
  rw[ho] at h1
  obtain⟨rfl,nv1,k1⟩:=h1
  have HE:=Lib.hid (show readE s=9 by rw[readE,if_neg (by omega),ho])
  have HB0:=Lib.hid (k1.block HW.out.b0 hwz (by simp[Value.ownBlock]))
  have HB1:=Lib.hid (k1.block HW.out.b1 hwz1 (by simp[Value.ownBlock]))
  have HK:=Lib.hid (HW.out.bel.trans (k1.toBelow (fun q hq=>by simp[Value.ownBlock] at hq) (by omega) HW.out.rd.lt))
  clear k1
  unfold fl9
  go_wp2
  refine leaves_cons (f:=18) (args:= #[.pointer (some ⟨w.heap.size,0,none⟩), .pointer (some ⟨w.heap.size+1,0,none⟩)]) (by simp) (by simp[go_sem]) ?_
  refine(catch_p w.heap.size _ _ [] _ HB0.out HB1.out).mono ?_
  rintro e u' w2 ⟨rfl,rfl,g0,g1,k2⟩
  have HE2:=Lib.hid (show readL s=[] by rw[readL,if_neg (by rw[HE.out];decide)])
  have HK2:=Lib.hid (HK.out.trans (k2.toBelow (fun q hq=>by simp[twoV,Value.ownBlock] at hq;omega) (Nat.le_refl _) (hlt_of HB0.out)))
  have y0:=cell_of_block (j:=0) g0 rfl
  have y1:=cell_of_block (j:=0) g1 rfl
  clear g0 g1 k2
  simp[Leaves,settle,results,Tryz.results7,go_sem,y0,y1]
  exact⟨_,by rw[HE.out],by rw[HE2.out];exact NdsAt.nil _,HK2.out⟩
 | some p=>
  obtain⟨j,ns⟩:=p
  rw[ho] at h1
  obtain⟨rfl,nv1,r1,k1⟩:=h1
  have HOK:=oneP_ok ho
  have HB0:=Lib.hid (k1.block HW.out.b0 hwz (by simp[Value.ownBlock]))
  have HB1:=Lib.hid (k1.block HW.out.b1 hwz1 (by simp[Value.ownBlock]))
  have HK:=Lib.hid (HW.out.bel.trans (k1.toBelow (fun q hq=>by simp[Value.ownBlock] at hq) (by omega) HW.out.rd.lt))
  have HR1:=Lib.hid r1
  obtain⟨c0,c1,c2,z1,z2⟩:=r1.cells
  have HOW:=Lib.hid r1.own
  have y0:=cell_of_block (j:=0) HB0.out rfl
  have y1:=cell_of_block (j:=0) HB1.out rfl
  have f0:=free_of_block (j:=0) HB0.out
  have f1:=free_of_block (j:=0) HB1.out
  have g0:=hlt_of HB0.out
  have g1:=hlt_of HB1.out
  clear k1 r1
  by_cases hj:j < s.size
  ·have HE:=Lib.hid (show readE s=9 by rw[readE,if_neg (by omega),ho];exact if_pos hj)
   have HE2:=Lib.hid (show readL s=[] by rw[readL,if_neg (by rw[HE.out];decide)])
   have hdj:decide ((j:Int) < (s.size:Int))=true:=by rw[decide_eq_true_eq];omega
   have HP:=Lib.hid (put2 HB0.out HB1.out (.slice none 0 0) (.int .i64 9)).1
   go_wp2
   refine leaves_cons (f:=18) (args:= #[.pointer (some ⟨w.heap.size,0,none⟩), .pointer (some ⟨w.heap.size+1,0,none⟩)]) (by simp) (by simp[go_sem]) ?_
   refine(catch_i w.heap.size _).mono ?_
   rintro e u' w2 ⟨rfl,rfl,rfl⟩
   simp[Leaves,settle,results,Tryz.results7,go_sem,y0,y1]
   exact⟨_,by rw[HE.out],by rw[HE2.out];exact NdsAt.nil _,HK.out.trans HP.out⟩
  have hdj:decide ((j:Int) < (s.size:Int))=false:=by rw[decide_eq_false_iff_not];omega
  have HNA:=Lib.hid (show NdsAt w1 nv1 ns from CellsAt.of_owns HOW.out (by simp at HOK;omega))
  have HRE:=Lib.hid (show readE s=formChk ns by rw[readE,if_neg (by omega),ho];exact if_neg hj)
  go_wp2_with fail
  refine(formChk_c nv1 ns _ HNA.out).mono ?_
  rintro e w2 ⟨rfl,hb⟩
  have HB20:=Lib.hid (below_keep hb HB0.out)
  have HB21:=Lib.hid (below_keep hb HB1.out)
  have HK2:=Lib.hid (HK.out.trans (hb.mono (by omega)))
  have HR2:=Lib.hid (HR1.out.below hb)
  clear y0 y1 f0 f1 g0 g1 c0 c1 c2 z1 z2 hb
  obtain⟨c0,c1,c2,z1,z2⟩:=HR2.out.cells
  have y0:=cell_of_block (j:=0) HB20.out rfl
  have y1:=cell_of_block (j:=0) HB21.out rfl
  have f0:=free_of_block (j:=0) HB20.out
  have f1:=free_of_block (j:=0) HB21.out
  have g0:=hlt_of HB20.out
  have g1:=hlt_of HB21.out
  by_cases hz:formChk ns=0
  ·rw[hz]
   have HP:=Lib.hid (put2 HB20.out HB21.out nv1 (.int .i64 0))
   obtain⟨na,nc,hnv⟩:=owns_slice HOW.out
   subst hnv
   go_wp2
   refine leaves_cons (f:=18) (args:= #[.pointer (some ⟨w.heap.size,0,none⟩), .pointer (some ⟨w.heap.size+1,0,none⟩)]) (by simp) (by simp[go_sem]) ?_
   refine(catch_i w.heap.size _).mono ?_
   rintro e u' w3 ⟨rfl,rfl,rfl⟩
   simp[Leaves,settle,results,Tryz.results7,go_sem,y0,y1]
   refine⟨_,by rw[HRE.out,hz], ?_,HK2.out.trans HP.out.1⟩
   rw[readL,if_pos (by rw[HRE.out];exact hz),ho]
   show NdsAt _ _ ns
   exact CellsAt.of_owns (owns_keep HR2.out.own fun k hk=>HP.out.2 k (by have:=(HR2.out.row k hk).1;omega)) (by simp at HOK;omega)
  ·have hzb:(formChk ns==0)=false:=beq_eq_false_iff_ne.2 hz
   have HP:=Lib.hid (put2 HB20.out HB21.out (.slice none 0 0) (.int .i64 (formChk ns)))
   go_wp2
   refine leaves_cons (f:=18) (args:= #[.pointer (some ⟨w.heap.size,0,none⟩), .pointer (some ⟨w.heap.size+1,0,none⟩)]) (by simp) (by simp[go_sem]) ?_
   refine(catch_i w.heap.size _).mono ?_
   rintro e u' w3 ⟨rfl,rfl,rfl⟩
   simp[Leaves,settle,results,Tryz.results7,go_sem,y0,y1]
   refine⟨_,by rw[HRE.out], ?_,HK2.out.trans HP.out.1⟩
   rw[readL,if_neg (by rw[HRE.out];exact hz)]
   exact NdsAt.nil _
end Go.Proofs.YtajgndoiddmbmaaGreatDoor
