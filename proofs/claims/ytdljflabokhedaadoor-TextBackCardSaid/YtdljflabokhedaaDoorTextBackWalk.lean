/- The walk of reedkeep.TextBack. -/
import Derived.Test.YtdljflabokhedaaDoorText12
import Derived.Test.YtdljflabokhedaaDoorTextBothWalk
namespace Go.Proofs.YtdljflabokhedaaDoor
open Go.RowKit
def backL:Nds:=[⟨2,3,0⟩,⟨3,1,9⟩,⟨6,0,1⟩]
theorem itB_lt {a:Nat} (h:a < 10):itB a=⟨#[UInt8.ofNat (48+a)]⟩:=by unfold itB;rw [Lib.decDigits,dif_pos h]
theorem back_ok:showE backL=0∧showS backL=⟨#[40,35,51,124,91,49,44,57,41,41]⟩:=by
 have e:lastS backL=⟨#[40,35,51,124,91,49,44,57,41,41]⟩:=by
  simp only[lastS,txts,backL,txtsK,List.length_cons,List.length_nil,rawS]
  simp[itB_lt (show 3 < 10 by decide),itB_lt (show 1 < 10 by decide),itB_lt (show 9 < 10 by decide)]
  decide+kernel
 have h:showE backL=0:=by rw[showE,if_pos (by decide+kernel),e];decide+kernel
 exact⟨h,by rw[showS,if_pos h,e]⟩
set_option maxRecDepth 100000 in
set_option maxHeartbeats 16000000 in
theorem textBack_walk (vz:Value) (l:Nds) (s:ByteArray) (W:World) (hl:NdsAt W vz l) (hg:Gl W W.heap.size) (hs:s.size≤140737488355328):
  Calls Tryd.prog 5 #[vz, .string s] W fun e w'=>e= .returned (.bool true)∧Below W.heap.size W w':=by
 obtain⟨va,vc,rfl, -, -, -, -⟩:=hl.open_
 have HG:=Lib.hid hg
 have HL:=Lib.hid hl
 clear hg hl
 go_enter Tryd.func5,Tryd.ntmps5
 go_wp2_with fail
 have HB0:=Lib.hid (bal (W:=W) (Obj.cells #[Value.int .i64 2,Value.int .i64 3,Value.int .i64 0,Value.int .i64 3,Value.int .i64 1,Value.int .i64 9,Value.int .i64 6,Value.int .i64 0,Value.int .i64 1] 37))
 refine(show_c _ backL _ ?_).mono ?_
 ·refine CellsAt.mk (b:=W.heap.size) (off:=0) (Nat.le_refl _) (by simp[backL]) (by simp) fun j x hj=> ?_
  rw[Nat.zero_add,World.cell?_alloc_at _ _ _ _ rfl]
  simpa[backL,ndCells] using hj
 rintro e w1 ⟨rfl,hb⟩
 rw[back_ok.1,back_ok.2]
 have HB1:=Lib.hid (bstep HB0.out hb)
 have HG1:=Lib.hid ((HG.out.below (bstep HB0.out hb)).up HB1.out.size)
 have HL1:=Lib.hid (HL.out.below (bstep HB0.out hb))
 clear hb HG HL
 go_wp2_with fail
 refine(show_c _ l _ HL1.out).mono ?_
 rintro e w2 ⟨rfl,hb⟩
 have HB2:=Lib.hid (bstep HB1.out hb)
 have HG2:=Lib.hid ((HG1.out.below hb).up hb.size)
 have HL2:=Lib.hid (HL1.out.below hb)
 clear hb HG1 HL1 HB0 HB1
 by_cases hz:showE l=0
 rotate_left
 ·have hzb:(showE l==0)=false:=beq_eq_false_iff_ne.2 hz
  rw[show showS l=ByteArray.empty from if_neg hz]
  go_wp2_with fail
  refine(read_c s _ HG2.out (by omega)).mono ?_
  rintro e wa ⟨ua,rfl,hua,hba⟩
  obtain⟨aa,capa,rfl, -, -, -, -⟩:=hua.open_
  have HBa:=Lib.hid (bstep HB2.out hba)
  have HUA:=Lib.hid hua
  clear hua hba
  by_cases hrs:readE s=0
  rotate_left
  ·have hrb:(readE s==0)=false:=beq_eq_false_iff_ne.2 hrs
   rw[readL_bad hrs]
   go_wp2
   go_ret
   exact⟨rfl,HBa.out⟩
  have hrd:=read_shown hrs
  have hss:showS (readL s)=s:=by rw[showS,if_pos hrd.1,hrd.2]
  rw[hrs]
  go_wp2_with fail
  refine(show_c _ _ _ HUA.out).mono ?_
  rintro e wb ⟨rfl,hbb⟩
  have HBb:=Lib.hid (bstep HBa.out hbb)
  rw[hrd.1,hss]
  clear hbb hrd hss
  have hbeq:(s.toList==s.toList)=true:=beq_self_eq_true _
  go_wp2
  go_ret
  exact⟨rfl,HBb.out⟩
 have hzl:=(show_zero hz).2
 have CL:=Lib.hid (show_zero hz).1
 have HSR:=Lib.hid (shown_read hz)
 rw[hz,show showS l=lastS l from if_pos hz]
 generalize lastS l=ts at*
 go_wp2_with fail
 refine(read_c ts _ HG2.out (by omega)).mono ?_
 rintro e w3 ⟨u3,rfl,hu3,hb⟩
 obtain⟨a3,cap3,rfl, -, -, -, -⟩:=hu3.open_
 have HU3:=Lib.hid hu3
 have HB3:=Lib.hid (bstep HB2.out hb)
 have HG3:=Lib.hid ((HG2.out.below hb).up hb.size)
 have HL3:=Lib.hid (HL2.out.below hb)
 clear hu3 hb HG2 HL2 HB2
 rcases HSR.out with⟨hr,hv⟩ | hr
 rotate_left
 ·rw[hr]
  go_wp2_with fail
  refine(read_c s _ HG3.out (by omega)).mono ?_
  rintro e wa ⟨ua,rfl,hua,hba⟩
  obtain⟨aa,capa,rfl, -, -, -, -⟩:=hua.open_
  have HBa:=Lib.hid (bstep HB3.out hba)
  have HUA:=Lib.hid hua
  clear hua hba
  by_cases hrs:readE s=0
  rotate_left
  ·have hrb:(readE s==0)=false:=beq_eq_false_iff_ne.2 hrs
   rw[readL_bad hrs]
   go_wp2
   go_ret
   exact⟨rfl,HBa.out⟩
  have hrd:=read_shown hrs
  have hss:showS (readL s)=s:=by rw[showS,if_pos hrd.1,hrd.2]
  rw[hrs]
  go_wp2_with fail
  refine(show_c _ _ _ HUA.out).mono ?_
  rintro e wb ⟨rfl,hbb⟩
  have HBb:=Lib.hid (bstep HBa.out hbb)
  rw[hrd.1,hss]
  clear hbb hrd hss
  have hbeq:(s.toList==s.toList)=true:=beq_self_eq_true _
  go_wp2
  go_ret
  exact⟨rfl,HBb.out⟩
 have C3:=Lib.hid (readL_chk hr)
 have HV:=Lib.hid hv
 rw[hr]
 clear hv
 go_wp2_with fail
 refine(formF _ _ _ HL3.out CL.out).mono ?_
 rintro e w4 ⟨v4,rfl,f4,hb⟩
 obtain⟨ad4,nn4,cc4,hv⟩:=f4.shape
 subst hv
 have HF4:=Lib.hid f4
 have HU4:=Lib.hid (HU3.out.below hb)
 have HB4:=Lib.hid (bstep HB3.out hb)
 have HG4:=Lib.hid ((HG3.out.below hb).up hb.size)
 clear f4 hb HG3 HB3
 go_wp2_with fail
 refine(formF _ _ _ HU4.out C3.out).mono ?_
 rintro e w5 ⟨v5,rfl,f5,hb⟩
 obtain⟨ad5,nn5,cc5,hv⟩:=f5.shape
 subst hv
 have HF5:=Lib.hid f5
 replace HF4:=Lib.hid (HF4.out.below hb)
 have HB5:=Lib.hid (bstep HB4.out hb)
 have HG5:=Lib.hid ((HG4.out.below hb).up hb.size)
 clear f5 hb HG4 HB4
 go_wp2_with fail
 refine(sameT _ _ _ _ _ HF4.out HF5.out (fun k n=>(HV.out _ _).symm)).mono ?_
 rintro e w6 ⟨rfl,hb⟩
 have HB6:=Lib.hid (bstep HB5.out hb)
 have HG6:=Lib.hid ((HG5.out.below hb).up hb.size)
 clear hb HG5 HB5 HF4 HF5
 go_wp2_with fail
 refine(read_c s _ HG6.out (by omega)).mono ?_
 rintro e wa ⟨ua,rfl,hua,hba⟩
 obtain⟨aa,capa,rfl, -, -, -, -⟩:=hua.open_
 have HBa:=Lib.hid (bstep HB6.out hba)
 have HUA:=Lib.hid hua
 clear hua hba
 by_cases hrs:readE s=0
 rotate_left
 ·have hrb:(readE s==0)=false:=beq_eq_false_iff_ne.2 hrs
  rw[readL_bad hrs]
  go_wp2
  go_ret
  exact⟨rfl,HBa.out⟩
 have hrd:=read_shown hrs
 have hss:showS (readL s)=s:=by rw[showS,if_pos hrd.1,hrd.2]
 rw[hrs]
 go_wp2_with fail
 refine(show_c _ _ _ HUA.out).mono ?_
 rintro e wb ⟨rfl,hbb⟩
 have HBb:=Lib.hid (bstep HBa.out hbb)
 rw[hrd.1,hss]
 clear hbb hrd hss
 have hbeq:(s.toList==s.toList)=true:=beq_self_eq_true _
 go_wp2
 go_ret
 exact⟨rfl,HBb.out⟩
end Go.Proofs.YtdljflabokhedaaDoor
