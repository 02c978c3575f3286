/- The walk of reedkeep.TextFront. -/
import Derived.Test.YtdljflabokhedaaDoorText5
import Derived.Test.YtdljflabokhedaaDoorText6
namespace Go.Proofs.YtdljflabokhedaaDoor
open Go.RowKit
theorem sFront_ok:readE ⟨#[40,42,38,91,51,44,57,41,41]⟩=0∧(readL ⟨#[40,42,38,91,51,44,57,41,41]⟩).length=3:=by
 decide+kernel
set_option maxRecDepth 100000 in
set_option maxHeartbeats 8000000 in
theorem textFront_walk (s t:ByteArray) (W:World) (hg:Gl W W.heap.size) (hs:s.size≤140737488355328) (ht:t.size≤140737488355328):
  Calls Tryd.prog 3 #[.string s, .string t] W fun e w'=>e= .returned (.bool true)∧Below W.heap.size W w':=by
 have HG:=Lib.hid hg
 clear hg
 have hst:=size_app s t
 go_enter Tryd.func3,Tryd.ntmps3
 go_wp2_with fail
 refine(read_c _ _ HG.out (by decide)).mono ?_
 rintro e w1 ⟨u1,rfl,hu1,hb1⟩
 rw[sFront_ok.1]
 obtain⟨a1,cap1,rfl, -, -, -, -⟩:=hu1.open_
 rw[sFront_ok.2]
 have HG1:=Lib.hid ((HG.out.below hb1).up hb1.size)
 have HB1:=Lib.hid hb1
 clear hu1 hb1
 go_wp2_with fail
 refine(read_c s _ HG1.out (by omega)).mono ?_
 rintro e w2 ⟨u2,rfl,hu2,hb2⟩
 obtain⟨a2,cap2,rfl, -, -, -, -⟩:=hu2.open_
 have HG2:=Lib.hid ((HG1.out.below hb2).up hb2.size)
 have HB2:=Lib.hid (bstep HB1.out hb2)
 clear hu2 hb2
 go_wp2_with fail
 refine(read_c (s++t) _ HG2.out (by omega)).mono ?_
 rintro e w3 ⟨u3,rfl,hu3,hb3⟩
 obtain⟨a3,cap3,rfl, -, -, -, -⟩:=hu3.open_
 have HB3:=Lib.hid (bstep HB2.out hb3)
 clear hu3 hb3
 by_cases hr:readE s=0
 rotate_left
 ·have hrb:(readE s==0)=false:=beq_eq_false_iff_ne.2 hr
  rw[readL_bad hr]
  go_wp2
  go_ret
  exact⟨rfl,HB3.out⟩
 rw[hr]
 by_cases htz:t.size=0
 ·have hte:(t.toList==([]:List UInt8))=true:=by rw[beq_iff_eq,ByteArray.toList_eq];exact List.eq_nil_of_length_eq_zero (by rw[Array.length_toList];exact htz)
  go_wp2
  go_ret
  exact⟨rfl,HB3.out⟩
 have hte:(t.toList==([]:List UInt8))=false:=by rw[beq_eq_false_iff_ne,ByteArray.toList_eq];intro e;apply htz;rw [show t.size=t.data.toList.length by rw[Array.length_toList];rfl,e];rfl
 have hq:=front_law hr htz
 have hqb:(readE (s++t)==0)=false:=beq_eq_false_iff_ne.2 hq
 rw[readL_bad hq]
 go_wp2
 go_ret
 exact⟨ret_bool (bne_iff_ne.2 hq),HB3.out⟩
end Go.Proofs.YtdljflabokhedaaDoor
