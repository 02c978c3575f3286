/- What DeskShow does. -/
import Derived.Test.YtajgndoiddmbmaaGreatDoorDesk4
namespace Go.Proofs.YtajgndoiddmbmaaGreatDoor
open Go.RowKit
def s0B:ByteArray:=⟨#[40,35,48,38,33,42,41]⟩
theorem s0_read:readE s0B=0:=by decide+kernel
set_option maxRecDepth 100000 in
theorem DeskShow_begun (w:World) (hG:Gl w w.heap.size):Calls Tryz.prog 6 #[.string ⟨#[115,104,111,119,32,40,35,48,38,33,42,41,10]⟩] w fun e w'=>e= .returned (.string ⟨#[111,107,32,40,35,48,38,33,42,41,10]⟩)∧Below w.heap.size w w':=by
 have h:=show_run s0B w hG s0_read
 have e1:scrB s0B=⟨#[115,104,111,119,32,40,35,48,38,33,42,41,10]⟩:=by decide+kernel
 have e2:okS s0B++⟨#[10]⟩=⟨#[111,107,32,40,35,48,38,33,42,41,10]⟩:=by decide+kernel
 rw[e1,e2] at h
 exact h
set_option maxRecDepth 100000 in
set_option maxHeartbeats 4000000 in
theorem DeskShow_walk (s:ByteArray) (w:World) (hG:Gl w w.heap.size) (hs:s.size≤140737488355328):
  Calls Tryz.prog 3 #[.string s] w fun e w'=>e= .returned (.bool true)∧Below w.heap.size w w':=by
 have HG:=Lib.hid hG
 have HBG:=Lib.hid (DeskShow_begun w hG)
 clear hG
 go_enter Tryz.func3,Tryz.ntmps3
 go_wp2_with fail
 (with_reducible refine(HBG.out).mono ?_)
 rintro e w1 ⟨rfl,hb1⟩
 have HB1:=Lib.hid hb1
 have HRD:=Lib.hid (read_c s w1 ((HG.out.below hb1).up hb1.size) (by omega))
 clear hb1 HBG
 go_wp2_with fail
 (with_reducible refine(HRD.out).mono ?_)
 rintro e w2 ⟨u,rfl, -,hb2⟩
 have HB2:=Lib.hid (bstep HB1.out hb2)
 clear hb2 HRD HB1
 by_cases hz:readE s=0
 rotate_left
 ·have hd:decide (readE s=0)=false:=by simpa using hz
  have hd2:(readE s != 0)=true:=bne_iff_ne.2 hz
  go_wp2
  go_ret
  exact⟨rfl,HB2.out⟩
 have h4:=readE_size hz
 have HRN:=Lib.hid (show Calls Tryz.prog 6 #[.string ((⟨#[115,104,111,119,32]⟩++s)++⟨#[10]⟩)] w2 fun e w'=>e= .returned (.string ((⟨#[111,107,32]⟩++s)++⟨#[10]⟩))∧Below w2.heap.size w2 w' from show_run s w2 ((HG.out.below HB2.out).up HB2.out.size) hz)
 rw[hz]
 clear hz
 go_wp2_with fail
 (with_reducible refine(HRN.out).mono ?_)
 rintro e w3 ⟨rfl,hb3⟩
 have HB3:=Lib.hid (bstep HB2.out hb3)
 clear hb3 HRN HB2
 go_wp2
 go_ret
 exact⟨rfl,HB3.out⟩
end Go.Proofs.YtajgndoiddmbmaaGreatDoor
