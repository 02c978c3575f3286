/- Two sentences with a sign and brackets; one with a ! ahead: the laws. No program in sight. -/
import Derived.Test.YtajgndoiddmbmaaGreatDoorText8
namespace Go.Proofs.YtajgndoiddmbmaaGreatDoor
open Go.RowKit
def twoB (c:UInt8) (s t:ByteArray):ByteArray:=(((⟨#[40]⟩++s)++⟨#[c]⟩)++t)++⟨#[41]⟩
def notB (s:ByteArray):ByteArray:=⟨#[33]⟩++s
theorem size1 (c:UInt8):(⟨#[c]⟩:ByteArray).size=1:=rfl
theorem twoB_size (c:UInt8) (s t:ByteArray):(twoB c s t).size=s.size+t.size+3:=by
 simp only[twoB,size_app,size1];omega
section
variable (c:UInt8) (s t:ByteArray)
end
end Go.Proofs.YtajgndoiddmbmaaGreatDoor
