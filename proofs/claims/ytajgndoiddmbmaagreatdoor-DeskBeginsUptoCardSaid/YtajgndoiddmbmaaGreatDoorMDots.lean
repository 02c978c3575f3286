/- Towards what desk.Run answers. -/
import Derived.Laws.Bits64b
import Derived.Test.YtajgndoiddmbmaaGreatDoorMKnow5
namespace Go.Proofs.YtajgndoiddmbmaaGreatDoor
set_option maxRecDepth 100000
set_option maxHeartbeats 40000000
open Go.RowKit
theorem fE {w w':World} {b1 b2 e1 e2 s1 s2 n k:Nat} {u v:Value} {xs ys:List Value} (h1:w.ownsRow b1 e1 s1 u n xs) (h2:w.ownsRow b2 e2 s2 v k ys) (hne:e1≠e2) (hg:w.grownBy w' v.ownBlock):w'.ownsRow b1 e1 s1 u n xs:=by
 rcases h1.2 with⟨rfl, -⟩ | ⟨g,cap,cur,rfl, -,hg1, -⟩
 ·exact h1.kept hg (.inl rfl)
 ·exact h1.kept hg (.inr (AE h2 hg1 hne).symm)
section
variable {m:Nat→Nat} {w wr:World} {uv uw:Value} {vs:List Int} {ds:dN}
end
def LP (k m:Int):Nat:=(k%18446744073709551616%m).toNat
theorem X9 (k m:Int) (hm:1≤m) (hm2:m≤9223372036854775807):wrap64 ((IntKind.u64.wrap k).tmod m)=(LP k m:Int):=by
 rw[IntKind.wrap_u64];have h0:0≤k%18446744073709551616:=Int.emod_nonneg _ (by decide);rw[Int.tmod_eq_emod_of_nonneg h0];have h1:=Int.emod_nonneg (k%18446744073709551616) (show m≠0 by omega);have h2:=Int.emod_lt_of_pos (k%18446744073709551616) (show 0 < m by omega);rw[IntWalk.wrap64_in _ (by omega)];unfold LP;generalize k%18446744073709551616%m=z at*;omega
theorem abH (k m:Int) (w:World) (hm:1≤m) (hm2:m≤9223372036854775807):
  Calls Tryz.prog 11 #[.int .i64 k, .int .i64 m] w fun e w'=>e= .returned (.int .i64 ((LP k m:Nat):Int))∧Below w.heap.size w w':=by
 go_enter Tryz.func11,Tryz.ntmps11;go_wp2;go_ret;exact⟨bw (X9 k m hm hm2),br⟩
end Go.Proofs.YtajgndoiddmbmaaGreatDoor
