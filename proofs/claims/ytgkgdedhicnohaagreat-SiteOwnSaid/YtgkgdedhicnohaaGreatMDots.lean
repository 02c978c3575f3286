/- The reference's Form: the form of a set of dots. Written by a small program (gen/dots2.py). The laws' sets of dots: what reedkeep.set does. Written by a small program (gen/dots3.py). -/
import Derived.Test.YtgkgdedhicnohaaGreatChecked
import Derived.Laws.Bits64b
import Derived.Deep.QuietTactic
import Derived.BigQuiet
import Derived.Test.YtgkgdedhicnohaaGreatMKnow5
namespace Go.Proofs.YtgkgdedhicnohaaGreat
set_option maxRecDepth 100000
set_option maxHeartbeats 40000000
open Go.RowKit
theorem own_kept2 {w w':World} {b1 b2 e1 e2 s1 s2 n k:Nat} {u v:Value} {xs ys:List Value} (h1:w.ownsRow b1 e1 s1 u n xs) (h2:w.ownsRow b2 e2 s2 v k ys) (hne:e1≠e2) (hg:w.grownBy w' v.ownBlock):w'.ownsRow b1 e1 s1 u n xs:=by
 rcases h1.2 with⟨rfl, -⟩ | ⟨g,cap,cur,rfl, -,hg1, -⟩
 ·exact h1.kept hg (.inl rfl)
 ·exact h1.kept hg (.inr (own_off h2 hg1 hne).symm)
section
variable {m:Nat→Nat} {w wr:World} {uv uw:Value} {vs:List Int} {ds:Dots}
end
def wiN (k m:Int):Nat:=(k%18446744073709551616%m).toNat
theorem wiN_lt (k:Int) (m:Nat) (hm:0 < m):wiN k m < m:=by
 have h1:=Int.emod_nonneg (k%18446744073709551616) (show(m:Int)≠0 by omega)
 have h2:=Int.emod_lt_of_pos (k%18446744073709551616) (show 0 < (m:Int) by omega)
 unfold wiN
 generalize k%18446744073709551616%(m:Int)=z at*
 omega
theorem wiN_eq (k m:Int) (hm:1≤m) (hm2:m≤9223372036854775807):wrap64 ((IntKind.u64.wrap k).tmod m)=(wiN k m:Int):=by
 rw[IntKind.wrap_u64]
 have h0:0≤k%18446744073709551616:=Int.emod_nonneg _ (by decide)
 rw[Int.tmod_eq_emod_of_nonneg h0]
 have h1:=Int.emod_nonneg (k%18446744073709551616) (show m≠0 by omega)
 have h2:=Int.emod_lt_of_pos (k%18446744073709551616) (show 0 < m by omega)
 rw[IntWalk.wrap64_in _ (by omega)]
 unfold wiN
 generalize k%18446744073709551616%m=z at*
 omega
theorem wiN_c (k m:Int) (w:World) (hm:1≤m) (hm2:m≤9223372036854775807):
  Calls Tryz.prog 16 #[.int .i64 k, .int .i64 m] w fun e w'=>e= .returned (.int .i64 ((wiN k m:Nat):Int))∧Below w.heap.size w w':=by
 go_enter Tryz.func16,Tryz.ntmps16
 go_wp2
 go_ret
 exact⟨ret_int (wiN_eq k m hm hm2),Below.refl _ _⟩
theorem setRow_other {w:World} {g k:Nat} {cs:Array Value} (h:g≠k):(w.setRow g cs).heap[k]? =w.heap[k]? :=by
 unfold World.setRow
 simp only
 rw[Array.getElem?_modify,if_neg h]
end Go.Proofs.YtgkgdedhicnohaaGreat
