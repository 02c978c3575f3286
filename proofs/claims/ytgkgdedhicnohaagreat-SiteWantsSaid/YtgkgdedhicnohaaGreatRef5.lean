/- What the reference's Knows does. -/
import Derived.Test.YtgkgdedhicnohaaGreatRef4
namespace Go.Proofs.YtgkgdedhicnohaaGreat
open Go.RowKit
structure Mn where
 p:Nat→Bool
 m:Nat→Nat
def mnC (a:Mn):Array Value:=boolC 512 a.p++dotC a.m
theorem mnC_size (a:Mn):(mnC a).size=592:=by unfold mnC;rw [Array.size_append,boolC_size,dotC_size]
theorem mnC_one' (a:Mn): ∀u∈(mnC a).toList,u.oneCell'=true:=by
 intro u hu
 unfold mnC at hu
 rw[Array.toList_append,List.mem_append] at hu
 rcases hu with hu | hu
 ·have:=boolC_one 512 a.p
  rw[Array.all_eq_true_iff_forall_mem] at this
  exact this u (by simpa using hu)
 ·have:=dotC_one a.m
  rw[Array.all_eq_true_iff_forall_mem] at this
  exact this u (by simpa using hu)
theorem mnC_len (a:Mn):(mnC a).toList.length=592:=by rw[Array.length_toList,mnC_size]
def mnE:Elt Mn where
 size:=592
 El _ a cs:=cs=(mnC a).toList
 len:=fun h=>by rw[h];exact mnC_len _
 one:=fun h=>by rw[h];exact mnC_one' _
 sub:=fun h _=>h
 pos:=by decide
end Go.Proofs.YtgkgdedhicnohaaGreat
