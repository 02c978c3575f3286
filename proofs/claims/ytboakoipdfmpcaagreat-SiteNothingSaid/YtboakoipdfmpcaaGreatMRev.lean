/- What slices.Reverse does to a row of versions of the call's own. Written by a small program (gen/rev.py). The closures of ShelfOrder, and cuts and joins of rows of versions. -/
import Derived.Test.YtboakoipdfmpcaaGreatMShelf11
import Derived.Test.YtboakoipdfmpcaaGreatMClaims
import Derived.Test.YtboakoipdfmpcaaGreatShelf13
import Derived.Test.YtboakoipdfmpcaaGreatMShelfP
import Derived.Test.YtboakoipdfmpcaaGreatMShelf7
import Derived.Test.YtboakoipdfmpcaaGreatMShelf1
import Derived.Test.YtboakoipdfmpcaaGreatMElt
import Derived.Test.YtboakoipdfmpcaaGreatMPure
import Derived.Test.YtboakoipdfmpcaaGreatMKnow1
import Derived.Test.YtboakoipdfmpcaaGreatChecked
import Derived.Test.YtboakoipdfmpcaaGreatMClone
import Derived.Laws.Bits64b
import Derived.Deep.QuietTactic
import Derived.BigQuiet
import Derived.Test.YtboakoipdfmpcaaGreatMKnow5
import Derived.Test.YtboakoipdfmpcaaGreatTold1
import Derived.Lib.AppendZeros
namespace Go.Proofs.YtboakoipdfmpcaaGreat
open Go.RowKit
theorem RowBut.trans {w w1 w2 : World} {g : Nat} (h : RowBut w w1 g) (k : RowBut w1 w2 g) : RowBut w w2 g := ⟨k.os.trans h.os, k.tape.trans h.tape, k.output.trans h.output, k.size.trans h.size, fun i hi => (k.other i hi).trans (h.other i hi)⟩
theorem Els.reverse {α : Type} {E : Elt α} {w : World} : ∀ {l : List α} {cs : List (List Value)}, Els E w l cs → Els E w l.reverse cs.reverse
  | [], [], _ => trivial
  | a :: l, c :: cs, h => by
    rw [List.reverse_cons, List.reverse_cons]
    exact (Els.reverse h.2).append (Els.single h.1)
  | [], _ :: _, h => h.elim
  | _ :: _, [], h => h.elim
end Go.Proofs.YtboakoipdfmpcaaGreat
namespace Go.Proofs.YtboakoipdfmpcaaGreat
open Go.RowKit
theorem RowAt.empty {α : Type} {E : Elt α} {w : World} {a : Option Addr} {c : Nat} (h : a = none → c = 0) : RowAt E w (.slice a 0 c) [] := ⟨[], trivial, a, c, rfl, Nat.zero_le _, by simp, h, .inl rfl⟩
theorem VOwn.shape {w : World} {base : Nat} {v : Value} {l : List Ver} (h : VOwn w base v l) : ∃ a c, v = Value.slice a l.length c := by
  obtain ⟨css, -, h2⟩ := h
  exact owns_slice h2
end Go.Proofs.YtboakoipdfmpcaaGreat
