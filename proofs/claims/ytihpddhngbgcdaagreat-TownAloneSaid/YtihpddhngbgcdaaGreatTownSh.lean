/- The shelves of a town, all told, and compared: the closures of TownLetters. -/
import Derived.Test.YtihpddhngbgcdaaGreatMTownB
import Derived.Test.YtihpddhngbgcdaaGreatMSiteD
import Derived.Test.YtihpddhngbgcdaaGreatMShelf1
import Derived.Deep.CutBlock
import Derived.Test.YtihpddhngbgcdaaGreatTownB
import Derived.Test.YtihpddhngbgcdaaGreatMPartO
import Derived.Test.YtihpddhngbgcdaaGreatMTown0
import Derived.Test.YtihpddhngbgcdaaGreatMKnow5
import Derived.Test.YtihpddhngbgcdaaGreatMElt
import Derived.Test.YtihpddhngbgcdaaGreatMPure
import Derived.Test.YtihpddhngbgcdaaGreatMKnow1
import Derived.Test.YtihpddhngbgcdaaGreatChecked
import Derived.Test.YtihpddhngbgcdaaGreatMClone
import Derived.Laws.Bits64b
import Derived.Test.YtihpddhngbgcdaaGreatMClaims
import Derived.Deep.QuietTactic
import Derived.BigQuiet
import Derived.Test.YtihpddhngbgcdaaGreatMShelf4
namespace Go.Proofs.YtihpddhngbgcdaaGreat
open Go.RowKit
theorem TownAt.retype {w:World} {b g:Nat} {T T':Nat→Prop} {t:TownS} (h:TownAt w b T g t) (hT: ∀q,q < w.heap.size→T q→T' q):TownAt w b T' g t:=by
 obtain⟨sv,wv,gs,css,V⟩:=h.at_
 refine⟨h.ok,⟨h.ge.1,hT g V.lt h.ge.2⟩,sv,wv,gs,css,V.blk,V.srow,V.sites,fun q hq=> ?_,V.lets,V.wrow,fun q hq=>hT q (V.wrow.lt q hq).2 (V.wT q hq)⟩
 obtain⟨i,hi,rfl⟩:=List.getElem_of_mem hq
 exact hT _ (V.sites.each i hi (by have:=V.sites.len;omega)).lt (V.gT _ hq)
end Go.Proofs.YtihpddhngbgcdaaGreat
