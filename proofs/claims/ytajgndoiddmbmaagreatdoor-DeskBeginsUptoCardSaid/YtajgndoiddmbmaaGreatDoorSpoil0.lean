/- Towards what desk.Run answers. -/
import Derived.Test.YtajgndoiddmbmaaGreatDoorMBase
import Derived.Deep.DeepAppendRoom
namespace Go.Proofs.YtajgndoiddmbmaaGreatDoor
open Go.RowKit
structure Sp (S:Nat→Prop) (w w':World):Prop where
 os:w'.os=w.os
 tape:w'.tape=w.tape
 output:w'.output=w.output
 size:w.heap.size≤w'.heap.size
 keep: ∀k,k < w.heap.size→ ¬S k→w'.heap[k]? =w.heap[k]?
 shape: ∀(k:Nat) (cs:Array Value) (e:TypeId),w.heap[k]? =some (.cells cs e (0,0))→ ∃cs',w'.heap[k]? =some (.cells cs' e (0,0))∧cs'.size=cs.size
theorem Sp.refl (S:Nat→Prop) (w:World):Sp S w w:=⟨rfl,rfl,rfl,Nat.le_refl _,fun _ _ _=>rfl,fun _ cs _ h=>⟨cs,h,rfl⟩⟩
theorem Sp.trans {S:Nat→Prop} {a b c:World} (h:Sp S a b) (k:Sp S b c):Sp S a c:=by
 refine⟨k.os.trans h.os,k.tape.trans h.tape,k.output.trans h.output,Nat.le_trans h.size k.size,fun j hj hS=>(k.keep j (Nat.lt_of_lt_of_le hj h.size) hS).trans (h.keep j hj hS),fun j cs e hc=> ?_⟩;obtain⟨c1,h1,h2⟩:=h.shape j cs e hc;obtain⟨c2,h3,h4⟩:=k.shape j c1 e h1;exact⟨c2,h3,h4.trans h2⟩
theorem Sp.mono {S T:Nat→Prop} {w w':World} (h:Sp S w w') (Mf: ∀k,S k→T k):Sp T w w':=⟨h.os,h.tape,h.output,h.size,fun k hk hT=>h.keep k hk fun hs=>hT (Mf k hs),h.shape⟩
theorem Sp.of_below {S:Nat→Prop} {w w':World} (h:Below w.heap.size w w'):Sp S w w':=⟨h.os,h.tape,h.output,h.size,fun k hk _=>h.block k hk,fun _ cs _ hc=>⟨cs,ag h hc,rfl⟩⟩
theorem Sp.block {S:Nat→Prop} {w w':World} {g:Nat} {o:Obj} (h:Sp S w w') (hg:w.heap[g]? =some o) (hS: ¬S g):w'.heap[g]? =some o:=by
 rw[h.keep g (Array.getElem?_eq_some_iff.1 hg).1 hS];exact hg
end Go.Proofs.YtajgndoiddmbmaaGreatDoor
