/- What is written over and what stays: no walk here. -/
import Derived.Test.YtgkgdedhicnohaaGreatMBase
import Derived.Deep.DeepAppendRoom
namespace Go.Proofs.YtgkgdedhicnohaaGreat
open Go.RowKit
structure Sp (S:Nat→Prop) (w w':World):Prop where
 os:w'.os=w.os
 tape:w'.tape=w.tape
 output:w'.output=w.output
 size:w.heap.size≤w'.heap.size
 keep: ∀k,k < w.heap.size→ ¬S k→w'.heap[k]? =w.heap[k]?
 shape: ∀(k:Nat) (cs:Array Value) (e:TypeId),w.heap[k]? =some (.cells cs e (0,0))→ ∃cs',w'.heap[k]? =some (.cells cs' e (0,0))∧cs'.size=cs.size
theorem Sp.refl (S:Nat→Prop) (w:World):Sp S w w:=⟨rfl,rfl,rfl,Nat.le_refl _,fun _ _ _=>rfl,fun _ cs _ h=>⟨cs,h,rfl⟩⟩
theorem Sp.trans {S:Nat→Prop} {a b c:World} (h:Sp S a b) (k:Sp S b c):Sp S a c:=by
 refine⟨k.os.trans h.os,k.tape.trans h.tape,k.output.trans h.output,Nat.le_trans h.size k.size,fun j hj hS=>(k.keep j (Nat.lt_of_lt_of_le hj h.size) hS).trans (h.keep j hj hS),fun j cs e hc=> ?_⟩
 obtain⟨c1,h1,h2⟩:=h.shape j cs e hc
 obtain⟨c2,h3,h4⟩:=k.shape j c1 e h1
 exact⟨c2,h3,h4.trans h2⟩
theorem Sp.mono {S T:Nat→Prop} {w w':World} (h:Sp S w w') (hST: ∀k,S k→T k):Sp T w w':=⟨h.os,h.tape,h.output,h.size,fun k hk hT=>h.keep k hk fun hs=>hT (hST k hs),h.shape⟩
theorem Sp.of_below {S:Nat→Prop} {w w':World} (h:Below w.heap.size w w'):Sp S w w':=⟨h.os,h.tape,h.output,h.size,fun k hk _=>h.block k hk,fun _ cs _ hc=>⟨cs,below_keep h hc,rfl⟩⟩
theorem Sp.toBelow {S:Nat→Prop} {base:Nat} {w w':World} (h:Sp S w w') (hS: ∀k,S k→base≤k) (hb:base≤w.heap.size):Below base w w':=⟨h.os,h.tape,h.output,h.size,fun k hk=>h.keep k (by omega) fun hs=>by have:=hS k hs;omega⟩
theorem Sp.block {S:Nat→Prop} {w w':World} {g:Nat} {o:Obj} (h:Sp S w w') (hg:w.heap[g]? =some o) (hS: ¬S g):w'.heap[g]? =some o:=by
 rw[h.keep g (Array.getElem?_eq_some_iff.1 hg).1 hS];exact hg
theorem Sp.cell {S:Nat→Prop} {w w':World} {p:Addr} (h:Sp S w w') (hp:p.block < w.heap.size) (hS: ¬S p.block):w'.cell? p=w.cell? p:=World.cell?_of_block (h.keep p.block hp hS)
end Go.Proofs.YtgkgdedhicnohaaGreat
