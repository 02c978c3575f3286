/- What a slice value holds: predicates that say which cells a slice reads, kept by every world that only grows. No program in sight. -/
import Derived.WalkKit
import Derived.WalkSpells
import Derived.WalkLawsBesides
import Derived.Handy
import Derived.Lib.Hide
import Derived.Laws.AppendOwnNone
namespace Go.Proofs.YtdljflabokhedaaDoor
open Go.RowKit
def CellsAt (w:World) (v:Value) (n:Nat) (xs:List Value):Prop:=
 ∃a cap,v= .slice a n cap∧n≤cap∧n≤140737488355328∧(a=none→cap=0)∧
  (xs=[]∨ ∃b off,a=some ⟨b,off,none⟩∧b < w.heap.size∧ ∀j x,xs[j]? =some x→w.cell? ⟨b,off+j,none⟩=some x)
theorem CellsAt.nil (w:World):CellsAt w (.slice none 0 0) 0 []:=⟨none,0,rfl,Nat.le_refl _,by omega,fun _=>rfl, .inl rfl⟩
theorem CellsAt.of_owns {w:World} {base e size n:Nat} {v:Value} {xs:List Value} (h:w.ownsRow base e size v n xs) (hm:n≤140737488355328):CellsAt w v n xs:=by
 have hl:=h
 obtain⟨h1,h2⟩:=h
 rcases h2 with⟨rfl,rfl⟩ | ⟨g,cap,cur,rfl,hb,hg,hn,hc,hs,ht⟩
 ·have:xs=[]:=List.eq_nil_of_length_eq_zero (by simpa using h1)
  subst this;exact CellsAt.nil _
 ·refine⟨_,_,rfl,hn,hm,fun h=>by simp at h, .inr ⟨g,0,rfl,(Array.getElem?_eq_some_iff.1 hg).1,fun j x hj=> ?_⟩⟩
  have:=hl.cells (g:=g) rfl j x hj
  rwa[Addr.add_lit] at this
theorem bstep {w w1 w2:World} (h:Below w.heap.size w w1) (k:Below w1.heap.size w1 w2):Below w.heap.size w w2:=h.trans (k.mono h.size)
theorem ret_bool {a b:Bool} (h:a=b):Ending.returned (.bool a)= .returned (.bool b):=by rw[h]
theorem ret_int {k:IntKind} {a b:Int} (h:a=b):Ending.returned (.int k a)= .returned (.int k b):=by rw[h]
theorem owns_below {w1 w2:World} {base e size n:Nat} {v:Value} {xs:List Value} (h:w1.ownsRow base e size v n xs) (hb:Below w1.heap.size w1 w2):w2.ownsRow base e size v n xs:=by
 refine⟨h.1, ?_⟩
 rcases h.2 with hn | ⟨g,cap,cur,rfl,hb1,hgg,rest⟩
 ·exact .inl hn
 ·exact .inr ⟨g,cap,cur,rfl,hb1,by rw[hb.block g (Array.getElem?_eq_some_iff.1 hgg).1];exact hgg,rest⟩
theorem owns_slice {w1:World} {base e size n:Nat} {v:Value} {xs:List Value} (h:w1.ownsRow base e size v n xs): ∃a cap,v= .slice a n cap:=by
 rcases h.2 with⟨rfl,rfl⟩ | ⟨g,cap,cur,rfl,_⟩
 ·exact⟨_,_,rfl⟩
 ·exact⟨_,_,rfl⟩
theorem bal {W:World} (o:Obj):Below W.heap.size W (W.alloc o):=(Below.refl _ _).alloc (Nat.le_refl _) o
theorem ckeep {W W':World} (hb:Below W.heap.size W W') {p:Addr} {v:Value} (h:W.cell? p=some v):W'.cell? p=some v:=
 (hb.cell (p:=p) (World.block_lt_of_cell? W p h)).trans h
end Go.Proofs.YtdljflabokhedaaDoor
