/- What stays in memory, said by the types of blocks; rows of what is gone that are the call's own. No walk here. -/
import Derived.Test.YtgkgdedhicnohaaGreatMWire1
import Derived.Test.YtgkgdedhicnohaaGreatWireSum
import Derived.BigQuiet
import Derived.Lib.EndianBits
import Derived.Test.YtgkgdedhicnohaaGreatMPartO
import Derived.Test.YtgkgdedhicnohaaGreatMShelfP
import Derived.Test.YtgkgdedhicnohaaGreatChecked
import Derived.Laws.Bits64b
import Derived.Deep.QuietTactic
import Derived.Test.YtgkgdedhicnohaaGreatMCl3
namespace Go.Proofs.YtgkgdedhicnohaaGreat
set_option maxRecDepth 100000
set_option maxHeartbeats 40000000
open Go.RowKit
structure TKeep (T:Nat→Bool) (w w':World):Prop where
 size:w.heap.size≤w'.heap.size
 blk: ∀(k:Nat) (cs:Array Value) (t:TypeId),w.heap[k]? =some (Obj.cells cs t (0,0))→T t=true→w'.heap[k]? =some (Obj.cells cs t (0,0))
theorem TKeep.owns {T:Nat→Bool} {w w':World} {base e size n:Nat} {v:Value} {xs:List Value} (h:TKeep T w w') (hu:w.ownsRow base e size v n xs) (he:T e=true):w'.ownsRow base e size v n xs:=by
 refine⟨hu.1, ?_⟩
 rcases hu.2 with h0 | ⟨g,cap,cur,h1,h2,h3,h4⟩
 ·exact .inl h0
 ·exact .inr ⟨g,cap,cur,h1,h2,h.blk _ _ _ h3 he,h4⟩
theorem TKeep.of_below {T:Nat→Bool} {w w':World} (h:Below w.heap.size w w'):TKeep T w w':=⟨h.size,fun _ _ _ hk _=>below_keep h hk⟩
theorem TKeep.refl (T:Nat→Bool) (w:World):TKeep T w w:=⟨Nat.le_refl _,fun _ _ _ h _=>h⟩
theorem TKeep.of_block {T:Nat→Bool} {w w':World} {B:Nat} {cs:Array Value} {t:TypeId} (hs:w.heap.size≤w'.heap.size) (h: ∀k,k < w.heap.size→k≠B→w'.heap[k]? =w.heap[k]?) (hB:w.heap[B]? =some (Obj.cells cs t (0,0))) (ht:T t=false):TKeep T w w':=by
 refine⟨hs,fun k ds u hk hu=> ?_⟩
 have hne:k≠B:=by
  intro e;subst e
  rw[hB] at hk
  simp only[Option.some.injEq,Obj.cells.injEq] at hk
  rw[hk.2.1,hu] at ht
  exact absurd ht (by decide)
 rw[h k (Array.getElem?_eq_some_iff.1 hk).1 hne];exact hk
theorem TKeep.of_app {T:Nat→Bool} {base e size n:Nat} {w w':World} {v:Value} {xs:List Value} (h:w.ownsRow base e size v n xs) (hg:w.grownBy w' v.ownBlock) (ht:T e=false):TKeep T w w':=by
 refine⟨hg.size,fun k ds u hk hu=> ?_⟩
 refine grown_keep h hg hk ?_
 intro e0;subst e0
 rw[hu] at ht;exact absurd ht (by decide)
theorem TKeep.of_set {T:Nat→Bool} {w:World} {g j:Nat} {v:Value} {cs:Array Value} {t:TypeId} (hg:w.heap[g]? =some (Obj.cells cs t (0,0))) (ht:T t=false):TKeep T w (w.setCell ⟨g,j,none⟩ v):=
 TKeep.of_block (by simp[World.setCell]) (fun k _ hne=>heap_set_other hne) hg ht
theorem KnOwn.tk {T:Nat→Bool} {w w':World} {base:Nat} {u x:Value} {k:Kn} (h:KnOwn w base u x k) (hk:TKeep T w w') (h1:T 3=true) (h2:T 41=true):KnOwn w' base u x k:=⟨hk.owns h.vec h1,hk.owns h.more h2⟩
theorem FOwn.tk {T:Nat→Bool} {w w':World} {base:Nat} {f:Value} {l:Bxs} (h:FOwn w base f l) (hk:TKeep T w w') (h1:T 124=true) (h2:T 119=true):FOwn w' base f l:=by
 obtain⟨us,a,b,c⟩:=h
 exact⟨us,a,hk.owns b h1,fun i hi hi'=>hk.owns (c i hi hi') h2⟩
theorem VOwn.tk {T:Nat→Bool} {w w':World} {base:Nat} {v:Value} {l:List Ver} (h:VOwn w base v l) (hk:TKeep T w w') (h1:T 3=true) (h2:T 41=true) (h3:T 75=true):VOwn w' base v l:=by
 obtain⟨css,a,b⟩:=h
 exact⟨css,a.map fun _ _ _ h=>h.tk hk h1 h2,hk.owns b h3⟩
def GE (w:World) (base:Nat):List Gn→List (List Value)→Prop
 | [],[]=>True
 | g::l,c::cs=>(∃u x:Value,c=[.string g.id,u,x]∧KnOwn w base u x g.past)∧GE w base l cs
 | _,_=>False
theorem GE.map {w w':World} {base base':Nat} (h: ∀u x k,KnOwn w base u x k→KnOwn w' base' u x k): ∀ {l:List Gn} {cs:List (List Value)},GE w base l cs→GE w' base' l cs
 | [],[],_=>trivial
 | _::_,_::_,⟨⟨u,x,h1,h2⟩,h3⟩=>⟨⟨u,x,h1,h _ _ _ h2⟩,GE.map h h3⟩
 | [],_::_,h3=>h3.elim
 | _::_,[],h3=>h3.elim
theorem GE.snoc {w:World} {base:Nat} : ∀ {l:List Gn} {cs:List (List Value)} {v:Gn} {c:List Value},GE w base l cs→GE w base [v] [c]→GE w base (l++[v]) (cs++[c])
 | [],[],_,_,_,k=>k
 | _::_,_::_,_,_,h,k=>⟨h.1,GE.snoc h.2 k⟩
 | [],_::_,_,_,h,_=>h.elim
 | _::_,[],_,_,h,_=>h.elim
theorem GE.els {w:World} {base:Nat} : ∀ {l:List Gn} {cs:List (List Value)},GE w base l cs→(∀v∈l,v.past.vec.length≤5∧v.past.more.length≤60)→Els goneE w l cs
 | [],[],_,_=>trivial
 | v::_,_::_,⟨⟨u,x,h1,h2⟩,h3⟩,hb=>⟨⟨_,_,h1,h2.at_ (hb v (by simp)).1 (by have:=(hb v (by simp)).2;omega)⟩,GE.els h3 fun x hx=>hb x (by simp[hx])⟩
 | [],_::_,h,_=>h.elim
 | _::_,[],h,_=>h.elim
def GOwn (w:World) (base:Nat) (v:Value) (l:List Gn):Prop:= ∃css,GE w base l css∧w.ownsRow base 101 3 v l.length css.flatten
theorem GOwn.nil (w:World) (base:Nat):GOwn w base (.slice none 0 0) []:=⟨[],trivial,World.ownsRow_nil _ _ _ _⟩
theorem GOwn.tk {T:Nat→Bool} {w w':World} {base:Nat} {v:Value} {l:List Gn} (h:GOwn w base v l) (hk:TKeep T w w') (h1:T 3=true) (h2:T 41=true) (h3:T 101=true):GOwn w' base v l:=by
 obtain⟨css,a,b⟩:=h
 exact⟨css,a.map fun _ _ _ h=>h.tk hk h1 h2,hk.owns b h3⟩
theorem GOwn.below {w w':World} {base:Nat} {v:Value} {l:List Gn} (h:GOwn w base v l) (hb:Below w.heap.size w w'):GOwn w' base v l:=h.tk (T:=fun _=>true) (TKeep.of_below hb) rfl rfl rfl
theorem GOwn.mono {w:World} {base base':Nat} {v:Value} {l:List Gn} (h:GOwn w base v l) (hb:base'≤base):GOwn w base' v l:=by
 obtain⟨css,h1,h2⟩:=h;exact ⟨css,h1.map fun _ _ _ h=>h.mono hb,owns_mono h2 hb⟩
theorem GOwn.shape {w:World} {base:Nat} {v:Value} {l:List Gn} (h:GOwn w base v l): ∃a c,v= .slice a l.length c:=by
 obtain⟨css, -,h2⟩:=h;exact owns_slice h2
theorem GOwn.at_ {w:World} {base:Nat} {v:Value} {l:List Gn} (h:GOwn w base v l) (hb: ∀v∈l,v.past.vec.length≤5∧v.past.more.length≤60) (hl:l.length≤1000):RowAt goneE w v l:=by
 obtain⟨css,h1,h2⟩:=h
 exact⟨css,h1.els hb,CellsAt.of_owns h2 (by omega)⟩
theorem GOwn.push {w w':World} {base:Nat} {v v' u x:Value} {l:List Gn} {css:List (List Value)} {g:Gn} (h1:GE w base l css) (h2:w.ownsRow base 101 3 v l.length css.flatten) (hk:KnOwn w base u x g.past)
  (ho:w'.ownsRow base 101 3 v' (l.length+1) (css.flatten++[.string g.id,u,x])) (hg:w.grownBy w' v.ownBlock):GOwn w' base v' (l++[g]):=by
 have hK: ∀u x (k:Kn),KnOwn w base u x k→KnOwn w' base u x k:=fun u x k h=>⟨own_kept2 h.vec h2 (by decide) hg,own_kept2 h.more h2 (by decide) hg⟩
 refine⟨css++[[.string g.id,u,x]],GE.snoc (h1.map fun u x k h=>hK _ _ _ h) ⟨⟨u,x,rfl,hK _ _ _ hk⟩,trivial⟩, ?_⟩
 rw[List.flatten_append,List.length_append]
 simpa using ho
theorem GoneTy.info:(Tryz.prog.info? 101).map (fun i=>(i.zero,i.size,i.bytes))=some (some (.agg #[.string ByteArray.empty, .slice none 0 0, .slice none 0 0]),3,64):=by kernel_rfl
end Go.Proofs.YtgkgdedhicnohaaGreat
