/- Towards what desk.Run answers. -/
import Derived.Lib.AppendStr
import Derived.Lib.EndianBits
import Derived.Test.YtajgndoiddmbmaaGreatDoorMPartO
import Derived.Test.YtajgndoiddmbmaaGreatDoorMShelfP
import Derived.Test.YtajgndoiddmbmaaGreatDoorMGath
namespace Go.Proofs.YtajgndoiddmbmaaGreatDoor
set_option maxRecDepth 100000
set_option maxHeartbeats 40000000
open Go.RowKit
def b3 (n:Int):List UInt8:=[UInt8.ofNat (n / 65536%256).toNat,UInt8.ofNat (n / 256%256).toNat,UInt8.ofNat (n%256).toNat]
structure Gn where
 id:ByteArray
 past:Kn
def xM:BC Gn where
 size:=3
 El w g cs:= ∃u x,cs=[.string g.id,u,x]∧dB w u x g.past
 len:=by rintro w g cs ⟨u,x,rfl, -⟩;rfl
 one:=by
  rintro w g cs ⟨u,x,rfl,h⟩ z hz;obtain⟨a,c,rfl⟩:=h.vec.shape;obtain⟨b,d,rfl⟩:=h.more.shape;simp only[List.mem_cons,List.not_mem_nil,or_false] at hz;rcases hz with rfl | rfl | rfl <;> rfl
 sub:=by rintro w w' g cs ⟨u,x,rfl,h⟩ hs;exact ⟨u,x,rfl,h.sub hs⟩
 pos:=by decide
theorem Dq {w wr:World} {b off i:Nat} {g:Gn} {c:List Value} (hb:b < w.heap.size) (hbl:Below w.heap.size w wr) (hE:xM.El w g c) (hc: ∀j x,c[j]? =some x→w.cell? ⟨b,off+(i*xM.size+j),none⟩=some x):
  ∃u x,wr.cell? ⟨b,off+i*3,none⟩=some (.string g.id)∧wr.cell? ⟨b,off+i*3+1,none⟩=some u∧wr.cell? ⟨b,off+i*3+2,none⟩=some x∧dB wr u x g.past:=by
 obtain⟨u,x,rfl,h1⟩:=hE;have hk:=fun (j:Nat) (y:Value) (hy:[.string g.id,u,x][j]? =some y)=>IU (w:=wr) (b:=b) (off:=off) (i:=i) (fun j y hy=>(hbl.cell (p:=⟨b,off+(i*3+j),none⟩) hb).trans (hc j y hy)) hy;exact⟨u,x,by simpa using hk 0 _ rfl,hk 1 _ rfl,hk 2 _ rfl,h1.below hbl⟩
structure Bt where
 site:Int
 stamp:Int
 mK:List aA
 gone:List Gn
 parts:List Pt
structure O4 (w:World) (vv gv pv:Value) (b:Bt):Prop where
 mK:bK eu w vv b.mK
 gone:bK xM w gv b.gone
 parts:bK cU w pv b.parts
theorem O4.below {w w':World} {vv gv pv:Value} {b:Bt} (h:O4 w vv gv pv b) (hb:Below w.heap.size w w'):O4 w' vv gv pv b:=⟨h.mK.below hb,h.gone.below hb,h.parts.below hb⟩
def firstE {α: Type} (f:α→ Int):List α→ Int
 | []=>0
 | a::l=>if f a≠0 then f a else firstE f l
theorem Be {α: Type} (f:α→ Int) {l:List α} {k:Nat} (h:k < l.length):firstE f (l.drop k)=if f l[k]≠0 then f l[k] else firstE f (l.drop (k+1)):=by
 rw[List.drop_eq_getElem_cons h];rfl
theorem wA {α: Type} (f:α→ Int): ∀ {l:List α},firstE f l=0↔ ∀x∈l,f x=0
 | []=>by simp[firstE]
 | a::l=>by
  unfold firstE;by_cases h:f a≠0
  ·rw[if_pos h];exact ⟨fun e=>absurd e h,fun k=>k a (by simp)⟩
  ·rw[if_neg h,wA f];have h0:f a=0:=by simpa using h
   simp[h0]
def cZ (g:Gn):Int:=if gI g.id=false then 3 else bF g.past
def rs (off:Int):List UInt8→Int
 | []=>0
 | c::l=>(off+1)*(c.toNat:Int)+rs (off+1) l
structure aM (T:Nat→Bool) (w w':World):Prop where
 size:w.heap.size≤w'.heap.size
 blk: ∀(k:Nat) (cs:Array Value) (t:TypeId),w.heap[k]? =some (Obj.cells cs t (0,0))→T t=true→w'.heap[k]? =some (Obj.cells cs t (0,0))
theorem aM.owns {T:Nat→Bool} {w w':World} {base e size n:Nat} {v:Value} {xs:List Value} (h:aM T w w') (hu:w.ownsRow base e size v n xs) (he:T e=true):w'.ownsRow base e size v n xs:=by
 refine⟨hu.1, ?_⟩;rcases hu.2 with h0 | ⟨g,cap,cur,h1,h2,h3,h4⟩
 ·exact .inl h0
 ·exact .inr ⟨g,cap,cur,h1,h2,h.blk _ _ _ h3 he,h4⟩
theorem aM.of_below {T:Nat→Bool} {w w':World} (h:Below w.heap.size w w'):aM T w w':=⟨h.size,fun _ _ _ hk _=>ag h hk⟩
theorem aM.refl (T:Nat→Bool) (w:World):aM T w w:=⟨Nat.le_refl _,fun _ _ _ h _=>h⟩
theorem aM.of_block {T:Nat→Bool} {w w':World} {B:Nat} {cs:Array Value} {t:TypeId} (hs:w.heap.size≤w'.heap.size) (h: ∀k,k < w.heap.size→k≠B→w'.heap[k]? =w.heap[k]?) (hB:w.heap[B]? =some (Obj.cells cs t (0,0))) (ht:T t=false):aM T w w':=by
 refine⟨hs,fun k ds u hk hu=> ?_⟩;have hne:k≠B:=by
  intro e;subst e;rw[hB] at hk;simp only[Option.some.injEq,Obj.cells.injEq] at hk;rw[hk.2.1,hu] at ht;exact absurd ht (by decide)
 rw[h k (Array.getElem?_eq_some_iff.1 hk).1 hne];exact hk
theorem aM.ze {T:Nat→Bool} {base e size n:Nat} {w w':World} {v:Value} {xs:List Value} (h:w.ownsRow base e size v n xs) (hg:w.grownBy w' v.ownBlock) (ht:T e=false):aM T w w':=by
 refine⟨hg.size,fun k ds u hk hu=> ?_⟩;refine fB h hg hk ?_;intro e0;subst e0;rw[hu] at ht;exact absurd ht (by decide)
theorem aM.iG {T:Nat→Bool} {w:World} {g j:Nat} {v:Value} {cs:Array Value} {t:TypeId} (hg:w.heap[g]? =some (Obj.cells cs t (0,0))) (ht:T t=false):aM T w (w.setCell ⟨g,j,none⟩ v):=
 aM.of_block (by simp[World.setCell]) (fun k _ hne=>aC hne) hg ht
theorem bI.tk {T:Nat→Bool} {w w':World} {base:Nat} {u x:Value} {k:Kn} (h:bI w base u x k) (hk:aM T w w') (h1:T 3=true) (h2:T 103=true):bI w' base u x k:=⟨hk.owns h.vec h1,hk.owns h.more h2⟩
theorem cR.tk {T:Nat→Bool} {w w':World} {base:Nat} {f:Value} {l:bB} (h:cR w base f l) (hk:aM T w w') (h1:T 177=true) (h2:T 179=true):cR w' base f l:=by
 obtain⟨us,a,b,c⟩:=h;exact⟨us,a,hk.owns b h1,fun i hi hi'=>hk.owns (c i hi hi') h2⟩
theorem bA.tk {T:Nat→Bool} {w w':World} {base:Nat} {v:Value} {l:List aA} (h:bA w base v l) (hk:aM T w w') (h1:T 3=true) (h2:T 103=true) (h3:T 120=true):bA w' base v l:=by
 obtain⟨css,a,b⟩:=h;exact⟨css,a.map fun _ _ _ h=>h.tk hk h1 h2,hk.owns b h3⟩
def GE (w:World) (base:Nat):List Gn→List (List Value)→Prop
 | [],[]=>True
 | g::l,c::cs=>(∃u x:Value,c=[.string g.id,u,x]∧bI w base u x g.past)∧GE w base l cs
 | _,_=>False
theorem GE.map {w w':World} {base base':Nat} (h: ∀u x k,bI w base u x k→bI w' base' u x k): ∀ {l:List Gn} {cs:List (List Value)},GE w base l cs→GE w' base' l cs
 | [],[],_=>trivial
 | _::_,_::_,⟨⟨u,x,h1,h2⟩,h3⟩=>⟨⟨u,x,h1,h _ _ _ h2⟩,GE.map h h3⟩
 | [],_::_,h3=>h3.elim
 | _::_,[],h3=>h3.elim
theorem GE.snoc {w:World} {base:Nat} : ∀ {l:List Gn} {cs:List (List Value)} {v:Gn} {c:List Value},GE w base l cs→GE w base [v] [c]→GE w base (l++[v]) (cs++[c])
 | [],[],_,_,_,k=>k
 | _::_,_::_,_,_,h,k=>⟨h.1,GE.snoc h.2 k⟩
 | [],_::_,_,_,h,_=>h.elim
 | _::_,[],_,_,h,_=>h.elim
theorem GE.els {w:World} {base:Nat} : ∀ {l:List Gn} {cs:List (List Value)},GE w base l cs→(∀v∈l,v.past.vec.length≤5∧v.past.more.length≤60)→Els xM w l cs
 | [],[],_,_=>trivial
 | v::_,_::_,⟨⟨u,x,h1,h2⟩,h3⟩,hb=>⟨⟨_,_,h1,h2.at_ (hb v (by simp)).1 (by have:=(hb v (by simp)).2;omega)⟩,GE.els h3 fun x hx=>hb x (by simp[hx])⟩
 | [],_::_,h,_=>h.elim
 | _::_,[],h,_=>h.elim
def fM (w:World) (base:Nat) (v:Value) (l:List Gn):Prop:= ∃css,GE w base l css∧w.ownsRow base 201 3 v l.length css.flatten
theorem fM.nil (w:World) (base:Nat):fM w base (.slice none 0 0) []:=⟨[],trivial,World.ownsRow_nil _ _ _ _⟩
theorem fM.tk {T:Nat→Bool} {w w':World} {base:Nat} {v:Value} {l:List Gn} (h:fM w base v l) (hk:aM T w w') (h1:T 3=true) (h2:T 103=true) (h3:T 201=true):fM w' base v l:=by
 obtain⟨css,a,b⟩:=h;exact⟨css,a.map fun _ _ _ h=>h.tk hk h1 h2,hk.owns b h3⟩
theorem fM.below {w w':World} {base:Nat} {v:Value} {l:List Gn} (h:fM w base v l) (hb:Below w.heap.size w w'):fM w' base v l:=h.tk (T:=fun _=>true) (aM.of_below hb) rfl rfl rfl
theorem fM.mono {w:World} {base base':Nat} {v:Value} {l:List Gn} (h:fM w base v l) (hb:base'≤base):fM w base' v l:=by
 obtain⟨css,h1,h2⟩:=h;exact ⟨css,h1.map fun _ _ _ h=>h.mono hb,bV h2 hb⟩
theorem fM.shape {w:World} {base:Nat} {v:Value} {l:List Gn} (h:fM w base v l): ∃a c,v= .slice a l.length c:=by
 obtain⟨css, -,h2⟩:=h;exact ay h2
theorem fM.at_ {w:World} {base:Nat} {v:Value} {l:List Gn} (h:fM w base v l) (hb: ∀v∈l,v.past.vec.length≤5∧v.past.more.length≤60) (hl:l.length≤1000):bK xM w v l:=by
 obtain⟨css,h1,h2⟩:=h;exact⟨css,h1.els hb,aF.fZ h2 (by omega)⟩
theorem fM.push {w w':World} {base:Nat} {v v' u x:Value} {l:List Gn} {css:List (List Value)} {g:Gn} (h1:GE w base l css) (h2:w.ownsRow base 201 3 v l.length css.flatten) (hk:bI w base u x g.past)
  (ho:w'.ownsRow base 201 3 v' (l.length+1) (css.flatten++[.string g.id,u,x])) (hg:w.grownBy w' v.ownBlock):fM w' base v' (l++[g]):=by
 have hK: ∀u x (k:Kn),bI w base u x k→bI w' base u x k:=fun u x k h=>⟨fE h.vec h2 (by decide) hg,fE h.more h2 (by decide) hg⟩
 refine⟨css++[[.string g.id,u,x]],GE.snoc (h1.map fun u x k h=>hK _ _ _ h) ⟨⟨u,x,rfl,hK _ _ _ hk⟩,trivial⟩, ?_⟩;rw[List.flatten_append,List.length_append];simpa using ho
theorem abw.info:(Tryz.prog.info? 201).map (fun i=>(i.zero,i.size,i.bytes))=some (some (.agg #[.string ByteArray.empty, .slice none 0 0, .slice none 0 0]),3,64):=by kernel_rfl
end Go.Proofs.YtajgndoiddmbmaaGreatDoor
