/- Towards what desk.Run answers. -/
import Derived.Test.YtajgndoiddmbmaaGreatDoorMWire1
namespace Go.Proofs.YtajgndoiddmbmaaGreatDoor
open Go.RowKit
theorem aM.trans {T:Nat→Bool} {a b c:World} (h:aM T a b) (k:aM T b c):aM T a c:=⟨Nat.le_trans h.size k.size,fun _ _ _ hj ht=>k.blk _ _ _ (h.blk _ _ _ hj ht) ht⟩
theorem aM.IK {T:Nat→Bool} {w:World} {g:Nat} {cs:Array Value} {t:TypeId} {x0 x1 x2 x3 x4:Value} (hg:w.heap[g]? =some (Obj.cells cs t (0,0))) (ht:T t=false):
  aM T w (((((w.setCell ⟨g,0,none⟩ x0).setCell ⟨g,1,none⟩ x1).setCell ⟨g,2,none⟩ x2).setCell ⟨g,3,none⟩ x3).setCell ⟨g,4,none⟩ x4):=by
 have h1:=ax (j:=0) (v:=x0) hg;have h2:=ax (j:=1) (v:=x1) h1;have h3:=ax (j:=2) (v:=x2) h2;have h4:=ax (j:=3) (v:=x3) h3;exact((((aM.iG hg ht).trans (aM.iG h1 ht)).trans (aM.iG h2 ht)).trans (aM.iG h3 ht)).trans (aM.iG h4 ht)
theorem VE.get {w:World} {base:Nat} : ∀ {l:List aA} {cs:List (List Value)} (_:VE w base l cs) (i:Nat) (hi:i < l.length),∃(a:Option Addr) (n d:Nat) (b:Option Addr) (m e:Nat),cs[i]? =some (aN l[i] (.slice a n d) (.slice b m e)).toList∧bI w base (.slice a n d) (.slice b m e) l[i].past
 | [],_,_,i,hi=>by simp at hi
 | _::_,_::_,⟨⟨a,n,d,b,m,e,h1,h2⟩,_⟩,0,_=>⟨a,n,d,b,m,e,by simp[h1],h2⟩
 | _::_,_::_,⟨_,h4⟩,i+1,hi=>by
  obtain⟨a,n,d,b,m,e,h1,h2⟩:=VE.get h4 i (by simpa using hi);exact⟨a,n,d,b,m,e,by simpa using h1,h2⟩
 | _::_,[],h,_,_=>h.elim
theorem VE.lens {w:World} {base:Nat} : ∀ {l:List aA} {cs:List (List Value)},VE w base l cs→ ∀c∈cs,c.length=8
 | [],[],_=>by simp
 | _::_,_::_,⟨⟨a,n,d,b,m,e,h1,_⟩,h4⟩=>by
  intro c hc;rcases List.mem_cons.1 hc with rfl | hc
  ·rw[h1];rfl
  ·exact VE.lens h4 c hc
 | [],_::_,h=>h.elim
 | _::_,[],h=>h.elim
theorem Co {n:Nat} : ∀ {css:List (List Value)} (_: ∀c∈css,c.length=n) (i:Nat) {c:List Value} (_:css[i]? =some c) (j:Nat) {x:Value} (_:c[j]? =some x),css.flatten[i*n+j]? =some x
 | [],_,i,c,h,j,x,hj=>by simp at h
 | d::css,hl,0,c,h,j,x,hj=>by
  simp only[List.getElem?_cons_zero,Option.some.injEq] at h;subst h;have hlt:=(List.getElem?_eq_some_iff.1 hj).1;rw[List.flatten_cons,Nat.zero_mul,Nat.zero_add,List.getElem?_append_left hlt];exact hj
 | d::css,hl,i+1,c,h,j,x,hj=>by
  have hd:=hl d (by simp);rw[List.flatten_cons,List.getElem?_append_right (by rw[hd,Nat.succ_mul];omega),hd,show(i+1)*n+j - n=i*n+j by rw[Nat.succ_mul];omega];exact Co (fun c hc=>hl c (by simp[hc])) i (by simpa using h) j hj
theorem bA.XU {w:World} {base:Nat} {v:Value} {l:List aA} (h:bA w base v l) (i:Nat) (hi:i < l.length): ∃(g cap:Nat) (a:Option Addr) (n d:Nat) (b:Option Addr) (m e:Nat),v= .slice (some ⟨g,0,none⟩) l.length cap∧l.length≤cap∧g < w.heap.size∧
  (∀j x,(aN l[i] (.slice a n d) (.slice b m e)).toList[j]? =some x→w.cell? ⟨g,i*8+j,none⟩=some x)∧bI w base (.slice a n d) (.slice b m e) l[i].past:=by
 obtain⟨css,h1,h2⟩:=h;obtain⟨a,n,d,b,m,e,e1,e2⟩:=h1.get i hi;rcases h2.2 with⟨-,h0⟩ | ⟨g,cap,cur,hv,hb,hg,hn,hr⟩
 ·omega
 ·refine⟨g,cap,a,n,d,b,m,e,hv,hn,ai hg,fun j x hj=> ?_,e2⟩;have h3:=h2.cells (g:=g) (by rw[hv];rfl) (i*8+j) x (Co h1.lens i e1 j hj);rwa[Addr.add_lit,Nat.zero_add] at h3
def tb (q t:Nat):Bool:= !(q==16&&t==158)
end Go.Proofs.YtajgndoiddmbmaaGreatDoor
