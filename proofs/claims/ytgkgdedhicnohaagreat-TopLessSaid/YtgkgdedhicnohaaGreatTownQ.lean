/- A turn of a town's play: what it leaves. No walk here. -/
import Derived.Test.YtgkgdedhicnohaaGreatTown6
namespace Go.Proofs.YtgkgdedhicnohaaGreat
open Go.RowKit
section
variable {wz wr wx:World} {b g k:Nat} {T:Nat→Prop} {H A:List Ver} {t:TownS} {ov:Value}
end
theorem VE.get9 {w:World} {b:Nat} : ∀ {l:List Ver} {css:List (List Value)} (_:VE w b l css) (i:Nat) (hi:i < l.length),∃(a1:Option Addr) (n1 d1:Nat) (a2:Option Addr) (n2 d2:Nat),css[i]? =some (verC l[i] (.slice a1 n1 d1) (.slice a2 n2 d2)).toList∧KnOwn w b (.slice a1 n1 d1) (.slice a2 n2 d2) l[i].past
 | [],_,_,i,hi=>by simp at hi
 | v::l,c::cs,⟨⟨a,n,d,b,m,e,h1,h2⟩,h3⟩,0,_=>⟨a,n,d,b,m,e,by rw[h1];rfl,h2⟩
 | v::l,c::cs,⟨_,h3⟩,i+1,hi=>by
  obtain⟨a,n,d,b,m,e,h1,h2⟩:=VE.get9 h3 i (by simpa using hi)
  exact⟨a,n,d,b,m,e,by simpa using h1,by simpa using h2⟩
 | _::_,[],h,_,_=>h.elim
theorem VE.lens9 {w:World} {b:Nat} : ∀ {l:List Ver} {css:List (List Value)} (_:VE w b l css),∀c∈css,c.length=8
 | [],[],_=>by simp
 | _::_,c::cs,⟨⟨a,n,d,b,m,e,h1,_⟩,h3⟩=>fun x hx=>by
  rcases List.mem_cons.1 hx with rfl | hx
  ·rw[h1];rfl
  ·exact VE.lens9 h3 x hx
 | [],_::_,h=>h.elim
 | _::_,[],h=>h.elim
theorem VOwn.cell {w:World} {b:Nat} {v:Value} {L:List Ver} (h:VOwn w b v L) {m:Nat} (hm:m < L.length): ∃(g cap:Nat) (a1:Option Addr) (n1 d1:Nat) (a2:Option Addr) (n2 d2:Nat),v= .slice (some ⟨g,0,none⟩) L.length cap∧g < w.heap.size∧KnOwn w b (.slice a1 n1 d1) (.slice a2 n2 d2) L[m].past∧ ∀j y,(verC L[m] (.slice a1 n1 d1) (.slice a2 n2 d2)).toList[j]? =some y→w.cell? ⟨g,m*8+j,none⟩=some y:=by
 obtain⟨css,hve,hro⟩:=h
 obtain⟨a1,n1,d1,a2,n2,d2,hc,hk⟩:=hve.get9 m hm
 rcases hro.2 with⟨-,h0⟩ | ⟨g,cap,cur,rfl,h2,h3,h4⟩
 ·omega
 ·refine⟨g,cap,a1,n1,d1,a2,n2,d2,rfl,hlt_of h3,hk,fun j y hj=> ?_⟩
  have:=hro.cells (g:=g) rfl (m*8+j) y (flat_get hve.lens9 m hc j hj)
  rw[Addr.add_lit,Nat.zero_add] at this;exact this
end Go.Proofs.YtgkgdedhicnohaaGreat
