/- A sentence's text within a text: plain laws of the reader. No program in sight. -/
import Derived.Test.YtdljflabokhedaaDoorText6
namespace Go.Proofs.YtdljflabokhedaaDoor
open Go.RowKit
structure InAt (u:ByteArray) (p:Nat) (s:ByteArray):Prop where
 at_: ∀i,i < s.size→chr u (p+i)=chr s i
 nx:isDig (chr u (p+s.size))=false
theorem numP_in {u s:ByteArray} {p i:Nat} (h:InAt u p s) (hi:i≤s.size):numP u (p+i)=(numP s i).map fun q=>(p+q.1,q.2):=by
 have nd: ∀j,s.size≤j→isDig (chr s j)=false:=fun j hj=>by rw[chr_end hj];decide
 have e1:p+i+1=p+(i+1):=by omega
 have e2:p+i+2=p+(i+2):=by omega
 unfold numP
 rw[e1,e2]
 by_cases h0:i < s.size
 rotate_left
 ·obtain rfl:i=s.size:=by omega
  rw[if_pos h.nx,if_pos (nd _ (Nat.le_refl _))];rfl
 rw[h.at_ i h0]
 by_cases d0:isDig (chr s i)=false
 ·rw[if_pos d0,if_pos d0];rfl
 rw[if_neg d0,if_neg d0]
 by_cases h1:i+1 < s.size
 rotate_left
 ·obtain e:i+1=s.size:=by omega
  rw[e,if_pos h.nx,if_pos (nd _ (Nat.le_refl _))];rfl
 rw[h.at_ (i+1) h1]
 by_cases d1:isDig (chr s (i+1))=false
 ·rw[if_pos d1,if_pos d1];rfl
 rw[if_neg d1,if_neg d1]
 have d2:isDig (chr u (p+(i+2)))=isDig (chr s (i+2)):=by
  by_cases h2:i+2 < s.size
  ·rw[h.at_ (i+2) h2]
  ·obtain e:i+2=s.size:=by omega
   rw[e,h.nx,nd _ (Nat.le_refl _)]
 rw[d2]
 split <;> rfl
def shN (b:Nat) (n:Nd):Nd:=if n.k=4 then⟨4,n.a+b,n.b⟩ else if n.k=5∨n.k=6 then⟨n.k,n.a+b,n.b+b⟩ else n
def ctx (c l:Nds):Nds:=c++l.map (shN c.length)
theorem ctx_len (c l:Nds):(ctx c l).length=c.length+l.length:=by simp[ctx]
theorem ctx_snoc (c l:Nds) (n:Nd):ctx c (l++[n])=ctx c l++[shN c.length n]:=by simp[ctx]
theorem chr_in {u s:ByteArray} {p i c:Nat} (h:InAt u p s) (hi:i < s.size):chr u (p+i)=c↔chr s i=c:=by rw[h.at_ i hi]
theorem oneP_in_of {u s:ByteArray} {p:Nat} (h:InAt u p s) (c:Nds): ∀ {f i:Nat} {ns l:Nds} {j:Nat},oneP s f i ns=some (j,l)→oneP u f (p+i) (ctx c ns)=some (p+j,ctx c l)
 | 0,_,_,_,_,e=>by simp[oneP] at e
 | f+1,i,ns,l,j,e=>by
  have hi:i < s.size:=by have:=oneP_ok e;omega
  by_cases c1:chr s i=42
  ·rw[oneP_all c1] at e
   rw[oneP_all ((chr_in h hi).2 c1)]
   simp only[Option.some.injEq,Prod.mk.injEq] at e ⊢
   obtain⟨rfl,rfl⟩:=e
   exact⟨by omega,by rw[ctx_snoc];rfl⟩
  by_cases c2:chr s i=35
  ·rw[oneP_tag c2] at e
   rw[oneP_tag ((chr_in h hi).2 c2),show p+i+1=p+(i+1) by omega,numP_in h (by omega)]
   cases hn:numP s (i+1) with
   | none=>simp [hn] at e
   | some q=>
    simp only[hn,Option.bind_some,Option.map_some,Option.some.injEq,Prod.mk.injEq] at e ⊢
    obtain⟨rfl,rfl⟩:=e
    exact⟨rfl,by rw[ctx_snoc];rfl⟩
  by_cases c3:chr s i=91
  ·rw[oneP_in c3] at e
   rw[oneP_in ((chr_in h hi).2 c3),show p+i+1=p+(i+1) by omega,numP_in h (by omega)]
   cases hn:numP s (i+1) with
   | none=>simp [hn] at e
   | some q=>
    obtain⟨k,v⟩:=q
    simp only[hn,Option.bind_some,Option.map_some] at e ⊢
    split at e
    ·rename_i d1
     have l1:=chr_lt' d1 (by decide)
     rw[if_pos ((chr_in h l1).2 d1),show p+k+1=p+(k+1) by omega,numP_in h (by omega)]
     cases hm:numP s (k+1) with
     | none=>simp [hm] at e
     | some r=>
      obtain⟨k2,v2⟩:=r
      simp only[hm,Option.bind_some,Option.map_some] at e ⊢
      split at e
      ·rename_i d2
       have l2:=chr_lt' d2 (by decide)
       rw[if_pos ((chr_in h l2).2 d2)]
       simp only[Option.some.injEq,Prod.mk.injEq] at e ⊢
       obtain⟨rfl,rfl⟩:=e
       exact⟨by omega,by rw[ctx_snoc];rfl⟩
      ·cases e
    ·cases e
  by_cases c4:chr s i=33
  ·rw[oneP_not c4] at e
   rw[oneP_not ((chr_in h hi).2 c4),show p+i+1=p+(i+1) by omega]
   cases hn:oneP s f (i+1) ns with
   | none=>simp [hn] at e
   | some q=>
    obtain⟨k,l1⟩:=q
    rw[oneP_in_of h c hn]
    simp only[hn,Option.bind_some,Option.some.injEq,Prod.mk.injEq] at e ⊢
    obtain⟨rfl,rfl⟩:=e
    refine⟨rfl, ?_⟩
    rw[ctx_snoc,ctx_len]
    simp[shN]
    omega
  by_cases c5:chr s i=40
  ·rw[oneP_two c5] at e
   rw[oneP_two ((chr_in h hi).2 c5),show p+i+1=p+(i+1) by omega]
   cases hn:oneP s f (i+1) ns with
   | none=>simp [hn] at e
   | some q=>
    obtain⟨k,l1⟩:=q
    rw[oneP_in_of h c hn]
    simp only[hn,Option.bind_some] at e ⊢
    split at e
    ·rename_i d1
     have h1:k < s.size:=by rcases d1 with d | d <;> exact chr_lt' d (by decide)
     rw[h.at_ k h1,if_pos d1,show p+k+1=p+(k+1) by omega]
     cases hm:oneP s f (k+1) l1 with
     | none=>simp [hm] at e
     | some r=>
      obtain⟨k2,l2⟩:=r
      rw[oneP_in_of h c hm]
      simp only[hm,Option.bind_some] at e ⊢
      split at e
      ·rename_i d2
       have h2:=chr_lt' d2 (by decide)
       rw[h.at_ k2 h2,if_pos d2]
       simp only[Option.some.injEq,Prod.mk.injEq] at e ⊢
       obtain⟨rfl,rfl⟩:=e
       refine⟨by omega, ?_⟩
       rw[ctx_snoc,ctx_len,ctx_len]
       congr 2
       by_cases d:chr s k=124 <;> simp[shN,d] <;> omega
      ·cases e
    ·cases e
  ·rw[oneP_bad c1 c2 c3 c4 c5] at e;cases e
theorem oneP_fuel {s:ByteArray} : ∀ {f g i:Nat} {ns:Nds},s.size - i < f→s.size - i < g→oneP s f i ns=oneP s g i ns
 | 0,_,_,_,h,_=>absurd h (by omega)
 | _+1,0,_,_,_,h=>absurd h (by omega)
 | f+1,g+1,i,ns,hf,hg=>by
  by_cases c1:chr s i=42
  ·rw[oneP_all c1,oneP_all c1]
  by_cases c2:chr s i=35
  ·rw[oneP_tag c2,oneP_tag c2]
  by_cases c3:chr s i=91
  ·rw[oneP_in c3,oneP_in c3]
  by_cases c4:chr s i=33
  ·have hi:=chr_lt' c4 (by decide)
   rw[oneP_not c4,oneP_not c4,oneP_fuel (f:=f) (g:=g) (i:=i+1) (by omega) (by omega)]
  by_cases c5:chr s i=40
  ·have hi:=chr_lt' c5 (by decide)
   rw[oneP_two c5,oneP_two c5,oneP_fuel (f:=f) (g:=g) (i:=i+1) (by omega) (by omega)]
   cases hn:oneP s g (i+1) ns with
   | none=>rfl
   | some q=>
    obtain⟨k,l⟩:=q
    have hb:=oneP_ok hn
    simp only[Option.bind_some]
    rw[oneP_fuel (f:=f) (g:=g) (i:=k+1) (by omega) (by omega)]
  ·rw[oneP_bad c1 c2 c3 c4 c5,oneP_bad c1 c2 c3 c4 c5]
end Go.Proofs.YtdljflabokhedaaDoor
