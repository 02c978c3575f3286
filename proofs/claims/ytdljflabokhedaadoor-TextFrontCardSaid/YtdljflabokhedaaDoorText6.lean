/- No sentence's text begins another one's: plain laws of the reader. No program in sight. -/
import Derived.Test.YtdljflabokhedaaDoorText4
import Derived.Test.YtdljflabokhedaaDoorMForm
import Derived.Test.YtdljflabokhedaaDoorChecked
import Derived.Test.YtdljflabokhedaaDoorBase
import Derived.Deep.QuietTactic
import Derived.BigQuiet
import Derived.WalkSmall
import Derived.Laws.OwnMore
namespace Go.Proofs.YtdljflabokhedaaDoor
open Go.RowKit
theorem size_app (s t:ByteArray):(s++t).size=s.size+t.size:=ByteArray.size_append
theorem chr_app {s t:ByteArray} {i:Nat} (h:i < s.size):chr (s++t) i=chr s i:=by
 unfold chr
 rw[show(s++t).data.toList=s.data.toList++t.data.toList by rw[ByteArray.data_append,Array.toList_append],List.getElem?_append_left (by simpa using h)]
theorem chr_lt' {s:ByteArray} {i c:Nat} (h:chr s i=c) (hc:c < 256):i < s.size:=chr_ne (by omega)
theorem numP_app {s t:ByteArray} {i j v:Nat} (h:numP s i=some (j,v)):
  (j < s.size→numP (s++t) i=some (j,v))∧(numP (s++t) i=some (j,v)∨ ∀k v',numP (s++t) i=some (k,v')→10≤v'):=by
 unfold numP at h ⊢
 by_cases d0:isDig (chr s i)=true
 rotate_left
 ·rw[if_pos (by simpa using d0)] at h;cases h
 have l0:=isDig_lt d0
 have e0:=isDig_iff.1 d0
 rw[if_neg (by rw[d0];decide)] at h
 rw[chr_app (t:=t) l0]
 rw[if_neg (by rw[d0];decide)]
 by_cases d1:isDig (chr s (i+1))=true
 ·have l1:=isDig_lt d1
  have e1:=isDig_iff.1 d1
  rw[if_neg (by rw[d1];decide)] at h
  rw[chr_app (t:=t) l1,if_neg (by rw[d1];decide)]
  by_cases d2:isDig (chr s (i+2))=true∨chr s i=48
  ·rw[if_pos d2] at h;cases h
  rw[if_neg d2] at h
  simp only[Option.some.injEq,Prod.mk.injEq] at h
  obtain⟨rfl,rfl⟩:=h
  have hn:chr s i≠48:=fun e=>d2 (.inr e)
  refine⟨fun hj=> ?_, ?_⟩
  ·rw[chr_app (t:=t) hj,if_neg d2]
  ·by_cases d3:isDig (chr (s++t) (i+2))=true∨chr s i=48
   ·rw[if_pos d3];exact .inr fun k v' h=>by cases h
   ·rw[if_neg d3];exact .inl rfl
 ·have d1:isDig (chr s (i+1))=false:=by simpa using d1
  rw[if_pos d1] at h
  simp only[Option.some.injEq,Prod.mk.injEq] at h
  obtain⟨rfl,rfl⟩:=h
  refine⟨fun hj=> ?_, ?_⟩
  ·rw[chr_app (t:=t) hj,if_pos d1]
  ·by_cases d3:isDig (chr (s++t) (i+1))=true
   ·rw[if_neg (by rw[d3];decide)]
    right
    intro k v' h
    split at h
    ·cases h
    ·rename_i hq
     simp only[Option.some.injEq,Prod.mk.injEq] at h
     have:chr s i≠48:=fun e=>hq (.inr e)
     omega
   ·rw[if_pos (by simpa using d3)];exact .inl rfl
def BadN (l:Nds):Prop:= ∃n∈l,n.k=2∧10≤n.a
theorem BadN.app {l m:Nds} (h:BadN l):BadN (l++m):=by
 obtain⟨n,hn,h⟩:=h;exact ⟨n,List.mem_append.2 (.inl hn),h⟩
theorem oneP_pre {s:ByteArray} : ∀ {f i:Nat} {ns ns2:Nds} {j:Nat},oneP s f i ns=some (j,ns2)→ ∃m,ns2=ns++m
 | 0,_,_,_,_,h=>by simp[oneP] at h
 | f+1,i,ns,ns2,j,h=>by
  by_cases c1:chr s i=42
  ·rw[oneP_all c1] at h
   simp only[Option.some.injEq,Prod.mk.injEq] at h
   exact⟨_,h.2.symm⟩
  by_cases c2:chr s i=35
  ·rw[oneP_tag c2] at h
   cases hn:numP s (i+1) with
   | none=>simp [hn] at h
   | some p=>
    simp only[hn,Option.bind_some,Option.some.injEq,Prod.mk.injEq] at h
    exact⟨_,h.2.symm⟩
  by_cases c3:chr s i=91
  ·rw[oneP_in c3] at h
   cases hn:numP s (i+1) with
   | none=>simp [hn] at h
   | some p=>
    simp only[hn,Option.bind_some] at h
    split at h
    ·cases hm:numP s (p.1+1) with
     | none=>simp [hm] at h
     | some q=>
      simp only[hm,Option.bind_some] at h
      split at h
      ·simp only[Option.some.injEq,Prod.mk.injEq] at h
       exact⟨_,h.2.symm⟩
      ·cases h
    ·cases h
  by_cases c4:chr s i=33
  ·rw[oneP_not c4] at h
   cases hn:oneP s f (i+1) ns with
   | none=>simp [hn] at h
   | some p=>
    obtain⟨m,hm⟩:=oneP_pre (ns2:=p.2) (j:=p.1) hn
    simp only[hn,Option.bind_some,Option.some.injEq,Prod.mk.injEq] at h
    exact⟨_,by rw[←h.2,hm,List.append_assoc]⟩
  by_cases c5:chr s i=40
  ·rw[oneP_two c5] at h
   cases hn:oneP s f (i+1) ns with
   | none=>simp [hn] at h
   | some p=>
    obtain⟨m,hm⟩:=oneP_pre (ns2:=p.2) (j:=p.1) hn
    simp only[hn,Option.bind_some] at h
    split at h
    ·cases ho:oneP s f (p.1+1) p.2 with
     | none=>simp [ho] at h
     | some q=>
      obtain⟨m2,hm2⟩:=oneP_pre (ns2:=q.2) (j:=q.1) ho
      simp only[ho,Option.bind_some] at h
      split at h
      ·simp only[Option.some.injEq,Prod.mk.injEq] at h
       exact⟨_,by rw[←h.2,hm2,hm,List.append_assoc,List.append_assoc]⟩
      ·cases h
    ·cases h
  ·rw[oneP_bad c1 c2 c3 c4 c5] at h;cases h
theorem oneP_app {s t:ByteArray} : ∀ {f i:Nat} {ns ns2:Nds} {j:Nat},oneP s f i ns=some (j,ns2)→
  oneP (s++t) f i ns=some (j,ns2)∨ ∀k l,oneP (s++t) f i ns=some (k,l)→BadN l
 | 0,_,_,_,_,h=>by simp[oneP] at h
 | f+1,i,ns,ns2,j,h=>by
  by_cases c1:chr s i=42
  ·rw[oneP_all c1] at h
   rw[oneP_all ((chr_app (chr_lt' c1 (by decide))).trans c1)]
   exact .inl h
  by_cases c2:chr s i=35
  ·rw[oneP_tag c2] at h
   rw[oneP_tag ((chr_app (chr_lt' c2 (by decide))).trans c2)]
   cases hn:numP s (i+1) with
   | none=>simp [hn] at h
   | some p=>
    obtain⟨k,v⟩:=p
    simp only[hn,Option.bind_some] at h
    rcases(numP_app (t:=t) hn).2 with e | e
    ·rw[e];exact .inl h
    ·right
     intro k2 l2 h2
     cases hm:numP (s++t) (i+1) with
     | none=>simp [hm] at h2
     | some q=>
      obtain⟨k3,v3⟩:=q
      have:=e k3 v3 hm
      simp only[hm,Option.bind_some,Option.some.injEq,Prod.mk.injEq] at h2
      rw[←h2.2]
      exact⟨_,List.mem_append.2 (.inr (List.mem_singleton.2 rfl)),rfl,by simp only[];omega⟩
  by_cases c3:chr s i=91
  ·rw[oneP_in c3] at h
   rw[oneP_in ((chr_app (chr_lt' c3 (by decide))).trans c3)]
   left
   cases hn:numP s (i+1) with
   | none=>simp [hn] at h
   | some p=>
    obtain⟨k,v⟩:=p
    simp only[hn,Option.bind_some] at h
    split at h
    ·rename_i d1
     have l1:=chr_lt' d1 (by decide)
     rw[(numP_app (t:=t) hn).1 l1]
     simp only[Option.bind_some,chr_app (t:=t) l1,d1,if_true]
     cases hm:numP s (k+1) with
     | none=>simp [hm] at h
     | some q=>
      obtain⟨k2,v2⟩:=q
      simp only[hm,Option.bind_some] at h
      split at h
      ·rename_i d2
       have l2:=chr_lt' d2 (by decide)
       rw[(numP_app (t:=t) hm).1 l2]
       simp only[Option.bind_some,chr_app (t:=t) l2,d2,if_true]
       exact h
      ·cases h
    ·cases h
  by_cases c4:chr s i=33
  ·rw[oneP_not c4] at h
   rw[oneP_not ((chr_app (chr_lt' c4 (by decide))).trans c4)]
   cases hn:oneP s f (i+1) ns with
   | none=>simp [hn] at h
   | some p=>
    obtain⟨k,l⟩:=p
    simp only[hn,Option.bind_some] at h
    rcases oneP_app (t:=t) hn with e | e
    ·rw[e];exact .inl h
    ·right
     intro k2 l2 h2
     cases hm:oneP (s++t) f (i+1) ns with
     | none=>simp [hm] at h2
     | some q=>
      obtain⟨k3,l3⟩:=q
      have:=e k3 l3 hm
      simp only[hm,Option.bind_some,Option.some.injEq,Prod.mk.injEq] at h2
      rw[←h2.2];exact this.app
  by_cases c5:chr s i=40
  ·rw[oneP_two c5] at h
   rw[oneP_two ((chr_app (chr_lt' c5 (by decide))).trans c5)]
   cases hn:oneP s f (i+1) ns with
   | none=>simp [hn] at h
   | some p=>
    obtain⟨k,l⟩:=p
    simp only[hn,Option.bind_some] at h
    split at h
    ·rename_i d1
     have l1:k < s.size:=by
      rcases d1 with d | d <;> exact chr_lt' d (by decide)
     rcases oneP_app (t:=t) hn with e | e
     ·rw[e]
      simp only[Option.bind_some,chr_app (t:=t) l1,if_pos d1]
      cases hm:oneP s f (k+1) l with
      | none=>simp [hm] at h
      | some q=>
       obtain⟨k2,l2⟩:=q
       simp only[hm,Option.bind_some] at h
       split at h
       ·rename_i d2
        have l2':=chr_lt' d2 (by decide)
        rcases oneP_app (t:=t) hm with e2 | e2
        ·rw[e2]
         simp only[Option.bind_some,chr_app (t:=t) l2',d2,if_true]
         exact .inl h
        ·right
         intro k4 l4 h4
         cases hq:oneP (s++t) f (k+1) l with
         | none=>simp [hq] at h4
         | some q=>
          obtain⟨k3,l3⟩:=q
          have:=e2 k3 l3 hq
          simp only[hq,Option.bind_some] at h4
          split at h4
          ·simp only[Option.some.injEq,Prod.mk.injEq] at h4
           rw[←h4.2];exact this.app
          ·cases h4
       ·cases h
     ·right
      intro k4 l4 h4
      cases hq:oneP (s++t) f (i+1) ns with
      | none=>simp [hq] at h4
      | some q=>
       obtain⟨k3,l3⟩:=q
       have hb:=e k3 l3 hq
       simp only[hq,Option.bind_some] at h4
       split at h4
       ·cases hm:oneP (s++t) f (k3+1) l3 with
        | none=>simp [hm] at h4
        | some q2=>
         obtain⟨k5,l5⟩:=q2
         obtain⟨m5,hm5⟩:=oneP_pre hm
         simp only[hm,Option.bind_some] at h4
         split at h4
         ·simp only[Option.some.injEq,Prod.mk.injEq] at h4
          rw[←h4.2,hm5];exact hb.app.app
         ·cases h4
       ·cases h4
    ·cases h
  ·rw[oneP_bad c1 c2 c3 c4 c5] at h;cases h
theorem ndsFrom_each: ∀(l:Nds) (i:Nat),ndsFrom i l=0→ ∀n∈l,∃q,ndChk q n=0
 | [],_,_,n,hn=>by cases hn
 | x::l,i,h,n,hn=>by
  unfold ndsFrom at h
  split at h
  ·rename_i hx
   rcases List.mem_cons.1 hn with rfl | hn
   ·exact⟨i,hx⟩
   ·exact ndsFrom_each l _ h n hn
  ·rename_i hx;exact absurd h hx
theorem formChk_bad {l:Nds} (h:BadN l):formChk l≠0:=by
 obtain⟨n,hn,hk,ha⟩:=h
 intro h0
 unfold formChk at h0
 split at h0
 ·cases h0
 ·obtain⟨q,hq⟩:=ndsFrom_each l 0 h0 n hn
  unfold ndChk at hq
  rw[if_neg (by omega),if_pos hk,if_pos (by omega)] at hq
  cases hq
theorem readE_zero {s:ByteArray} (h:readE s=0):s.size≤400∧ ∃l,oneP s 401 0 []=some (s.size,l)∧formChk l=0∧readL s=l:=by
 have h2:=h
 unfold readE at h
 split at h
 ·cases h
 ·rename_i hs
  refine⟨by omega, ?_⟩
  cases ho:oneP s 401 0 [] with
  | none=>rw [ho] at h;cases h
  | some p=>
   obtain⟨j,l⟩:=p
   rw[ho] at h
   have hj:=(oneP_ok ho).2.1
   by_cases hlt:j < s.size
   ·dsimp only at h
    rw[if_pos hlt] at h;cases h
   ·obtain rfl:j=s.size:=by omega
    refine⟨l,rfl, ?_, ?_⟩
    ·dsimp only at h
     rw[if_neg hlt] at h;exact h
    ·rw[readL,if_pos h2,ho]
theorem readL_bad {s:ByteArray} (h:readE s≠0):readL s=[]:=if_neg h
theorem front_law {s t:ByteArray} (h:readE s=0) (ht:t.size≠0):readE (s++t)≠0:=by
 obtain⟨-,l,ho, -, -⟩:=readE_zero h
 intro h2
 obtain⟨-,l2,ho2,hf, -⟩:=readE_zero h2
 rcases oneP_app (t:=t) ho with e | e
 ·rw[e] at ho2
  simp only[Option.some.injEq,Prod.mk.injEq] at ho2
  have:=size_app s t
  omega
 ·exact formChk_bad (e _ _ ho2) hf
end Go.Proofs.YtdljflabokhedaaDoor
