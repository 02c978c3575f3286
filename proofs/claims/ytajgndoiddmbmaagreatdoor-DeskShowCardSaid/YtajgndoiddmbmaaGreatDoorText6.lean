/- No sentence's text begins another one's: plain laws of the reader. No program in sight. -/
import Derived.Test.YtajgndoiddmbmaaGreatDoorText4
import Derived.Test.YtajgndoiddmbmaaGreatDoorMForm
import Derived.Test.YtajgndoiddmbmaaGreatDoorChecked
import Derived.Test.YtajgndoiddmbmaaGreatDoorMBase
import Derived.Deep.QuietTactic
import Derived.BigQuiet
import Derived.WalkSmall
import Derived.Laws.OwnMore
namespace Go.Proofs.YtajgndoiddmbmaaGreatDoor
open Go.RowKit
theorem size_app (s t:ByteArray):(s++t).size=s.size+t.size:=ByteArray.size_append
theorem chr_lt' {s:ByteArray} {i c:Nat} (h:chr s i=c) (hc:c < 256):i < s.size:=chr_ne (by omega)
theorem oneP_pre {s:ByteArray} : ∀ {f i:Nat} {ns ns2:Nds} {j:Nat},oneP s f i ns=some (j,ns2)→ ∃m,ns2=ns++m
 | 0,_,_,_,_,h=>by simp[oneP] at h
 | f+1,i,ns,ns2,j,h=>by
  by_cases c1:chr s i=42
  ·rw[oneP_all c1] at h
   simp only[Option.some.injEq,Prod.mk.injEq] at h
   exact⟨_,h.2.symm⟩
  by_cases c2:chr s i=35
  ·rw[oneP_tag c2] at h
   cases hn:numP s (i+1) with
   | none=>simp [hn] at h
   | some p=>
    simp only[hn,Option.bind_some,Option.some.injEq,Prod.mk.injEq] at h
    exact⟨_,h.2.symm⟩
  by_cases c3:chr s i=91
  ·rw[oneP_in c3] at h
   cases hn:numP s (i+1) with
   | none=>simp [hn] at h
   | some p=>
    simp only[hn,Option.bind_some] at h
    split at h
    ·cases hm:numP s (p.1+1) with
     | none=>simp [hm] at h
     | some q=>
      simp only[hm,Option.bind_some] at h
      split at h
      ·simp only[Option.some.injEq,Prod.mk.injEq] at h
       exact⟨_,h.2.symm⟩
      ·cases h
    ·cases h
  by_cases c4:chr s i=33
  ·rw[oneP_not c4] at h
   cases hn:oneP s f (i+1) ns with
   | none=>simp [hn] at h
   | some p=>
    obtain⟨m,hm⟩:=oneP_pre (ns2:=p.2) (j:=p.1) hn
    simp only[hn,Option.bind_some,Option.some.injEq,Prod.mk.injEq] at h
    exact⟨_,by rw[←h.2,hm,List.append_assoc]⟩
  by_cases c5:chr s i=40
  ·rw[oneP_two c5] at h
   cases hn:oneP s f (i+1) ns with
   | none=>simp [hn] at h
   | some p=>
    obtain⟨m,hm⟩:=oneP_pre (ns2:=p.2) (j:=p.1) hn
    simp only[hn,Option.bind_some] at h
    split at h
    ·cases ho:oneP s f (p.1+1) p.2 with
     | none=>simp [ho] at h
     | some q=>
      obtain⟨m2,hm2⟩:=oneP_pre (ns2:=q.2) (j:=q.1) ho
      simp only[ho,Option.bind_some] at h
      split at h
      ·simp only[Option.some.injEq,Prod.mk.injEq] at h
       exact⟨_,by rw[←h.2,hm2,hm,List.append_assoc,List.append_assoc]⟩
      ·cases h
    ·cases h
  ·rw[oneP_bad c1 c2 c3 c4 c5] at h;cases h
theorem readE_zero {s:ByteArray} (h:readE s=0):s.size≤400∧ ∃l,oneP s 401 0 []=some (s.size,l)∧formChk l=0∧readL s=l:=by
 have h2:=h
 unfold readE at h
 split at h
 ·cases h
 ·rename_i hs
  refine⟨by omega, ?_⟩
  cases ho:oneP s 401 0 [] with
  | none=>rw [ho] at h;cases h
  | some p=>
   obtain⟨j,l⟩:=p
   rw[ho] at h
   have hj:=(oneP_ok ho).2.1
   by_cases hlt:j < s.size
   ·dsimp only at h
    rw[if_pos hlt] at h;cases h
   ·obtain rfl:j=s.size:=by omega
    refine⟨l,rfl, ?_, ?_⟩
    ·dsimp only at h
     rw[if_neg hlt] at h;exact h
    ·rw[readL,if_pos h2,ho]
end Go.Proofs.YtajgndoiddmbmaaGreatDoor
