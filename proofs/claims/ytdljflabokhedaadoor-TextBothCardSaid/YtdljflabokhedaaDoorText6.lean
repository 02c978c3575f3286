/- No sentence's text begins another one's: plain laws of the reader. No program in sight. -/
import Derived.Test.YtdljflabokhedaaDoorText4
import Derived.Test.YtdljflabokhedaaDoorFormLaw0
namespace Go.Proofs.YtdljflabokhedaaDoor
open Go.RowKit
theorem size_app (s t:ByteArray):(s++t).size=s.size+t.size:=ByteArray.size_append
theorem chr_app {s t:ByteArray} {i:Nat} (h:i < s.size):chr (s++t) i=chr s i:=by
 unfold chr
 rw[show(s++t).data.toList=s.data.toList++t.data.toList by rw[ByteArray.data_append,Array.toList_append],List.getElem?_append_left (by simpa using h)]
theorem chr_lt' {s:ByteArray} {i c:Nat} (h:chr s i=c) (hc:c < 256):i < s.size:=chr_ne (by omega)
theorem readE_zero {s:ByteArray} (h:readE s=0):s.size≤400∧ ∃l,oneP s 401 0 []=some (s.size,l)∧formChk l=0∧readL s=l:=by
 have h2:=h
 unfold readE at h
 split at h
 ·cases h
 ·rename_i hs
  refine⟨by omega, ?_⟩
  cases ho:oneP s 401 0 [] with
  | none=>rw [ho] at h;cases h
  | some p=>
   obtain⟨j,l⟩:=p
   rw[ho] at h
   have hj:=(oneP_ok ho).2.1
   by_cases hlt:j < s.size
   ·dsimp only at h
    rw[if_pos hlt] at h;cases h
   ·obtain rfl:j=s.size:=by omega
    refine⟨l,rfl, ?_, ?_⟩
    ·dsimp only at h
     rw[if_neg hlt] at h;exact h
    ·rw[readL,if_pos h2,ho]
theorem readL_bad {s:ByteArray} (h:readE s≠0):readL s=[]:=if_neg h
end Go.Proofs.YtdljflabokhedaaDoor
