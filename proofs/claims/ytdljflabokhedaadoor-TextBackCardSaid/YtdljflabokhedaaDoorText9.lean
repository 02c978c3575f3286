/- Two sentences with a sign and brackets; one with a ! ahead: the laws. No program in sight. -/
import Derived.Test.YtdljflabokhedaaDoorText8
namespace Go.Proofs.YtdljflabokhedaaDoor
open Go.RowKit
theorem chr_right {a b:ByteArray} {i:Nat} (h:a.size≤i):chr (a++b) i=chr b (i - a.size):=by
 unfold chr
 rw[show(a++b).data.toList=a.data.toList++b.data.toList by rw[ByteArray.data_append,Array.toList_append],List.getElem?_append_right (by simpa using h)]
 simp
def twoB (c:UInt8) (s t:ByteArray):ByteArray:=(((⟨#[40]⟩++s)++⟨#[c]⟩)++t)++⟨#[41]⟩
def notB (s:ByteArray):ByteArray:=⟨#[33]⟩++s
theorem size1 (c:UInt8):(⟨#[c]⟩:ByteArray).size=1:=rfl
theorem twoB_size (c:UInt8) (s t:ByteArray):(twoB c s t).size=s.size+t.size+3:=by
 simp only[twoB,size_app,size1];omega
theorem notB_size (s:ByteArray):(notB s).size=s.size+1:=by
 simp only[notB,size_app,size1];omega
theorem chr1 (c:UInt8):chr ⟨#[c]⟩ 0=c.toNat:=rfl
theorem notB_0 (s:ByteArray):chr (notB s) 0=33:=by
 rw[notB,chr_app (by rw[size1];omega),chr1];rfl
theorem notB_in (s:ByteArray):InAt (notB s) 1 s:=by
 refine⟨fun i hi=> ?_, ?_⟩
 ·rw[notB,chr_right (by rw[size1];omega),size1,Nat.add_sub_cancel_left]
 ·rw[chr_end (by rw[notB_size];omega)];decide
section
variable (c:UInt8) (s t:ByteArray)
theorem twoB_0:chr (twoB c s t) 0=40:=by
 rw[twoB,chr_app (by simp only[size_app,size1];omega),chr_app (by simp only[size_app,size1];omega),chr_app (by simp only[size_app,size1];omega),chr_app (by rw[size1];omega),chr1];rfl
theorem twoB_s {i:Nat} (hi:i < s.size):chr (twoB c s t) (1+i)=chr s i:=by
 rw[twoB,chr_app (by simp only[size_app,size1];omega),chr_app (by simp only[size_app,size1];omega),chr_app (by simp only[size_app,size1];omega),chr_right (by rw[size1];omega),size1,Nat.add_sub_cancel_left]
theorem twoB_c:chr (twoB c s t) (1+s.size)=c.toNat:=by
 rw[twoB,chr_app (by simp only[size_app,size1];omega),chr_app (by simp only[size_app,size1];omega),chr_right (by simp only[size_app,size1];omega),show 1+s.size - ((⟨#[40]⟩:ByteArray)++s).size=0 by simp only[size_app,size1];omega,chr1]
theorem twoB_t {i:Nat} (hi:i < t.size):chr (twoB c s t) (s.size+2+i)=chr t i:=by
 rw[twoB,chr_app (by simp only[size_app,size1];omega),chr_right (by simp only[size_app,size1];omega),show s.size+2+i - (((⟨#[40]⟩:ByteArray)++s)++⟨#[c]⟩).size=i by simp only[size_app,size1];omega]
theorem twoB_e:chr (twoB c s t) (s.size+2+t.size)=41:=by
 rw[twoB,chr_right (by simp only[size_app,size1];omega),show s.size+2+t.size - ((((⟨#[40]⟩:ByteArray)++s)++⟨#[c]⟩)++t).size=0 by simp only[size_app,size1];omega,chr1];rfl
theorem twoB_ins (hc:c.toNat=38∨c.toNat=124):InAt (twoB c s t) 1 s:=
 ⟨fun _ hi=>twoB_s c s t hi,by rw[twoB_c];rcases hc with h | h <;> rw[h] <;> decide⟩
theorem twoB_int:InAt (twoB c s t) (s.size+2) t:=
 ⟨fun _ hi=>twoB_t c s t hi,by rw[twoB_e];decide⟩
end
theorem shN_zero (n:Nd):shN 0 n=n:=by
 obtain⟨k,a,b⟩:=n
 unfold shN
 by_cases h:k=4
 ·subst h;simp
 ·by_cases h2:k=5∨k=6 <;> simp[h,h2]
theorem ctx_nil (l:Nds):ctx [] l=l:=by
 simp only[ctx,List.length_nil,List.nil_append]
 rw[show shN 0=id from funext shN_zero,List.map_id]
theorem ctx_none (c:Nds):ctx c []=c:=by simp[ctx]
theorem readE_of {t:ByteArray} {b:Nds} (h:t.size≤400) (ho:oneP t 401 0 []=some (t.size,b)):readE t=formChk b∧(formChk b=0→readL t=b):=by
 have e:readE t=formChk b:=by
  rw[readE,if_neg (by omega),ho];exact if_neg (Nat.lt_irrefl _)
 exact⟨e,fun hz=>by rw[readL,if_pos (e.trans hz),ho]⟩
theorem formChk_long {l:Nds} (h:30 < l.length):formChk l=2:=if_pos (.inr h)
theorem two_parse {c:UInt8} {s t:ByteArray} (hc:c.toNat=38∨c.toNat=124) {a:Nds} (h400:s.size+t.size+3≤400) (ho:oneP s 401 0 []=some (s.size,a)):
  oneP (twoB c s t) 401 0 []=(oneP (twoB c s t) 400 (s.size+2+0) (ctx a [])).bind fun q=>
    if chr (twoB c s t) q.1=41 then some (q.1+1,q.2++[⟨if c.toNat=124 then 6 else 5,(a.length:Int) - 1,(q.2.length:Int) - 1⟩]) else none:=by
 have h1:=oneP_in_of (twoB_ins c s t hc) [] ((oneP_fuel (f:=400) (g:=401) (by omega) (by omega)).trans ho)
 rw[ctx_nil,ctx_nil] at h1
 rw[oneP_two (twoB_0 c s t),show 0+1=1+0 by omega,h1]
 simp only[Option.bind_some]
 rw[twoB_c,if_pos hc.symm,show 1+s.size+1=s.size+2+0 by omega,ctx_none]
end Go.Proofs.YtdljflabokhedaaDoor
