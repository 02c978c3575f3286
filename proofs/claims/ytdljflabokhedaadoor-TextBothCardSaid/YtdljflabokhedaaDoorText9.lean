/- Two sentences with a sign and brackets; one with a ! ahead: the laws. No program in sight. -/
import Derived.Test.YtdljflabokhedaaDoorText8
namespace Go.Proofs.YtdljflabokhedaaDoor
open Go.RowKit
theorem chr_right {a b:ByteArray} {i:Nat} (h:a.size≤i):chr (a++b) i=chr b (i - a.size):=by
 unfold chr
 rw[show(a++b).data.toList=a.data.toList++b.data.toList by rw[ByteArray.data_append,Array.toList_append],List.getElem?_append_right (by simpa using h)]
 simp
def twoB (c:UInt8) (s t:ByteArray):ByteArray:=(((⟨#[40]⟩++s)++⟨#[c]⟩)++t)++⟨#[41]⟩
def notB (s:ByteArray):ByteArray:=⟨#[33]⟩++s
theorem size1 (c:UInt8):(⟨#[c]⟩:ByteArray).size=1:=rfl
theorem twoB_size (c:UInt8) (s t:ByteArray):(twoB c s t).size=s.size+t.size+3:=by
 simp only[twoB,size_app,size1];omega
theorem notB_size (s:ByteArray):(notB s).size=s.size+1:=by
 simp only[notB,size_app,size1];omega
theorem chr1 (c:UInt8):chr ⟨#[c]⟩ 0=c.toNat:=rfl
theorem notB_0 (s:ByteArray):chr (notB s) 0=33:=by
 rw[notB,chr_app (by rw[size1];omega),chr1];rfl
theorem notB_in (s:ByteArray):InAt (notB s) 1 s:=by
 refine⟨fun i hi=> ?_, ?_⟩
 ·rw[notB,chr_right (by rw[size1];omega),size1,Nat.add_sub_cancel_left]
 ·rw[chr_end (by rw[notB_size];omega)];decide
section
variable (c:UInt8) (s t:ByteArray)
theorem twoB_0:chr (twoB c s t) 0=40:=by
 rw[twoB,chr_app (by simp only[size_app,size1];omega),chr_app (by simp only[size_app,size1];omega),chr_app (by simp only[size_app,size1];omega),chr_app (by rw[size1];omega),chr1];rfl
theorem twoB_s {i:Nat} (hi:i < s.size):chr (twoB c s t) (1+i)=chr s i:=by
 rw[twoB,chr_app (by simp only[size_app,size1];omega),chr_app (by simp only[size_app,size1];omega),chr_app (by simp only[size_app,size1];omega),chr_right (by rw[size1];omega),size1,Nat.add_sub_cancel_left]
theorem twoB_c:chr (twoB c s t) (1+s.size)=c.toNat:=by
 rw[twoB,chr_app (by simp only[size_app,size1];omega),chr_app (by simp only[size_app,size1];omega),chr_right (by simp only[size_app,size1];omega),show 1+s.size - ((⟨#[40]⟩:ByteArray)++s).size=0 by simp only[size_app,size1];omega,chr1]
theorem twoB_t {i:Nat} (hi:i < t.size):chr (twoB c s t) (s.size+2+i)=chr t i:=by
 rw[twoB,chr_app (by simp only[size_app,size1];omega),chr_right (by simp only[size_app,size1];omega),show s.size+2+i - (((⟨#[40]⟩:ByteArray)++s)++⟨#[c]⟩).size=i by simp only[size_app,size1];omega]
theorem twoB_e:chr (twoB c s t) (s.size+2+t.size)=41:=by
 rw[twoB,chr_right (by simp only[size_app,size1];omega),show s.size+2+t.size - ((((⟨#[40]⟩:ByteArray)++s)++⟨#[c]⟩)++t).size=0 by simp only[size_app,size1];omega,chr1];rfl
theorem twoB_ins (hc:c.toNat=38∨c.toNat=124):InAt (twoB c s t) 1 s:=
 ⟨fun _ hi=>twoB_s c s t hi,by rw[twoB_c];rcases hc with h | h <;> rw[h] <;> decide⟩
theorem twoB_int:InAt (twoB c s t) (s.size+2) t:=
 ⟨fun _ hi=>twoB_t c s t hi,by rw[twoB_e];decide⟩
end
theorem shN_zero (n:Nd):shN 0 n=n:=by
 obtain⟨k,a,b⟩:=n
 unfold shN
 by_cases h:k=4
 ·subst h;simp
 ·by_cases h2:k=5∨k=6 <;> simp[h,h2]
theorem ctx_nil (l:Nds):ctx [] l=l:=by
 simp only[ctx,List.length_nil,List.nil_append]
 rw[show shN 0=id from funext shN_zero,List.map_id]
theorem ctx_none (c:Nds):ctx c []=c:=by simp[ctx]
theorem readE_of {t:ByteArray} {b:Nds} (h:t.size≤400) (ho:oneP t 401 0 []=some (t.size,b)):readE t=formChk b∧(formChk b=0→readL t=b):=by
 have e:readE t=formChk b:=by
  rw[readE,if_neg (by omega),ho];exact if_neg (Nat.lt_irrefl _)
 exact⟨e,fun hz=>by rw[readL,if_pos (e.trans hz),ho]⟩
theorem big_two {u:ByteArray} (h:400 < u.size):readE u=2:=if_pos h
theorem formChk_long {l:Nds} (h:30 < l.length):formChk l=2:=if_pos (.inr h)
theorem two_parse {c:UInt8} {s t:ByteArray} (hc:c.toNat=38∨c.toNat=124) {a:Nds} (h400:s.size+t.size+3≤400) (ho:oneP s 401 0 []=some (s.size,a)):
  oneP (twoB c s t) 401 0 []=(oneP (twoB c s t) 400 (s.size+2+0) (ctx a [])).bind fun q=>
    if chr (twoB c s t) q.1=41 then some (q.1+1,q.2++[⟨if c.toNat=124 then 6 else 5,(a.length:Int) - 1,(q.2.length:Int) - 1⟩]) else none:=by
 have h1:=oneP_in_of (twoB_ins c s t hc) [] ((oneP_fuel (f:=400) (g:=401) (by omega) (by omega)).trans ho)
 rw[ctx_nil,ctx_nil] at h1
 rw[oneP_two (twoB_0 c s t),show 0+1=1+0 by omega,h1]
 simp only[Option.bind_some]
 rw[twoB_c,if_pos hc.symm,show 1+s.size+1=s.size+2+0 by omega,ctx_none]
theorem two_back {c:UInt8} {s t:ByteArray} (hc:c.toNat=38∨c.toNat=124) (hs:readE s=0) (hu:readE (twoB c s t)=0):readE t=0:=by
 obtain⟨-,a,ho,hfa, -⟩:=readE_zero hs
 obtain⟨h4,l,hou,hfl, -⟩:=readE_zero hu
 rw[twoB_size] at h4 hou
 rw[two_parse hc h4 ho] at hou
 cases hm:oneP (twoB c s t) 400 (s.size+2+0) (ctx a []) with
 | none=>simp [hm] at hou
 | some q=>
  obtain⟨k,m⟩:=q
  simp only[hm,Option.bind_some] at hou
  split at hou
  ·simp only[Option.some.injEq,Prod.mk.injEq] at hou
   obtain⟨hk,rfl⟩:=hou
   obtain⟨j,b,hj,rfl,hob⟩:=oneP_in_to (twoB_int c s t) a (Nat.zero_le _) hm (by omega)
   obtain rfl:j=t.size:=by omega
   have hb:=oneP_ok hob
   have hz:=formChk_of_ctx hfl (by simp at hb;omega) (oneP_well wellL.nil hob)
   exact(readE_of (by omega) ((oneP_fuel (f:=401) (g:=400) (by omega) (by omega)).trans hob)).1.trans hz
  ·cases hou
theorem two_law {c:UInt8} {s t:ByteArray} (hc:c.toNat=38∨c.toNat=124) (hs:readE s=0) (ht:readE t=0):
  (400 < s.size+t.size+3∨30≤(readL s).length+(readL t).length→readE (twoB c s t)=2)∧
  (s.size+t.size+3≤400→(readL s).length+(readL t).length < 30→readE (twoB c s t)=0∧ ∀p n:Int,formVal (readL (twoB c s t)) p n=if c.toNat=124 then(formVal (readL s) p n || formVal (readL t) p n) else(formVal (readL s) p n&&formVal (readL t) p n)):=by
 obtain⟨-,a,ho,hfa,ha⟩:=readE_zero hs
 obtain⟨-,b,hot,hfb,hb⟩:=readE_zero ht
 rw[ha,hb]
 have pa:=(formChk_all hfa).1
 have pb:=(formChk_all hfb).1
 by_cases h400:s.size+t.size+3≤400
 rotate_left
 ·exact⟨fun _=>big_two (by rw[twoB_size];omega),fun h=>absurd h h400⟩
 have h2:=oneP_in_of (twoB_int c s t) a ((oneP_fuel (f:=400) (g:=401) (by omega) (by omega)).trans hot)
 have hp:=two_parse hc h400 ho
 rw[h2] at hp
 simp only[Option.bind_some] at hp
 rw[twoB_e,if_pos rfl,show s.size+2+t.size+1=(twoB c s t).size by rw[twoB_size];omega] at hp
 obtain⟨he,hl⟩:=readE_of (by rw[twoB_size];exact h400) hp
 have hw:=oneP_well wellL.nil hot
 refine⟨fun h=> ?_,fun _ h=> ?_⟩
 ·rw[he]
  exact formChk_long (by rw[List.length_append,ctx_len];simp;omega)
 ·have hz:formChk (ctx a b++[⟨if c.toNat=124 then 6 else 5,(a.length:Int) - 1,((ctx a b).length:Int) - 1⟩])=0:=by
   refine formChk_snoc (formChk_ctx hfa hfb hw (by omega)) (by rw[ctx_len];exact h) ?_
   rw[ctx_len]
   by_cases hd:c.toNat=124
   ·simp only[hd,if_true,ndChk]
    simp
    omega
   ·simp only[hd,if_false,ndChk]
    simp
    omega
  refine⟨he.trans hz,fun p n=> ?_⟩
  rw[hl hz,formVal_two pa pb hw p n _ (by by_cases hd:c.toNat=124 <;> simp[hd])]
  by_cases hd:c.toNat=124
  ·simp only[hd,if_true]
   rw[if_neg (by decide)]
  ·simp only[hd,if_false,if_true]
theorem not_law {s:ByteArray} (hs:readE s=0):
  (400≤s.size∨30≤(readL s).length→readE (notB s)=2)∧(s.size < 400→(readL s).length < 30→readE (notB s)=0∧ ∀p n:Int,formVal (readL (notB s)) p n= !formVal (readL s) p n):=by
 obtain⟨h4,a,ho,hfa,ha⟩:=readE_zero hs
 rw[ha]
 have pa:=(formChk_all hfa).1
 by_cases h400:s.size < 400
 rotate_left
 ·exact⟨fun _=>big_two (by rw[notB_size];omega),fun h=>absurd h h400⟩
 have h2:=oneP_in_of (notB_in s) [] ((oneP_fuel (f:=400) (g:=401) (by omega) (by omega)).trans ho)
 rw[ctx_nil,ctx_nil] at h2
 have hp:oneP (notB s) 401 0 []=some ((notB s).size,a++[⟨4,(a.length:Int) - 1,0⟩]):=by
  rw[oneP_not (notB_0 s),show 0+1=1+0 by omega,h2,notB_size,Nat.add_comm 1];rfl
 obtain⟨he,hl⟩:=readE_of (by rw[notB_size];omega) hp
 refine⟨fun h=> ?_,fun _ h=> ?_⟩
 ·rw[he]
  exact formChk_long (by simp;omega)
 ·have hz:formChk (a++[⟨4,(a.length:Int) - 1,0⟩])=0:=formChk_snoc hfa h (by simp[ndChk];omega)
  refine⟨he.trans hz,fun p n=> ?_⟩
  rw[hl hz,formVal_snoc,nd4,show((a.length:Int) - 1).toNat=a.length - 1 by omega];rfl
end Go.Proofs.YtdljflabokhedaaDoor
