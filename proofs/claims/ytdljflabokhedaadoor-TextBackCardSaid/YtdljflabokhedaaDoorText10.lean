/- Sentences shown as text: what is shown is read as a sentence that says the same. No program in sight. -/
import Derived.Test.YtdljflabokhedaaDoorText9
import Derived.Lib.ItoaNum
namespace Go.Proofs.YtdljflabokhedaaDoor
open Go.RowKit
def cutS (b:ByteArray):ByteArray:=if 400 < b.size then b.extract 0 401 else b
def itB (n:Nat):ByteArray:=⟨(Lib.decDigits n).toArray⟩
def rawS (ss:List ByteArray) (n:Nd):ByteArray:=
 if n.k=1 then⟨#[42]⟩
 else if n.k=2 then⟨#[35]⟩++itB n.a.toNat
 else if n.k=3 then(((⟨#[91]⟩++itB n.a.toNat)++⟨#[44]⟩)++itB n.b.toNat)++⟨#[41]⟩
 else if n.k=4 then notB (ss.getD n.a.toNat ByteArray.empty)
 else if n.k=5 then twoB 38 (ss.getD n.a.toNat ByteArray.empty) (ss.getD n.b.toNat ByteArray.empty)
 else twoB 124 (ss.getD n.a.toNat ByteArray.empty) (ss.getD n.b.toNat ByteArray.empty)
def txtsK (l:Nds):Nat→List ByteArray
 | 0=>[]
 | k+1=>txtsK l k++[cutS (rawS (txtsK l k) (l.getD k ⟨0,0,0⟩))]
theorem txtsK_length (l:Nds) (k:Nat):(txtsK l k).length=k:=by
 induction k with
 | zero=>rfl
 | succ k ih=>simp [txtsK,ih]
theorem txtsK_get (l:Nds) (j k:Nat) (h:j < k):(txtsK l k).getD j ByteArray.empty=cutS (rawS (txtsK l j) (l.getD j ⟨0,0,0⟩)):=by
 induction k with
 | zero=>omega
 | succ k ih=>
  by_cases e:j=k
  ·subst e
   simp[txtsK,List.getD,txtsK_length]
  ·rw[←ih (by omega)]
   simp only[txtsK,List.getD,List.getElem?_append_left (show j < (txtsK l k).length by rw[txtsK_length];omega)]
theorem txtsK_congr (l m:Nds) (k:Nat) (h: ∀j,j < k→l.getD j ⟨0,0,0⟩=m.getD j ⟨0,0,0⟩):txtsK l k=txtsK m k:=by
 induction k with
 | zero=>rfl
 | succ k ih=>simp only[txtsK];rw [ih fun j hj=>h j (by omega),h k (by omega)]
theorem txtsK_app (l m:Nds) (k:Nat) (h:k≤l.length):txtsK (l++m) k=txtsK l k:=
 txtsK_congr _ _ _ fun j hj=>by simp[List.getD,List.getElem?_append_left (show j < l.length by omega)]
def txts (l:Nds):List ByteArray:=txtsK l l.length
def lastS (l:Nds):ByteArray:=(txts l).getD (l.length - 1) ByteArray.empty
def showE (l:Nds):Int:=if formChk l=0 then(if 400 < (lastS l).size then 2 else 0) else formChk l
def showS (l:Nds):ByteArray:=if showE l=0 then lastS l else ByteArray.empty
structure Good (s:ByteArray) (m:Nds):Prop where
 sz:s.size≤400
 par:oneP s 401 0 []=some (s.size,m)
 well:wellL m
 chk: ∀k (h:k < m.length),ndChk k m[k]=0
theorem Good.pos {s:ByteArray} {m:Nds} (h:Good s m):0 < m.length:=by have:=oneP_ok h.par;simp at this;omega
theorem Good.read {s:ByteArray} {m:Nds} (h:Good s m):(readE s=0∧readL s=m)∨readE s=2:=by
 obtain⟨h1,h2⟩:=readE_of h.sz h.par
 by_cases h30:m.length≤30
 ·have hz:=formChk_of h.pos h30 h.chk
  exact .inl ⟨h1.trans hz,h2 hz⟩
 ·exact .inr (h1.trans (formChk_long (by omega)))
theorem chk_snoc {m:Nds} {x:Nd} (h: ∀k (h:k < m.length),ndChk k m[k]=0) (hx:ndChk m.length x=0): ∀k (h:k < (m++[x]).length),ndChk k (m++[x])[k]=0:=by
 intro k hk
 rw[List.getElem_append]
 split
 ·exact h k _
 ·have:k=m.length:=by simp at hk;omega
  subst this;simpa using hx
theorem chk_ctx {c l:Nds} (hc: ∀k (h:k < c.length),ndChk k c[k]=0) (hl: ∀k (h:k < l.length),ndChk k l[k]=0) (hw:wellL l): ∀k (h:k < (ctx c l).length),ndChk k (ctx c l)[k]=0:=by
 intro k hk
 by_cases h:k < c.length
 ·rw[ctx_get_lt h];exact hc k h
 ·obtain⟨q,rfl⟩: ∃q,k=c.length+q:=⟨k - c.length,by omega⟩
  rw[ctx_len] at hk
  rw[ctx_get (by omega),ndChk_sh (hw q (by omega))]
  exact hl q _
def digB (a:Nat):ByteArray:=if a < 10 then⟨#[UInt8.ofNat (48+a)]⟩ else⟨#[UInt8.ofNat (48+a / 10),UInt8.ofNat (48+a%10)]⟩
theorem itB_dig {a:Nat} (h:a < 100):itB a=digB a:=by
 unfold itB digB
 by_cases h1:a < 10
 ·rw[if_pos h1,Lib.decDigits,dif_pos h1]
 ·rw[if_neg h1,Lib.decDigits,dif_neg h1,Lib.decDigits,dif_pos (by omega)];rfl
theorem tag_par: ∀a,a < 4→oneP (⟨#[35]⟩++digB a) 401 0 []=some ((⟨#[35]⟩++digB a).size,[⟨2,(a:Nat),0⟩])∧(⟨#[35]⟩++digB a).size≤400:=by decide+kernel
theorem in_par: ∀b,b < 33→ ∀a,a < b→oneP ((((⟨#[91]⟩++digB a)++⟨#[44]⟩)++digB b)++⟨#[41]⟩) 401 0 []=some (((((⟨#[91]⟩++digB a)++⟨#[44]⟩)++digB b)++⟨#[41]⟩).size,[⟨3,(a:Nat),(b:Nat)⟩])∧((((⟨#[91]⟩++digB a)++⟨#[44]⟩)++digB b)++⟨#[41]⟩).size≤400:=by decide+kernel
theorem all_par:oneP ⟨#[42]⟩ 401 0 []=some ((⟨#[42]⟩:ByteArray).size,[⟨1,0,0⟩]):=by decide+kernel
theorem chk_one {x:Nd} (h:ndChk 0 x=0): ∀k (hk:k < [x].length),ndChk k [x][k]=0:=fun k hk=>by
 obtain rfl:k=0:=by simp at hk;omega
 exact h
theorem good_not {s:ByteArray} {m:Nds} (h:Good s m) (h4:(notB s).size≤400):Good (notB s) (m++[⟨4,(m.length:Int) - 1,0⟩]):=by
 have hs:=notB_size s
 have hp:=h.pos
 have h2:=oneP_in_of (notB_in s) [] ((oneP_fuel (f:=400) (g:=401) (by omega) (by omega)).trans h.par)
 rw[ctx_nil,ctx_nil] at h2
 have hx:ndChk m.length ⟨4,(m.length:Int) - 1,0⟩=0:=by simp[ndChk];omega
 refine⟨h4, ?_,h.well.snoc (.inr (.inr (.inr (.inl ⟨rfl,by simp only[];omega,by simp only[];omega⟩)))),chk_snoc h.chk hx⟩
 rw[oneP_not (notB_0 s),show 0+1=1+0 by omega,h2,notB_size,Nat.add_comm 1];rfl
theorem good_two {c:UInt8} {s t:ByteArray} {a b:Nds} (hc:c.toNat=38∨c.toNat=124) (h:Good s a) (k:Good t b) (h4:(twoB c s t).size≤400):
  Good (twoB c s t) (ctx a b++[⟨if c.toNat=124 then 6 else 5,(a.length:Int) - 1,((ctx a b).length:Int) - 1⟩]):=by
 have hs:=twoB_size c s t
 have pa:=h.pos
 have pb:=k.pos
 have h2:=oneP_in_of (twoB_int c s t) a ((oneP_fuel (f:=400) (g:=401) (by omega) (by omega)).trans k.par)
 have hp:=two_parse (t:=t) hc (by omega) h.par
 rw[h2] at hp
 simp only[Option.bind_some] at hp
 rw[twoB_e,if_pos rfl,show s.size+2+t.size+1=(twoB c s t).size by omega] at hp
 have hw:wellL (ctx a b):=by
  intro q hq
  by_cases hl:q < a.length
  ·rw[ctx_get_lt hl];exact h.well q hl
  ·obtain⟨r,rfl⟩: ∃r,q=a.length+r:=⟨q - a.length,by omega⟩
   rw[ctx_len] at hq
   rw[ctx_get (by omega)]
   have:=k.well r (by omega)
   rcases this with e | e | e | ⟨e,e1,e2⟩ | ⟨e,e1,e2,e3,e4⟩
   ·exact .inl (by simp[shN,e])
   ·exact .inr (.inl (by simp[shN,e]))
   ·exact .inr (.inr (.inl (by simp[shN,e])))
   ·refine .inr (.inr (.inr (.inl ?_)))
    simp[shN,e];omega
   ·refine .inr (.inr (.inr (.inr ?_)))
    rcases e with e | e <;> simp[shN,e] <;> omega
 refine⟨h4,hp,hw.snoc (.inr (.inr (.inr (.inr ⟨?_, ?_, ?_, ?_, ?_⟩)))),chk_snoc (chk_ctx h.chk k.chk k.well) ?_⟩
 ·by_cases hd:c.toNat=124 <;> simp[hd]
 ·simp only[];omega
 ·rw[ctx_len];simp only[];omega
 ·rw[ctx_len];simp only[];omega
 ·rw[ctx_len];simp only[];omega
 ·rw[ctx_len]
  by_cases hd:c.toNat=124
  ·simp only[hd,if_true,ndChk];simp;omega
  ·simp only[hd,if_false,ndChk];simp;omega
theorem cutS_small {b:ByteArray} (h:(cutS b).size≤400):cutS b=b∧b.size≤400:=by
 unfold cutS at h ⊢
 by_cases hb:400 < b.size
 ·rw[if_pos hb,ByteArray.size_extract] at h;omega
 ·rw[if_neg hb];exact ⟨rfl,by omega⟩
theorem formVal_one (x:Nd) (t n:Int):formVal [x] t n=ndVal [] t n x:=by
 have:=formVal_snoc [] x t n
 simpa[valsK] using this
theorem txt_good {l:Nds} (hl:formChk l=0): ∀k,k < l.length→((txts l).getD k ByteArray.empty).size≤400→ ∃m,Good ((txts l).getD k ByteArray.empty) m∧ ∀t n:Int,formVal m t n=(valsK l t n l.length).getD k false:=by
 obtain⟨-, -,hall⟩:=formChk_all hl
 intro k
 induction k using Nat.strongRecOn with
 | _ k ih=>
  intro hk hsz
  have hx:=ndChk_zero (hall k hk)
  have hg:l.getD k ⟨0,0,0⟩=l[k]:=by rw[List.getD,List.getElem?_eq_getElem hk];rfl
  have e:(txts l).getD k ByteArray.empty=cutS (rawS (txtsK l k) l[k]):=by rw[txts,txtsK_get l k l.length hk,hg]
  rw[e] at hsz ⊢
  obtain⟨e2,h4⟩:=cutS_small hsz
  rw[e2]
  have sub: ∀a,a < k→(txtsK l k).getD a ByteArray.empty=(txts l).getD a ByteArray.empty:=fun a ha=>by
   rw[txts,txtsK_get l a k ha,txtsK_get l a l.length (by omega)]
  have val: ∀t n:Int,(valsK l t n l.length).getD k false=ndVal (valsK l t n k) t n l[k]:=fun t n=>by
   rw[valsK_get l t n k l.length hk,valsK_last,hg]
  have vsub: ∀(t n:Int) a,a < k→(valsK l t n k).getD a false=(valsK l t n l.length).getD a false:=fun t n a ha=>by
   rw[valsK_get l t n a k ha,valsK_get l t n a l.length (by omega)]
  generalize l[k]=x at*
  obtain⟨xk,xa,xb⟩:=x
  simp only at hx
  rcases hx with rfl | ⟨rfl,h0,h1⟩ | ⟨rfl,h0,h1,h2⟩ | ⟨rfl,h0,h1⟩ | ⟨h5,h0,h1,h2,h3⟩
  ·rw[show rawS (txtsK l k) ⟨1,xa,xb⟩=⟨#[42]⟩ from rfl]
   refine⟨[⟨1,0,0⟩],⟨by decide,all_par,wellL.nil.snoc (.inl rfl),chk_one rfl⟩,fun t n=> ?_⟩
   rw[val,formVal_one];rfl
  ·obtain⟨a,rfl⟩: ∃a:Nat,xa=a:=⟨xa.toNat,by omega⟩
   have ha:a < 4:=by omega
   have er:rawS (txtsK l k) ⟨2,(a:Int),xb⟩=⟨#[35]⟩++digB a:=by rw[←itB_dig (by omega)];rfl
   rw[er]
   refine⟨_,⟨(tag_par a ha).2,(tag_par a ha).1,wellL.nil.snoc (.inr (.inl rfl)),chk_one (by simp[ndChk];omega)⟩,fun t n=> ?_⟩
   rw[val,formVal_one];rfl
  ·obtain⟨a,rfl⟩: ∃a:Nat,xa=a:=⟨xa.toNat,by omega⟩
   obtain⟨b,rfl⟩: ∃b:Nat,xb=b:=⟨xb.toNat,by omega⟩
   have hp:=in_par b (by omega) a (by omega)
   have er:rawS (txtsK l k) ⟨3,(a:Int),(b:Int)⟩=(((⟨#[91]⟩++digB a)++⟨#[44]⟩)++digB b)++⟨#[41]⟩:=by rw[←itB_dig (show a < 100 by omega),←itB_dig (show b < 100 by omega)];rfl
   rw[er]
   refine⟨_,⟨hp.2,hp.1,wellL.nil.snoc (.inr (.inr (.inl rfl))),chk_one (by simp[ndChk];omega)⟩,fun t n=> ?_⟩
   rw[val,formVal_one];rfl
  ·have er:rawS (txtsK l k) ⟨4,xa,xb⟩=notB ((txts l).getD xa.toNat ByteArray.empty):=by rw[←sub _ (by omega)];rfl
   rw[er] at h4 ⊢
   have hs:=notB_size ((txts l).getD xa.toNat ByteArray.empty)
   obtain⟨m,hm,hv⟩:=ih xa.toNat (by omega) (by omega) (by omega)
   refine⟨_,good_not hm h4,fun t n=> ?_⟩
   have:=hm.pos
   rw[val,formVal_snoc,nd4,nd4,vsub t n _ (by omega),←hv t n,show((m.length:Int) - 1).toNat=m.length - 1 by omega];rfl
  ·have hh: ∀c:UInt8,(c.toNat=38∧xk=5)∨(c.toNat=124∧xk=6)→(twoB c ((txts l).getD xa.toNat ByteArray.empty) ((txts l).getD xb.toNat ByteArray.empty)).size≤400→
     ∃m,Good (twoB c ((txts l).getD xa.toNat ByteArray.empty) ((txts l).getD xb.toNat ByteArray.empty)) m∧ ∀t n:Int,formVal m t n=(valsK l t n l.length).getD k false:=by
    intro c hc h4
    have hs:=twoB_size c ((txts l).getD xa.toNat ByteArray.empty) ((txts l).getD xb.toNat ByteArray.empty)
    obtain⟨m,hm,hv⟩:=ih xa.toNat (by omega) (by omega) (by omega)
    obtain⟨m2,hm2,hv2⟩:=ih xb.toNat (by omega) (by omega) (by omega)
    have pm:=hm.pos
    have pm2:=hm2.pos
    refine⟨_,good_two (by rcases hc with h | h;exact .inl h.1;exact .inr h.1) hm hm2 h4,fun t n=> ?_⟩
    rcases hc with⟨hc,rfl⟩ | ⟨hc,rfl⟩
    ·rw[show(if c.toNat=124 then(6:Int) else 5)=5 by rw[if_neg (by omega)],formVal_two pm pm2 hm2.well t n 5 (.inl rfl),if_pos rfl,val,nd5,vsub t n _ (by omega),vsub t n _ (by omega),hv t n,hv2 t n]
    ·rw[show(if c.toNat=124 then(6:Int) else 5)=6 by rw[if_pos hc],formVal_two pm pm2 hm2.well t n 6 (.inr rfl),if_neg (by decide),val,nd6,vsub t n _ (by omega),vsub t n _ (by omega),hv t n,hv2 t n]
   rcases h5 with rfl | rfl
   ·have er:rawS (txtsK l k) ⟨5,xa,xb⟩=twoB 38 ((txts l).getD xa.toNat ByteArray.empty) ((txts l).getD xb.toNat ByteArray.empty):=by rw[←sub _ (show xa.toNat < k by omega),←sub _ (show xb.toNat < k by omega)];rfl
    rw[er] at h4 ⊢
    exact hh 38 (.inl ⟨rfl,rfl⟩) h4
   ·have er:rawS (txtsK l k) ⟨6,xa,xb⟩=twoB 124 ((txts l).getD xa.toNat ByteArray.empty) ((txts l).getD xb.toNat ByteArray.empty):=by rw[←sub _ (show xa.toNat < k by omega),←sub _ (show xb.toNat < k by omega)];rfl
    rw[er] at h4 ⊢
    exact hh 124 (.inr ⟨rfl,rfl⟩) h4
theorem show_zero {l:Nds} (h:showE l=0):formChk l=0∧(lastS l).size≤400:=by
 unfold showE at h
 split at h
 ·rename_i h1
  split at h
  ·cases h
  ·exact⟨h1,by omega⟩
 ·rename_i h1;exact absurd h h1
theorem shown_read {l:Nds} (h:showE l=0):(readE (lastS l)=0∧ ∀t n:Int,formVal (readL (lastS l)) t n=formVal l t n)∨readE (lastS l)=2:=by
 obtain⟨hl,h4⟩:=show_zero h
 have hp:=(formChk_all hl).1
 obtain⟨m,hm,hv⟩:=txt_good hl (l.length - 1) (by omega) h4
 rcases hm.read with⟨h1,h2⟩ | h1
 ·left
  refine⟨h1,fun t n=> ?_⟩
  have h2':readL (lastS l)=m:=h2
  rw[h2',hv];rfl
 ·exact .inr h1
end Go.Proofs.YtdljflabokhedaaDoor
