/- Towards what desk.Run answers. -/
import Derived.Test.YtajgndoiddmbmaaGreatDoorMShelf5
namespace Go.Proofs.YtajgndoiddmbmaaGreatDoor
open Go.RowKit
theorem GJ: ∀a:List UInt8,Lib.compareBytes a a=0
 | []=>rfl
 | a::Q7=>by
  unfold Lib.compareBytes;rw[if_neg (UInt8.lt_irrefl a),if_neg (UInt8.lt_irrefl a),GJ Q7]
theorem GH: ∀ {a b:List UInt8},Lib.compareBytes a b=0→a=b
 | [],[],_=>rfl
 | [],_::_,h=>by simp[Lib.compareBytes] at h
 | _::_,[],h=>by simp[Lib.compareBytes] at h
 | a::Q7,b::bs,h=>by
  unfold Lib.compareBytes at h;by_cases h1:a < b
  ·rw[if_pos h1] at h;exact absurd h (by decide)
  ·by_cases h2:b < a
   ·rw[if_neg h1,if_pos h2] at h;exact absurd h (by decide)
   ·rw[if_neg h1,if_neg h2] at h;have e:a=b:=UInt8.le_antisymm (UInt8.not_lt.1 h2) (UInt8.not_lt.1 h1);rw[e,GH h]
theorem GI: ∀a b:List UInt8,Lib.compareBytes b a= - Lib.compareBytes a b
 | [],[]=>rfl
 | [],_::_=>rfl
 | _::_,[]=>rfl
 | a::Q7,b::bs=>by
  unfold Lib.compareBytes;by_cases h1:a < b
  ·have h2: ¬b < a:=fun h=>UInt8.lt_irrefl a (UInt8.lt_trans h1 h);rw[if_neg h2,if_pos h1,if_pos h1];rfl
  ·by_cases h2:b < a
   ·rw[if_pos h2,if_neg h1,if_pos h2]
   ·rw[if_neg h1,if_neg h2,if_neg h2,if_neg h1,GI Q7 bs]
theorem DC: ∀ {a b c:List UInt8},Lib.compareBytes a b < 0→Lib.compareBytes b c < 0→Lib.compareBytes a c < 0
 | [],_,[],h,k=>by
  rename_i b;cases b with
  | nil=>exact h
  | cons x xs=>simp [Lib.compareBytes] at k
 | [],_,_::_,_,_=>by simp[Lib.compareBytes]
 | _::_,[],_,h,_=>by simp[Lib.compareBytes] at h
 | _::_,_::_,[],_,k=>by simp[Lib.compareBytes] at k
 | a::Q7,b::bs,c::cs,h,k=>by
  unfold Lib.compareBytes at h k ⊢;by_cases h1:a < b
  ·by_cases h2:b < c
   ·rw[if_pos (UInt8.lt_trans h1 h2)];decide
   ·by_cases h3:c < b
    ·rw[if_neg h2,if_pos h3] at k;exact absurd k (by decide)
    ·have e:b=c:=UInt8.le_antisymm (UInt8.not_lt.1 h3) (UInt8.not_lt.1 h2);rw[←e,if_pos h1];decide
  ·by_cases h2:b < a
   ·rw[if_neg h1,if_pos h2] at h;exact absurd h (by decide)
   ·have e:a=b:=UInt8.le_antisymm (UInt8.not_lt.1 h2) (UInt8.not_lt.1 h1);subst e;rw[if_neg h1,if_neg h1] at h;by_cases h3:a < c
    ·rw[if_pos h3];decide
    ·by_cases h4:c < a
     ·rw[if_neg h3,if_pos h4] at k;exact absurd k (by decide)
     ·rw[if_neg h3,if_neg h4] at k ⊢;exact DC h k
theorem id_eq {a b:ByteArray} :Lib.compareBytes a.data.toList b.data.toList=0↔a=b:=by
 constructor
 ·intro h;have:=GH h;obtain⟨⟨la⟩⟩:=a;obtain⟨⟨lb⟩⟩:=b;simp only at this;rw[this]
 ·rintro rfl;exact GJ _
def nj (a b:aA):Prop:=bJ a b < 0
def Nk (a b:aA):Prop:=a.id=b.id∧a.ds=b.ds∧a.dc=b.dc
theorem LQ (a b:aA):nj a b↔Lib.compareBytes a.id.data.toList b.id.data.toList < 0∨a.id=b.id∧(a.ds < b.ds∨a.ds=b.ds∧a.dc < b.dc):=by
 unfold nj bJ;by_cases h:a.id=b.id
 ·rw[if_neg (by rw[id_eq.2 h];simp)];have h0:=id_eq.2 h;split <;> constructor
  ·intro k;exact .inr ⟨h,by omega⟩
  ·rintro(k | ⟨-,k⟩) <;> omega
  ·intro k;exact .inr ⟨h,by omega⟩
  ·rintro(k | ⟨-,k⟩) <;> omega
 ·have h1:Lib.compareBytes a.id.data.toList b.id.data.toList≠0:=fun e=>h (id_eq.1 e);rw[if_pos h1];constructor
  ·exact .inl
  ·rintro(k | ⟨k, -⟩)
   ·exact k
   ·exact absurd k h
theorem Pb (a b:aA):bJ a b=0↔Nk a b:=by
 unfold bJ Nk;by_cases h:a.id=b.id
 ·rw[if_neg (by rw[id_eq.2 h];simp)];split <;> constructor
  ·intro k;omega
  ·rintro⟨-,k, -⟩;omega
  ·intro k;exact ⟨h,by omega,by omega⟩
  ·rintro⟨-, -,k⟩;omega
 ·have h1:Lib.compareBytes a.id.data.toList b.id.data.toList≠0:=fun e=>h (id_eq.1 e);rw[if_pos h1];exact⟨fun k=>absurd k h1,fun k=>absurd k.1 h⟩
theorem Pc (a b:aA):bJ b a= - bJ a b:=by
 have h:=GI a.id.data.toList b.id.data.toList;unfold bJ;rw[h];generalize Lib.compareBytes a.id.data.toList b.id.data.toList=c;by_cases h0:c=0
 ·rw[if_neg (show ¬ -c≠0 by omega),if_neg (show ¬c≠0 by omega)];by_cases h1:a.ds=b.ds
  ·rw[if_neg (by rw[h1];simp),if_neg (by rw[h1];simp)];omega
  ·rw[if_pos (fun e=>h1 e.symm),if_pos h1];omega
 ·rw[if_pos (show -c≠0 by omega),if_pos h0]
theorem yI {a b c:aA} (h:nj a b) (k:nj b c):nj a c:=by
 rw[LQ] at*;rcases h with h | ⟨h,h2⟩
 ·rcases k with k | ⟨k, -⟩
  ·exact .inl (DC h k)
  ·exact .inl (k ▸ h)
 ·rcases k with k | ⟨k,k2⟩
  ·exact .inl (h ▸ k)
  ·exact .inr ⟨h.trans k,by omega⟩
theorem Wv {a b c:aA} (h:nj a b) (k:Nk b c):nj a c:=by
 rw[LQ] at*;obtain⟨h1,h2,h3⟩:=k;rw[←h1,←h2,←h3];exact h
structure nK (l:List aA):Prop where
 len:l.length≤60
 ok: ∀v∈l,dz v
 ord:l.Pairwise nj
 free: ∀v∈l,∀w∈l,cW w v=false
theorem PB {l:List aA} (h: ∀k (hk:k+1 < l.length),nj (l[k]'(by omega)) l[k+1]):l.Pairwise nj:=by
 rw[List.pairwise_iff_getElem];intro i j hi hj hij;obtain⟨d,rfl⟩: ∃d,j=i+1+d:=⟨j - (i+1),by omega⟩
 induction d with
 | zero=>exact h i hj
 | succ d ih=>exact yI (ih (by omega) (by omega)) (h (i+1+d) hj)
theorem y7 {l:List aA} : ∀ {n:Nat},(∀i,i < n→stepC l i=0)→ordC l n=0
 | 0,_=>rfl
 | n+1,h=>by
  unfold ordC;rw[if_pos (y7 fun i hi=>h i (by omega)),h n (by omega)]
theorem jS {l:List aA} :bH l=0↔nK l:=by
 unfold bH;constructor
 ·intro h;split at h
  ·exact absurd h (by decide)
  ·split at h
   ·rename_i h2;exact absurd h h2
   ·split at h
    ·exact absurd h (by decide)
    ·rename_i h1 h2 h3;have h2':ordC l l.length=0:=by omega
     have hst:=xx h2';refine⟨by omega, ?_, ?_, ?_⟩
     ·intro v hv;obtain⟨i,hi,rfl⟩:=List.getElem_of_mem hv;exact gG.1 (xg hi (hst i hi))
     ·refine PB fun k hk=> ?_;have h4:=hst (k+1) hk;rw[xe hk (xg hk h4)] at h4;split at h4
      ·exact absurd h4 (by decide)
      ·rename_i h5;unfold nj;omega
     ·intro v hv w hw;simp only[y8,Bool.not_eq_true,List.any_eq_false] at h3;exact h3 v hv w hw
 ·rintro⟨h1,h2,h3,h4⟩;rw[if_neg (by omega)];have ho:ordC l l.length=0:=by
   refine y7 fun i hi=> ?_;cases i with
   | zero=>exact CK hi (gG.2 (h2 _ (List.getElem_mem hi)))
   | succ k=>
    rw[xe hi (gG.2 (h2 _ (List.getElem_mem hi))),if_neg];have:=(List.pairwise_iff_getElem.1 h3) k (k+1) (by omega) hi (by omega);unfold nj at this;omega
  rw[if_neg (by omega),if_neg];simp only[y8,Bool.not_eq_true,List.any_eq_false];intro v hv w hw;rw[h4 v hv w hw]
theorem nK.filter {l:List aA} (h:nK l) (p:aA→Bool):nK (l.filter p):=
 ⟨Nat.le_trans (List.length_filter_le _ _) h.len,fun v hv=>h.ok v (List.mem_filter.1 hv).1,h.ord.filter _,fun v hv w hw=>h.free v (List.mem_filter.1 hv).1 w (List.mem_filter.1 hw).1⟩
def Cf (l:List aA) (v:aA):List aA:=l.filter (fun w=>decide (bJ w v < 0))++v::l.filter (fun w=> !decide (bJ w v < 0))
def Ex (l:List aA) (v:aA):Bool:=l.any (fun w=>decide (bJ w v=0)) || l.any (fun w=>cW w v)
def fR (l:List aA) (v:aA):List aA:=if Ex l v=true then l else(Cf l v).filter fun w=> !cW v w
def cM (l:List aA) (v:aA):Int:=if bH l≠0 then bH l else if bC v≠0 then bC v else if 60 < (fR l v).length then 2 else 0
theorem Lz {l:List aA} {p:aA→Bool} : ∀ {i:Nat},i≤l.length→(∀q (h:q < l.length),q < i→p l[q]=true)→(∀q (h:q < l.length),i≤q→p l[q]=false)→l.filter p=l.take i∧l.filter (fun x=> !p x)=l.drop i:=by
 induction l with
 | nil=>intro i _ _ _;simp
 | cons x l ih=>
  intro i hi h1 h2;cases i with
  | zero=>
   constructor
   ·rw[List.take_zero,List.filter_eq_nil_iff];intro a ha;obtain⟨q,hq,rfl⟩:=List.getElem_of_mem ha;rw[h2 q hq (Nat.zero_le _)];decide
   ·rw[List.drop_zero,List.filter_eq_self];intro a ha;obtain⟨q,hq,rfl⟩:=List.getElem_of_mem ha;rw[h2 q hq (Nat.zero_le _)];rfl
  | succ i=>
   have h0:p x=true:=h1 0 (by simp) (by omega);have hi':i≤l.length:=by simpa using hi
   obtain⟨k1,k2⟩:=ih hi' (fun q hq hqi=>(List.getElem_cons_succ x l q (by simpa using hq)) ▸ h1 (q+1) (by simpa using hq) (by omega)) (fun q hq hqi=>(List.getElem_cons_succ x l q (by simpa using hq)) ▸ h2 (q+1) (by simpa using hq) (by omega));rw[List.filter_cons_of_pos h0,List.filter_cons_of_neg (by rw[h0];decide),k1,k2,List.take_succ_cons,List.drop_succ_cons];exact⟨rfl,rfl⟩
theorem Qn {l:List aA} {v:aA} {i:Nat} {b:Bool} (h:Kf l v i b):Cf l v=l.take i++v::l.drop i:=by
 obtain⟨h1,h2⟩:=Lz (l:=l) (p:=fun w=>decide (bJ w v < 0)) h.le (fun q hq hi=>by simpa using h.lo q hq hi) (fun q hq hi=>by have:=h.hi q hq hi;simp only[decide_eq_false_iff_not];omega);unfold Cf;rw [h1,h2]
theorem Qo {l:List aA} {v:aA} {i:Nat} {b:Bool} (h:Kf l v i b) (hs:l.Pairwise nj):l.any (fun w=>decide (bJ w v=0))=b:=by
 rw[Bool.eq_iff_iff,List.any_eq_true,h.found];constructor
 ·rintro⟨x,hx,h0⟩;have h0:bJ x v=0:=by simpa using h0
  obtain⟨q,hq,rfl⟩:=List.getElem_of_mem hx;by_cases h1:q < i
  ·have:=h.lo q hq h1;omega
  ·by_cases h2:q=i
   ·subst h2;exact ⟨hq,h0⟩
   ·have h3:=h.hi i (by omega) (Nat.le_refl _);have h4:nj l[i] l[q]:=(List.pairwise_iff_getElem.1 hs) i q (by omega) hq (by omega);have h5:nj l[i] v:=Wv h4 ((Pb _ _).1 h0);unfold nj at h5;omega
 ·rintro⟨hi,h0⟩;exact⟨l[i],List.getElem_mem hi,by simpa using h0⟩
theorem Xj {l:List aA} (h:l.Pairwise nj) (t:aA): ∀p q (hp:p < l.length) (hq:q < l.length),p < q→bJ l[q] t < 0→bJ l[p] t < 0:=
 fun p q hp hq hpq hlt=>yI ((List.pairwise_iff_getElem.1 h) p q hp hq hpq) hlt
theorem EI {l:List aA} {v x:aA} :x∈Cf l v↔x=v∨x∈l:=by
 unfold Cf;rw[List.mem_append,List.mem_cons,List.mem_filter,List.mem_filter];constructor
 ·rintro(h | h | h)
  ·exact .inr h.1
  ·exact .inl h
  ·exact .inr h.1
 ·rintro(h | h)
  ·exact .inr (.inl h)
  ·by_cases hd:bJ x v < 0
   ·exact .inl ⟨h,decide_eq_true hd⟩
   ·exact .inr (.inr ⟨h,by rw[decide_eq_false hd];rfl⟩)
theorem NU {l:List aA} {v:aA} (h:l.Pairwise nj) (hn: ∀w∈l,bJ w v≠0):(Cf l v).Pairwise nj:=by
 unfold Cf;rw[List.pairwise_append,List.pairwise_cons];have key: ∀w∈l,¬bJ w v < 0→nj v w:=fun w hw hnl=>by
  have:=hn w hw;unfold nj;rw [Pc w v];omega
 refine⟨h.filter _,⟨fun w hw=> ?_,h.filter _⟩,fun a ha b hb=> ?_⟩
 ·obtain⟨h1,h2⟩:=List.mem_filter.1 hw;exact key w h1 (by simpa using h2)
 ·obtain⟨h1,h2⟩:=List.mem_filter.1 ha;have h3:nj a v:=(of_decide_eq_true h2:bJ a v < 0)
  rcases List.mem_cons.1 hb with rfl | hb
  ·exact h3
  ·obtain⟨h4,h5⟩:=List.mem_filter.1 hb;exact yI h3 (key b h4 (by simpa using h5))
theorem NA {l:List aA} {v:aA} :Ex l v=false↔(∀w∈l,bJ w v≠0)∧ ∀w∈l,cW w v=false:=by
 unfold Ex;rw[Bool.or_eq_false_iff,List.any_eq_false,List.any_eq_false];simp
theorem PD {l:List aA} {v:aA} (h:nK l) (hv:dz v) (hl:(fR l v).length≤60):nK (fR l v):=by
 unfold fR at*;split
 ·exact h
 ·rename_i hb;rw[if_neg hb] at hl;obtain⟨h1,h2⟩:=NA.1 (by simpa using hb);refine⟨hl, ?_,(NU h.ord h1).filter _, ?_⟩
  ·intro x hx;rcases EI.1 (List.mem_filter.1 hx).1 with rfl | hx
   ·exact hv
   ·exact h.ok x hx
  ·intro x hx y hy;obtain⟨hx1,hx2⟩:=List.mem_filter.1 hx;obtain⟨hy1,hy2⟩:=List.mem_filter.1 hy;rcases EI.1 hy1 with rfl | hy3
   ·simpa using hx2
   ·rcases EI.1 hx1 with rfl | hx3
    ·exact h2 y hy3
    ·exact h.free x hx3 y hy3
theorem FW {l:List aA} {v:aA} :cM l v=0↔nK l∧dz v∧(fR l v).length≤60:=by
 unfold cM;constructor
 ·intro h;split at h
  ·rename_i h1;exact absurd h h1
  ·split at h
   ·rename_i h1;exact absurd h h1
   ·split at h
    ·exact absurd h (by decide)
    ·rename_i h1 h2 h3;exact⟨jS.1 (by omega),gG.1 (by omega),by omega⟩
 ·rintro⟨h1,h2,h3⟩;rw[if_neg (by rw[jS.2 h1];decide),if_neg (by rw[gG.2 h2];decide),if_neg (by omega)]
structure Uni (U:List aA):Prop where
 ok: ∀v∈U,dz v
 len:U.length≤60
 key: ∀v∈U,∀w∈U,Nk v w→v=w
 trans: ∀a∈U,∀b∈U,∀c∈U,cW a b=true→cW b c=true→cW a c=true
structure Rep (U l s:List aA):Prop where
 sub: ∀x∈l,x∈U
 ord:s.Pairwise nj
 mem: ∀x,x∈s↔x∈l∧ ∀b∈l,cW b x=false
def iZ (s:List aA) (l:List aA):List aA:=l.foldl fR s
theorem XL {s c:Int} (h:bX (s,c)=true):0≤s∧s < 5∧1≤c∧c≤1000:=by
 simp only[bX,Bool.and_eq_true,decide_eq_true_eq] at h;omega
def xw (C:List aA) (s c:Int):Bool:=C.any fun w=>aU w.past s c || decide (w.ds=s∧w.dc=c)
theorem PG {C:List aA} {s c:Int} :xw C s c=true↔ ∃w∈C,aU w.past s c=true∨w.ds=s∧w.dc=c:=by
 unfold xw;rw[List.any_eq_true];constructor
 ·rintro⟨w,hw,h⟩;refine⟨w,hw, ?_⟩;rw[Bool.or_eq_true,decide_eq_true_eq] at h;exact h
 ·rintro⟨w,hw,h⟩;refine⟨w,hw, ?_⟩;rw[Bool.or_eq_true,decide_eq_true_eq];exact h
end Go.Proofs.YtajgndoiddmbmaaGreatDoor
