/- Shelves as lists: their order, and what putting, dropping and getting do. No program in sight. Versions of which one is over another in an orderly way: what stands on a shelf when all are put, in whatever order. No program in sight. Versions as sites would make them: each over some that came ahead, and over what those are over. No program in sight. What the statements about shelves want of shelves as lists. No program in sight. -/
import Derived.Test.YtgkgdedhicnohaaGreatMShelf5
namespace Go.Proofs.YtgkgdedhicnohaaGreat
open Go.RowKit
theorem cmpB_refl: ∀a:List UInt8,Lib.compareBytes a a=0
 | []=>rfl
 | a::as1=>by
  unfold Lib.compareBytes
  rw[if_neg (UInt8.lt_irrefl a),if_neg (UInt8.lt_irrefl a),cmpB_refl as1]
theorem cmpB_zero: ∀ {a b:List UInt8},Lib.compareBytes a b=0→a=b
 | [],[],_=>rfl
 | [],_::_,h=>by simp[Lib.compareBytes] at h
 | _::_,[],h=>by simp[Lib.compareBytes] at h
 | a::as1,b::bs,h=>by
  unfold Lib.compareBytes at h
  by_cases h1:a < b
  ·rw[if_pos h1] at h;exact absurd h (by decide)
  ·by_cases h2:b < a
   ·rw[if_neg h1,if_pos h2] at h;exact absurd h (by decide)
   ·rw[if_neg h1,if_neg h2] at h
    have e:a=b:=UInt8.le_antisymm (UInt8.not_lt.1 h2) (UInt8.not_lt.1 h1)
    rw[e,cmpB_zero h]
theorem cmpB_swap: ∀a b:List UInt8,Lib.compareBytes b a= - Lib.compareBytes a b
 | [],[]=>rfl
 | [],_::_=>rfl
 | _::_,[]=>rfl
 | a::as1,b::bs=>by
  unfold Lib.compareBytes
  by_cases h1:a < b
  ·have h2: ¬b < a:=fun h=>UInt8.lt_irrefl a (UInt8.lt_trans h1 h)
   rw[if_neg h2,if_pos h1,if_pos h1];rfl
  ·by_cases h2:b < a
   ·rw[if_pos h2,if_neg h1,if_pos h2]
   ·rw[if_neg h1,if_neg h2,if_neg h2,if_neg h1,cmpB_swap as1 bs]
theorem cmpB_trans: ∀ {a b c:List UInt8},Lib.compareBytes a b < 0→Lib.compareBytes b c < 0→Lib.compareBytes a c < 0
 | [],_,[],h,k=>by
  rename_i b
  cases b with
  | nil=>exact h
  | cons x xs=>simp [Lib.compareBytes] at k
 | [],_,_::_,_,_=>by simp[Lib.compareBytes]
 | _::_,[],_,h,_=>by simp[Lib.compareBytes] at h
 | _::_,_::_,[],_,k=>by simp[Lib.compareBytes] at k
 | a::as1,b::bs,c::cs,h,k=>by
  unfold Lib.compareBytes at h k ⊢
  by_cases h1:a < b
  ·by_cases h2:b < c
   ·rw[if_pos (UInt8.lt_trans h1 h2)];decide
   ·by_cases h3:c < b
    ·rw[if_neg h2,if_pos h3] at k;exact absurd k (by decide)
    ·have e:b=c:=UInt8.le_antisymm (UInt8.not_lt.1 h3) (UInt8.not_lt.1 h2)
     rw[←e,if_pos h1];decide
  ·by_cases h2:b < a
   ·rw[if_neg h1,if_pos h2] at h;exact absurd h (by decide)
   ·have e:a=b:=UInt8.le_antisymm (UInt8.not_lt.1 h2) (UInt8.not_lt.1 h1)
    subst e
    rw[if_neg h1,if_neg h1] at h
    by_cases h3:a < c
    ·rw[if_pos h3];decide
    ·by_cases h4:c < a
     ·rw[if_neg h3,if_pos h4] at k;exact absurd k (by decide)
     ·rw[if_neg h3,if_neg h4] at k ⊢
      exact cmpB_trans h k
theorem id_eq {a b:ByteArray} :Lib.compareBytes a.data.toList b.data.toList=0↔a=b:=by
 constructor
 ·intro h
  have:=cmpB_zero h
  obtain⟨⟨la⟩⟩:=a
  obtain⟨⟨lb⟩⟩:=b
  simp only at this
  rw[this]
 ·rintro rfl;exact cmpB_refl _
def vlt (a b:Ver):Prop:=verCmp a b < 0
def skey (a b:Ver):Prop:=a.id=b.id∧a.ds=b.ds∧a.dc=b.dc
theorem vlt_iff (a b:Ver):vlt a b↔Lib.compareBytes a.id.data.toList b.id.data.toList < 0∨a.id=b.id∧(a.ds < b.ds∨a.ds=b.ds∧a.dc < b.dc):=by
 unfold vlt verCmp
 by_cases h:a.id=b.id
 ·rw[if_neg (by rw[id_eq.2 h];simp)]
  have h0:=id_eq.2 h
  split <;> constructor
  ·intro k;exact .inr ⟨h,by omega⟩
  ·rintro(k | ⟨-,k⟩) <;> omega
  ·intro k;exact .inr ⟨h,by omega⟩
  ·rintro(k | ⟨-,k⟩) <;> omega
 ·have h1:Lib.compareBytes a.id.data.toList b.id.data.toList≠0:=fun e=>h (id_eq.1 e)
  rw[if_pos h1]
  constructor
  ·exact .inl
  ·rintro(k | ⟨k, -⟩)
   ·exact k
   ·exact absurd k h
theorem vcmp_zero (a b:Ver):verCmp a b=0↔skey a b:=by
 unfold verCmp skey
 by_cases h:a.id=b.id
 ·rw[if_neg (by rw[id_eq.2 h];simp)]
  split <;> constructor
  ·intro k;omega
  ·rintro⟨-,k, -⟩;omega
  ·intro k;exact ⟨h,by omega,by omega⟩
  ·rintro⟨-, -,k⟩;omega
 ·have h1:Lib.compareBytes a.id.data.toList b.id.data.toList≠0:=fun e=>h (id_eq.1 e)
  rw[if_pos h1]
  exact⟨fun k=>absurd k h1,fun k=>absurd k.1 h⟩
theorem vcmp_swap (a b:Ver):verCmp b a= - verCmp a b:=by
 have h:=cmpB_swap a.id.data.toList b.id.data.toList
 unfold verCmp
 rw[h]
 generalize Lib.compareBytes a.id.data.toList b.id.data.toList=c
 by_cases h0:c=0
 ·rw[if_neg (show ¬ -c≠0 by omega),if_neg (show ¬c≠0 by omega)]
  by_cases h1:a.ds=b.ds
  ·rw[if_neg (by rw[h1];simp),if_neg (by rw[h1];simp)];omega
  ·rw[if_pos (fun e=>h1 e.symm),if_pos h1];omega
 ·rw[if_pos (show -c≠0 by omega),if_pos h0]
theorem vlt_trans {a b c:Ver} (h:vlt a b) (k:vlt b c):vlt a c:=by
 rw[vlt_iff] at*
 rcases h with h | ⟨h,h2⟩
 ·rcases k with k | ⟨k, -⟩
  ·exact .inl (cmpB_trans h k)
  ·exact .inl (k ▸ h)
 ·rcases k with k | ⟨k,k2⟩
  ·exact .inl (h ▸ k)
  ·exact .inr ⟨h.trans k,by omega⟩
theorem vlt_irrefl (a:Ver): ¬vlt a a:=by
 unfold vlt;rw [(vcmp_zero a a).2 ⟨rfl,rfl,rfl⟩];decide
theorem vlt_key {a b c:Ver} (h:vlt a b) (k:skey b c):vlt a c:=by
 rw[vlt_iff] at*
 obtain⟨h1,h2,h3⟩:=k
 rw[←h1,←h2,←h3];exact h
structure ShOk (l:List Ver):Prop where
 len:l.length≤60
 ok: ∀v∈l,VerOk v
 ord:l.Pairwise vlt
 free: ∀v∈l,∀w∈l,verOver w v=false
theorem pw_of_adj {l:List Ver} (h: ∀k (hk:k+1 < l.length),vlt (l[k]'(by omega)) l[k+1]):l.Pairwise vlt:=by
 rw[List.pairwise_iff_getElem]
 intro i j hi hj hij
 obtain⟨d,rfl⟩: ∃d,j=i+1+d:=⟨j - (i+1),by omega⟩
 induction d with
 | zero=>exact h i hj
 | succ d ih=>exact vlt_trans (ih (by omega) (by omega)) (h (i+1+d) hj)
theorem ordC_zero_of {l:List Ver} : ∀ {n:Nat},(∀i,i < n→stepC l i=0)→ordC l n=0
 | 0,_=>rfl
 | n+1,h=>by
  unfold ordC
  rw[if_pos (ordC_zero_of fun i hi=>h i (by omega)),h n (by omega)]
theorem shelfChk_zero {l:List Ver} :shelfChk l=0↔ShOk l:=by
 unfold shelfChk
 constructor
 ·intro h
  split at h
  ·exact absurd h (by decide)
  ·split at h
   ·rename_i h2;exact absurd h h2
   ·split at h
    ·exact absurd h (by decide)
    ·rename_i h1 h2 h3
     have h2':ordC l l.length=0:=by omega
     have hst:=ordC_all h2'
     refine⟨by omega, ?_, ?_, ?_⟩
     ·intro v hv
      obtain⟨i,hi,rfl⟩:=List.getElem_of_mem hv
      exact verChk_zero.1 (stepC_ok hi (hst i hi))
     ·refine pw_of_adj fun k hk=> ?_
      have h4:=hst (k+1) hk
      rw[stepC_succ hk (stepC_ok hk h4)] at h4
      split at h4
      ·exact absurd h4 (by decide)
      ·rename_i h5;unfold vlt;omega
     ·intro v hv w hw
      simp only[oldC,Bool.not_eq_true,List.any_eq_false] at h3
      exact h3 v hv w hw
 ·rintro⟨h1,h2,h3,h4⟩
  rw[if_neg (by omega)]
  have ho:ordC l l.length=0:=by
   refine ordC_zero_of fun i hi=> ?_
   cases i with
   | zero=>exact stepC_zero hi (verChk_zero.2 (h2 _ (List.getElem_mem hi)))
   | succ k=>
    rw[stepC_succ hi (verChk_zero.2 (h2 _ (List.getElem_mem hi))),if_neg]
    have:=(List.pairwise_iff_getElem.1 h3) k (k+1) (by omega) hi (by omega)
    unfold vlt at this;omega
  rw[if_neg (by omega),if_neg]
  simp only[oldC,Bool.not_eq_true,List.any_eq_false]
  intro v hv w hw
  rw[h4 v hv w hw]
theorem ShOk.filter {l:List Ver} (h:ShOk l) (p:Ver→Bool):ShOk (l.filter p):=
 ⟨Nat.le_trans (List.length_filter_le _ _) h.len,fun v hv=>h.ok v (List.mem_filter.1 hv).1,h.ord.filter _,fun v hv w hw=>h.free v (List.mem_filter.1 hv).1 w (List.mem_filter.1 hw).1⟩
def insL (l:List Ver) (v:Ver):List Ver:=l.filter (fun w=>decide (verCmp w v < 0))++v::l.filter (fun w=> !decide (verCmp w v < 0))
def putB (l:List Ver) (v:Ver):Bool:=l.any (fun w=>decide (verCmp w v=0)) || l.any (fun w=>verOver w v)
def putL (l:List Ver) (v:Ver):List Ver:=if putB l v=true then l else(insL l v).filter fun w=> !verOver v w
def putE (l:List Ver) (v:Ver):Int:=if shelfChk l≠0 then shelfChk l else if verChk v≠0 then verChk v else if 60 < (putL l v).length then 2 else 0
theorem filter_take {l:List Ver} {p:Ver→Bool} : ∀ {i:Nat},i≤l.length→(∀q (h:q < l.length),q < i→p l[q]=true)→(∀q (h:q < l.length),i≤q→p l[q]=false)→l.filter p=l.take i∧l.filter (fun x=> !p x)=l.drop i:=by
 induction l with
 | nil=>intro i _ _ _;simp
 | cons x l ih=>
  intro i hi h1 h2
  cases i with
  | zero=>
   constructor
   ·rw[List.take_zero,List.filter_eq_nil_iff]
    intro a ha
    obtain⟨q,hq,rfl⟩:=List.getElem_of_mem ha
    rw[h2 q hq (Nat.zero_le _)];decide
   ·rw[List.drop_zero,List.filter_eq_self]
    intro a ha
    obtain⟨q,hq,rfl⟩:=List.getElem_of_mem ha
    rw[h2 q hq (Nat.zero_le _)];rfl
  | succ i=>
   have h0:p x=true:=h1 0 (by simp) (by omega)
   have hi':i≤l.length:=by simpa using hi
   obtain⟨k1,k2⟩:=ih hi' (fun q hq hqi=>(List.getElem_cons_succ x l q (by simpa using hq)) ▸ h1 (q+1) (by simpa using hq) (by omega)) (fun q hq hqi=>(List.getElem_cons_succ x l q (by simpa using hq)) ▸ h2 (q+1) (by simpa using hq) (by omega))
   rw[List.filter_cons_of_pos h0,List.filter_cons_of_neg (by rw[h0];decide),k1,k2,List.take_succ_cons,List.drop_succ_cons]
   exact⟨rfl,rfl⟩
theorem found_ins {l:List Ver} {v:Ver} {i:Nat} {b:Bool} (h:VFound l v i b):insL l v=l.take i++v::l.drop i:=by
 obtain⟨h1,h2⟩:=filter_take (l:=l) (p:=fun w=>decide (verCmp w v < 0)) h.le (fun q hq hi=>by simpa using h.lo q hq hi) (fun q hq hi=>by have:=h.hi q hq hi;simp only[decide_eq_false_iff_not];omega)
 unfold insL;rw [h1,h2]
theorem found_any {l:List Ver} {v:Ver} {i:Nat} {b:Bool} (h:VFound l v i b) (hs:l.Pairwise vlt):l.any (fun w=>decide (verCmp w v=0))=b:=by
 rw[Bool.eq_iff_iff,List.any_eq_true,h.found]
 constructor
 ·rintro⟨x,hx,h0⟩
  have h0:verCmp x v=0:=by simpa using h0
  obtain⟨q,hq,rfl⟩:=List.getElem_of_mem hx
  by_cases h1:q < i
  ·have:=h.lo q hq h1;omega
  ·by_cases h2:q=i
   ·subst h2;exact ⟨hq,h0⟩
   ·have h3:=h.hi i (by omega) (Nat.le_refl _)
    have h4:vlt l[i] l[q]:=(List.pairwise_iff_getElem.1 hs) i q (by omega) hq (by omega)
    have h5:vlt l[i] v:=vlt_key h4 ((vcmp_zero _ _).1 h0)
    unfold vlt at h5;omega
 ·rintro⟨hi,h0⟩
  exact⟨l[i],List.getElem_mem hi,by simpa using h0⟩
theorem mono_of {l:List Ver} (h:l.Pairwise vlt) (t:Ver): ∀p q (hp:p < l.length) (hq:q < l.length),p < q→verCmp l[q] t < 0→verCmp l[p] t < 0:=
 fun p q hp hq hpq hlt=>vlt_trans ((List.pairwise_iff_getElem.1 h) p q hp hq hpq) hlt
theorem mem_ins {l:List Ver} {v x:Ver} :x∈insL l v↔x=v∨x∈l:=by
 unfold insL
 rw[List.mem_append,List.mem_cons,List.mem_filter,List.mem_filter]
 constructor
 ·rintro(h | h | h)
  ·exact .inr h.1
  ·exact .inl h
  ·exact .inr h.1
 ·rintro(h | h)
  ·exact .inr (.inl h)
  ·by_cases hd:verCmp x v < 0
   ·exact .inl ⟨h,decide_eq_true hd⟩
   ·exact .inr (.inr ⟨h,by rw[decide_eq_false hd];rfl⟩)
theorem ins_sorted {l:List Ver} {v:Ver} (h:l.Pairwise vlt) (hn: ∀w∈l,verCmp w v≠0):(insL l v).Pairwise vlt:=by
 unfold insL
 rw[List.pairwise_append,List.pairwise_cons]
 have key: ∀w∈l,¬verCmp w v < 0→vlt v w:=fun w hw hnl=>by
  have:=hn w hw
  unfold vlt;rw [vcmp_swap w v];omega
 refine⟨h.filter _,⟨fun w hw=> ?_,h.filter _⟩,fun a ha b hb=> ?_⟩
 ·obtain⟨h1,h2⟩:=List.mem_filter.1 hw
  exact key w h1 (by simpa using h2)
 ·obtain⟨h1,h2⟩:=List.mem_filter.1 ha
  have h3:vlt a v:=(of_decide_eq_true h2:verCmp a v < 0)
  rcases List.mem_cons.1 hb with rfl | hb
  ·exact h3
  ·obtain⟨h4,h5⟩:=List.mem_filter.1 hb
   exact vlt_trans h3 (key b h4 (by simpa using h5))
theorem over_self {v:Ver} (h:VerOk v):verOver v v=false:=by unfold verOver;rw [h.out,Bool.and_false]
theorem putB_false {l:List Ver} {v:Ver} :putB l v=false↔(∀w∈l,verCmp w v≠0)∧ ∀w∈l,verOver w v=false:=by
 unfold putB
 rw[Bool.or_eq_false_iff,List.any_eq_false,List.any_eq_false]
 simp
theorem put_ok {l:List Ver} {v:Ver} (h:ShOk l) (hv:VerOk v) (hl:(putL l v).length≤60):ShOk (putL l v):=by
 unfold putL at*
 split
 ·exact h
 ·rename_i hb
  rw[if_neg hb] at hl
  obtain⟨h1,h2⟩:=putB_false.1 (by simpa using hb)
  refine⟨hl, ?_,(ins_sorted h.ord h1).filter _, ?_⟩
  ·intro x hx
   rcases mem_ins.1 (List.mem_filter.1 hx).1 with rfl | hx
   ·exact hv
   ·exact h.ok x hx
  ·intro x hx y hy
   obtain⟨hx1,hx2⟩:=List.mem_filter.1 hx
   obtain⟨hy1,hy2⟩:=List.mem_filter.1 hy
   rcases mem_ins.1 hy1 with rfl | hy3
   ·simpa using hx2
   ·rcases mem_ins.1 hx1 with rfl | hx3
    ·exact h2 y hy3
    ·exact h.free x hx3 y hy3
theorem putE_zero {l:List Ver} {v:Ver} :putE l v=0↔ShOk l∧VerOk v∧(putL l v).length≤60:=by
 unfold putE
 constructor
 ·intro h
  split at h
  ·rename_i h1;exact absurd h h1
  ·split at h
   ·rename_i h1;exact absurd h h1
   ·split at h
    ·exact absurd h (by decide)
    ·rename_i h1 h2 h3
     exact⟨shelfChk_zero.1 (by omega),verChk_zero.1 (by omega),by omega⟩
 ·rintro⟨h1,h2,h3⟩
  rw[if_neg (by rw[shelfChk_zero.2 h1];decide),if_neg (by rw[verChk_zero.2 h2];decide),if_neg (by omega)]
theorem nodup_len {α: Type} [DecidableEq α]: ∀ {a b:List α},a.Nodup→(∀x∈a,x∈b)→a.length≤b.length
 | [],_,_,_=>by simp
 | x::a,b,hn,h=>by
  rw[List.nodup_cons] at hn
  have h1:x∈b:=h x (by simp)
  have h2:a.length≤(b.erase x).length:=nodup_len hn.2 fun y hy=>by
   have hne:y≠x:=fun e=>hn.1 (by rw[←e];exact hy)
   exact(List.mem_erase_of_ne hne).2 (h y (by simp[hy]))
  rw[List.length_erase_of_mem h1] at h2
  have h3:0 < b.length:=List.length_pos_of_mem h1
  rw[List.length_cons];omega
theorem vsorted_nodup {l:List Ver} (h:l.Pairwise vlt):l.Nodup:=h.imp fun hab e=>by subst e;exact vlt_irrefl _ hab
structure Uni (U:List Ver):Prop where
 ok: ∀v∈U,VerOk v
 len:U.length≤60
 key: ∀v∈U,∀w∈U,skey v w→v=w
 trans: ∀a∈U,∀b∈U,∀c∈U,verOver a b=true→verOver b c=true→verOver a c=true
structure Rep (U l s:List Ver):Prop where
 sub: ∀x∈l,x∈U
 ord:s.Pairwise vlt
 mem: ∀x,x∈s↔x∈l∧ ∀b∈l,verOver b x=false
theorem Rep.within {U l s:List Ver} (h:Rep U l s): ∀x∈s,x∈U:=fun x hx=>h.sub x ((h.mem x).1 hx).1
theorem nodup_len_of {a b:List Ver} (hn:a.Nodup) (h: ∀x∈a,x∈b):a.length≤b.length:=by
 classical exact nodup_len hn h
theorem Rep.len {U l s:List Ver} (h:Rep U l s):s.length≤U.length:=
 nodup_len_of (vsorted_nodup h.ord) h.within
theorem Rep.ok {U l s:List Ver} (hU:Uni U) (h:Rep U l s):ShOk s:=
 ⟨Nat.le_trans h.len hU.len,fun v hv=>hU.ok v (h.within v hv),h.ord,fun v hv w hw=>((h.mem v).1 hv).2 w ((h.mem w).1 hw).1⟩
theorem filter_lt {l:List Ver} {p q:Ver→Bool} {c:Ver} (hpq: ∀x∈l,p x=true→q x=true) (hc:c∈l) (hq:q c=true) (hp:p c=false):(l.filter p).length < (l.filter q).length:=by
 induction l with
 | nil=>simp at hc
 | cons x l ih=>
  have hle: ∀(m:List Ver),(∀y∈m,p y=true→q y=true)→(m.filter p).length≤(m.filter q).length:=by
   intro m
   induction m with
   | nil=>intro _;simp
   | cons y m ihm=>
    intro hm
    have hmm:=ihm fun z hz=>hm z (by simp[hz])
    cases hpy:p y
    ·rw[List.filter_cons_of_neg (by rw[hpy];decide)]
     cases hqy:q y
     ·rw[List.filter_cons_of_neg (by rw[hqy];decide)];exact hmm
     ·rw[List.filter_cons_of_pos hqy,List.length_cons];omega
    ·rw[List.filter_cons_of_pos hpy,List.filter_cons_of_pos (hm y (by simp) hpy),List.length_cons,List.length_cons];omega
  rcases List.mem_cons.1 hc with rfl | hc
  ·rw[List.filter_cons_of_neg (by rw[hp];decide),List.filter_cons_of_pos hq,List.length_cons]
   have:=hle l fun y hy=>hpq y (by simp[hy])
   omega
  ·have h1:=ih (fun y hy=>hpq y (by simp[hy])) hc
   cases hpx:p x
   ·rw[List.filter_cons_of_neg (by rw[hpx];decide)]
    cases hqx:q x
    ·rw[List.filter_cons_of_neg (by rw[hqx];decide)];exact h1
    ·rw[List.filter_cons_of_pos hqx,List.length_cons];omega
   ·rw[List.filter_cons_of_pos hpx,List.filter_cons_of_pos (hpq x (by simp) hpx),List.length_cons,List.length_cons];omega
theorem Rep.top {U l s:List Ver} (hU:Uni U) (h:Rep U l s): ∀(n:Nat) (b:Ver),b∈l→(l.filter fun x=>verOver x b).length≤n→ ∃c∈s,c=b∨verOver c b=true
 | 0,b,hb,hn=>by
  have h0:l.filter (fun x=>verOver x b)=[]:=List.eq_nil_of_length_eq_zero (by omega)
  rw[List.filter_eq_nil_iff] at h0
  exact⟨b,(h.mem b).2 ⟨hb,fun c hc=>by simpa using h0 c hc⟩, .inl rfl⟩
 | n+1,b,hb,hn=>by
  by_cases he: ∀c∈l,verOver c b=false
  ·exact⟨b,(h.mem b).2 ⟨hb,he⟩, .inl rfl⟩
  ·have ⟨c,hc⟩:=Classical.not_forall.1 he
   have ⟨hcl,hcb⟩:=Classical.not_imp.1 hc
   have hcb:verOver c b=true:=by simpa using hcb
   have hlt:(l.filter fun x=>verOver x c).length < (l.filter fun x=>verOver x b).length:=
    filter_lt (fun x hx hxc=>hU.trans x (h.sub x hx) c (h.sub c hcl) b (h.sub b hb) hxc hcb) hcl hcb (over_self (hU.ok c (h.sub c hcl)))
   obtain⟨d,hd,hdc⟩:=Rep.top hU h n c hcl (by omega)
   refine⟨d,hd, .inr ?_⟩
   rcases hdc with rfl | hdc
   ·exact hcb
   ·exact hU.trans d (h.within d hd) c (h.sub c hcl) b (h.sub b hb) hdc hcb
theorem Rep.cover {U l s:List Ver} (hU:Uni U) (h:Rep U l s) {b:Ver} (hb:b∈l): ∃c∈s,c=b∨verOver c b=true:=Rep.top hU h _ b hb (Nat.le_refl _)
theorem Rep.put {U l s:List Ver} (hU:Uni U) (h:Rep U l s) {v:Ver} (hv:v∈U):Rep U (l++[v]) (putL s v):=by
 have hself:=over_self (hU.ok v hv)
 have hsub: ∀x∈l++[v],x∈U:=fun x hx=>by
  rcases List.mem_append.1 hx with hx | hx
  ·exact h.sub x hx
  ·rw[List.mem_singleton] at hx;rw [hx];exact hv
 by_cases hb:putB s v=true
 ·have e:putL s v=s:=by unfold putL;rw [if_pos hb]
  rw[e]
  refine⟨hsub,h.ord,fun x=> ?_⟩
  unfold putB at hb
  rw[Bool.or_eq_true,List.any_eq_true,List.any_eq_true] at hb
  rw[h.mem]
  rcases hb with⟨w,hw,hk⟩ | ⟨w,hw,hk⟩
  ·have hk:verCmp w v=0:=by simpa using hk
   have e:=hU.key w (h.within w hw) v hv ((vcmp_zero _ _).1 hk)
   subst e
   have hwl:=((h.mem w).1 hw).1
   constructor
   ·rintro⟨h1,h2⟩
    refine⟨by simp[h1],fun b hb=> ?_⟩
    rcases List.mem_append.1 hb with hb | hb
    ·exact h2 b hb
    ·rw[List.mem_singleton] at hb;subst hb;exact h2 b hwl
   ·rintro⟨h1,h2⟩
    refine⟨?_,fun b hb=>h2 b (by simp[hb])⟩
    rcases List.mem_append.1 h1 with h1 | h1
    ·exact h1
    ·rw[List.mem_singleton] at h1;subst h1;exact hwl
  ·have hwl:=((h.mem w).1 hw).1
   constructor
   ·rintro⟨h1,h2⟩
    refine⟨by simp[h1],fun b hb=> ?_⟩
    rcases List.mem_append.1 hb with hb | hb
    ·exact h2 b hb
    ·rw[List.mem_singleton] at hb;subst hb
     cases hbx:verOver b x
     ·rfl
     ·exact absurd (hU.trans w (h.within w hw) b hv x (h.sub x h1) hk hbx) (by rw[h2 w hwl];decide)
   ·rintro⟨h1,h2⟩
    refine⟨?_,fun b hb=>h2 b (by simp[hb])⟩
    rcases List.mem_append.1 h1 with h1 | h1
    ·exact h1
    ·rw[List.mem_singleton] at h1;subst h1
     exact absurd (h2 w (by simp[hwl])) (by rw[hk];decide)
 ·have e:putL s v=(insL s v).filter fun w=> !verOver v w:=by unfold putL;rw [if_neg hb]
  rw[e]
  obtain⟨h1,h2⟩:=putB_false.1 (by simpa using hb)
  refine⟨hsub,(ins_sorted h.ord h1).filter _,fun x=> ?_⟩
  rw[List.mem_filter,mem_ins,h.mem]
  have hx2:(!verOver v x)=true↔verOver v x=false:=by cases verOver v x <;> simp
  rw[hx2]
  constructor
  ·rintro⟨rfl | ⟨h3,h4⟩,h5⟩
   ·refine⟨by simp,fun b hb=> ?_⟩
    rcases List.mem_append.1 hb with hb | hb
    ·cases hbx:verOver b x
     ·rfl
     ·exfalso
      obtain⟨c,hc,hcb⟩:=h.cover hU hb
      rcases hcb with rfl | hcb
      ·rw[h2 c hc] at hbx;exact absurd hbx (by decide)
      ·have:=hU.trans c (h.within c hc) b (h.sub b hb) x hv hcb hbx
       rw[h2 c hc] at this;exact absurd this (by decide)
    ·rw[List.mem_singleton] at hb;rw [hb];exact hself
   ·refine⟨by simp[h3],fun b hb=> ?_⟩
    rcases List.mem_append.1 hb with hb | hb
    ·exact h4 b hb
    ·rw[List.mem_singleton] at hb;rw [hb];exact h5
  ·rintro⟨h3,h4⟩
   refine⟨?_,h4 v (by simp)⟩
   rcases List.mem_append.1 h3 with h3 | h3
   ·exact .inr ⟨h3,fun b hb=>h4 b (by simp[hb])⟩
   ·rw[List.mem_singleton] at h3;exact .inl h3
def laidOn (s:List Ver) (l:List Ver):List Ver:=l.foldl putL s
theorem putE_rep {U l s:List Ver} (hU:Uni U) (h:Rep U l s) {v:Ver} (hv:v∈U):putE s v=0:=
 putE_zero.2 ⟨h.ok hU,hU.ok v hv,Nat.le_trans (h.put hU hv).len hU.len⟩
theorem dot_rng {s c:Int} (h:dotOk (s,c)=true):0≤s∧s < 5∧1≤c∧c≤1000:=by
 simp only[dotOk,Bool.and_eq_true,decide_eq_true_eq] at h;omega
theorem formM_nodup (P:DPred):(formM P).Nodup:=by
 have h:=(formK_ok P).ord
 rw[formK_more] at h
 exact h.imp fun hab e=>by subst e;exact dlt_irrefl _ hab
theorem more_few {U:List Ver} (P:DPred) (h: ∀s c:Int,0≤s→s < 5→1≤c→c≤1000→P s c=true→ ∃b∈U,b.ds=s∧b.dc=c):(formK P).more.length≤U.length:=by
 rw[formK_more]
 have:=nodup_len (formM_nodup P) (b:=U.map fun v=>(v.ds,v.dc)) fun d hd=>by
  rw[formM_mem] at hd
  obtain⟨s,c,h1,h2,rfl,h3,h4⟩:=hd
  obtain⟨b,hb,h5,h6⟩:=h s c (by omega) (by omega) (by omega) (by omega) h4
  exact List.mem_map.2 ⟨b,hb,by rw[h5,h6]⟩
 simpa using this
def pastP (C:List Ver) (s c:Int):Bool:=C.any fun w=>knIn w.past s c || decide (w.ds=s∧w.dc=c)
theorem pastP_iff {C:List Ver} {s c:Int} :pastP C s c=true↔ ∃w∈C,knIn w.past s c=true∨w.ds=s∧w.dc=c:=by
 unfold pastP
 rw[List.any_eq_true]
 constructor
 ·rintro⟨w,hw,h⟩
  refine⟨w,hw, ?_⟩
  rw[Bool.or_eq_true,decide_eq_true_eq] at h;exact h
 ·rintro⟨w,hw,h⟩
  refine⟨w,hw, ?_⟩
  rw[Bool.or_eq_true,decide_eq_true_eq];exact h
theorem put_over {l:List Ver} {v:Ver} (h1: ∀w∈l,verCmp w v≠0) (h2: ∀w∈l,verOver w v=false):putL l v=(insL l v).filter fun w=> !verOver v w:=by
 unfold putL;rw [if_neg (by rw[putB_false.2 ⟨h1,h2⟩];decide)]
theorem put_mem {l:List Ver} {v x:Ver} (hv:VerOk v) (h1: ∀w∈l,verCmp w v≠0) (h2: ∀w∈l,verOver w v=false):x∈putL l v↔x=v∨x∈l∧verOver v x=false:=by
 rw[put_over h1 h2,List.mem_filter,mem_ins]
 constructor
 ·rintro⟨h | h,h3⟩
  ·exact .inl h
  ·exact .inr ⟨h,by simpa using h3⟩
 ·rintro(rfl | ⟨h,h3⟩)
  ·exact⟨.inl rfl,by rw[over_self hv];rfl⟩
  ·exact⟨.inr h,by rw[h3];rfl⟩
end Go.Proofs.YtgkgdedhicnohaaGreat
