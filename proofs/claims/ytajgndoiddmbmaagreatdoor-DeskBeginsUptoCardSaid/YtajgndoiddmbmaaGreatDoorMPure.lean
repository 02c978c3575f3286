/- Towards what desk.Run answers. -/
import Derived.Test.YtajgndoiddmbmaaGreatDoorMBase
namespace Go.Proofs.YtajgndoiddmbmaaGreatDoor
abbrev cp:=List (Int×Int)
def az (l:cp):List Value:=l.flatMap fun s=>[.int .i64 s.1, .int .i64 s.2]
theorem cC (l:cp):(az l).length=l.length*2:=by
 induction l with
 | nil=>rfl
 | cons s l ih=>simp only[az,List.flatMap_cons,List.length_append,List.length_cons,List.length_nil] at*;omega
theorem kM (l:cp): ∀u∈az l,u.oneCell'=true:=by
 intro u hu;simp only[az,List.mem_flatMap,List.mem_cons,List.not_mem_nil,or_false] at hu;obtain⟨s, -,rfl | rfl⟩:=hu <;> rfl
theorem fC (l m:cp):az (l++m)=az l++az m:=by simp[az]
theorem kN (l:cp) (i:Nat) (h:i < l.length):(az l)[i*2]? =some (.int .i64 l[i].1)∧(az l)[i*2+1]? =some (.int .i64 l[i].2):=by
 induction l generalizing i with
 | nil=>simp at h
 | cons s l ih=>
  cases i with
  | zero=>simp [az]
  | succ i=>
   have:=ih i (by simpa using h);have e:az (s::l)= .int .i64 s.1:: .int .i64 s.2::az l:=rfl;rw[e,show(i+1)*2=i*2+1+1 from by omega];simpa using this
def fJ (w:World) (v:Value) (l:cp):Prop:=aF w v l.length (az l)
theorem fJ.below {w w':World} {v:Value} {l:cp} (h:fJ w v l) (hb:RowKit.Below w.heap.size w w'):fJ w' v l:=aF.below h hb
theorem fJ.shape {w:World} {v:Value} {l:cp} (h:fJ w v l): ∃a cap,v= .slice a l.length cap:=by
 obtain⟨a,cap,hv,_⟩:=h;exact ⟨a,cap,hv⟩
theorem fJ.open_ {w:World} {v:Value} {l:cp} (h:fJ w v l): ∃a cap,v= .slice a l.length cap∧l.length≤cap∧l.length≤140737488355328∧
  (l=[]∨ ∃b off,a=some ⟨b,off,none⟩∧b < w.heap.size∧ ∀i (h:i < l.length),w.cell? ⟨b,off+i*2,none⟩=some (.int .i64 l[i].1)∧w.cell? ⟨b,off+i*2+1,none⟩=some (.int .i64 l[i].2)):=by
 obtain⟨a,cap,hv,hn,hm,h0,h⟩:=h;refine⟨a,cap,hv,hn,hm, ?_⟩;rcases h with h | ⟨b,off,ha,hlt,hc⟩
 ·left;cases l with
  | nil=>rfl
  | cons s l=>simp [az] at h
 ·exact .inr ⟨b,off,ha,hlt,fun i hi=>⟨hc _ _ (kN l i hi).1,by rw[Nat.add_assoc];exact hc _ _ (kN l i hi).2⟩⟩
def jM (l:cp) (n:Int):Bool:=l.any fun s=>decide (s.1≤n)&&decide (n < s.2)
def chkFrom:Int→cp→Int
 | _,[]=>0
 | last,s::l=>if s.1 < 0∨32 < s.2∨s.2≤s.1 then 1 else if s.1≤last then 3 else chkFrom s.2 l
def dH (l:cp):Int:=if 16 < l.length then 2 else chkFrom (-1) l
def put1 (out:cp) (n:Int):cp:=
 match out.getLast? with
 | some s=>if s.2=n then out.dropLast++[(s.1,n+1)] else out++[(n,n+1)]
 | none=>[(n,n+1)]
def mk (p:Nat→Bool):Nat→cp
 | 0=>[]
 | k+1=>if p k then put1 (mk p k) k else mk p k
def make (p:Nat→Bool):cp:=mk p 32
end Go.Proofs.YtajgndoiddmbmaaGreatDoor
namespace Go.Proofs.YtajgndoiddmbmaaGreatDoor
open Go.RowKit
abbrev dN:=List (Int×Int)
structure Kn where
 vec:List Int
 more:dN
 deriving DecidableEq
def aQ (v:List Int) (s:Int):Int:=v.getD s.toNat 0
def bX (d:Int×Int):Bool:=decide (0≤d.1)&&decide (d.1 < 5)&&decide (1≤d.2)&&decide (d.2≤1000)
def gJ (a b:Int×Int):Prop:=a.1 < b.1∨a.1=b.1∧a.2 < b.2
instance (a b:Int×Int):Decidable (gJ a b):=by unfold gJ;infer_instance
def iJ (a b:Int×Int):Int:=if a.1=b.1 then a.2 - b.2 else a.1 - b.1
theorem AR (a b:Int×Int):iJ a b < 0↔gJ a b:=by unfold iJ gJ;split <;> omega
theorem QB (a b:Int×Int):iJ a b=0↔a=b:=by
 unfold iJ;rw [Prod.ext_iff];split <;> omega
theorem nY (a:Int×Int): ¬gJ a a:=by unfold gJ;omega
theorem sx {a b c:Int×Int} (h:gJ a b) (k:gJ b c):gJ a c:=by unfold gJ at*;omega
theorem XN (a b:Int×Int):gJ a b∨a=b∨gJ b a:=by unfold gJ;rw [Prod.ext_iff];omega
def vecChk:List Int→Int
 | []=>0
 | n::l=>if n < 0∨1000 < n then 1 else vecChk l
def dotChk (v:List Int) (last:Option (Int×Int)) (d:Int×Int):Int:=
 if bX d=false then 1 else if d.2≤aQ v d.1+1 then 3 else match last with | none=>0 | some x=>if iJ x d < 0 then 0 else 3
def dotsFrom (v:List Int):Option (Int×Int)→dN→Int
 | _,[]=>0
 | last,d::l=>if dotChk v last d=0 then dotsFrom v (some d) l else dotChk v last d
def bF (k:Kn):Int:=
 if 5 < k.vec.length∨60 < k.more.length then 2
 else if vecChk k.vec≠0 then 1
 else if k.vec.getLast? =some 0 then 3
 else dotsFrom k.vec none k.more
structure gz (k:Kn):Prop where
 len:k.vec.length≤5
 bd: ∀n∈k.vec,0≤n∧n≤1000
 last:k.vec.getLast? ≠some 0
 nH: ∀d∈k.more,bX d=true∧aQ k.vec d.1+2≤d.2
 ord:k.more.Pairwise gJ
theorem vW {l:List Int} :vecChk l=0↔ ∀n∈l,0≤n∧n≤1000:=by
 induction l with
 | nil=>simp [vecChk]
 | cons n l ih=>
  simp only[vecChk,List.mem_cons,forall_eq_or_imp];split
  ·constructor
   ·intro h;exact absurd h (by decide)
   ·intro h;omega
  ·rw[ih];constructor
   ·intro h;exact ⟨by omega,h⟩
   ·intro h;exact h.2
theorem Bf {v:List Int} {last:Option (Int×Int)} {d:Int×Int} :dotChk v last d=0↔bX d=true∧aQ v d.1+2≤d.2∧ ∀x,last=some x→gJ x d:=by
 unfold dotChk;split
 ·rename_i h;simp [h]
 rename_i h;have h':bX d=true:=by simpa using h
 split
 ·constructor
  ·intro h;exact absurd h (by decide)
  ·intro h;omega
 cases last with
 | none=>simp [h'];omega
 | some x=>
  simp only[h',true_and,Option.some.injEq,forall_eq'];rw[←AR];split <;> rename_i h3
  ·simp[h3];omega
  ·simp[h3]
theorem Hs {v:List Int} {last:Option (Int×Int)} {l:dN} :dotsFrom v last l=0↔(∀d∈l,bX d=true∧aQ v d.1+2≤d.2)∧l.Pairwise gJ∧ ∀x,last=some x→ ∀d∈l,gJ x d:=by
 induction l generalizing last with
 | nil=>simp [dotsFrom]
 | cons d l ih=>
  simp only[dotsFrom];by_cases h:dotChk v last d=0
  ·rw[if_pos h,ih];obtain⟨h1,h2,h3⟩:=Bf.1 h;constructor
   ·rintro⟨a,b,c⟩;have c':=c d rfl;refine⟨?_,List.pairwise_cons.2 ⟨c',b⟩, ?_⟩
    ·intro x hx;rcases List.mem_cons.1 hx with rfl | hx
     ·exact⟨h1,h2⟩
     ·exact a x hx
    ·intro x hx y hy;rcases List.mem_cons.1 hy with rfl | hy
     ·exact h3 x hx
     ·exact sx (h3 x hx) (c' y hy)
   ·rintro⟨a,b,c⟩;obtain⟨b1,b2⟩:=List.pairwise_cons.1 b;refine⟨fun x hx=>a x (List.mem_cons_of_mem _ hx),b2,fun x hx y hy=> ?_⟩;obtain rfl:d=x:=by simpa using hx
    exact b1 y hy
  ·rw[if_neg h];constructor
   ·intro h0;exact absurd h0 h
   ·rintro⟨a,b,c⟩;refine absurd (Bf.2 ⟨(a d List.mem_cons_self).1,(a d List.mem_cons_self).2,fun x hx=>c x hx d List.mem_cons_self⟩) h
theorem di {k:Kn} :bF k=0↔gz k∧k.more.length≤60:=by
 unfold bF;split
 ·constructor
  ·intro h;exact absurd h (by decide)
  ·rintro⟨h,h2⟩;have:=h.len;omega
 split
 ·rename_i h;constructor
  ·intro h;exact absurd h (by decide)
  ·rintro⟨h2, -⟩;exact absurd (vW.2 h2.bd) h
 rename_i hv;have hv:=vW.1 (by simpa using hv);split
 ·rename_i h;constructor
  ·intro h;exact absurd h (by decide)
  ·rintro⟨h2, -⟩;exact absurd h h2.last
 rename_i h1 h2;rw[Hs];constructor
 ·rintro⟨a,b, -⟩;exact ⟨⟨by omega,hv,h2,a,b⟩,by omega⟩
 ·rintro⟨h, -⟩;exact ⟨h.nH,h.ord,fun x hx=>by simp at hx⟩
def aU (k:Kn) (s c:Int):Bool:=decide (c≤aQ k.vec s) || decide ((s,c)∈k.more)
theorem gz.O8 {k:Kn} (h:gz k) (s:Int):0≤aQ k.vec s∧aQ k.vec s≤1000:=by
 unfold aQ;by_cases hs:s.toNat < k.vec.length
 ·rw[List.getD_eq_getElem?_getD,List.getElem?_eq_getElem hs];exact h.bd _ (List.getElem_mem hs)
 ·rw[List.getD_eq_getElem?_getD,List.getElem?_eq_none (by omega)];simp
theorem O7 {a b:Kn} (ha:gz a) (hb:gz b) (h: ∀s c:Int,0≤s→s < 5→1≤c→c≤1000→aU a s c=true→aU b s c=true) (s:Int) (h0:0≤s) (h5:s < 5):aQ a.vec s≤aQ b.vec s:=by
 by_cases hlt:aQ a.vec s≤aQ b.vec s
 ·exact hlt
 exfalso;have b1:=hb.O8 s;have a1:=ha.O8 s;have h1:=h s (aQ b.vec s+1) h0 h5 (by omega) (by omega) (by simp[aU];omega);simp only[aU,Bool.or_eq_true,decide_eq_true_eq] at h1;rcases h1 with h1 | h1
 ·omega
 ·have:=(hb.nH _ h1).2;simp only at this;omega
theorem Nj {a b:dN} (ha:a.Pairwise gJ) (hb:b.Pairwise gJ) (h: ∀d,d∈a↔d∈b):a=b:=by
 induction a generalizing b with
 | nil=>cases b with
  | nil=>rfl
  | cons x b=>exact absurd ((h x).2 List.mem_cons_self) (by simp)
 | cons x a ih=>
  cases b with
  | nil=>exact absurd ((h x).1 List.mem_cons_self) (by simp)
  | cons y b=>
   obtain⟨a1,a2⟩:=List.pairwise_cons.1 ha;obtain⟨b1,b2⟩:=List.pairwise_cons.1 hb;have hxy:x=y:=by
    rcases List.mem_cons.1 ((h x).1 List.mem_cons_self) with h1 | h1
    ·exact h1
    rcases List.mem_cons.1 ((h y).2 List.mem_cons_self) with h2 | h2
    ·exact h2.symm
    exact absurd (sx (b1 x h1) (a1 y h2)) (nY _)
   subst hxy;congr 1;refine ih a2 b2 fun d=>⟨fun hd=> ?_,fun hd=> ?_⟩
   ·rcases List.mem_cons.1 ((h d).1 (List.mem_cons_of_mem _ hd)) with rfl | h2
    ·exact absurd (a1 d hd) (nY _)
    ·exact h2
   ·rcases List.mem_cons.1 ((h d).2 (List.mem_cons_of_mem _ hd)) with rfl | h2
    ·exact absurd (b1 d hd) (nY _)
    ·exact h2
theorem Wx {a b:List Int} (la:a.length≤5) (lb:b.length≤5) (za:a.getLast? ≠some 0) (zb:b.getLast? ≠some 0) (h: ∀s:Int,0≤s→s < 5→aQ a s=aQ b s):a=b:=by
 have key: ∀(a b:List Int),a.length≤5→a.getLast? ≠some 0→(∀s:Int,0≤s→s < 5→aQ a s=aQ b s)→a.length≤b.length:=by
  intro a b la za h;by_cases hl:a.length≤b.length
  ·exact hl
  exfalso;have h1:=h ((a.length - 1:Nat):Int) (by omega) (by omega);unfold aQ at h1;rw[Int.toNat_natCast,List.getD_eq_getElem?_getD,List.getD_eq_getElem?_getD,List.getElem?_eq_none (l:=b) (by omega),←List.getLast?_eq_getElem?] at h1;cases hq:a.getLast? with
  | none=>
       have:a=[]:=by simpa using hq
       subst this;simp at hl
  | some z=>rw [hq] at h1;simp at h1;exact za (by rw[hq,h1])
 have hl:a.length=b.length:=Nat.le_antisymm (key a b la za h) (key b a lb zb fun s h0 h5=>(h s h0 h5).symm);apply List.ext_getElem hl;intro i h1 h2;have:=h (i:Int) (by omega) (by omega);unfold aQ at this;rw[Int.toNat_natCast,List.getD_eq_getElem?_getD,List.getD_eq_getElem?_getD,List.getElem?_eq_getElem h1,List.getElem?_eq_getElem h2] at this;simpa using this
theorem YN {a b:Kn} (ha:gz a) (hb:gz b) (h: ∀s c:Int,0≤s→s < 5→1≤c→c≤1000→aU a s c=aU b s c):a=b:=by
 have hv: ∀s:Int,0≤s→s < 5→aQ a.vec s=aQ b.vec s:=fun s h0 h5=>
  Int.le_antisymm (O7 ha hb (fun s c a1 a2 a3 a4 hx=>by rw[←h s c a1 a2 a3 a4];exact hx) s h0 h5) (O7 hb ha (fun s c a1 a2 a3 a4 hx=>by rw[h s c a1 a2 a3 a4];exact hx) s h0 h5)
 have key: ∀ {a b:Kn},gz a→gz b→(∀s:Int,0≤s→s < 5→aQ a.vec s=aQ b.vec s)→(∀s c:Int,0≤s→s < 5→1≤c→c≤1000→aU a s c=aU b s c)→ ∀d,d∈a.more→d∈b.more:=by
  intro a b ha hb hv h d hd;obtain⟨h1,h2⟩:=ha.nH d hd;simp only[bX,Bool.and_eq_true,decide_eq_true_eq] at h1;have h3:=h d.1 d.2 (by omega) (by omega) (by omega) (by omega);have h4:aU a d.1 d.2=true:=by simp[aU,hd]
  rw[h4] at h3;have h5:=h3.symm;simp only[aU,Bool.or_eq_true,decide_eq_true_eq] at h5;rcases h5 with h5 | h5
  ·have:=hv d.1 (by omega) (by omega);omega
  ·exact h5
 have e1:a.vec=b.vec:=Wx ha.len hb.len ha.last hb.last hv;have e2:a.more=b.more:=Nj ha.ord hb.ord fun d=>⟨key ha hb hv h d,key hb ha (fun s h0 h5=>(hv s h0 h5).symm) (fun s c a1 a2 a3 a4=>(h s c a1 a2 a3 a4).symm) d⟩
 cases a;cases b;simp_all
def fU (st:List Int×dN) (d:Int×Int):List Int×dN:=
 if d.2≤aQ st.1 d.1 then st
 else if d.2=aQ st.1 d.1+1 then(st.1.set d.1.toNat (aQ st.1 d.1+1),st.2)
 else if st.2.getLast? =some d then st else(st.1,st.2++[d])
def eU (v:List Int) (ds:dN):List Int×dN:=ds.foldl fU (v,[])
theorem zj (v:List Int) (ds:dN) (d:Int×Int):eU v (ds++[d])=fU (eU v ds) d:=by simp[eU]
structure sF (v:List Int) (more:dN) (v0:List Int) (P:dN):Prop where
 len:v.length=5
 bd: ∀n∈v,0≤n∧n≤1000
 nH: ∀d∈more,bX d=true∧aQ v d.1+2≤d.2
 ord:more.Pairwise gJ
 sub: ∀d∈more,d∈P
 EH:more.length≤P.length
 mem: ∀s c:Int,0≤s→s < 5→1≤c→((c≤aQ v s∨(s,c)∈more)↔(c≤aQ v0 s∨(s,c)∈P))
theorem sF.zero {v:List Int} (h:v.length=5) (hb: ∀n∈v,0≤n∧n≤1000):sF v [] v []:=
 ⟨h,hb,by simp,List.Pairwise.nil,by simp,by simp,fun s c _ _ _=>by simp⟩
theorem jx {d:Int×Int} :bX d=true↔(0≤d.1∧d.1 < 5)∧1≤d.2∧d.2≤1000:=by
 simp only[bX,Bool.and_eq_true,decide_eq_true_eq];omega
theorem Fx {v:List Int} {s r x:Int} (h0:0≤s) (hl:s < v.length) (hr:0≤r):aQ (v.set s.toNat x) r=if r=s then x else aQ v r:=by
 unfold aQ;rw[List.getD_eq_getElem?_getD,List.getD_eq_getElem?_getD,List.getElem?_set];by_cases e:r=s
 ·subst e;rw [if_pos rfl,if_pos rfl,if_pos (by omega)];rfl
 ·rw[if_neg (by omega),if_neg e]
theorem sF.step {v v0:List Int} {more P:dN} {d:Int×Int} (h:sF v more v0 P) (hd:bX d=true) (hs: ∀x∈P,¬gJ d x):sF (fU (v,more) d).1 (fU (v,more) d).2 v0 (P++[d]):=by
 have hd':=jx.1 hd;have hl:=h.len;have tail: ∀ {v':List Int} {more':dN},(∀s c:Int,0≤s→s < 5→1≤c→((c≤aQ v' s∨(s,c)∈more')↔((c≤aQ v s∨(s,c)∈more)∨(s,c)=d)))→
   ∀s c:Int,0≤s→s < 5→1≤c→((c≤aQ v' s∨(s,c)∈more')↔(c≤aQ v0 s∨(s,c)∈P++[d])):=by
  intro v' more' hx s c h0 h5 h1;rw[hx s c h0 h5 h1,h.mem s c h0 h5 h1,List.mem_append,List.mem_singleton,or_assoc]
 unfold fU;simp only;by_cases h1:d.2≤aQ v d.1
 ·rw[if_pos h1];refine⟨hl,h.bd,h.nH,h.ord,fun x hx=>List.mem_append_left _ (h.sub x hx),by have:=h.EH;simp;omega,tail fun s c h0 h5 hc=> ?_⟩;constructor
  ·exact .inl
  ·rintro(hx | hx)
   ·exact hx
   ·subst hx;exact .inl h1
 rw[if_neg h1];by_cases h2:d.2=aQ v d.1+1
 ·rw[if_pos h2];have vk: ∀r:Int,0≤r→aQ (v.set d.1.toNat (aQ v d.1+1)) r=if r=d.1 then aQ v d.1+1 else aQ v r:=fun r hr=>Fx hd'.1.1 (by omega) hr;refine⟨by simp[hl], ?_, ?_,h.ord,fun x hx=>List.mem_append_left _ (h.sub x hx),by have:=h.EH;simp;omega,tail fun s c h0 h5 hc=> ?_⟩
  ·intro n hn;rcases List.mem_or_eq_of_mem_set hn with hn | rfl
   ·exact h.bd n hn
   ·omega
  ·intro m hm;obtain⟨m1,m2⟩:=h.nH m hm;refine⟨m1, ?_⟩;rw[vk m.1 (jx.1 m1).1.1];by_cases e:m.1=d.1
   ·exfalso;have:=hs m (h.sub m hm);rw[e] at m2;unfold gJ at this;omega
   ·rw[if_neg e];exact m2
  ·rw[vk s h0];by_cases e:s=d.1
   ·subst e;rw[if_pos rfl];constructor
    ·rintro(hx | hx)
     ·by_cases e2:c≤aQ v d.1
      ·exact .inl (.inl e2)
      ·right;exact Prod.ext rfl (by simp only;omega)
     ·exact .inl (.inr hx)
    ·rintro((hx | hx) | hx)
     ·left;omega
     ·exact .inr hx
     ·left;rw [←hx] at h2;simp only at h2;omega
   ·rw[if_neg e];constructor
    ·exact .inl
    ·rintro(hx | hx)
     ·exact hx
     ·exact absurd (by rw[←hx]) e
 rw[if_neg h2];by_cases h3:more.getLast? =some d
 ·rw[if_pos h3];refine⟨hl,h.bd,h.nH,h.ord,fun x hx=>List.mem_append_left _ (h.sub x hx),by have:=h.EH;simp;omega,tail fun s c h0 h5 hc=> ?_⟩;constructor
  ·exact .inl
  ·rintro(hx | hx)
   ·exact hx
   ·rw[hx];exact .inr (List.mem_of_getLast? h3)
 ·rw[if_neg h3];refine⟨hl,h.bd, ?_, ?_, ?_,by have:=h.EH;simp;omega,tail fun s c h0 h5 hc=> ?_⟩
  ·intro m hm;rcases List.mem_append.1 hm with hm | hm
   ·exact h.nH m hm
   ·simp only[List.mem_singleton] at hm;subst hm;exact ⟨hd,by simp only;omega⟩
  ·rw[List.pairwise_append];refine⟨h.ord,List.pairwise_singleton _ _,fun m hm x hx=> ?_⟩;simp only[List.mem_singleton] at hx;subst hx;rcases XN m x with g | g | g
   ·exact g
   ·exfalso;subst g;apply h3;rcases List.eq_nil_or_concat more with rfl | ⟨l,z,hz⟩
    ·simp at hm
    ·rw[List.concat_eq_append] at hz;subst hz;simp only[List.getLast?_append,List.getLast?_singleton,Option.some_or];rcases List.mem_append.1 hm with hm | hm
     ·have g1:=(List.pairwise_append.1 h.ord).2.2 m hm z (by simp);exact absurd g1 (hs z (h.sub z (by simp)))
     ·simp only[List.mem_singleton] at hm;rw [hm]
   ·exact absurd g (hs m (h.sub m hm))
  ·intro m hm;rcases List.mem_append.1 hm with hm | hm
   ·exact List.mem_append_left _ (h.sub m hm)
   ·exact List.mem_append_right _ hm
  ·rw[List.mem_append,List.mem_singleton];constructor
   ·rintro(hx | hx | hx)
    ·exact .inl (.inl hx)
    ·exact .inl (.inr hx)
    ·exact .inr hx
   ·rintro((hx | hx) | hx)
    ·exact .inl hx
    ·exact .inr (.inl hx)
    ·exact .inr (.inr hx)
theorem EL {v0:List Int} (h:v0.length=5) (hb: ∀n∈v0,0≤n∧n≤1000) (ds:dN):(∀d∈ds,bX d=true)→ds.Pairwise (fun x y=> ¬gJ y x)→sF (eU v0 ds).1 (eU v0 ds).2 v0 ds:=by
 refine lT (p:=fun ds=>(∀d∈ds,bX d=true)→ds.Pairwise (fun x y=> ¬gJ y x)→sF (eU v0 ds).1 (eU v0 ds).2 v0 ds) ?_ ?_ ds
 ·intro _ _;exact sF.zero h hb
 ·intro l d ih hd hs;rw[List.pairwise_append] at hs;have:=ih (fun x hx=>hd x (List.mem_append_left _ hx)) hs.1;rw[zj];exact this.step (hd d (by simp)) fun x hx=>hs.2.2 x hx d (by simp)
def dR (v:List Int):List Int:=(v.reverse.dropWhile (· ==0)).reverse
theorem wY (v:List Int) (x:Int):dR (v++[x])=if x=0 then dR v else v++[x]:=by
 unfold dR;rw[List.reverse_append];by_cases h:x=0
 ·simp[h]
 ·rw[if_neg h];simp [h]
theorem CF (v:List Int):(dR v).getLast? ≠some 0:=by
 refine lT (p:=fun v=>(dR v).getLast? ≠some 0) ?_ ?_ v
 ·simp[dR]
 ·intro l x ih;rw[wY];split
  ·exact ih
  ·rename_i h;simp [h]
theorem rE (v:List Int) (s:Int):aQ (dR v) s=aQ v s:=by
 refine lT (p:=fun v=>aQ (dR v) s=aQ v s) ?_ ?_ v
 ·simp[dR]
 ·intro l x ih;rw[wY];split
  ·rename_i h;rw[ih,h];unfold aQ;rw[List.getD_eq_getElem?_getD,List.getD_eq_getElem?_getD,List.getElem?_append];split
   ·rfl
   ·rename_i h2;rw[List.getElem?_eq_none (by omega)];by_cases h3:s.toNat=l.length
    ·simp[h3]
    ·rw[List.getElem?_eq_none (by simp;omega)]
  ·rfl
theorem FI (v:List Int):(dR v).length≤v.length∧ ∀n∈dR v,n∈v:=by
 unfold dR;refine⟨?_,fun n hn=> ?_⟩
 ·rw[List.length_reverse];have:=(List.dropWhile_sublist (l:=v.reverse) (· ==(0:Int))).length_le;simpa using this
 ·have:=(List.dropWhile_sublist (l:=v.reverse) (· ==(0:Int))).subset (by simpa using hn);simpa using this
theorem Xn {v0:List Int} (h:v0.length=5) (hb: ∀n∈v0,0≤n∧n≤1000) {ds:dN} (hd: ∀d∈ds,bX d=true) (hs:ds.Pairwise (fun x y=> ¬gJ y x)):
  gz ⟨dR (eU v0 ds).1,(eU v0 ds).2⟩∧ ∀s c:Int,0≤s→s < 5→1≤c→aU ⟨dR (eU v0 ds).1,(eU v0 ds).2⟩ s c=(decide (c≤aQ v0 s) || decide ((s,c)∈ds)):=by
 have st:=EL h hb ds hd hs;obtain⟨t1,t2⟩:=FI (eU v0 ds).1;refine⟨⟨by have:=st.len;simp only;omega,fun n hn=>st.bd n (t2 n hn),CF _,fun d hd=> ?_,st.ord⟩,fun s c h0 h5 h1=> ?_⟩
 ·simp only[rE];exact st.nH d hd
 ·have:=st.mem s c h0 h5 h1;simp only[aU,rE];rw[Bool.eq_iff_iff];simpa using this
abbrev j4:=Int→Int→Bool
def runN (p:Nat→Bool):Nat→Nat→Nat
 | 0,n=>n
 | f+1,n=>if p (n+1) then runN p f (n+1) else n
theorem yP (p:Nat→Bool) (f n:Nat):n≤runN p f n∧runN p f n≤n+f∧(∀c,n < c→c≤runN p f n→p c=true)∧(runN p f n < n+f→p (runN p f n+1)=false):=by
 induction f generalizing n with
 | zero=>exact ⟨Nat.le_refl _,Nat.le_refl _,fun c h1 h2=>by simp[runN] at h2;omega,fun h=>by simp[runN] at h⟩
 | succ f ih=>
  simp only[runN];split
  ·rename_i h;obtain⟨h1,h2,h3,h4⟩:=ih (n+1);refine⟨by omega,by omega,fun c hc1 hc2=> ?_,fun hl=>h4 (by omega)⟩;by_cases e:c=n+1
   ·rw[e];exact h
   ·exact h3 c (by omega) hc2
  ·rename_i h;exact⟨Nat.le_refl _,by omega,fun c h1 h2=>by omega,fun _=>by simpa using h⟩
def nP (p:Nat→Bool):Nat:=runN p 1000 0
theorem Sl (p:Nat→Bool):nP p≤1000:=by have:=(yP p 1000 0).2.1;simpa [nP] using this
def CU (p:Nat→Bool):List Nat:=(List.range 1001).filter fun c=>decide (nP p+2≤c)&&p c
def vE (P:j4):List Int:=(List.range 5).map fun (s:Nat)=>(nP (fun (c:Nat)=>P s c):Int)
def xO (P:j4):dN:=(List.range 5).flatMap fun (s:Nat)=>(CU (fun (c:Nat)=>P s c)).map fun (c:Nat)=>((s:Int),(c:Int))
def cA (P:j4):Kn:=⟨dR (vE P),xO P⟩
theorem tP (P:j4):(cA P).more=xO P:=by unfold cA;simp only
theorem su (P:j4):(cA P).vec=dR (vE P):=by unfold cA;simp only
theorem JN (P:j4) (s:Nat) (h:s < 5):aQ (vE P) s=(nP (fun (c:Nat)=>P s c):Int):=by
 unfold aQ vE;rw[Int.toNat_natCast,List.getD_eq_getElem?_getD,List.getElem?_map,List.getElem?_range h];rfl
theorem Gu (P:j4) (d:Int×Int):d∈xO P↔ ∃s c:Nat,s < 5∧c≤1000∧d=((s:Int),(c:Int))∧nP (fun c=>P s c)+2≤c∧P s c=true:=by
 simp only[xO,CU,List.mem_flatMap,List.mem_range,List.mem_map,List.mem_filter,Bool.and_eq_true,decide_eq_true_eq];constructor
 ·rintro⟨s,hs,c,⟨hc,h1,h2⟩,rfl⟩;exact⟨s,c,hs,by omega,rfl,h1,h2⟩
 ·rintro⟨s,c,hs,hc,rfl,h1,h2⟩;exact⟨s,hs,c,⟨by omega,h1,h2⟩,rfl⟩
theorem Ho (p:Nat→Bool):(CU p).Pairwise (· < ·):=List.Pairwise.filter _ List.pairwise_lt_range
theorem Uh {n s c:Nat} (hs:s < 5) (hc:c≤1000) (h1:n+2≤c):bX ((s:Int),(c:Int))=true∧(n:Int)+2≤(c:Int):=⟨jx.2 ⟨by simp only;omega,by simp only;omega⟩,by omega⟩
theorem TZ {n c:Nat} {q:Nat→Bool} {m:Prop} (r3: ∀x:Nat,0 < x→x≤n→q x=true) (r4:n < 1000→q (n+1)=false) (hc:0 < c) (tN:c≤1000) (key:n+2≤c→q c=true→m) (back:m→q c=true):(c≤n∨m)↔q c=true:=by
 constructor
 ·rintro(h | h)
  ·exact r3 c hc h
  ·exact back h
 ·intro hp;by_cases h:c≤n
  ·exact .inl h
  ·right;by_cases h2:c=n+1
   ·exfalso;have:=r4 (by omega);rw[←h2,hp] at this;exact absurd this (by decide)
   ·exact key (by omega) hp
theorem aeL {a b c d e:Nat} (h0:a≤1001) (h1:b≤1001) (h2:c≤1001) (h3:d≤1001) (h4:e≤1001):a+(b+(c+(d+(e+0))))≤5005:=by omega
theorem Cm (P:j4):gz (cA P):=by
 obtain⟨t1,t2⟩:=FI (vE P);refine⟨?_, ?_,by rw[su];exact CF _, ?_, ?_⟩
 ·have:(vE P).length=5:=by simp[vE]
  rw[su];omega
 ·intro n hn;rw[su] at hn;have:=t2 n hn;simp only[vE,List.mem_map,List.mem_range] at this;obtain⟨s, -,rfl⟩:=this;exact⟨Int.natCast_nonneg _,Int.ofNat_le.2 (Sl _)⟩
 ·intro d hd;rw[tP] at hd;obtain⟨s,c,hs,hc,rfl,h1, -⟩:=(Gu P d).1 hd;rw[su,rE,JN P s hs];exact Uh hs hc h1
 ·rw[tP];unfold xO;rw[List.pairwise_flatMap];refine⟨fun s _=> ?_, ?_⟩
  ·rw[List.pairwise_map];refine(Ho _).imp fun h=> ?_;right;exact ⟨rfl,by simp only;omega⟩
  ·refine List.pairwise_lt_range.imp ?_;intro a b h x hx y hy;simp only[List.mem_map] at hx hy;obtain⟨_, -,rfl⟩:=hx;obtain⟨_, -,rfl⟩:=hy;left;simp only;omega
theorem T3 (P:j4) (s c:Int) (h0:0≤s) (h5:s < 5) (h1:1≤c) (tN:c≤1000):aU (cA P) s c=P s c:=by
 obtain⟨s,rfl⟩:=Int.eq_ofNat_of_zero_le h0;obtain⟨c,rfl⟩:=Int.eq_ofNat_of_zero_le (show 0≤c by omega);have hs:s < 5:=by omega
 have hc0:0 < c:=by omega
 have hc1:c≤1000:=by omega
 have r3: ∀x:Nat,0 < x→x≤nP (fun c=>P s c)→P s x=true:=(yP (fun c=>P s c) 1000 0).2.2.1;have r4:nP (fun c=>P s c) < 1000→P s ((nP (fun c=>P s c)+1:Nat):Int)=false:=fun h=>(yP (fun c=>P s c) 1000 0).2.2.2 (by rw[Nat.zero_add];exact h);have e:aU (cA P) (s:Int) (c:Int)=(decide (c≤nP (fun c=>P s c)) || decide (((s:Int),(c:Int))∈xO P)):=by
  unfold aU;rw[tP,su,rE,JN P s hs];rw[show decide ((c:Int)≤(nP (fun c=>P s c):Int))=decide (c≤nP (fun c=>P s c)) from by simp only[Int.ofNat_le]]
 rw[e,Bool.eq_iff_iff];simp only[Bool.or_eq_true,decide_eq_true_eq];have hm:=Gu P ((s:Int),(c:Int));refine TZ (q:=fun c=>P s c) r3 r4 hc0 hc1 (fun h hp=>hm.2 ⟨s,c,hs,hc1,rfl,h,hp⟩) fun h=> ?_;obtain⟨s',c', -, -,he, -,hp⟩:=hm.1 h;simp only[Prod.mk.injEq] at he;obtain⟨e1,e2⟩:=he;obtain rfl:s=s':=Int.ofNat_inj.1 e1;obtain rfl:c=c':=Int.ofNat_inj.1 e2;exact hp
def DEq (P Q:j4):Prop:= ∀s c:Int,0≤s→s < 5→1≤c→c≤1000→P s c=Q s c
theorem Ob {P:j4} {k:Kn} (h:gz k) (hp:DEq (aU k) P):k=cA P:=
 YN h (Cm P) fun s c h0 h5 h1 h2=>by rw[T3 P s c h0 h5 h1 h2];exact hp s c h0 h5 h1 h2
theorem pT (p:Nat→Bool):(CU p).length≤1001:=by
 have:=List.length_filter_le (fun c=>decide (nP p+2≤c)&&p c) (List.range 1001);rw[List.length_range] at this;exact this
theorem vF (P:j4):(cA P).more.length≤5005:=by
 rw[tP];unfold xO;have e:List.range 5=[0,1,2,3,4]:=rfl;rw[e];simp only[List.flatMap_cons,List.flatMap_nil,List.length_append,List.length_nil,List.length_map];exact aeL (pT _) (pT _) (pT _) (pT _) (pT _)
def kE (k:Kn):Int:=if 60 < k.more.length then 2 else 0
end Go.Proofs.YtajgndoiddmbmaaGreatDoor
