/- Parts of what is known: of which points which dots; what package part computes, plainly. No program in sight. -/
import Derived.Test.YtihpddhngbgcdaaGreatMFilterP
import Derived.Test.YtihpddhngbgcdaaGreatMKnow5
namespace Go.Proofs.YtihpddhngbgcdaaGreat
open Go.RowKit
structure Pt where
 f:Bxs
 k:Kn
structure SP where
 p:Nat→Nat→Bool
 k:Kn
def ptsOf (f:Bxs):Nat→Nat→Bool:=fun t n=>decide (t < 16)&&decide (n < 32)&&inF f t n
theorem ptsOf_in {f:Bxs} {t n:Nat} (ht:t < 16) (hn:n < 32):ptsOf f t n=inF f t n:=by simp[ptsOf,ht,hn]
theorem ptsOf_out {f:Bxs} {t n:Nat} (h: ¬(t < 16∧n < 32)):ptsOf f t n=false:=by
 unfold ptsOf
 by_cases ht:t < 16
 ·have hn: ¬n < 32:=fun hn=>h ⟨ht,hn⟩
  simp[hn]
 ·simp[ht]
def PRng (p:Nat→Nat→Bool):Prop:= ∀t n,¬(t < 16∧n < 32)→p t n=false
theorem ptsOf_rng (f:Bxs):PRng (ptsOf f):=fun _ _ h=>ptsOf_out h
theorem PRng.ext {p q:Nat→Nat→Bool} (hp:PRng p) (hq:PRng q) (h: ∀t n,t < 16→n < 32→p t n=q t n):p=q:=by
 funext t n
 by_cases hr:t < 16∧n < 32
 ·exact h t n hr.1 hr.2
 ·rw[hp t n hr,hq t n hr]
def sem (x:Pt):SP:=⟨ptsOf x.f,x.k⟩
def ptChk (x:Pt):Int:=if fChk x.f=0 then knChk x.k else fChk x.f
def ptsFrom:List Pt→Int
 | []=>0
 | x::l=>if ptChk x=0 then ptsFrom l else ptChk x
def ptsChk (l:List Pt):Int:=if 30 < l.length then 2 else ptsFrom l
structure PtOk (x:Pt):Prop where
 f:fChk x.f=0
 k:knChk x.k=0
theorem ptChk_zero {x:Pt} :ptChk x=0↔PtOk x:=by
 unfold ptChk
 constructor
 ·intro h
  split at h
  ·rename_i hf;exact ⟨hf,h⟩
  ·rename_i hf;exact absurd h hf
 ·rintro⟨h1,h2⟩;rw [if_pos h1,h2]
theorem ptsFrom_zero {l:List Pt} :ptsFrom l=0↔ ∀x∈l,PtOk x:=by
 induction l with
 | nil=>simp [ptsFrom]
 | cons x l ih=>
  simp only[ptsFrom,List.mem_cons,forall_eq_or_imp]
  split
  ·rename_i h;rw [ih,←ptChk_zero];simp [h]
  ·rename_i h
   constructor
   ·intro h2;exact absurd h2 h
   ·intro h2;exact absurd (ptChk_zero.2 h2.1) h
theorem ptsFrom_ok (l:List Pt) (k:Nat) (hk:k < l.length) (h:ptChk l[k]=0):ptsFrom (l.drop k)=ptsFrom (l.drop (k+1)):=by
 rw[List.drop_eq_getElem_cons hk];simp only[ptsFrom];rw [if_pos h]
theorem ptsFrom_bad (l:List Pt) (k:Nat) (hk:k < l.length) (h:ptChk l[k]≠0):ptsFrom (l.drop k)=ptChk l[k]:=by
 rw[List.drop_eq_getElem_cons hk];simp only[ptsFrom];rw [if_neg h]
theorem ptsChk_zero {l:List Pt} :ptsChk l=0↔l.length≤30∧ ∀x∈l,PtOk x:=by
 unfold ptsChk
 split
 ·constructor
  ·intro h;exact absurd h (by decide)
  ·rintro⟨h, -⟩;omega
 ·rw[ptsFrom_zero];exact ⟨fun h=>⟨by omega,h⟩,fun h=>h.2⟩
structure SPOk (x:SP):Prop where
 p:PRng x.p
 k:KnOk x.k
 len:x.k.more.length≤60
def KSub (a b:Kn):Prop:= ∀s c:Int,0≤s→s < 5→1≤c→c≤1000→knIn a s c=true→knIn b s c=true
theorem knWithin_iff {a b:Kn} (hb:KnOk b):knWithin a b=true↔KSub a b:=by
 unfold knWithin
 rw[decide_eq_true_eq]
 constructor
 ·intro h s c h0 h5 h1 h2 hin
  rw[←h,formK_in _ s c h0 h5 h1 h2];simp [orK,hin]
 ·intro h
  refine(formK_uniq hb fun s c h0 h5 h1 h2=> ?_).symm
  simp only[orK]
  cases ha:knIn a s c
  ·simp
  ·rw[h s c h0 h5 h1 h2 ha];rfl
theorem knIn_nil (s c:Int) (h:1≤c):knIn ⟨[],[]⟩ s c=false:=by
 unfold knIn vecAt;simp;omega
theorem knCount_zero {k:Kn} (h:KnOk k) (hl:k.more.length≤60):knCount k=0↔k=⟨[],[]⟩:=by
 unfold knCount
 rw[if_pos (knChk_zero.2 ⟨h,hl⟩)]
 constructor
 ·intro he
  have h1:=sum_bd k.vec h.bd
  have hm:k.more=[]:=List.eq_nil_of_length_eq_zero (by omega)
  have hs:k.vec.sum=0:=by omega
  have hv:k.vec=[]:=by
   rcases List.eq_nil_or_concat k.vec with hv | ⟨l,z,hz⟩
   ·exact hv
   ·exfalso
    rw[List.concat_eq_append] at hz
    have hl:=h.last
    rw[hz] at hl hs
    simp only[List.getLast?_append,List.getLast?_singleton,Option.some_or,ne_eq,Option.some.injEq] at hl
    have hb:=h.bd
    rw[hz] at hb
    have h2:=sum_bd l fun n hn=>hb n (by simp[hn])
    have h3:=hb z (by simp)
    rw[List.sum_append] at hs
    simp at hs
    omega
  cases k;simp_all
 ·rintro rfl;rfl
def noneS (x:SP):Bool:=decide (cntF x.p=0) || decide (knCount x.k=0)
def underS (a b:SP):Bool:=(allPt fun t n=> !a.p t n || b.p t n)&&knWithin a.k b.k
def fewStep (out:List SP) (x:SP):List SP:=if noneS x || out.any (fun q=>underS x q) then out else(out.filter fun q=> !underS q x)++[x]
def fewS (l:List SP):List SP:=l.foldl fewStep []
theorem fewS_snoc (l:List SP) (x:SP):fewS (l++[x])=fewStep (fewS l) x:=by simp[fewS]
theorem underS_iff {a b:SP} (hb:KnOk b.k):underS a b=true↔(∀t n,t < 16→n < 32→a.p t n=true→b.p t n=true)∧KSub a.k b.k:=by
 unfold underS
 rw[Bool.and_eq_true,allPt_iff,knWithin_iff hb]
 constructor
 ·rintro⟨h,k⟩
  exact⟨fun t n ht hn hp=>by have:=h t n ht hn;rw [hp] at this;simpa using this,k⟩
 ·rintro⟨h,k⟩
  refine⟨fun t n ht hn=> ?_,k⟩
  have:=h t n ht hn
  cases hp:a.p t n
  ·simp
  ·rw[this hp];simp
theorem noneS_iff {x:SP} (h:SPOk x):noneS x=true↔(∀t n,t < 16→n < 32→x.p t n=false)∨x.k=⟨[],[]⟩:=by
 unfold noneS
 rw[Bool.or_eq_true,decide_eq_true_eq,decide_eq_true_eq,cntF_zero,allPt_iff,knCount_zero h.k h.len]
 simp
def knowsS (l:List SP) (t n:Nat) (s c:Int):Bool:=l.any fun x=>x.p t n&&knIn x.k s c
theorem knowsS_iff {l:List SP} {t n:Nat} {s c:Int} :knowsS l t n s c=true↔ ∃x∈l,x.p t n=true∧knIn x.k s c=true:=by
 simp[knowsS,List.any_eq_true]
theorem knowsS_append (l m:List SP) (t n:Nat) (s c:Int):knowsS (l++m) t n s c=(knowsS l t n s c || knowsS m t n s c):=by simp[knowsS]
theorem fewStep_mem {out:List SP} {x y:SP} (h:y∈fewStep out x):y∈out∨y=x:=by
 unfold fewStep at h
 split at h
 ·exact .inl h
 ·rw[List.mem_append,List.mem_singleton] at h
  exact h.imp (fun h=>(List.mem_filter.1 h).1) id
theorem few_sub (l:List SP): ∀x∈fewS l,x∈l:=by
 refine snoc_ind (p:=fun l=> ∀x∈fewS l,x∈l) ?_ ?_ l
 ·intro x hx;simp [fewS] at hx
 ·intro l y ih x hx
  rw[fewS_snoc] at hx
  rcases fewStep_mem hx with h | rfl
  ·exact List.mem_append_left _ (ih x h)
  ·simp
theorem fewStep_len (out:List SP) (x:SP):(fewStep out x).length≤out.length+1:=by
 unfold fewStep
 split
 ·omega
 ·rw[List.length_append];have:=List.length_filter_le (fun q=> !underS q x) out;simp;exact this
theorem few_len (l:List SP):(fewS l).length≤l.length:=by
 refine snoc_ind (p:=fun l=>(fewS l).length≤l.length) (by simp[fewS]) ?_ l
 intro l x ih
 rw[fewS_snoc,List.length_append]
 have:=fewStep_len (fewS l) x
 simp;omega
theorem few_knows (l:List SP) (t n:Nat) (s c:Int) (ht:t < 16) (hn:n < 32) (h0:0≤s) (h5:s < 5) (h1:1≤c) (h2:c≤1000):(∀x∈l,SPOk x)→knowsS (fewS l) t n s c=knowsS l t n s c:=by
 refine snoc_ind (p:=fun l=>(∀x∈l,SPOk x)→knowsS (fewS l) t n s c=knowsS l t n s c) (fun _=>rfl) ?_ l
 intro l x ih hok
 have ihl:=ih fun y hy=>hok y (List.mem_append_left _ hy)
 have hx:=hok x (by simp)
 have hl: ∀y∈fewS l,SPOk y:=fun y hy=>hok y (List.mem_append_left _ (few_sub l y hy))
 rw[fewS_snoc,knowsS_append,←ihl]
 unfold fewStep
 split
 ·rename_i h
  rw[Bool.or_eq_true] at h
  rw[Bool.eq_iff_iff,Bool.or_eq_true]
  constructor
  ·exact .inl
  ·rintro(hk | hk)
   ·exact hk
   ·obtain⟨y,hy,hp,hd⟩:=knowsS_iff.1 hk
    obtain rfl:y=x:=by simpa using hy
    rcases h with h | h
    ·rcases(noneS_iff hx).1 h with h | h
     ·rw[h t n ht hn] at hp;exact absurd hp (by decide)
     ·rw[h,knIn_nil s c h1] at hd;exact absurd hd (by decide)
    ·rw[List.any_eq_true] at h
     obtain⟨q,hq,hu⟩:=h
     obtain⟨u1,u2⟩:=(underS_iff (hl q hq).k).1 hu
     exact knowsS_iff.2 ⟨q,hq,u1 t n ht hn hp,u2 s c h0 h5 h1 h2 hd⟩
 ·rw[Bool.eq_iff_iff,knowsS_append,Bool.or_eq_true,Bool.or_eq_true]
  constructor
  ·rintro(hk | hk)
   ·obtain⟨q,hq,hp,hd⟩:=knowsS_iff.1 hk
    exact .inl (knowsS_iff.2 ⟨q,(List.mem_filter.1 hq).1,hp,hd⟩)
   ·exact .inr hk
  ·rintro(hk | hk)
   ·obtain⟨q,hq,hp,hd⟩:=knowsS_iff.1 hk
    by_cases hu:underS q x=true
    ·obtain⟨u1,u2⟩:=(underS_iff hx.k).1 hu
     exact .inr (knowsS_iff.2 ⟨x,by simp,u1 t n ht hn hp,u2 s c h0 h5 h1 h2 hd⟩)
    ·exact .inl (knowsS_iff.2 ⟨q,List.mem_filter.2 ⟨hq,by simpa using hu⟩,hp,hd⟩)
   ·exact .inr hk
theorem few_ok {l:List SP} (h: ∀x∈l,SPOk x): ∀x∈fewS l,SPOk x:=fun x hx=>h x (few_sub l x hx)
def narrowS (l:List SP) (q:Nat→Nat→Bool):List SP:=fewS (l.map fun x=>⟨fun t n=>x.p t n&&q t n,x.k⟩)
theorem narrow_ok {l:List SP} {q:Nat→Nat→Bool} (h: ∀x∈l,SPOk x): ∀x∈l.map (fun x=>(⟨fun t n=>x.p t n&&q t n,x.k⟩:SP)),SPOk x:=by
 intro y hy
 obtain⟨x,hx,rfl⟩:=List.mem_map.1 hy
 exact⟨fun t n hr=>by simp only;rw [(h x hx).p t n hr];rfl,(h x hx).k,(h x hx).len⟩
end Go.Proofs.YtihpddhngbgcdaaGreat
