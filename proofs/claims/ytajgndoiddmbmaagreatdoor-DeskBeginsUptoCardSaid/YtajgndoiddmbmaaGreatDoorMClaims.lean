/- Towards what desk.Run answers. -/
import Derived.Test.YtajgndoiddmbmaaGreatDoorMBase
import Derived.Orders
import Derived.Test.YtajgndoiddmbmaaGreatDoorChecked
namespace Go.Proofs.YtajgndoiddmbmaaGreatDoor
set_option maxRecDepth 100000
set_option maxHeartbeats 40000000
open Go.RowKit
namespace Cl3
def deps (o:Oper):List Nat:=(o.after.toList.filter fun e=>Region.binds .any e).map (·.on)
def kP (ops:Array Oper) (s:Nat):Option Nat:=ops.findIdx? fun o=>o.dst==some s
def later (ops:Array Oper) (i:Nat):Nat→Nat→Bool
 | 0,_=>false
 | n+1,i'=>match ops[i']? with
  | some o=>(deps o).any fun d=>d==i || later ops i n d
  | none=>false
def link (ops:Array Oper) (o:Oper):Option Nat:=
 match o.dst,o.op with
 | none, .store _ (.tmp s) _=>match kP ops s with | some k=>if (deps o).contains k then some s else none | none=>none
 | _,_=>none
theorem F9 {ops:Array Oper} {o:Oper} {s:Nat} (h:link ops o=some s):o.dst=none∧ ∃k,kP ops s=some k∧k∈deps o:=by
 unfold link at h;split at h
 ·rename_i hd _;split at h
  ·rename_i k hk;split at h
   ·rename_i hc;simp only[Option.some.injEq] at h;subst h;exact⟨hd,k,hk,by simpa using hc⟩
   ·simp at h
  ·simp at h
 ·simp at h
def lk (ops:Array Oper) (a:Act) (o:Oper):Value:=match link ops o with | some s=>a.tmps.getD s undef | none=>undef
def PR (ops:Array Oper) (af:Nat→Value) (o:Oper):Value:=match link ops o with | some s=>(match kP ops s with | some k=>af k | none=>undef) | none=>undef
def val (ops:Array Oper) (a:Act) (o:Oper):Value:=match o.dst with | some s=>a.tmps.getD s undef | none=>lk ops a o
def fits (ops:Array Oper) (n:Nat):Bool:=
 (List.range ops.size).all fun i=>match ops[i]? with
  | some o=>((deps o).all fun d=>decide (d < i))&&(match o.dst with | some s=>kP ops s==some i&&decide (s < n) | none=>true)
  | none=>true
theorem lG {ops:Array Oper} {n:Nat} (h:fits ops n=true) {i:Nat} {o:Oper} (hi:ops[i]? =some o):(∀d∈deps o,d < i)∧ ∀s,o.dst=some s→kP ops s=some i∧s < n:=by
 have hlt:i < ops.size:=(Array.getElem?_eq_some_iff.1 hi).1;have:=List.all_eq_true.1 h i (List.mem_range.2 hlt);rw[hi] at this;simp only[Bool.and_eq_true,List.all_eq_true,decide_eq_true_eq] at this;refine⟨this.1,fun s hs=> ?_⟩;have h2:=this.2;rw[hs] at h2;simpa using h2
structure Inv (ops:Array Oper) (kill:Nat→List Nat) (F:Nat→Value→World→Prop) (Good:World→Prop) (bN:Nat→List Nat) (Pre:Nat→World→Prop) (a0:Act) (listed:Array Bool) (a:Act) (w:World):Prop where
 lsize:listed.size=ops.size
 defers:a.defers=a0.defers
 size:a.tmps.size=a0.tmps.size
 down: ∀j o,ops[j]? =some o→listed.getD j false=true→ ∀d∈deps o,listed.getD d false=true
 old: ∀s,(∀j,kP ops s=some j→listed.getD j false=false)→a.tmps.getD s undef=a0.tmps.getD s undef
 good:Good w
 pre: ∀u,(∀k∈bN u,listed.getD k false=false)→Pre u w
 zL: ∀j o,ops[j]? =some o→listed.getD j false=true→(∀k∈kill j,listed.getD k false=false)→F j (val ops a o) w
theorem nA {ops:Array Oper} {listed:Array Bool} (down: ∀j o,ops[j]? =some o→listed.getD j false=true→ ∀d∈deps o,listed.getD d false=true) {i:Nat} :
  ∀(n i':Nat),later ops i n i'=true→listed.getD i' false=true→listed.getD i false=true
 | 0,_,h,_=>by simp[later] at h
 | n+1,i',h,hl=>by
  unfold later at h;cases ho:ops[i']? with
  | none=>rw [ho] at h;simp at h
  | some o=>
   rw[ho] at h;simp only[List.any_eq_true,Bool.or_eq_true,beq_iff_eq] at h;obtain⟨d,hd,h⟩:=h;have:=down i' o ho hl d hd;rcases h with rfl | h
   ·exact this
   ·exact nA down n d h this
theorem qU {a:Act} {dst:Option Tmp} {v:Value} {s:Nat} :(a.put dst v).tmps.getD s undef=if dst=some s∧s < a.tmps.size then v else a.tmps.getD s undef:=by
 cases dst with
 | none=>simp [Act.put]
 | some d=>
  simp only[Act.put,Array.getD_eq_getD_getElem?,Array.getElem?_setIfInBounds,Option.some.injEq];by_cases h:d=s
  ·subst h;by_cases h2:d < a.tmps.size <;> simp[h2]
  ·simp[h]
theorem BQ {a:Act} {dst:Option Tmp} {v:Value} :(a.put dst v).tmps.size=a.tmps.size:=by cases dst <;> simp[Act.put]
theorem put_defers {a:Act} {dst:Option Tmp} {v:Value} :(a.put dst v).defers=a.defers:=by cases dst <;> simp[Act.put]
theorem ji {l:Array Bool} {i j:Nat} (hi:i < l.size):(l.setIfInBounds i true).getD j false=if i=j then true else l.getD j false:=by
 simp only[Array.getD_eq_getD_getElem?,Array.getElem?_setIfInBounds];by_cases h:i=j
 ·subst h;simp [hi]
 ·simp[h]
def Es (ops:Array Oper) (F:Nat→Value→World→Prop) (Good:World→Prop) (R:Nat→World→World→Prop) (i:Nat) (o:Oper) (a:Act) (w:World) (a':Act) (w':World):Prop:=
 ∃v,a'=a.put o.dst v∧F i (if o.dst.isSome then v else lk ops a o) w'∧Good w'∧R i w w'
def left (ops:Array Oper) (listed:Array Bool):Nat:=((List.range ops.size).filter fun i=> !listed.getD i false).length
theorem Th {ops:Array Oper} {listed:Array Bool} {i:Nat} (hs:listed.size=ops.size) (hi:i < ops.size) (hl:listed.getD i false=false):left ops (listed.setIfInBounds i true) < left ops listed:=by
 unfold left;have e:(List.range ops.size).filter (fun j=> !(listed.setIfInBounds i true).getD j false)=((List.range ops.size).filter fun j=> !listed.getD j false).filter (fun j=>j != i):=by
  rw[List.filter_filter];apply List.filter_congr;intro j _;rw[ji (by omega)];by_cases h:i=j
  ·subst h;simp
  ·have:(j != i)=true:=by simpa using fun h'=>h h'.symm
   simp[h,this]
 rw[e];refine List.length_filter_lt_length_iff_exists.2 ⟨i, ?_,by simp⟩;exact List.mem_filter.2 ⟨List.mem_range.2 hi,by rw[hl];rfl⟩
theorem OI {ops:Array Oper} {n:Nat} (hf:fits ops n=true) {listed:Array Bool} (hs:listed.size=ops.size) (h:Region.ready .any ops listed=[]): ∀i,i < ops.size→listed.getD i false=true:=by
 intro i;induction i using Nat.strongRecOn with
 | _ i ih=>
  intro hi;by_cases hl:listed.getD i false=true
  ·exact hl
  exfalso;have ho:ops[i]? =some ops[i]:=by simp[hi]
  have hmem:i∈Region.ready .any ops listed:=by
   unfold Region.ready;rw[List.mem_filter];refine⟨List.mem_range.2 hi, ?_⟩;rw[ho];have h1:listed.getD i true=false:=by
    have:i < listed.size:=by omega
    simp[Array.getD_eq_getD_getElem?,this] at hl ⊢;exact hl
   rw[h1];simp only[Option.map_some,Option.getD_some,Bool.not_false,Bool.true_and,Array.all_eq_true'];intro e he;by_cases hb:Region.binds .any e=true
   ·have hd:e.on∈deps ops[i]:=by
     unfold deps;exact List.mem_map.2 ⟨e,List.mem_filter.2 ⟨Array.mem_toList_iff.2 he,hb⟩,rfl⟩
    have hlt:=(lG hf ho).1 _ hd;simp[ih e.on hlt (by omega)]
   ·simp[hb]
  rw[h] at hmem;simp at hmem
variable {P:Program} {ops:Array Oper} {Q:Exit→Act→World→Prop} {kill:Nat→List Nat} {F:Nat→Value→World→Prop} {Good:World→Prop} {bN:Nat→List Nat} {Pre:Nat→World→Prop} {a0:Act} {R:Nat→World→World→Prop}
def final (tmps:Array Value) (ops:Array Oper) (af:Nat→Value):Array Value:=
 (tmps.toList.zipIdx.map fun x=>match kP ops x.2 with | some j=>af j | none=>x.1).toArray
theorem T9 {a:Act} {listed:Array Bool} {w:World} (_hf:fits ops a0.tmps.size=true) (h:Inv ops kill F Good bN Pre a0 listed a w):
  a= { tmps:=final a0.tmps ops (fun j=>match ops[j]? with | some o=>val ops a o | none=>undef),defers:=a0.defers } :=by
 have h1:=h.defers;obtain⟨at_,ad⟩:=a;simp only at h1;subst h1;congr 1;apply Array.ext
 ·simp[final];exact h.size
 ·intro s hs hs2;simp only[final,List.getElem_toArray,List.getElem_map,List.getElem_zipIdx,Array.getElem_toList,Nat.zero_add];have hold:=h.old s;simp only at hold;have hs3:s < a0.tmps.size:=by have:=h.size;simp only at this;omega
  cases ho:kP ops s with
  | none=>
   have:=hold (by intro j hj;rw [ho] at hj;simp at hj);simpa[Array.getD_eq_getD_getElem?,hs,hs3] using this
  | some j=>
   have hj:j < ops.size:=by
    have:=Array.findIdx?_eq_some_iff_getElem.1 ho;exact this.1
   have hd:(ops[j]).dst=some s:=by
    have:=(Array.findIdx?_eq_some_iff_getElem.1 ho)
    obtain⟨h1,h2,_⟩:=this;simpa using h2
   simp[hj,val,hd,Array.getD_eq_getD_getElem?,hs]
theorem Tp {i:Nat} {o:Oper} (hf:fits ops a0.tmps.size=true) (ho:ops[i]? =some o) {listed:Array Bool} {a a':Act} {w w':World} (h:Inv ops kill F Good bN Pre a0 listed a w) (hl:listed.getD i false=false)
  (hd: ∀d∈deps o,listed.getD d false=true) (hst: ∀j v,i≠j→i∉kill j→later ops i ops.size j=false→F j v w→R i w w'→F j v w') (hpre: ∀u,i∉bN u→Pre u w→R i w w'→Pre u w') (h':Es ops F Good R i o a w a' w'):Inv ops kill F Good bN Pre a0 (listed.setIfInBounds i true) a' w':=by
 obtain⟨v,rfl,hF,hG,hR⟩:=h';have hi:i < ops.size:=(Array.getElem?_eq_some_iff.1 ho).1;have hi':i < listed.size:=by rw[h.lsize];exact hi
 refine⟨by simp[h.lsize],by rw[put_defers,h.defers],by rw[BQ,h.size], ?_, ?_,hG, ?_, ?_⟩
 ·intro j oj hj hlj d hdj;rw[ji hi'] at hlj ⊢;by_cases e:i=d
  ·simp[e]
  ·rw[if_neg e];by_cases e2:i=j
   ·subst e2;rw[ho] at hj;cases hj;exact hd d hdj
   ·rw[if_neg e2] at hlj;exact h.down j oj hj hlj d hdj
 ·intro s hs;rw[qU];have hne: ¬(o.dst=some s∧s < a.tmps.size):=by
   rintro⟨hs1, -⟩;have:=((lG hf ho).2 s hs1).1;have:=hs i this;rw[ji hi'] at this;simp at this
  rw[if_neg hne];refine h.old s fun j hj=> ?_;have:=hs j hj;rw[ji hi'] at this;split at this
  ·simp at this
  ·exact this
 ·intro u hk;refine hpre u (fun hik=> ?_) (h.pre u fun k hkm=> ?_) hR
  ·have:=hk i hik;rw[ji hi'] at this;simp at this
  ·have:=hk k hkm;rw[ji hi'] at this;split at this
   ·simp at this
   ·exact this
 ·intro j oj hj hlj hk;by_cases e:i=j
  ·subst e;rw[ho] at hj;cases hj;have hv:val ops (a.put o.dst v) o=if o.dst.isSome then v else lk ops a o:=by
    unfold val;cases hds:o.dst with
    | none=>simp [Act.put]
    | some s=>
     have:=((lG hf ho).2 s hds).2;have e3:s < a.tmps.size:=by rw[h.size];exact this
     have:= @qU a (some s) v s;simp[e3] at this;simpa using this
   rw[hv];exact hF
  ·rw[ji hi',if_neg e] at hlj;have hkn:i∉kill j:=by
    intro hik;have:=hk i hik;rw[ji hi'] at this;simp at this
   have hv:val ops (a.put o.dst v) oj=val ops a oj:=by
    unfold val;cases hds:oj.dst with
    | none=>
     simp only[lk];cases hlk:link ops oj with
     | none=>rfl
     | some s=>
      obtain⟨-,k,hk1,hk2⟩:=F9 hlk;simp only;rw[qU,if_neg];rintro⟨hs1, -⟩;have e1:=((lG hf ho).2 s hs1).1;rw[e1] at hk1;simp only[Option.some.injEq] at hk1;subst hk1;have:=h.down j oj hj hlj i hk2;rw[this] at hl;simp at hl
    | some s=>
     simp only;rw[qU,if_neg];rintro⟨hs1, -⟩;have e1:=((lG hf ho).2 s hs1).1;have e2:=((lG hf hj).2 s hds).1;rw[e1] at e2;exact e (by simpa using e2)
   rw[hv];have ack:later ops i ops.size j=false:=by
    cases hx:later ops i ops.size j
    ·rfl
    ·rw[nA h.down _ _ hx hlj] at hl;simp at hl
   refine hst j _ e hkn ack (h.zL j oj hj hlj fun k hk'=> ?_) hR;have:=hk k hk';rw[ji hi'] at this;split at this
   ·simp at this
   ·exact this
structure mZ (ops:Array Oper) (kill:Nat→List Nat) (F:Nat→Value→World→Prop) (Good:World→Prop) (bN:Nat→List Nat) (Pre:Nat→World→Prop) (a0:Act) (i:Nat) (o:Oper) (a:Act) (w:World):Prop where
 defers:a.defers=a0.defers
 size:a.tmps.size=a0.tmps.size
 old: ∀s,(match kP ops s with | none=>true | some j=>j==i || later ops i ops.size j)=true→a.tmps.getD s undef=a0.tmps.getD s undef
 good:Good w
 pre: ∀u,((bN u).all fun k=>k==i || later ops i ops.size k)=true→Pre u w
 zL: ∀j oj,ops[j]? =some oj→(deps o).contains j=true→((kill j).all fun k=>k==i || later ops i ops.size k)=true→F j (val ops a oj) w
theorem mZ.c {ops:Array Oper} {kill:Nat→List Nat} {F:Nat→Value→World→Prop} {Good:World→Prop} {bN:Nat→List Nat} {Pre:Nat→World→Prop} {a0:Act} {i:Nat} {o:Oper} {a:Act} {w:World} (h:mZ ops kill F Good bN Pre a0 i o a w) (j:Nat) (oj:Oper) (h1:ops[j]? =some oj) (h2:(deps o).contains j=true:=by decide+kernel) (h3:((kill j).all fun k=>k==i || later ops i ops.size k)=true:=by decide+kernel):F j (val ops a oj) w:=h.zL j oj h1 h2 h3
theorem mZ.g {ops:Array Oper} {kill:Nat→List Nat} {F:Nat→Value→World→Prop} {Good:World→Prop} {bN:Nat→List Nat} {Pre:Nat→World→Prop} {a0:Act} {i:Nat} {o:Oper} {a:Act} {w:World} (h:mZ ops kill F Good bN Pre a0 i o a w):Good w:=h.good
theorem mZ.q {ops:Array Oper} {kill:Nat→List Nat} {F:Nat→Value→World→Prop} {Good:World→Prop} {bN:Nat→List Nat} {Pre:Nat→World→Prop} {a0:Act} {i:Nat} {o:Oper} {a:Act} {w:World} (h:mZ ops kill F Good bN Pre a0 i o a w) {s:Nat} {v:Value} (hg:a.tmps.getD s undef=v) (hs:Nat.blt s a0.tmps.size=true:=by rfl):a.tmps[s]? =some v:=by have h2:s < a.tmps.size:=(by rw[h.size];exact Nat.le_of_ble_eq_true hs);have h3:=hg;rw[Array.getD_eq_getD_getElem?,Array.getElem?_eq_getElem h2] at h3;rw[Array.getElem?_eq_getElem h2];exact congrArg some h3
theorem mZ.o {ops:Array Oper} {kill:Nat→List Nat} {F:Nat→Value→World→Prop} {Good:World→Prop} {bN:Nat→List Nat} {Pre:Nat→World→Prop} {a0:Act} {i:Nat} {o:Oper} {a:Act} {w:World} (h:mZ ops kill F Good bN Pre a0 i o a w) (s:Nat) (h1:(match kP ops s with | none=>true | some j=>j==i || later ops i ops.size j)=true:=by decide+kernel):a.tmps.getD s undef=a0.tmps.getD s undef:=h.old s h1
theorem mZ.p {ops:Array Oper} {kill:Nat→List Nat} {F:Nat→Value→World→Prop} {Good:World→Prop} {bN:Nat→List Nat} {Pre:Nat→World→Prop} {a0:Act} {i:Nat} {o:Oper} {a:Act} {w:World} (h:mZ ops kill F Good bN Pre a0 i o a w) (u:Nat) (h1:((bN u).all fun k=>k==i || later ops i ops.size k)=true:=by decide+kernel):Pre u w:=h.pre u h1
theorem yH (hf:fits ops a0.tmps.size=true)
  (hst: ∀i j v w w',i≠j→i∉kill j→later ops i ops.size j=false→F j v w→R i w w'→F j v w') (hpre: ∀i w w' u,i∉bN u→Pre u w→R i w w'→Pre u w')
  (step: ∀i o a w,ops[i]? =some o→mZ ops kill F Good bN Pre a0 i o a w→wpOp P ops Q i (Es ops F Good R i o a w) a w)
  (fin: ∀listed a w,Inv ops kill F Good bN Pre a0 listed a w→(∀i,i < ops.size→listed.getD i false=true)→Q .normal a w):
  ∀(fuel:Nat) (listed:Array Bool) (a:Act) (w:World),left ops listed≤fuel→Inv ops kill F Good bN Pre a0 listed a w→wpAny P .any ops Q fuel listed a w
 | 0,listed,a,w,hleft,h=>by
  have hall: ∀i,i < ops.size→listed.getD i false=true:=by
   intro i hi;have:(List.range ops.size).filter (fun i=> !listed.getD i false)=[]:=List.eq_nil_of_length_eq_zero (by unfold left at hleft;omega);have:=List.filter_eq_nil_iff.1 this i (List.mem_range.2 hi);simpa using this
  refine⟨?_,fin _ _ _ h hall⟩;unfold Region.ready;rw[List.filter_eq_nil_iff];intro i hi;have h1:=hall i (List.mem_range.1 hi);have h2:i < listed.size:=by rw[h.lsize];exact List.mem_range.1 hi
  simp[Array.getD_eq_getD_getElem?,h2] at h1 ⊢;simp[h1]
 | fuel+1,listed,a,w,hleft,h=>by
  refine⟨fun h0=>fin _ _ _ h (OI hf h.lsize h0),fun i hi=> ?_⟩;unfold Region.ready at hi;rw[List.mem_filter] at hi;obtain⟨hr,hi⟩:=hi;have hlt:=List.mem_range.1 hr;have ho:ops[i]? =some ops[i]:=by simp[hlt]
  rw[ho] at hi;simp only[Option.map_some,Option.getD_some,Bool.and_eq_true,Bool.not_eq_true',Array.all_eq_true'] at hi;obtain⟨hl,hd⟩:=hi;have hl':listed.getD i false=false:=by
   have:i < listed.size:=by rw[h.lsize];exact hlt
   simp[Array.getD_eq_getD_getElem?,this] at hl ⊢;exact hl
  have Zq: ∀d∈deps ops[i],listed.getD d false=true:=by
   intro d hdm;unfold deps at hdm;obtain⟨e,he,rfl⟩:=List.mem_map.1 hdm;obtain⟨he1,rY⟩:=List.mem_filter.1 he;have:=hd e (Array.mem_toList_iff.1 he1);simpa[rY] using this
  refine wpOp_mono ?_ (step i ops[i] a w ho ⟨h.defers,h.size, ?_,h.good, ?_, ?_⟩)
  ·intro a' w' h';exact yH hf hst hpre step fin fuel _ a' w' (by have:=Th (listed:=listed) h.lsize hlt hl';omega) (Tp hf ho h hl' Zq (fun j v hne hk hlt hF hR=>hst i j v w w' hne hk hlt hF hR) (hpre i w w') h')
  ·intro s hs;refine h.old s fun j hj=> ?_;rw[hj] at hs;simp only[Bool.or_eq_true,beq_iff_eq] at hs;rcases hs with rfl | hs
   ·exact hl'
   ·cases hx:listed.getD j false
    ·rfl
    ·rw[nA h.down _ _ hs hx] at hl';simp at hl'
  ·intro u hk;refine h.pre u fun k hkm=> ?_;have:=List.all_eq_true.1 hk k hkm;simp only[Bool.or_eq_true,beq_iff_eq] at this;rcases this with rfl | hs
   ·exact hl'
   ·cases hx:listed.getD k false
    ·rfl
    ·rw[nA h.down _ _ hs hx] at hl';simp at hl'
  ·intro j oj hj hdj hk;refine h.zL j oj hj (Zq j (by simpa using hdj)) fun k hkm=> ?_;have:=List.all_eq_true.1 hk k hkm;simp only[Bool.or_eq_true,beq_iff_eq] at this;rcases this with rfl | hs
   ·exact hl'
   ·cases hx:listed.getD k false
    ·rfl
    ·rw[nA h.down _ _ hs hx] at hl';simp at hl'
theorem wp_region {id:Nat} {w0:World} (bN:Nat→List Nat) (Pre:Nat→World→Prop) (kill:Nat→List Nat) (F:Nat→Value→World→Prop) (Good:World→Prop) (R:Nat→World→World→Prop) (hm:P.follows .mixedOrders=true) (hf:fits ops a0.tmps.size=true) (h0:Good w0.drew) (hp0: ∀u,Pre u w0.drew)
  (hst: ∀i j v w w',i≠j→i∉kill j→later ops i ops.size j=false→F j v w→R i w w'→F j v w') (hpre: ∀i w w' u,i∉bN u→Pre u w→R i w w'→Pre u w')
  (step: ∀i o a w,ops[i]? =some o→mZ ops kill F Good bN Pre a0 i o a w→wpOp P ops Q i (Es ops F Good R i o a w) a w)
  (fin: ∀(af:Nat→Value) w,Good w→(∀j o,ops[j]? =some o→kill j=[]→F j (if o.dst.isSome then af j else PR ops af o) w)→Q .normal { tmps:=final a0.tmps ops af,defers:=a0.defers } w):
  (Code.region id ops true).wp P Q a0 w0:=by
 refine wp_region_any hm (yH (a0:=a0) (R:=R) (kill:=kill) (F:=F) (Good:=Good) (bN:=bN) (Pre:=Pre) hf hst hpre step ?_ _ _ _ _ ?_ ⟨by simp,rfl,rfl, ?_,fun _ _=>rfl,h0,fun u _=>hp0 u, ?_⟩)
 ·intro listed a w h hall;rw[T9 hf h];refine fin _ _ h.good fun j o hj hk=> ?_;have hlt:j < ops.size:=(Array.getElem?_eq_some_iff.1 hj).1;have:=h.zL j o hj (hall j hlt) (by rw[hk];intro k hk;simp at hk);rw[hj];cases hd:o.dst with
  | none=>
   simp only[val,hd] at this;have e:PR ops (fun j=>match ops[j]? with | some o=>val ops a o | none=>undef) o=lk ops a o:=by
    unfold PR lk;cases hlk:link ops o with
    | none=>rfl
    | some s=>
     obtain⟨-,k,hk1, -⟩:=F9 hlk;simp only[hk1];have hkl:k < ops.size:=(Array.findIdx?_eq_some_iff_getElem.1 hk1).1;have hkd:(ops[k]).dst=some s:=by
      obtain⟨h1,h2,_⟩:=Array.findIdx?_eq_some_iff_getElem.1 hk1;simpa using h2
     simp[hkl,val,hkd]
   simpa[e] using this
  | some s=>simpa [val,hd] using this
 ·unfold left;exact Nat.le_trans (List.length_filter_le _ _) (by simp)
 ·intro j o hj hl;simp[Array.getD_eq_getD_getElem?,Array.getElem?_replicate] at hl;split at hl <;> simp at hl
 ·intro j o hj hl;simp[Array.getD_eq_getD_getElem?,Array.getElem?_replicate] at hl;split at hl <;> simp at hl
theorem Oper.Iu {P:Program} {o:Oper} {a:Act} {w:World} {K:Act→World→Prop} {Q Q':Exit→Act→World→Prop} (hq: ∀e a w,e≠ .normal→Q e a w→Q' e a w) (hh:o.wp P a w K Q):o.wp P a w K Q':=by
 unfold Oper.wp at*;generalize (execOp a.eval o).run P w=r at*;cases r with
 | ok n w'=>
  cases n <;> simp only[Oper.upon] at hh ⊢ <;>
   first
    | exact hh
    | exact Calls.mono hh (fun e w'' he=>by cases e <;> first | exact he | exact hq _ _ _ (by simp) he | (obtain⟨x,y,h⟩:=he;exact ⟨x,y,hq _ _ _ (by simp) h⟩))
 | halt x w'=>cases x <;> simp only[Oper.upon] at hh ⊢ <;> first | exact hh | exact hq _ _ _ (by simp) hh
def one (K:Act→World→Prop):Exit→Act→World→Prop
 | .normal,a,w=>K a w
 | _,_,_=>False
theorem yM {i:Nat} {o:Oper} {K:Act→World→Prop} {a:Act} {w:World} (ho:ops[i]? =some o) (h:wpList P ops (one K) [o] a w):wpOp P ops Q i K a w:=by
 unfold wpOp;rw[ho];simp only[wpList] at h;simp only;split
 ·rename_i hw;rw[if_pos hw] at h;rcases h with h | ⟨-,x,y,h⟩
  ·exact .inl (Oper.Iu (Q:=one K) (fun e a w hne h=>by cases e <;> first | exact h.elim | exact absurd rfl hne) (Oper.wp_mono (fun _ _ h=>h) h))
  ·exact h.elim
 ·rename_i hw;rw[if_neg hw] at h;exact h
def puts (af:Nat→Value):Nat→List Oper→Act→Act
 | _,[],a=>a
 | i,o::l,a=>puts af (i+1) l (a.put o.dst (af i))
theorem A4 (af:Nat→Value): ∀(l:List Oper) (i:Nat) (a:Act),(puts af i l a).defers=a.defers
 | [],_,_=>rfl
 | _::l,i,a=>by rw[puts,A4 af l,put_defers]
theorem yT (af:Nat→Value): ∀(l:List Oper) (i:Nat) (a:Act),(puts af i l a).tmps.size=a.tmps.size
 | [],_,_=>rfl
 | _::l,i,a=>by rw[puts,yT af l,BQ]
theorem yU (af:Nat→Value) (s:Nat): ∀(l:List Oper) (i:Nat) (a:Act),(∀o∈l,o.dst≠some s)→(puts af i l a).tmps.getD s undef=a.tmps.getD s undef
 | [],_,_,_=>rfl
 | o::l,i,a,h=>by
  rw[puts,yU af s l _ _ (fun x hx=>h x (List.mem_cons_of_mem _ hx)),qU,if_neg];rintro⟨h1, -⟩;exact h o List.mem_cons_self h1
theorem FU (af:Nat→Value) (s:Nat): ∀(l:List Oper) (i j:Nat) (a:Act) (o:Oper),l[j]? =some o→o.dst=some s→(∀k o',l[k]? =some o'→o'.dst=some s→k=j)→s < a.tmps.size→(puts af i l a).tmps.getD s undef=af (i+j)
 | [],_,_,_,_,h,_,_,_=>by simp at h
 | o::l,i,0,a,o',h,hd,hu,hs=>by
  simp only[List.getElem?_cons_zero,Option.some.injEq] at h;subst h;rw[puts,yU af s l,qU,if_pos ⟨hd,hs⟩,Nat.add_zero];intro x hx hxd;obtain⟨k,hk⟩:=List.mem_iff_getElem?.1 hx;have:=hu (k+1) x (by simpa using hk) hxd;omega
 | o::l,i,j+1,a,o',h,hd,hu,hs=>by
  rw[puts,FU af s l (i+1) j _ o' (by simpa using h) hd (fun k x hk hx=>by have:=hu (k+1) x (by simpa using hk) hx;omega) (by rw[BQ];exact hs)];congr 1;omega
theorem Du {af:Nat→Value} (hf:fits ops a0.tmps.size=true):({ tmps:=final a0.tmps ops af,defers:=a0.defers } :Act)=puts af 0 ops.toList a0:=by
 have h1:(puts af 0 ops.toList a0).defers=a0.defers:=A4 _ _ _ _;have h2:(puts af 0 ops.toList a0).tmps=final a0.tmps ops af:=by
  apply Array.ext
  ·rw[yT];simp [final]
  ·intro s hs hs2;have hs3:s < a0.tmps.size:=by rw[yT] at hs;exact hs
   have e:(puts af 0 ops.toList a0).tmps.getD s undef=(puts af 0 ops.toList a0).tmps[s]:=by simp[Array.getD_eq_getD_getElem?,hs]
   rw[←e];simp only[final,List.getElem_toArray,List.getElem_map,List.getElem_zipIdx,Array.getElem_toList,Nat.zero_add];cases ho:kP ops s with
   | none=>
    rw[yU]
    ·simp[Array.getD_eq_getD_getElem?,hs3]
    ·intro o ho' hd;obtain⟨k,hk⟩:=List.mem_iff_getElem?.1 ho';have:=((lG hf (by simpa using hk)).2 s hd).1;rw[ho] at this;simp at this
   | some j=>
    obtain⟨hj,h2,_⟩:=Array.findIdx?_eq_some_iff_getElem.1 ho;have hjo:ops[j]? =some ops[j]:=by simp[hj]
    rw[FU af s _ 0 j a0 ops[j] (by simp[hj]) (by simpa using h2) ?_ hs3,Nat.zero_add];intro k x hk hx;have:=((lG hf (by simpa using hk)).2 s hx).1;rw[ho] at this;simpa using this.symm
 rw[←h2,←h1]
def zR (P:Program) (ops:Array Oper) (kill:Nat→List Nat) (F:Nat→Value→World→Prop) (Good:World→Prop) (bN:Nat→List Nat) (Pre:Nat→World→Prop) (a0:Act) (R:Nat→World→World→Prop) (i:Nat) (o:Oper):Prop:=
 ∀a w,mZ ops kill F Good bN Pre a0 i o a w→wpList P ops (one (Es ops F Good R i o a w)) [o] a w
def Steps (P:Program) (ops:Array Oper) (kill:Nat→List Nat) (F:Nat→Value→World→Prop) (Good:World→Prop) (bN:Nat→List Nat) (Pre:Nat→World→Prop) (a0:Act) (R:Nat→World→World→Prop):Nat→List Oper→Prop
 | _,[]=>True
 | n,o::l=>zR P ops kill F Good bN Pre a0 R n o∧Steps P ops kill F Good bN Pre a0 R (n+1) l
theorem ud: ∀(l:List Oper) (n i:Nat) (o:Oper),l[i]? =some o→Steps P ops kill F Good bN Pre a0 R n l→zR P ops kill F Good bN Pre a0 R (n+i) o
 | [],_,_,_,h,_=>by simp at h
 | x::l,n,0,o,h,hs=>by
  simp only[List.getElem?_cons_zero,Option.some.injEq] at h;subst h;exact hs.1
 | x::l,n,i+1,o,h,hs=>by
  have:=ud l (n+1) i o (by simpa using h) hs.2;rwa[show n+1+i=n+(i+1) from by omega] at this
def Ends (ops:Array Oper) (kill:Nat→List Nat) (F:Nat→Value→World→Prop) (w:World) (af:Nat→Value):Nat→List Oper→Prop
 | _,[]=>True
 | i,o::l=>(kill i=[]→F i (if o.dst.isSome then af i else PR ops af o) w)∧Ends ops kill F w af (i+1) l
theorem EZ (af:Nat→Value) (w:World): ∀(l:List Oper) (i:Nat),(∀j o,l[j]? =some o→kill (i+j)=[]→F (i+j) (if o.dst.isSome then af (i+j) else PR ops af o) w)→Ends ops kill F w af i l
 | [],_,_=>trivial
 | o::l,i,h=>⟨fun hk=>h 0 o rfl hk,EZ af w l (i+1) fun j x hj hk=>by
   have:=h (j+1) x (by simpa using hj) (by rwa[show i+(j+1)=i+1+j from by omega]);rwa[show i+(j+1)=i+1+j from by omega] at this⟩
theorem aV {id:Nat} {w0:World} (N:Nat) (hN:a0.tmps.size=N) (bN:Nat→List Nat) (Pre:Nat→World→Prop) (kill:Nat→List Nat) (F:Nat→Value→World→Prop) (Good:World→Prop) (R:Nat→World→World→Prop) (hm:P.follows .mixedOrders=true) (hf:fits ops N=true) (h0:Good w0.drew) (hp0: ∀u,Pre u w0.drew)
  (hst: ∀i j v w w',i≠j→i∉kill j→later ops i ops.size j=false→F j v w→R i w w'→F j v w') (hpre: ∀i w w' u,i∉bN u→Pre u w→R i w w'→Pre u w')
  (steps:Steps P ops kill F Good bN Pre a0 R 0 ops.toList)
  (fin: ∀(af:Nat→Value) w,Good w→Ends ops kill F w af 0 ops.toList→Q .normal (puts af 0 ops.toList a0) w):
  (Code.region id ops true).wp P Q a0 w0:=
 wp_region bN Pre kill F Good R hm (by rw[hN];exact hf) h0 hp0 hst hpre (fun i o a w ho hG=>yM ho (by have:=ud ops.toList 0 i o (by simpa using ho) steps a w;rw [Nat.zero_add] at this;exact this hG))
  (fun af w hG hF=>by
   rw[Du (by rw[hN];exact hf)];exact fin af w hG (EZ af w _ 0 fun j o hj hk=>by simp only[Nat.zero_add] at*;exact hF j o (by simpa using hj) hk))
end Cl3
namespace Cl
variable {P:Program} {ops:Array Oper} {Q:Exit→Act→World→Prop} {a0:Act}
theorem aV {id:Nat} {w0:World} (N:Nat) (hN:a0.tmps.size=N) (bN:List Nat) (Pre:World→Prop) (kill:Nat→List Nat) (F:Nat→Value→World→Prop) (Good:World→Prop) (R:Nat→World→World→Prop) (hm:P.follows .mixedOrders=true) (hf:Cl3.fits ops N=true) (h0:Good w0.drew) (hp0:Pre w0.drew)
  (hst: ∀i j v w w',i≠j→i∉kill j→Cl3.later ops i ops.size j=false→F j v w→R i w w'→F j v w') (hpre: ∀i w w',i∉bN→Pre w→R i w w'→Pre w')
  (steps:Cl3.Steps P ops kill F Good (fun _=>bN) (fun _=>Pre) a0 R 0 ops.toList)
  (fin: ∀(af:Nat→Value) w,Good w→Cl3.Ends ops kill F w af 0 ops.toList→Q .normal (Cl3.puts af 0 ops.toList a0) w):
  (Code.region id ops true).wp P Q a0 w0:=Cl3.aV N hN (fun _=>bN) (fun _=>Pre) kill F Good R hm hf h0 (fun _=>hp0) hst (fun i w w' _=>hpre i w w') steps fin
end Cl
namespace Cl2
variable {P:Program} {ops:Array Oper} {Q:Exit→Act→World→Prop} {a0:Act}
theorem aV {id:Nat} {w0:World} (N:Nat) (hN:a0.tmps.size=N) (bN:List Nat) (Pre:World→Prop) (kill:Nat→List Nat) (F:Nat→Value→World→Prop) (Good:World→Prop) (R:Nat→World→World→Prop) (hm:P.follows .mixedOrders=true) (hf:Cl3.fits ops N=true) (h0:Good w0.drew) (hp0:Pre w0.drew)
  (hst: ∀i j v w w',i≠j→i∉kill j→Cl3.later ops i ops.size j=false→F j v w→R i w w'→F j v w') (hpre: ∀i w w',i∉bN→Pre w→R i w w'→Pre w')
  (steps:Cl3.Steps P ops kill F Good (fun _=>bN) (fun _=>Pre) a0 R 0 ops.toList)
  (fin: ∀(af:Nat→Value) w,Good w→Cl3.Ends ops kill F w af 0 ops.toList→Q .normal (Cl3.puts af 0 ops.toList a0) w):
  (Code.region id ops true).wp P Q a0 w0:=Cl.aV N hN bN Pre kill F Good R hm hf h0 hp0 hst hpre steps fin
end Cl2
end Go.Proofs.YtajgndoiddmbmaaGreatDoor
namespace Go.Proofs.YtajgndoiddmbmaaGreatDoor
set_option maxRecDepth 100000
set_option maxHeartbeats 40000000
theorem Tryz.mixed:Tryz.prog.follows .mixedOrders=true:=by kernel_rfl
end Go.Proofs.YtajgndoiddmbmaaGreatDoor
namespace Go.Proofs.YtajgndoiddmbmaaGreatDoor
set_option maxRecDepth 100000
set_option maxHeartbeats 40000000
open Go.RowKit
namespace uS
open Cl3
variable {P:Program} {ops:Array Oper} {Q:Exit→Act→World→Prop} {kill:Nat→List Nat} {F:Nat→Value→World→Prop} {Good:World→Prop} {bN:List Nat} {Pre:World→Prop} {a0:Act} {R:Nat→World→World→Prop}
def SV (Q:Exit→Act→World→Prop) (K:Act→World→Prop):Exit→Act→World→Prop
 | .normal,a,w=>K a w
 | e,a,w=>Q e a w
theorem yM {i:Nat} {o:Oper} {K:Act→World→Prop} {a:Act} {w:World} (ho:ops[i]? =some o) (h:wpList P ops (SV Q K) [o] a w):wpOp P ops Q i K a w:=by
 unfold wpOp;rw[ho];simp only[wpList] at h;simp only;split
 ·rename_i hw;rw[if_pos hw] at h;rcases h with h | ⟨h0,x,y,h⟩
  ·exact .inl (Oper.Iu (Q:=SV Q K) (fun e a w hne h=>by cases e <;> first | exact h | exact absurd rfl hne) (Oper.wp_mono (fun _ _ h=>h) h))
  ·exact .inr ⟨h0,x,y,h⟩
 ·rename_i hw;rw[if_neg hw] at h;exact h
def zR (P:Program) (ops:Array Oper) (Q:Exit→Act→World→Prop) (kill:Nat→List Nat) (F:Nat→Value→World→Prop) (Good:World→Prop) (bN:List Nat) (Pre:World→Prop) (a0:Act) (R:Nat→World→World→Prop) (i:Nat) (o:Oper):Prop:=
 ∀a w,mZ ops kill F Good (fun _=>bN) (fun _=>Pre) a0 i o a w→wpList P ops (SV Q (Es ops F Good R i o a w)) [o] a w
def Steps (P:Program) (ops:Array Oper) (Q:Exit→Act→World→Prop) (kill:Nat→List Nat) (F:Nat→Value→World→Prop) (Good:World→Prop) (bN:List Nat) (Pre:World→Prop) (a0:Act) (R:Nat→World→World→Prop):Nat→List Oper→Prop
 | _,[]=>True
 | n,o::l=>zR P ops Q kill F Good bN Pre a0 R n o∧Steps P ops Q kill F Good bN Pre a0 R (n+1) l
theorem ud: ∀(l:List Oper) (n i:Nat) (o:Oper),l[i]? =some o→Steps P ops Q kill F Good bN Pre a0 R n l→zR P ops Q kill F Good bN Pre a0 R (n+i) o
 | [],_,_,_,h,_=>by simp at h
 | x::l,n,0,o,h,hs=>by
  simp only[List.getElem?_cons_zero,Option.some.injEq] at h;subst h;exact hs.1
 | x::l,n,i+1,o,h,hs=>by
  have:=ud l (n+1) i o (by simpa using h) hs.2;rwa[show n+1+i=n+(i+1) from by omega] at this
theorem aV {id:Nat} {w0:World} (N:Nat) (hN:a0.tmps.size=N) (bN:List Nat) (Pre:World→Prop) (kill:Nat→List Nat) (F:Nat→Value→World→Prop) (Good:World→Prop) (R:Nat→World→World→Prop) (hm:P.follows .mixedOrders=true) (hf:fits ops N=true) (h0:Good w0.drew) (hp0:Pre w0.drew)
  (hst: ∀i j v w w',i≠j→i∉kill j→later ops i ops.size j=false→F j v w→R i w w'→F j v w') (hpre: ∀i w w',i∉bN→Pre w→R i w w'→Pre w')
  (steps:Steps P ops Q kill F Good bN Pre a0 R 0 ops.toList)
  (fin: ∀(af:Nat→Value) w,Good w→Cl3.Ends ops kill F w af 0 ops.toList→Q .normal (Cl3.puts af 0 ops.toList a0) w):
  (Code.region id ops true).wp P Q a0 w0:=
 Cl3.wp_region (fun _=>bN) (fun _=>Pre) kill F Good R hm (by rw[hN];exact hf) h0 (fun _=>hp0) hst (fun i w w' _=>hpre i w w') (fun i o a w ho hG=>yM ho (by have:=ud ops.toList 0 i o (by simpa using ho) steps a w;rw [Nat.zero_add] at this;exact this hG))
  (fun af w hG hF=>by
   rw[Cl3.Du (by rw[hN];exact hf)];exact fin af w hG (Cl3.EZ af w _ 0 fun j o hj hk=>by simp only[Nat.zero_add] at*;exact hF j o (by simpa using hj) hk))
end uS
end Go.Proofs.YtajgndoiddmbmaaGreatDoor
