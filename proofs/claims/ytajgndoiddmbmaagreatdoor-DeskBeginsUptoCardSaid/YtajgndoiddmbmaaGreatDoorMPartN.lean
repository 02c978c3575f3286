/- Towards what desk.Run answers. -/
import Derived.Test.YtajgndoiddmbmaaGreatDoorMFilterP
import Derived.Test.YtajgndoiddmbmaaGreatDoorMKnow5
import Derived.Laws.NewBlocks
import Derived.Lib.AppendZerosOnto
import Derived.Lib.Overlaps
import Derived.Laws.Externs
namespace Go.Proofs.YtajgndoiddmbmaaGreatDoor
open Go.RowKit
structure Pt where
 f:bB
 k:Kn
structure SP where
 p:Nat→Nat→Bool
 k:Kn
def aX (f:bB):Nat→Nat→Bool:=fun t n=>decide (t < 16)&&decide (n < 32)&&cE f t n
theorem fS {f:bB} {t n:Nat} (ht:t < 16) (hn:n < 32):aX f t n=cE f t n:=by simp[aX,ht,hn]
theorem uY {f:bB} {t n:Nat} (h: ¬(t < 16∧n < 32)):aX f t n=false:=by
 unfold aX;by_cases ht:t < 16
 ·have hn: ¬n < 32:=fun hn=>h ⟨ht,hn⟩;simp[hn]
 ·simp[ht]
def Fp (p:Nat→Nat→Bool):Prop:= ∀t n,¬(t < 16∧n < 32)→p t n=false
theorem uX (f:bB):Fp (aX f):=fun _ _ h=>uY h
theorem Fp.ext {p q:Nat→Nat→Bool} (hp:Fp p) (hq:Fp q) (h: ∀t n,t < 16→n < 32→p t n=q t n):p=q:=by
 funext t n;by_cases hr:t < 16∧n < 32
 ·exact h t n hr.1 hr.2
 ·rw[hp t n hr,hq t n hr]
def sem (x:Pt):SP:=⟨aX x.f,x.k⟩
def pV (x:Pt):Int:=if bP x.f=0 then bF x.k else bP x.f
def ptsFrom:List Pt→Int
 | []=>0
 | x::l=>if pV x=0 then ptsFrom l else pV x
def bE (l:List Pt):Int:=if 30 < l.length then 2 else ptsFrom l
structure eG (x:Pt):Prop where
 f:bP x.f=0
 k:bF x.k=0
theorem CX {x:Pt} :pV x=0↔eG x:=by
 unfold pV;constructor
 ·intro h;split at h
  ·rename_i hf;exact ⟨hf,h⟩
  ·rename_i hf;exact absurd h hf
 ·rintro⟨h1,h2⟩;rw [if_pos h1,h2]
theorem I1 {l:List Pt} :ptsFrom l=0↔ ∀x∈l,eG x:=by
 induction l with
 | nil=>simp [ptsFrom]
 | cons x l ih=>
  simp only[ptsFrom,List.mem_cons,forall_eq_or_imp];split
  ·rename_i h;rw [ih,←CX];simp [h]
  ·rename_i h;constructor
   ·intro h2;exact absurd h2 h
   ·intro h2;exact absurd (CX.2 h2.1) h
theorem NC (l:List Pt) (k:Nat) (hk:k < l.length) (h:pV l[k]=0):ptsFrom (l.drop k)=ptsFrom (l.drop (k+1)):=by
 rw[List.drop_eq_getElem_cons hk];simp only[ptsFrom];rw [if_pos h]
theorem Lj (l:List Pt) (k:Nat) (hk:k < l.length) (h:pV l[k]≠0):ptsFrom (l.drop k)=pV l[k]:=by
 rw[List.drop_eq_getElem_cons hk];simp only[ptsFrom];rw [if_neg h]
theorem fo {l:List Pt} :bE l=0↔l.length≤30∧ ∀x∈l,eG x:=by
 unfold bE;split
 ·constructor
  ·intro h;exact absurd h (by decide)
  ·rintro⟨h, -⟩;omega
 ·rw[I1];exact ⟨fun h=>⟨by omega,h⟩,fun h=>h.2⟩
structure ql (x:SP):Prop where
 p:Fp x.p
 k:gz x.k
 len:x.k.more.length≤60
def KSub (a b:Kn):Prop:= ∀s c:Int,0≤s→s < 5→1≤c→c≤1000→aU a s c=true→aU b s c=true
def AH (x:SP):Bool:=decide (nI x.p=0) || decide (pq x.k=0)
def gY (a b:SP):Bool:=(l6 fun t n=> !a.p t n || b.p t n)&&Ca a.k b.k
def pI (out:List SP) (x:SP):List SP:=if AH x || out.any (fun q=>gY x q) then out else(out.filter fun q=> !gY q x)++[x]
def dP (l:List SP):List SP:=l.foldl pI []
theorem zC (l:List SP) (x:SP):dP (l++[x])=pI (dP l) x:=by simp[dP]
def De (l:List SP) (t n:Nat) (s c:Int):Bool:=l.any fun x=>x.p t n&&aU x.k s c
theorem LA {out:List SP} {x y:SP} (h:y∈pI out x):y∈out∨y=x:=by
 unfold pI at h;split at h
 ·exact .inl h
 ·rw[List.mem_append,List.mem_singleton] at h;exact h.imp (fun h=>(List.mem_filter.1 h).1) id
theorem Xz (l:List SP): ∀x∈dP l,x∈l:=by
 refine lT (p:=fun l=> ∀x∈dP l,x∈l) ?_ ?_ l
 ·intro x hx;simp [dP] at hx
 ·intro l y ih x hx;rw[zC] at hx;rcases LA hx with h | rfl
  ·exact List.mem_append_left _ (ih x h)
  ·simp
theorem LB (out:List SP) (x:SP):(pI out x).length≤out.length+1:=by
 unfold pI;split
 ·omega
 ·rw[List.length_append];have:=List.length_filter_le (fun q=> !gY q x) out;simp;exact this
theorem EY (l:List SP):(dP l).length≤l.length:=by
 refine lT (p:=fun l=>(dP l).length≤l.length) (by simp[dP]) ?_ l;intro l x ih;rw[zC,List.length_append];have:=LB (dP l) x;simp;omega
theorem JO {l:List SP} (h: ∀x∈l,ql x): ∀x∈dP l,ql x:=fun x hx=>h x (Xz l x hx)
def cN (l:List SP) (q:Nat→Nat→Bool):List SP:=dP (l.map fun x=>⟨fun t n=>x.p t n&&q t n,x.k⟩)
theorem PL {l:List SP} {q:Nat→Nat→Bool} (h: ∀x∈l,ql x): ∀x∈l.map (fun x=>(⟨fun t n=>x.p t n&&q t n,x.k⟩:SP)),ql x:=by
 intro y hy;obtain⟨x,hx,rfl⟩:=List.mem_map.1 hy;exact⟨fun t n hr=>by simp only;rw [(h x hx).p t n hr];rfl,(h x hx).k,(h x hx).len⟩
theorem Lf {w:World} {g k:Nat} {cs:Array Value} (h:g≠k):(w.setRow g cs).heap[k]? =w.heap[k]? :=by
 unfold World.setRow;simp only;rw[Array.getElem?_modify,if_neg h]
structure dD (w w':World) (g:Nat):Prop where
 os:w'.os=w.os
 tape:w'.tape=w.tape
 output:w'.output=w.output
 size:w'.heap.size=w.heap.size
 other: ∀k,k≠g→w'.heap[k]? =w.heap[k]?
theorem dD.refl (w:World) (g:Nat):dD w w g:=⟨rfl,rfl,rfl,rfl,fun _ _=>rfl⟩
theorem dD.setRow (w:World) (g:Nat) (cs:Array Value):dD w (w.setRow g cs) g:=⟨rfl,rfl,rfl,setRow_size _ _ _,fun _ hk=>Lf (Ne.symm hk)⟩
theorem dD.below {B g:Nat} {w0 w w':World} (h:dD w w' g) (hb:Below B w0 w) (hg:B≤g):Below B w0 w':=
 hb.trans ⟨h.os,h.tape,h.output,by rw[h.size];exact Nat.le_refl _,fun k hk=>h.other k (by omega)⟩
theorem FR {P:Program} (w:World) (dT sT ty elem:TypeId) (sz:Nat) (hu:P.underlying dT=some (.slice elem)) (hs:(P.info? elem).map (·.size)=some sz)
  (dp sp:Option Addr) (dLen dCap sLen sCap:Nat) (g off:Nat) (cur:List Value) (t:TypeId) (hg:w.heap[g]? =some (.cells cur.toArray t (0,0))) (n:Nat) (cs:List Value) (hn:n=Nat.min sLen dLen) (hl:cs.length=n*sz)
  (hpos:0 < n→dp=some ⟨g,off,none⟩∧ ∃ad,sp=some ad∧ ∀j v,cs[j]? =some v→w.cell? (ad.add j)=some v)
  (hfit:off+cs.length≤cur.length) (h1: ∀v∈cs,v.oneCell'=true):
  ∃w',(Builtin.copy_ #[dT,sT] ty #[.slice dp dLen dCap, .slice sp sLen sCap]).run P w= .ok (goInt n) w'∧w'.heap[g]? =some (.cells (splice cur off cs).toArray t (0,0))∧dD w w' g:=by
 obtain⟨i,hi⟩: ∃i,P.info? elem=some i:=by
  cases hq:P.info? elem with
  | none=>simp [hq] at hs
  | some i=>exact ⟨i,rfl⟩
 have hsz:i.size=sz:=by simpa[hi] using hs
 rcases Nat.eq_zero_or_pos n with h0 | h0
 ·subst h0;obtain rfl:cs=[]:=List.eq_nil_of_length_eq_zero (by simpa using hl);refine⟨w, ?_,by simpa[splice] using hg,dD.refl _ _⟩;have hll: ∀(x:Addr),(loadCells x 0).run P w= .ok #[] w:=fun x=>by simpa using run_loadCells_list (P:=P) w x [] (by simp)
  cases dp <;> cases sp <;> simp[Builtin.copy_,run_underlying hu,Builtin.lenOf,Builtin.firstCells,sizeOf,typeInfo,hi,←hn,storeCells,hll]
 ·obtain⟨rfl,ad,rfl,hsrc⟩:=hpos h0;have hll:=run_loadCells_list (P:=P) w ad cs hsrc;rw[hl] at hll;have hst:=run_storeCells_at P g off t cs 0 cur.toArray w hg (by simpa using hfit) h1;refine⟨_, ?_, ?_,dD.setRow w g (splice cur off cs).toArray⟩
  ·simp[Builtin.copy_,run_underlying hu,Builtin.lenOf,Builtin.firstCells,sizeOf,typeInfo,hi,hsz,←hn,hll,hst,splice]
  ·exact setRow_heap w g _ _ t _ hg
theorem yF {P:Program} {w:World} {ops:Array Oper} {rest:List Oper} {o:Oper} {a:Act} {Q:Exit→Act→World→Prop} (hgd:o.guard=none) (d s:Operand) (dT sT:TypeId)
  (ho:o.op= .call { callee:= .builtin .copy,args:= #[d,s],argTypes:= #[dT,sT] }) (elem:TypeId) (sz:Nat) (hu:P.underlying dT=some (.slice elem)) (hs:(P.info? elem).map (·.size)=some sz)
  (dp sp:Option Addr) (dLen dCap sLen sCap:Nat) (hd:a.eval d= .slice dp dLen dCap) (hx:a.eval s= .slice sp sLen sCap)
  (g off:Nat) (cur:List Value) (t:TypeId) (hg:w.heap[g]? =some (.cells cur.toArray t (0,0))) (n:Nat) (cs:List Value) (hn:n=Nat.min sLen dLen) (hl:cs.length=n*sz)
  (hpos:0 < n→dp=some ⟨g,off,none⟩∧ ∃ad,sp=some ad∧ ∀j v,cs[j]? =some v→w.cell? (ad.add j)=some v)
  (hfit:off+cs.length≤cur.length) (h1: ∀v∈cs,v.oneCell'=true)
  (h: ∀w',Hd (w'.heap[g]? =some (.cells (splice cur off cs).toArray t (0,0)))→dD w w' g→wpList P ops Q rest (a.put o.dst (goInt n)) w'):wpList P ops Q (o::rest) a w:=by
 obtain⟨w',hr,h2,h3⟩:=FR w dT sT o.type elem sz hu hs dp sp dLen dCap sLen sCap g off cur t hg n cs hn hl hpos hfit h1;refine wpList_plain hgd fun K hK=> ?_;unfold Oper.wp execOp;simp only[ho,resolve,invoke,builtin,Sem.run_bind,Sem.run_pure,Result.andThen_ok,List.map_toArray,List.map_cons,List.map_nil,hd,hx,hr];exact hK _ _ (h w' h2 h3)
theorem CI {P:Program} {ops:Array Oper} {o:Oper} {a:Act} {w:World} {K:Act→World→Prop} {Q:Exit→Act→World→Prop} {E:Prop} (hgd:o.guard=none) (d s:Operand) (dT sT:TypeId)
  (ho:o.op= .call { callee:= .builtin .copy,args:= #[d,s],argTypes:= #[dT,sT] }) (elem:TypeId) (sz:Nat) (hu:P.underlying dT=some (.slice elem)) (hs:(P.info? elem).map (·.size)=some sz)
  (dp sp:Option Addr) (dLen dCap sLen sCap:Nat) (hd:a.eval d= .slice dp dLen dCap) (hx:a.eval s= .slice sp sLen sCap)
  (g off:Nat) (cur:List Value) (t:TypeId) (hg:w.heap[g]? =some (.cells cur.toArray t (0,0))) (n:Nat) (cs:List Value) (hn:n=Nat.min sLen dLen) (hl:cs.length=n*sz)
  (hpos:0 < n→dp=some ⟨g,off,none⟩∧ ∃ad,sp=some ad∧ ∀j v,cs[j]? =some v→w.cell? (ad.add j)=some v)
  (hfit:off+cs.length≤cur.length) (h1: ∀v∈cs,v.oneCell'=true)
  (h: ∀w',Hd (w'.heap[g]? =some (.cells (splice cur off cs).toArray t (0,0)))→dD w w' g→K (a.put o.dst (goInt n)) w'):
  if Region.wanted o (yielded ops a.tmps)=true then Oper.wp P o a w K Q else E:=by
 have hw:Region.wanted o (yielded ops a.tmps)=true:=by simp[Region.wanted,hgd]
 rw[if_pos hw];obtain⟨w',hr,h2,h3⟩:=FR w dT sT o.type elem sz hu hs dp sp dLen dCap sLen sCap g off cur t hg n cs hn hl hpos hfit h1;unfold Oper.wp execOp;simp only[ho,resolve,invoke,builtin,Sem.run_bind,Sem.run_pure,Result.andThen_ok,List.map_toArray,List.map_cons,List.map_nil,hd,hx,hr];exact h w' h2 h3
theorem pN {P:Program} {ops:Array Oper} {rest:List Oper} {o:Oper} {a:Act} {w:World} {Q:Exit→Act→World→Prop} (hgd:o.guard=none) (ty:TypeId) (x y:Operand) (ho:o.op= .store ty x y)
  (g off:Nat) (cells:Array Value) (hx:a.eval x= .pointer (some ⟨g,off,none⟩)) (hy:a.eval y= .agg cells)
  (t:TypeId) (cur:List Value) (hg:w.heap[g]? =some (.cells cur.toArray t (0,0))) (hi:(P.info? ty).map (·.size)=some cells.size)
  (hfit:off+cells.size≤cur.length) (h1: ∀v∈cells.toList,v.oneCell'=true)
  (h: ∀w',Hd (w'.heap[g]? =some (.cells (splice cur off cells.toList).toArray t (0,0)))→dD w w' g→wpList P ops Q rest (a.put o.dst undef) w'):wpList P ops Q (o::rest) a w:=by
 have hst:=run_storeCells_at P g off t cells.toList 0 cur.toArray w hg (by simpa using hfit) h1;obtain⟨i,hq⟩: ∃i,P.info? ty=some i:=by
  cases hq:P.info? ty with
  | none=>simp [hq] at hi
  | some i=>exact ⟨i,rfl⟩
 have hs:cells.size=i.size:=by simp[hq] at hi;omega
 have hr:(storeVar ty ⟨g,off,none⟩ (.agg cells)).run P w= .ok () (w.setRow g (splice cur off cells.toList).toArray):=by
  simp[storeVar,sizeOf,typeInfo,hq,Value.cells,hs,hst,splice]
 refine wpList_plain hgd fun K hK=> ?_;unfold Oper.wp execOp;simp only[ho,hx,hy,Instr.storeAt,Instr.sureAddr,Sem.run_bind,Sem.run_pure,Result.andThen_ok,hr];exact hK _ _ (h _ (setRow_heap w g _ _ t _ hg) (dD.setRow _ _ _))
theorem oL {P:Program} {w:World} {ops:Array Oper} {rest:List Oper} {o:Oper} {a:Act} {Q:Exit→Act→World→Prop} (hgd:o.guard=none) (d:Operand) (dT:TypeId)
  (ho:o.op= .call { callee:= .builtin .clear,args:= #[d],argTypes:= #[dT] }) (elem:TypeId) (z:Value) (sz bytes:Nat) (hu:P.underlying dT=some (.slice elem)) (hs:(P.info? elem).map (fun i=>(i.zero,i.size,i.bytes))=some (some z,sz,bytes))
  (hz:z.cells.size=sz) (hz1: ∀v∈z.cells.toList,v.oneCell'=true) (g off n cap:Nat) (sp:Option Addr) (hsp:0 < n→sp=some ⟨g,off,none⟩) (hd:a.eval d= .slice sp n cap)
  (cur:List Value) (t:TypeId) (hg:w.heap[g]? =some (.cells cur.toArray t (0,0))) (hfit:off+n*sz≤cur.length)
  (h: ∀w' zs,Hd (w'.heap[g]? =some (.cells (splice cur off zs).toArray t (0,0)))→zs.length=n*sz→dD w w' g→wpList P ops Q rest (a.put o.dst (.tuple #[])) w'):wpList P ops Q (o::rest) a w:=by
 obtain⟨i,hi,hz0,hsize,hby⟩:=info_parts hs;have hr: ∃w' zs,(Builtin.clear_ #[dT] o.type #[.slice sp n cap]).run P w= .ok (.tuple #[]) w'∧w'.heap[g]? =some (.cells (splice cur off zs).toArray t (0,0))∧zs.length=n*sz∧dD w w' g:=by
  cases n with
  | zero=>
   refine⟨w,[], ?_,by simpa[splice] using hg,by simp,dD.refl _ _⟩;cases sp <;> simp[Builtin.clear_,run_underlying hu]
  | succ m=>
   obtain rfl:=hsp (by omega);have hzl:(Builtin.zeroCells z.cells (m+1)).toList.length=(m+1)*sz:=by simp[Builtin.zeroCells,hz]
   have hz2: ∀v∈(Builtin.zeroCells z.cells (m+1)).toList,v.oneCell'=true:=by
    intro v hv;simp only[Builtin.zeroCells,Array.toList_map,List.mem_map] at hv;obtain⟨k,hk,rfl⟩:=hv;have hk2:k < (m+1)*z.cells.size:=by simpa using hk
    have hpos:0 < z.cells.size:=by
     rcases Nat.eq_zero_or_pos z.cells.size with h | h
     ·rw[h] at hk2;simp at hk2
     ·exact h
    have hlt:=Nat.mod_lt k hpos;rw[getElem!_pos z.cells _ hlt];exact hz1 _ (Array.getElem_mem_toList hlt)
   have hst:=run_storeCells_at P g off t (Builtin.zeroCells z.cells (m+1)).toList 0 cur.toArray w hg (by rw[hzl];simpa using hfit) hz2;refine⟨_,(Builtin.zeroCells z.cells (m+1)).toList, ?_, ?_,hzl,dD.setRow w g (splice cur off (Builtin.zeroCells z.cells (m+1)).toList).toArray⟩
   ·simp[Builtin.clear_,run_underlying hu,zeroValue,typeInfo,hi,hz0,hst,splice]
   ·exact setRow_heap w g _ _ t _ hg
 obtain⟨w',zs,hr,h2,h3,h4⟩:=hr;refine wpList_plain hgd fun K hK=> ?_;unfold Oper.wp execOp;simp only[ho,resolve,invoke,builtin,Sem.run_bind,Sem.run_pure,Result.andThen_ok,List.map_toArray,List.map_cons,List.map_nil,hd,hr];exact hK _ _ (h w' zs h2 h3 h4)
theorem yE {P:Program} {w:World} {ops:Array Oper} {rest:List Oper} {o:Oper} {a:Act} {Q:Exit→Act→World→Prop} (hgd:o.guard=none) (s x:Operand) (t tn:TypeId)
  (ho:o.op= .call { callee:= .builtin .append,args:= #[s,x],argTypes:= #[t,tn] }) (e:TypeId) (z:Value) (sz bytes:Nat) (ht:P.underlying t=some (.slice e)) (htn:P.underlying tn=some (.int .i64))
  (hinfo:(P.info? e).map (fun i=>(i.zero,i.size,i.bytes))=some (some z,sz,bytes)) (hzs:z.cells.size=sz) (hs0:0 < sz)
  (ad:Addr) (i k cap:Nat) (y:Int) (hs:a.eval s= .slice (some ad) i cap) (hx:a.eval x= .int .i64 y) (hy:y=(k:Int)) (olds:List Value) (hl:olds.length=i*sz) (hold: ∀j u,olds[j]? =some u→w.cell? (ad.add j)=some u)
  (h0:0 < k) (hg:cap < i+k) (hb:(i+k)*bytes≤140737488355328) (h63:i+k≤1000000)
  (h: ∀w' G cur,Hd (w'.heap[w.heap.size]? =some (.cells (List.toArray cur) e (0,0)))→cur.take (i*sz)=olds→cur.length=G*sz→i+k≤G→G≤maxLen→Below w.heap.size w w'→wpList P ops Q rest (a.put o.dst (.slice (some ⟨w.heap.size,0,none⟩) (i+k) G)) w'):wpList P ops Q (o::rest) a w:=by
 obtain⟨inf,hi,hz0,hsize,hby⟩:=info_parts hinfo;subst hsize hby hy;have hkb:k*inf.bytes≤(i+k)*inf.bytes:=Nat.mul_le_mul_right _ (by omega);have hr:=Lib.run_append_grow_zeros (P:=P) w t tn o.type e inf z .i64 .i64 ht htn hi hz0 (some ad) i cap olds (run_firstCells_some w.drew inf.size i ad i cap olds hl hold) k h0 hs0 hg (by omega) (by omega) (growslice_fits hg hb);have A9:i+k≤grownCap w (i+k) cap e:=grownCap_ge w _ _ _;have wP:=grownCap_le_maxLen w (i+k) cap e (by unfold maxLen;omega);generalize grownCap w (i+k) cap e=G at*;refine Lib.wpList_append_run w hgd s x t tn ho _ _ hs hx _ _ hr (h _ G (olds++(Builtin.zeroCells z.cells k).toList++(Builtin.zeroCells z.cells (G - (i+k))).toList) ?_ ?_ ?_ A9 wP ?_)
 ·refine(show _=_ from ?_);have e1:(olds++(Builtin.zeroCells z.cells k).toList++(Builtin.zeroCells z.cells (G - (i+k))).toList).toArray=olds.toArray++Builtin.zeroCells z.cells k++Builtin.zeroCells z.cells (G - (i+k)):=by simp
  rw[e1];exact heap_alloc_new w.drew _
 ·rw[List.append_assoc,←hl,List.take_left]
 ·have e2: ∀m,(Builtin.zeroCells z.cells m).toList.length=m*inf.size:=fun m=>by simp[Builtin.zeroCells,hzs]
  rw[List.length_append,List.length_append,e2,e2,hl,←Nat.add_mul,←Nat.add_mul];congr 1;omega
 ·have hb2:=aG (W:=w.drew) (.cells (olds.toArray++Builtin.zeroCells z.cells k++Builtin.zeroCells z.cells (G - (i+k))) e);exact⟨hb2.os,hb2.tape,hb2.output,hb2.size,hb2.block⟩
theorem Nh {α: Type} (L X C D:List α) (a:Nat) (h:X.length=a) (hL:L.take a=X) (hl:a+C.length+D.length≤L.length):(splice (splice L (a+C.length) D) a C).take (a+C.length+D.length)=X++C++D:=by
 have hX:L=X++L.drop a:=by rw[←hL,List.take_append_drop]
 generalize L.drop a=R at hX;subst hX;have hR:C.length+D.length≤R.length:=by simp at hl;omega
 subst h;unfold splice;apply List.ext_getElem?;intro j;simp only[List.getElem?_take,List.getElem?_append,List.getElem?_drop,List.length_take,List.length_append,List.length_drop];repeat' split
 all_goals (try omega)
 all_goals (first | rfl | (congr 1;omega) | (exact(List.getElem?_eq_none (by omega)).symm))
theorem Lb {α: Type} (L X C D:List α) (a:Nat) (h:X.length=a) (hL:L.take a=X) (hl:a+C.length+D.length≤L.length):(splice (splice L a C) (a+C.length) D).take (a+C.length+D.length)=X++C++D:=by
 have hX:L=X++L.drop a:=by rw[←hL,List.take_append_drop]
 generalize L.drop a=R at hX;subst hX;have hR:C.length+D.length≤R.length:=by simp at hl;omega
 subst h;unfold splice;apply List.ext_getElem?;intro j;simp only[List.getElem?_take,List.getElem?_append,List.getElem?_drop,List.length_take,List.length_append,List.length_drop];repeat' split
 all_goals (try omega)
 all_goals (first | rfl | (congr 1;omega) | (exact(List.getElem?_eq_none (by omega)).symm))
end Go.Proofs.YtajgndoiddmbmaaGreatDoor
