/- Towards what desk.Run answers. -/
import Derived.WalkKit
import Derived.WalkSpells
import Derived.WalkLawsBesides
import Derived.Handy
import Derived.Lib.Hide
import Derived.Laws.AppendOwnNone
import Derived.WalkSmall
import Derived.Laws.OwnMore
import Derived.Laws.MakeOwn
import Derived.Laws.Tables
import Derived.Laws.Rows
import Derived.Laws.CopyOwn
namespace Go.Proofs.YtajgndoiddmbmaaGreatDoor
open Go.RowKit
def Hd (p:Prop):Prop:=p
theorem jD {p:Prop} (h:p):Hd p:=h
theorem Hd.o {p:Prop} (h:Hd p):p:=h
theorem br {b:Nat} {w:World}:Below b w w:=Below.refl b w
theorem zd {p q:Prop} (h:p) (k:¬p:=by decide):q:=absurd h k
theorem gd {a:Array Value} {k:Nat} {v:Value} (h:a.getD k undef=v):a[k]?.getD undef=v:=by rw[←Array.getD_eq_getD_getElem?];exact h
theorem gr {a:Act} (s:Nat) {b:Value} (h:a.tmps.getD s undef=b):a.tmps.getD s undef=b:=h
theorem gs {a:Act} (s:Nat) {b:Value} (h:a.tmps.getD s undef=b):a.tmps.getD s undef=b∧a.tmps[s]?.getD undef=b:=⟨h,gd h⟩
theorem gq {α:Type} {p:Prop} {b:α} (a:α) (h:p→a=b) (k:p:=by rfl):a=b:=h k
def aF (w:World) (v:Value) (n:Nat) (xs:List Value):Prop:=
 ∃a cap,v= .slice a n cap∧n≤cap∧n≤140737488355328∧(a=none→cap=0)∧
  (xs=[]∨ ∃b off,a=some ⟨b,off,none⟩∧b < w.heap.size∧ ∀j x,xs[j]? =some x→w.cell? ⟨b,off+j,none⟩=some x)
theorem aF.below {w w':World} {v:Value} {n:Nat} {xs:List Value} (h:aF w v n xs) (hb:Below w.heap.size w w'):aF w' v n xs:=by
 obtain⟨a,cap,hv,hn,hm,h0,h⟩:=h;refine⟨a,cap,hv,hn,hm,h0, ?_⟩;rcases h with h | ⟨b,off,ha,hlt,hc⟩
 ·exact .inl h
 ·exact .inr ⟨b,off,ha,Nat.lt_of_lt_of_le hlt hb.size,fun j x hj=>(hb.cell (p:=⟨b,off+j,none⟩) hlt).trans (hc j x hj)⟩
theorem aF.nil (w:World):aF w (.slice none 0 0) 0 []:=⟨none,0,rfl,Nat.le_refl _,by omega,fun _=>rfl, .inl rfl⟩
theorem aF.fZ {w:World} {base e size n:Nat} {v:Value} {xs:List Value} (h:w.ownsRow base e size v n xs) (hm:n≤140737488355328):aF w v n xs:=by
 have hl:=h;obtain⟨h1,h2⟩:=h;rcases h2 with⟨rfl,rfl⟩ | ⟨g,cap,cur,rfl,hb,hg,hn,hc,hs,ht⟩
 ·have:xs=[]:=List.eq_nil_of_length_eq_zero (by simpa using h1);subst this;exact aF.nil _
 ·refine⟨_,_,rfl,hn,hm,fun h=>by simp at h, .inr ⟨g,0,rfl,(Array.getElem?_eq_some_iff.1 hg).1,fun j x hj=> ?_⟩⟩;have:=hl.cells (g:=g) rfl j x hj;rwa[Addr.add_lit] at this
theorem aF.mk {w:World} {b off n cap:Nat} {xs:List Value} (hn:n≤cap) (hm:n≤140737488355328) (hb:b < w.heap.size)
  (hc: ∀j x,xs[j]? =some x→w.cell? ⟨b,off+j,none⟩=some x):aF w (.slice (some ⟨b,off,none⟩) n cap) n xs:=
 ⟨_,_,rfl,hn,hm,fun h=>by simp at h, .inr ⟨b,off,rfl,hb,hc⟩⟩
theorem aj {w w1 w2:World} (h:Below w.heap.size w w1) (k:Below w1.heap.size w1 w2):Below w.heap.size w w2:=h.trans (k.mono h.size)
theorem dU {a b:Bool} (h:a=b):Ending.returned (.bool a)= .returned (.bool b):=by rw[h]
theorem fW {v:Value} {k:IntKind} {a b:Int} (h:a=b):Ending.returned (.tuple #[v, .int k a])= .returned (.tuple #[v, .int k b]):=by rw[h]
theorem gZ {x y:Bool} {k:IntKind} {a b:Int} (h':x=y) (h:a=b):Ending.returned (.tuple #[.bool x, .int k a])= .returned (.tuple #[.bool y, .int k b]):=by rw[h,h']
theorem yR {j k:IntKind} {x y a b:Int} (h':x=y) (h:a=b):Ending.returned (.tuple #[.int j x, .int k a])= .returned (.tuple #[.int j y, .int k b]):=by rw[h,h']
theorem bw {k:IntKind} {a b:Int} (h:a=b):Ending.returned (.int k a)= .returned (.int k b):=by rw[h]
theorem aI {w1 w2:World} {base e size n:Nat} {v:Value} {xs:List Value} (h:w1.ownsRow base e size v n xs) (hb:Below w1.heap.size w1 w2):w2.ownsRow base e size v n xs:=by
 refine⟨h.1, ?_⟩;rcases h.2 with hn | ⟨g,cap,cur,rfl,hb1,hgg,rest⟩
 ·exact .inl hn
 ·exact .inr ⟨g,cap,cur,rfl,hb1,by rw[hb.block g (Array.getElem?_eq_some_iff.1 hgg).1];exact hgg,rest⟩
theorem ay {w1:World} {base e size n:Nat} {v:Value} {xs:List Value} (h:w1.ownsRow base e size v n xs): ∃a cap,v= .slice a n cap:=by
 rcases h.2 with⟨rfl,rfl⟩ | ⟨g,cap,cur,rfl,_⟩
 ·exact⟨_,_,rfl⟩
 ·exact⟨_,_,rfl⟩
theorem sZ {P:Program} {w0 W:World} {ops:Array Oper} {rest:List Oper} {o:Oper} {a:Act} {Q:Exit→Act→World→Prop} (hgd:o.guard=none) (s x:Operand) (t:TypeId)
  (ho:o.op= .call { callee:= .builtin .append,args:= #[s,x],argTypes:= #[t,t] })
  (base:Nat) (e:TypeId) (z:Value) (size bytes:Nat) (ht:P.underlying t=some (.slice e)) (hinfo:(P.info? e).map (fun i=>(i.zero,i.size,i.bytes))=some (some z,size,bytes)) (hzs:z.cells.size=size) (hsz:0 < size)
  (v:Value) (n:Nat) (xs:List Value) (hs:a.eval s=v) (hown:W.ownsRow base e size v n xs) (news:List Value) (hl:news.length=size) (h1: ∀u∈news,u.oneCell'=true)
  (hx:a.eval x= .slice (some ⟨W.heap.size,0,none⟩) 1 1) (hbel:Below base w0 W) (hbase:base≤W.heap.size) (hm:n+1≤maxLen) (hn:(n+1)*bytes≤140737488355328)
  (hK: ∀v' w',w'.ownsRow base e size v' (n+1) (xs++news)→Below base w0 w'→wpList P ops Q rest (a.put o.dst v') w'):
  wpList P ops Q (o::rest) a (W.alloc (.cells news.toArray e)):=by
 obtain⟨i,hi,hz,hsize,hby⟩:=info_parts hinfo;refine wpList_append_own _ hgd s x t ho base e i z size bytes ht hi hz hsize hby hzs hsz v n xs hs (hown.alloc _) ⟨W.heap.size,0,none⟩ 1 1 news hx (by omega) ?_ h1 hm hn (by simp;omega) ?_
 ·intro j u hj;rw[Addr.add_lit,Nat.zero_add,World.cell?_alloc_at _ _ _ _ rfl];simpa using hj
 ·intro v' w' hown' hg _;exact hK v' w' hown' ((hbel.alloc hbase _).grown hg (by simp;omega) (fun k hk=>(hown.lt k hk).1))
theorem aF.shape {w:World} {v:Value} {n:Nat} {xs:List Value} (h:aF w v n xs): ∃a cap,v= .slice a n cap:=by
 obtain⟨a,cap,hv,_⟩:=h;exact ⟨a,cap,hv⟩
theorem fH {P:Program} {w0 W:World} {ops:Array Oper} {rest:List Oper} {o:Oper} {a:Act} {Q:Exit→Act→World→Prop} (hgd:o.guard=none) (s x:Operand) (t:TypeId)
  (ho:o.op= .call { callee:= .builtin .append,args:= #[s,x],argTypes:= #[t,t] })
  (base:Nat) (e:TypeId) (z:Value) (size bytes:Nat) (ht:P.underlying t=some (.slice e)) (hinfo:(P.info? e).map (fun i=>(i.zero,i.size,i.bytes))=some (some z,size,bytes)) (hzs:z.cells.size=size) (hsz:0 < size)
  (v:Value) (n:Nat) (xs:List Value) (hs:a.eval s=v) (hown:W.ownsRow base e size v n xs) (vx:Value) (m:Nat) (ys:List Value) (hx:a.eval x=vx) (hc:aF W vx m ys) (hl:ys.length=m*size) (h1: ∀u∈ys,u.oneCell'=true)
  (hbel:Below base w0 W) (hbase:base≤W.heap.size) (hm:n+m≤maxLen) (hn:(n+m)*bytes≤140737488355328)
  (hK: ∀v' w',w'.ownsRow base e size v' (n+m) (xs++ys)→Below base w0 w'→wpList P ops Q rest (a.put o.dst v') w'):
  wpList P ops Q (o::rest) a W:=by
 obtain⟨i,hi,hz,hsize,hby⟩:=info_parts hinfo;obtain⟨ad,cap,rfl,hle, -,h0,hcs⟩:=hc;cases ad with
 | none=>
  obtain rfl:=h0 rfl;obtain rfl:m=0:=by omega
  obtain rfl:ys=[]:=List.eq_nil_of_length_eq_zero (by omega);exact wpList_append_own_none hgd s x t ho base e i size ht hi v n xs hs hown hx (by simpa using hK v W (by simpa using hown) hbel)
 | some ad=>
  refine wpList_append_own _ hgd s x t ho base e i z size bytes ht hi hz hsize hby hzs hsz v n xs hs hown ad m cap ys hx hl ?_ h1 hm hn hbase ?_
  ·intro j u hj;rcases hcs with rfl | ⟨b,off,hab, -,hcc⟩
   ·simp at hj
   ·simp only[Option.some.injEq] at hab;subst hab;rw[Addr.add_lit];exact hcc j u hj
  ·intro v' w' hown' hg _;exact hK v' w' hown' (hbel.grown hg hbase (fun k hk=>(hown.lt k hk).1))
theorem aG {W:World} (o:Obj):Below W.heap.size W (W.alloc o):=(br).alloc (Nat.le_refl _) o
theorem zO {W W':World} {o:Obj} (h:Below (W.alloc o).heap.size (W.alloc o) W'):Below W.heap.size W W':=
 ((br).alloc (Nat.le_refl _) o).trans (h.mono (by simp))
theorem ah {W W':World} (hb:Below W.heap.size W W') {p:Addr} {v:Value} (h:W.cell? p=some v):W'.cell? p=some v:=
 (hb.cell (p:=p) (World.block_lt_of_cell? W p h)).trans h
theorem cat (w:World) (cs:Array Value) (t:TypeId) (j:Nat) (v:Value) (h:cs[j]? =some v) (n:Nat) (hn:n=w.heap.size):(w.alloc (.cells cs t)).cell? ⟨n,j,none⟩=some v:=by
 rw[World.cell?_alloc_at _ _ _ _ hn];exact h
theorem Ii {w:World} (o:Obj) {n j:Nat} {v:Value} (h:w.cell? ⟨n,j,none⟩=some v):(w.alloc o).cell? ⟨n,j,none⟩=some v:=
 ah (aG o) h
theorem VI {W W':World} (hb:Below W.heap.size W W') {p:Addr} {v:Value} (h:W.cell? p=some v) (hf:W.frozen? p=false):W'.frozen? p=false:=
 (hb.frozen (p:=p) (World.block_lt_of_cell? W p h)).trans hf
theorem fat (w:World) (cs:Array Value) (t:TypeId) (j n:Nat) (hn:n=w.heap.size):(w.alloc (.cells cs t)).frozen? ⟨n,j,none⟩=false:=World.frozen?_alloc_at _ _ _ _ hn
theorem blt {W:World} {b o:Nat} {v:Value} (h:W.cell? ⟨b,o,none⟩=some v):b < W.heap.size:=World.block_lt_of_cell? W ⟨b,o,none⟩ h
theorem rQ {P:Program} {w0 W:World} {ops:Array Oper} {rest:List Oper} {o:Oper} {a:Act} {Q:Exit→Act→World→Prop} (hgd:o.guard=none) (s x:Operand) (t:TypeId)
  (ho:o.op= .call { callee:= .builtin .append,args:= #[s,x],argTypes:= #[t,t] })
  (base:Nat) (e:TypeId) (z:Value) (size bytes:Nat) (ht:P.underlying t=some (.slice e)) (hinfo:(P.info? e).map (fun i=>(i.zero,i.size,i.bytes))=some (some z,size,bytes)) (hzs:z.cells.size=size) (hsz:0 < size)
  (v:Value) (n:Nat) (xs:List Value) (hs:a.eval s=v) (hown:W.ownsRow base e size v n xs) (news:List Value) (hl:news.length=size) (h1: ∀u∈news,u.oneCell'=true)
  (hx:a.eval x= .slice (some ⟨W.heap.size,0,none⟩) 1 1) (_hbel:Below w0.heap.size w0 W) (hbase:base≤W.heap.size) (hm:n+1≤maxLen) (hn:(n+1)*bytes≤140737488355328)
  (hK: ∀v' w',w'.ownsRow base e size v' (n+1) (xs++news)→W.grownBy w' v.ownBlock→wpList P ops Q rest (a.put o.dst v') w'):
  wpList P ops Q (o::rest) a (W.alloc (.cells news.toArray e)):=by
 obtain⟨i,hi,hz,hsize,hby⟩:=info_parts hinfo;refine wpList_append_own _ hgd s x t ho base e i z size bytes ht hi hz hsize hby hzs hsz v n xs hs (hown.alloc _) ⟨W.heap.size,0,none⟩ 1 1 news hx (by omega) ?_ h1 hm hn (by simp;omega) ?_
 ·intro j u hj;rw[Addr.add_lit,Nat.zero_add,World.cell?_alloc_at _ _ _ _ rfl];simpa using hj
 ·intro v' w' hown' hg _;refine hK v' w' hown' ⟨hg.os,hg.tape,hg.output,by have:=hg.size;simp at this;omega,fun k hk hne=> ?_⟩;rw[hg.block k (by simp;omega) hne];exact Go.heap_alloc_old W _ hk
theorem Dd (W:World) (base size:Nat) (e:TypeId) (cs:Array Value) (n k:Nat) (hk:k=W.heap.size) (hb:base≤W.heap.size) (hm:n≤maxLen) (hs:cs.size=n*size):
  (W.alloc (.cells cs e)).ownsRow base e size (.slice (some ⟨k,0,none⟩) n n) n cs.toList:=by
 subst hk;exact World.ownsRow_lit W cs n hb hm hs
theorem xC {P:Program} (W:World) (t e:TypeId) (z:Value) (size bytes:Nat) (ht:P.underlying t=some (.slice e)) (hinfo:(P.info? e).map (fun i=>(i.zero,i.size,i.bytes))=some (some z,size,bytes))
  (n:Nat) (hb:bytes*n≤281474976710656) (hn:n≤maxLen):
  ∃w',(Instr.makeSlice t (.int .i64 (n:Int)) (.int .i64 (n:Int))).run P W= .ok (.slice (some ⟨W.heap.size,0,none⟩) n n) w'∧
   w'.ownsRow W.heap.size e size (.slice (some ⟨W.heap.size,0,none⟩) n n) n (madeCells z.cells (n*size)).toList∧Below W.heap.size W w':=by
 obtain⟨i,hi,hz,hsize,hby⟩:=info_parts hinfo;subst hby;obtain⟨w',h1,h2,h3⟩:=run_make_full (P:=P) W W.heap.size t e i z size ht hi hz hsize .i64 .i64 n hb hn (Nat.le_refl _);exact⟨w',h1,h2,(br).grown h3 (Nat.le_refl _) (fun k hk=>by simp at hk)⟩
theorem oN (v:Value) (h:v.cells= #[v]) (n:Nat):(madeCells v.cells (n*1)).toList=List.replicate n v:=by
 rw[h];simp only[madeCells,Nat.mul_one];apply List.ext_getElem <;> simp[Nat.mod_one]
theorem blt' {W:World} {base e size n g cap:Nat} {xs:List Value} (h:W.ownsRow base e size (.slice (some ⟨g,0,none⟩) n cap) n xs) (_hn:0 < n):g < W.heap.size:=(h.lt g rfl).2
theorem bV {w:World} {base base' e size n:Nat} {v:Value} {xs:List Value} (h:w.ownsRow base e size v n xs) (hb:base'≤base):w.ownsRow base' e size v n xs:=by
 refine⟨h.1, ?_⟩;rcases h.2 with hn | ⟨g,cap,cur,rfl,hg,rest⟩
 ·exact .inl hn
 ·exact .inr ⟨g,cap,cur,rfl,Nat.le_trans hb hg,rest⟩
theorem lT {α: Type} {p:List α→ Prop} (h0:p []) (h1: ∀l a,p l→p (l++[a])) (l:List α):p l:=by
 rw[←List.reverse_reverse l];induction l.reverse with
 | nil=>exact h0
 | cons a l ih=>rw [List.reverse_cons];exact h1 _ _ ih
theorem aD {W:World} {g j:Nat} {cs:Array Value} {t:TypeId} {v:Value} (h:W.heap[g]? =some (.cells cs t (0,0))) (hv:cs[j]? =some v):W.cell? ⟨g,j,none⟩=some v:=by
 simp[World.cell?,h,hv]
theorem dS {W:World} {g j:Nat} {cs:Array Value} {t:TypeId} (h:W.heap[g]? =some (.cells cs t (0,0))):W.frozen? ⟨g,j,none⟩=false:=by
 simp[World.frozen?,h]
theorem cq {W:World} {g:Nat} (j:Nat) {cs:Array Value} {t:TypeId} {v:Value} (h:W.heap[g]? =some (.cells cs t (0,0))) (hv:cs[j]? =some v):W.cell? ⟨g,j,none⟩=some v:=aD h hv
theorem fq {W:World} {g:Nat} (j:Nat) {cs:Array Value} {t:TypeId} (h:W.heap[g]? =some (.cells cs t (0,0))):W.frozen? ⟨g,j,none⟩=false:=dS h
theorem ax {W:World} {g j:Nat} {cs:Array Value} {t:TypeId} {v:Value} (h:W.heap[g]? =some (.cells cs t (0,0))):(W.setCell ⟨g,j,none⟩ v).heap[g]? =some (.cells (cs.setIfInBounds j v) t (0,0)):=by
 rw[setCell_eq_setRow W g j cs t (0,0) v h];exact setRow_heap W g _ _ t (0,0) h
theorem aC {W:World} {g k j:Nat} {v:Value} (h:k≠g):(W.setCell ⟨g,j,none⟩ v).heap[k]? =W.heap[k]? :=Below.heap_setCell W _ v k h
theorem rB {W:World} {g k j i:Nat} {v:Value} (h:k≠g):(W.setCell ⟨g,j,none⟩ v).cell? ⟨k,i,none⟩=W.cell? ⟨k,i,none⟩:=World.cell?_of_block (w:=W) (show(W.setCell ⟨g,j,none⟩ v).heap[k]? =W.heap[k]? from aC h)
theorem F5 {w w':World} {base VQ e e2 size U7 n m:Nat} {v u:Value} {xs ys:List Value} (hne:e≠e2) (hv:w.ownsRow base e size v n xs) (hu:w.ownsRow VQ e2 U7 u m ys) (hg:w.grownBy w' v.ownBlock):w'.ownsRow VQ e2 U7 u m ys:=by
 refine hu.kept hg ?_;rcases hu.2 with⟨rfl, -⟩ | ⟨g,cap,cur,rfl, -,hgu, -⟩
 ·exact .inl rfl
 ·right;rcases hv.2 with⟨rfl, -⟩ | ⟨g2,cap2,J1,rfl, -,Gi, -⟩
  ·simp[Value.ownBlock]
  ·simp only[Value.ownBlock,ne_eq,Option.some.injEq];intro e3;subst e3;rw[hgu] at Gi;simp only[Option.some.injEq,Obj.cells.injEq] at Gi;exact hne Gi.2.1.symm
theorem bM {P:Program} {W:World} {ops:Array Oper} {rest:List Oper} {o:Oper} {a:Act} {Q:Exit→Act→World→Prop} (hgd:o.guard=none) (s x:Operand) (t:TypeId)
  (ho:o.op= .call { callee:= .builtin .append,args:= #[s,x],argTypes:= #[t,t] })
  (base:Nat) (e:TypeId) (z:Value) (size bytes:Nat) (ht:P.underlying t=some (.slice e)) (hinfo:(P.info? e).map (fun i=>(i.zero,i.size,i.bytes))=some (some z,size,bytes)) (hzs:z.cells.size=size) (hsz:0 < size)
  (v:Value) (n:Nat) (xs:List Value) (hs:a.eval s=v) (hown:W.ownsRow base e size v n xs) (vx:Value) (m:Nat) (ys:List Value) (hx:a.eval x=vx) (hc:aF W vx m ys) (hl:ys.length=m*size) (h1: ∀u∈ys,u.oneCell'=true)
  (hbase:base≤W.heap.size) (hm:n+m≤maxLen) (hn:(n+m)*bytes≤140737488355328)
  (hK: ∀v' w',w'.ownsRow base e size v' (n+m) (xs++ys)→W.grownBy w' v.ownBlock→wpList P ops Q rest (a.put o.dst v') w'):
  wpList P ops Q (o::rest) a W:=by
 obtain⟨i,hi,hz,hsize,hby⟩:=info_parts hinfo;obtain⟨ad,cap,rfl,hle, -,h0,hcs⟩:=hc;cases ad with
 | none=>
  obtain rfl:=h0 rfl;obtain rfl:m=0:=by omega
  obtain rfl:ys=[]:=List.eq_nil_of_length_eq_zero (by omega);exact wpList_append_own_none hgd s x t ho base e i size ht hi v n xs hs hown hx (by simpa using hK v W (by simpa using hown) ⟨rfl,rfl,rfl,Nat.le_refl _,fun _ _ _=>rfl⟩)
 | some ad=>
  refine wpList_append_own _ hgd s x t ho base e i z size bytes ht hi hz hsize hby hzs hsz v n xs hs hown ad m cap ys hx hl ?_ h1 hm hn hbase ?_
  ·intro j u hj;rcases hcs with rfl | ⟨b,off,hab, -,hcc⟩
   ·simp at hj
   ·simp only[Option.some.injEq] at hab;subst hab;rw[Addr.add_lit];exact hcc j u hj
  ·intro v' w' hown' hg _;exact hK v' w' hown' hg
structure Sub (w w':World):Prop where
 size:w.heap.size≤w'.heap.size
 cell: ∀p v,w.cell? p=some v→w'.cell? p=some v
theorem Sub.of_below {w w':World} (h:Below w.heap.size w w'):Sub w w':=⟨h.size,fun _ _ hp=>ah h hp⟩
theorem aF.sub {w w':World} {v:Value} {n:Nat} {xs:List Value} (h:aF w v n xs) (hs:Sub w w'):aF w' v n xs:=by
 obtain⟨a,cap,hv,hn,hm,h0,h⟩:=h;refine⟨a,cap,hv,hn,hm,h0,h.imp id ?_⟩;rintro⟨b,off,ha,hlt,hc⟩;exact⟨b,off,ha,by have:=hs.size;omega,fun j x hj=>hs.cell _ _ (hc j x hj)⟩
structure BC (α: Type) where
 size:Nat
 El:World→α→ List Value→Prop
 len: ∀ {w a cs},El w a cs→cs.length=size
 one: ∀ {w a cs},El w a cs→ ∀u∈cs,u.oneCell'=true
 sub: ∀ {w w' a cs},El w a cs→Sub w w'→El w' a cs
 pos:0 < size
variable {α: Type} {E:BC α}
def Els (E:BC α) (w:World):List α→ List (List Value)→Prop
 | [],[]=>True
 | a::l,c::cs=>E.El w a c∧Els E w l cs
 | _,_=>False
theorem Els.length {w:World} : ∀ {l:List α} {css:List (List Value)},Els E w l css→css.length=l.length
 | [],[],_=>rfl
 | _::_,_::_,h=>by simp[Els.length h.2]
 | [],_::_,h=>h.elim
 | _::_,[],h=>h.elim
theorem Els.flat {w:World} : ∀ {l:List α} {css:List (List Value)},Els E w l css→css.flatten.length=l.length*E.size
 | [],[],_=>by simp
 | _::l,c::cs,h=>by rw[List.flatten_cons,List.length_append,E.len h.1,Els.flat h.2,List.length_cons,Nat.succ_mul];omega
 | [],_::_,h=>h.elim
 | _::_,[],h=>h.elim
theorem Els.one {w:World} : ∀ {l:List α} {css:List (List Value)},Els E w l css→ ∀u∈css.flatten,u.oneCell'=true
 | [],[],_=>by simp
 | _::l,c::cs,h=>by
  intro u hu;rw[List.flatten_cons,List.mem_append] at hu;exact hu.elim (E.one h.1 u) (Els.one h.2 u)
 | [],_::_,h=>h.elim
 | _::_,[],h=>h.elim
theorem Els.sub {w w':World} (hs:Sub w w'): ∀ {l:List α} {css:List (List Value)},Els E w l css→Els E w' l css
 | [],[],_=>trivial
 | _::_,_::_,h=>⟨E.sub h.1 hs,Els.sub hs h.2⟩
 | [],_::_,h=>h.elim
 | _::_,[],h=>h.elim
theorem Els.append {w:World} : ∀ {l m:List α} {cs ds:List (List Value)},Els E w l cs→Els E w m ds→Els E w (l++m) (cs++ds)
 | [],_,[],_,_,k=>k
 | _::_,_,_::_,_,h,k=>⟨h.1,Els.append h.2 k⟩
 | [],_,_::_,_,h,_=>h.elim
 | _::_,_,[],_,h,_=>h.elim
theorem Els.single {w:World} {a:α} {c:List Value} (h:E.El w a c):Els E w [a] [c]:=⟨h,trivial⟩
theorem Els.take {w:World} : ∀ {l:List α} {cs:List (List Value)} (k:Nat),Els E w l cs→Els E w (l.take k) (cs.take k)
 | [],[],k,_=>by simp[Els]
 | _::_,_::_,0,_=>trivial
 | _::_,_::_,k+1,h=>⟨h.1,Els.take k h.2⟩
 | [],_::_,_,h=>h.elim
 | _::_,[],_,h=>h.elim
theorem Els.drop {w:World} : ∀ {l:List α} {cs:List (List Value)} (k:Nat),Els E w l cs→Els E w (l.drop k) (cs.drop k)
 | [],[],k,_=>by simp[Els]
 | _::_,_::_,0,h=>h
 | _::_,_::_,k+1,h=>Els.drop k h.2
 | [],_::_,_,h=>h.elim
 | _::_,[],_,h=>h.elim
theorem Els.get {w:World} : ∀ {l:List α} {cs:List (List Value)} (i:Nat) (_:Els E w l cs) (h1:i < l.length),∃h2:i < cs.length,E.El w l[i] cs[i]
 | [],_,i,_,h1=>by simp at h1
 | _::_,_::_,0,h,_=>⟨by simp,h.1⟩
 | _::_,_::_,i+1,h,h1=>by
  obtain⟨h2,h3⟩:=Els.get i h.2 (by simpa using h1);exact⟨by simpa using h2,h3⟩
 | _::_,[],_,h,_=>h.elim
theorem Els.cell {w:World} : ∀ {l:List α} {css:List (List Value)} (i:Nat) (_:Els E w l css) (h1:i < l.length),∃c,E.El w l[i] c∧css[i]? =some c∧ ∀j x,c[j]? =some x→css.flatten[i*E.size+j]? =some x
 | [],_,i,_,h1=>by simp at h1
 | _::_,c::cs,0,h,_=>⟨c,h.1,rfl,fun j x hj=>by
   rw[Nat.zero_mul,Nat.zero_add,List.flatten_cons,List.getElem?_append_left (List.getElem?_eq_some_iff.1 hj).1];exact hj⟩
 | _::_,c::cs,i+1,h,h1=>by
  obtain⟨d,h2,h3,h4⟩:=Els.cell i h.2 (by simpa using h1);refine⟨d,h2,by simpa using h3,fun j x hj=> ?_⟩;have hl:=E.len h.1;rw[List.flatten_cons,List.getElem?_append_right (by rw[hl,Nat.succ_mul];omega),hl,show(i+1)*E.size+j - E.size=i*E.size+j by rw[Nat.succ_mul];omega];exact h4 j x hj
 | _::_,[],_,h,_=>h.elim
def bK (E:BC α) (w:World) (v:Value) (l:List α):Prop:= ∃css,Els E w l css∧aF w v l.length css.flatten
theorem bK.sub {w w':World} {v:Value} {l:List α} (h:bK E w v l) (hs:Sub w w'):bK E w' v l:=by
 obtain⟨css,h1,h2⟩:=h;exact⟨css,h1.sub hs,h2.sub hs⟩
theorem bK.below {w w':World} {v:Value} {l:List α} (h:bK E w v l) (hb:Below w.heap.size w w'):bK E w' v l:=h.sub (Sub.of_below hb)
theorem bK.shape {w:World} {v:Value} {l:List α} (h:bK E w v l): ∃a cap,v= .slice a l.length cap:=by
 obtain⟨css, -,h⟩:=h;exact h.shape
theorem bK.open_ {w:World} {v:Value} {l:List α} (h:bK E w v l): ∃a cap,v= .slice a l.length cap∧l.length≤cap∧l.length≤140737488355328∧(a=none→cap=0)∧
  (l=[]∨ ∃b off,a=some ⟨b,off,none⟩∧b < w.heap.size∧ ∀i (h:i < l.length),∃c,E.El w l[i] c∧ ∀j x,c[j]? =some x→w.cell? ⟨b,off+(i*E.size+j),none⟩=some x):=by
 obtain⟨css,he,⟨a,cap,hv,hn,hm,h0,h⟩⟩:=h;refine⟨a,cap,hv,hn,hm,h0, ?_⟩;rcases h with h | ⟨b,off,ha,hlt,hc⟩
 ·left;have h1:=he.flat;rw[h] at h1;cases l with
  | nil=>rfl
  | cons x l=>exfalso;have:=E.pos;simp [Nat.succ_mul] at h1;omega
 ·refine .inr ⟨b,off,ha,hlt,fun i hi=> ?_⟩;obtain⟨c,h1, -,h3⟩:=he.cell i hi;exact⟨c,h1,fun j x hj=>hc _ _ (h3 j x hj)⟩
theorem rA {n k:Nat} {css:List (List Value)} (h: ∀c∈css,c.length=n):(css.take k).flatten=css.flatten.take (k*n):=by
 induction css generalizing k with
 | nil=>simp
 | cons c css ih=>
  cases k with
  | zero=>simp
  | succ k=>
   have hc:=h c List.mem_cons_self;rw[List.take_succ_cons,List.flatten_cons,List.flatten_cons,ih fun x hx=>h x (List.mem_cons_of_mem _ hx),Nat.succ_mul,List.take_append,hc,show k*n+n - n=k*n by omega,List.take_of_length_le (l:=c) (by omega)]
theorem Uu {n k:Nat} {css:List (List Value)} (h: ∀c∈css,c.length=n):(css.drop k).flatten=css.flatten.drop (k*n):=by
 induction css generalizing k with
 | nil=>simp
 | cons c css ih=>
  cases k with
  | zero=>simp
  | succ k=>
   have hc:=h c List.mem_cons_self;rw[List.drop_succ_cons,List.flatten_cons,ih fun x hx=>h x (List.mem_cons_of_mem _ hx),Nat.succ_mul,List.drop_append,hc,show k*n+n - n=k*n by omega,List.drop_of_length_le (l:=c) (by omega),List.nil_append]
theorem Els.lens {w:World} : ∀ {l:List α} {css:List (List Value)},Els E w l css→ ∀c∈css,c.length=E.size
 | [],[],_=>by simp
 | _::l,c::cs,h=>by
  intro d hd;rcases List.mem_cons.1 hd with rfl | hd
  ·exact E.len h.1
  ·exact Els.lens h.2 d hd
 | [],_::_,h=>h.elim
 | _::_,[],h=>h.elim
def b9 (E:BC α) (w0 w:World) (base e:Nat) (v:Value) (l:List α):Prop:= ∃css,Els E w0 l css∧w.ownsRow base e E.size v l.length css.flatten
theorem b9.nil (w0 w:World) (base e:Nat):b9 E w0 w base e (.slice none 0 0) []:=⟨[],trivial,World.ownsRow_nil _ _ _ _⟩
theorem b9.shape {w0 w:World} {base e:Nat} {v:Value} {l:List α} (h:b9 E w0 w base e v l): ∃a cap,v= .slice a l.length cap:=by
 obtain⟨css, -,h⟩:=h;exact ay h
theorem b9.at_ {w0 w:World} {base e:Nat} {v:Value} {l:List α} (h:b9 E w0 w base e v l) (hs:Sub w0 w) (hl:l.length≤140737488355328):bK E w v l:=by
 obtain⟨css,h1,h2⟩:=h;exact⟨css,h1.sub hs,aF.fZ h2 hl⟩
theorem b9.below {w0 w w':World} {base e:Nat} {v:Value} {l:List α} (h:b9 E w0 w base e v l) (hb:Below w.heap.size w w'):b9 E w0 w' base e v l:=by
 obtain⟨css,h1,h2⟩:=h;exact⟨css,h1,aI h2 hb⟩
theorem b9.lt {w0 w:World} {base e:Nat} {v:Value} {l:List α} (h:b9 E w0 w base e v l) (k:Nat) (hk:v.ownBlock=some k):base≤k∧k < w.heap.size:=by
 obtain⟨css, -,h⟩:=h;exact h.lt k hk
theorem run_append_own' {P:Program} (w:World) (base:Nat) (t ty e:TypeId) (i:TypeInfo) (z:Value) (size bytes:Nat) (ht:P.underlying t=some (.slice e)) (hi:P.info? e=some i) (hz:i.zero=some z)
  (hsize:i.size=size) (hby:i.bytes=bytes) (hzs:z.cells.size=size) (hsz:0 < size)
  (v:Value) (n:Nat) (xs:List Value) (hown:w.ownsRow base e size v n xs)
  (a:Addr) (m c:Nat) (news:List Value) (hl:news.length=m*size) (hnews: ∀j u,news[j]? =some u→w.cell? (a.add j)=some u) (h1: ∀u∈news,u.oneCell'=true)
  (h63:n+m≤maxLen) (hbytes:(n+m)*bytes≤140737488355328) (hbase:base≤w.heap.size):
  ∃v' w',(Builtin.append_ #[t,t] ty #[v, .slice (some a) m c]).run P w= .ok v' w'∧w'.ownsRow base e size v' (n+m) (xs++news)∧w.grownBy w' v.ownBlock∧
   (v'.ownBlock=v.ownBlock∨v'.ownBlock=some w.heap.size):=by
 obtain⟨v',w',hr,h2,h3, -⟩:=run_append_own (P:=P) w base t ty e i z size bytes ht hi hz hsize hby hzs hsz v n xs hown a m c news hl hnews h1 h63 hbytes hbase;refine⟨v',w',hr,h2,h3, ?_⟩;subst hsize;subst hby;have afn:n+m≤9223372036854775807:=by simp only[maxLen] at h63;omega
 rcases hown.2 with⟨rfl,rfl⟩ | ⟨g,cap,cur,rfl,hbg,hg,hnc,hcm,hcs,htake⟩
 ·by_cases hm:m=0
  ·subst hm;have hn:news=[]:=List.eq_nil_of_length_eq_zero (by simpa using hl);subst hn;have hr2:(Builtin.append_ #[t,t] ty #[.slice none 0 0, .slice (some a) 0 c]).run P w= .ok (.slice none 0 0) w:=by
    simp[Builtin.append_,run_underlying ht,sizeOf,typeInfo,hi,Builtin.lenOf,Builtin.firstCells,loadCells,loadCellsFrom]
   rw[hr2] at hr;injection hr with e1 e2
   exact .inl (by rw[←e1])
  ·have hr2:=run_append_nil (P:=P) w t ty e i z ht hi hz a m c news hl hnews (by omega) (by omega) (by have hb:=hbytes;simp only[Nat.zero_add] at hb;omega);rw[hr2] at hr;injection hr with e1 e2
   exact .inr (by rw[←e1];rfl)
 ·by_cases hroom:n+m≤cap
  ·have hfit:n*i.size+news.length≤cur.size:=by rw[hl,hcs,←Nat.add_mul];exact Nat.mul_le_mul_right _ hroom
   have hr2:=run_append_room (P:=P) w t ty e i ht hi g n cap cur hg a m c news hl hnews h1 hroom hfit;rw[hr2] at hr;injection hr with e1 e2
   exact .inl (by rw[←e1];rfl)
  ·have holds: ∀j u,xs[j]? =some u→w.cell? ((⟨g,0,none⟩:Addr).add j)=some u:=hown.cells (g:=g) rfl;have hr2:=run_append_grow (P:=P) w t ty e i z ht hi hz ⟨g,0,none⟩ n cap xs hown.1 holds a m c news hl hnews (by omega) (by omega) (growslice_fits (by omega) hbytes);rw[hr2] at hr;injection hr with e1 e2
   exact .inr (by rw[←e1];rfl)
theorem wpList_append_own' {P:Program} {w:World} {ops:Array Oper} {rest:List Oper} {o:Oper} {a:Act} {Q:Exit→Act→World→Prop} (hgd:o.guard=none) (s x:Operand) (t:TypeId)
  (ho:o.op= .call { callee:= .builtin .append,args:= #[s,x],argTypes:= #[t,t] })
  (base:Nat) (e:TypeId) (z:Value) (size bytes:Nat) (ht:P.underlying t=some (.slice e)) (hinfo:(P.info? e).map (fun i=>(i.zero,i.size,i.bytes))=some (some z,size,bytes)) (hzs:z.cells.size=size) (hsz:0 < size)
  (v:Value) (n:Nat) (xs:List Value) (hs:a.eval s=v) (hown:w.ownsRow base e size v n xs)
  (ad:Addr) (m c:Nat) (news:List Value) (hx:a.eval x= .slice (some ad) m c) (hl:news.length=m*size) (hnews: ∀j u,news[j]? =some u→w.cell? (ad.add j)=some u) (h1: ∀u∈news,u.oneCell'=true)
  (h63:n+m≤maxLen) (hbytes:(n+m)*bytes≤140737488355328) (hbase:base≤w.heap.size)
  (h: ∀v' w',w'.ownsRow base e size v' (n+m) (xs++news)→w.grownBy w' v.ownBlock→(v'.ownBlock=v.ownBlock∨v'.ownBlock=some w.heap.size)→wpList P ops Q rest (a.put o.dst v') w'):wpList P ops Q (o::rest) a w:=by
 obtain⟨i,hi,hz,hsize,hby⟩:=info_parts hinfo;obtain⟨v',w',hr,h2,h3,h4⟩:=run_append_own' (P:=P) w base t o.type e i z size bytes ht hi hz hsize hby hzs hsz v n xs hown ad m c news hl hnews h1 h63 hbytes hbase;refine wpList_plain hgd fun K hK=> ?_;unfold Oper.wp execOp;simp only[ho,resolve,invoke,builtin,Sem.run_bind,Sem.run_pure,Result.andThen_ok,List.map_toArray,List.map_cons,List.map_nil,hs,hx,hr];exact hK _ _ (h v' w' h2 h3 h4)
theorem AE {w:World} {base e size n g:Nat} {v:Value} {xs:List Value} {cs:Array Value} {t:TypeId} {r:Nat×Nat} (h:w.ownsRow base e size v n xs) (hg:w.heap[g]? =some (Obj.cells cs t r)) (hne:t≠e):v.ownBlock≠some g:=by
 rcases h.2 with⟨rfl, -⟩ | ⟨k,cap,cur,rfl, -,hk, -⟩
 ·simp[Value.ownBlock]
 ·simp only[Value.ownBlock,ne_eq,Option.some.injEq];rintro rfl;rw[hk] at hg;simp only[Option.some.injEq,Obj.cells.injEq] at hg;exact hne hg.2.1.symm
theorem Gs (w:World) (g j:Nat) (u:Value):w.grownBy (w.setCell ⟨g,j,none⟩ u) (some g):=
 ⟨rfl,rfl,rfl,by simp[World.setCell],fun k _ hne=>aC (fun e=>hne (by rw[e]))⟩
theorem cG {w:World} {base e size n g j:Nat} {v u:Value} {xs:List Value} {cs:Array Value} {t:TypeId} {r:Nat×Nat} (h:w.ownsRow base e size v n xs) (hg:w.heap[g]? =some (Obj.cells cs t r)) (hne:t≠e):(w.setCell ⟨g,j,none⟩ u).ownsRow base e size v n xs:=
 h.kept (Gs _ _ _ _) (.inr (AE h hg hne))
theorem ai {w:World} {c:Nat} {cs:Array Value} {t:TypeId} {r:Nat×Nat} (hc:w.heap[c]? =some (Obj.cells cs t r)):c < w.heap.size:=(Array.getElem?_eq_some_iff.1 hc).1
theorem fB {w w':World} {base e size n g:Nat} {v:Value} {xs:List Value} {cs:Array Value} {t:TypeId} {r:Nat×Nat} (h:w.ownsRow base e size v n xs) (hgr:w.grownBy w' v.ownBlock) (hg:w.heap[g]? =some (Obj.cells cs t r)) (hne:t≠e):w'.heap[g]? =some (Obj.cells cs t r):=by
 rw[hgr.block g (ai hg) (fun e=>AE h hg hne e.symm)];exact hg
theorem ag {w w':World} {g:Nat} {o:Obj} (hb:Below w.heap.size w w') (hg:w.heap[g]? =some o):w'.heap[g]? =some o:=by
 rw[hb.block g (Array.getElem?_eq_some_iff.1 hg).1];exact hg
theorem aO {w:World} {g:Nat} {o:Obj} (o2:Obj) (hg:w.heap[g]? =some o):(w.alloc o2).heap[g]? =some o:=by
 rw[heap_alloc_old _ _ (Array.getElem?_eq_some_iff.1 hg).1];exact hg
theorem au (w:World) (cs:Array Value) (t:TypeId) (n:Nat) (hn:n=w.heap.size):(w.alloc (.cells cs t)).heap[n]? =some (Obj.cells cs t (0,0)):=by subst hn;exact heap_alloc_new _ _
def Fu (base e size:Nat) (w w':World):Prop:= ∃v n xs,w.ownsRow base e size v n xs∧w.grownBy w' v.ownBlock
theorem Fu.keep {base e size g:Nat} {w w':World} {cs:Array Value} {t:TypeId} {r:Nat×Nat} (h:Fu base e size w w') (hg:w.heap[g]? =some (Obj.cells cs t r)) (hne:t≠e):w'.heap[g]? =some (Obj.cells cs t r):=by
 obtain⟨v,n,xs,h1,h2⟩:=h;exact fB h1 h2 hg hne
end Go.Proofs.YtajgndoiddmbmaaGreatDoor
