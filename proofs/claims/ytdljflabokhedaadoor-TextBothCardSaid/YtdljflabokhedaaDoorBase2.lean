/- More on worlds that grow: cells that may be written stay so. No program in sight. -/
import Derived.Test.YtdljflabokhedaaDoorBase
import Derived.WalkSmall
import Derived.Laws.OwnMore
import Derived.Laws.MakeOwn
import Derived.Laws.Tables
import Derived.Laws.Rows
import Derived.Laws.CopyOwn
namespace Go.Proofs.YtdljflabokhedaaDoor
open Go.RowKit
theorem fkeep {W W':World} (hb:Below W.heap.size W W') {p:Addr} {v:Value} (h:W.cell? p=some v) (hf:W.frozen? p=false):W'.frozen? p=false:=
 (hb.frozen (p:=p) (World.block_lt_of_cell? W p h)).trans hf
theorem fat (w:World) (cs:Array Value) (t:TypeId) (j n:Nat) (hn:n=w.heap.size):(w.alloc (.cells cs t)).frozen? ⟨n,j,none⟩=false:=World.frozen?_alloc_at _ _ _ _ hn
theorem blt {W:World} {b o:Nat} {v:Value} (h:W.cell? ⟨b,o,none⟩=some v):b < W.heap.size:=World.block_lt_of_cell? W ⟨b,o,none⟩ h
theorem litOwn (W:World) (base size:Nat) (e:TypeId) (cs:Array Value) (n k:Nat) (hk:k=W.heap.size) (hb:base≤W.heap.size) (hm:n≤maxLen) (hs:cs.size=n*size):
  (W.alloc (.cells cs e)).ownsRow base e size (.slice (some ⟨k,0,none⟩) n n) n cs.toList:=by
 subst hk;exact World.ownsRow_lit W cs n hb hm hs
theorem mk_slice {P:Program} (W:World) (t e:TypeId) (z:Value) (size bytes:Nat) (ht:P.underlying t=some (.slice e)) (hinfo:(P.info? e).map (fun i=>(i.zero,i.size,i.bytes))=some (some z,size,bytes))
  (n:Nat) (hb:bytes*n≤281474976710656) (hn:n≤maxLen):
  ∃w',(Instr.makeSlice t (.int .i64 (n:Int)) (.int .i64 (n:Int))).run P W= .ok (.slice (some ⟨W.heap.size,0,none⟩) n n) w'∧
   w'.ownsRow W.heap.size e size (.slice (some ⟨W.heap.size,0,none⟩) n n) n (madeCells z.cells (n*size)).toList∧Below W.heap.size W w':=by
 obtain⟨i,hi,hz,hsize,hby⟩:=info_parts hinfo
 subst hby
 obtain⟨w',h1,h2,h3⟩:=run_make_full (P:=P) W W.heap.size t e i z size ht hi hz hsize .i64 .i64 n hb hn (Nat.le_refl _)
 exact⟨w',h1,h2,(Below.refl _ _).grown h3 (Nat.le_refl _) (fun k hk=>by simp at hk)⟩
theorem madeCells_one (v:Value) (h:v.cells= #[v]) (n:Nat):(madeCells v.cells (n*1)).toList=List.replicate n v:=by
 rw[h];simp only[madeCells,Nat.mul_one];apply List.ext_getElem <;> simp[Nat.mod_one]
theorem blt' {W:World} {base e size n g cap:Nat} {xs:List Value} (h:W.ownsRow base e size (.slice (some ⟨g,0,none⟩) n cap) n xs) (_hn:0 < n):g < W.heap.size:=(h.lt g rfl).2
theorem owns_mono {w:World} {base base' e size n:Nat} {v:Value} {xs:List Value} (h:w.ownsRow base e size v n xs) (hb:base'≤base):w.ownsRow base' e size v n xs:=by
 refine⟨h.1, ?_⟩
 rcases h.2 with hn | ⟨g,cap,cur,rfl,hg,rest⟩
 ·exact .inl hn
 ·exact .inr ⟨g,cap,cur,rfl,Nat.le_trans hb hg,rest⟩
theorem snoc_ind {α: Type} {p:List α→ Prop} (h0:p []) (h1: ∀l a,p l→p (l++[a])) (l:List α):p l:=by
 rw[←List.reverse_reverse l]
 induction l.reverse with
 | nil=>exact h0
 | cons a l ih=>rw [List.reverse_cons];exact h1 _ _ ih
theorem cell_of_block {W:World} {g j:Nat} {cs:Array Value} {t:TypeId} {v:Value} (h:W.heap[g]? =some (.cells cs t (0,0))) (hv:cs[j]? =some v):W.cell? ⟨g,j,none⟩=some v:=by
 simp[World.cell?,h,hv]
theorem free_of_block {W:World} {g j:Nat} {cs:Array Value} {t:TypeId} (h:W.heap[g]? =some (.cells cs t (0,0))):W.frozen? ⟨g,j,none⟩=false:=by
 simp[World.frozen?,h]
theorem heap_set_same {W:World} {g j:Nat} {cs:Array Value} {t:TypeId} {v:Value} (h:W.heap[g]? =some (.cells cs t (0,0))):(W.setCell ⟨g,j,none⟩ v).heap[g]? =some (.cells (cs.setIfInBounds j v) t (0,0)):=by
 rw[setCell_eq_setRow W g j cs t (0,0) v h];exact setRow_heap W g _ _ t (0,0) h
theorem heap_set_other {W:World} {g k j:Nat} {v:Value} (h:k≠g):(W.setCell ⟨g,j,none⟩ v).heap[k]? =W.heap[k]? :=Below.heap_setCell W _ v k h
theorem cell_set_other {W:World} {g k j i:Nat} {v:Value} (h:k≠g):(W.setCell ⟨g,j,none⟩ v).cell? ⟨k,i,none⟩=W.cell? ⟨k,i,none⟩:=World.cell?_of_block (w:=W) (show(W.setCell ⟨g,j,none⟩ v).heap[k]? =W.heap[k]? from heap_set_other h)
theorem own_other {w w':World} {base base2 e e2 size size2 n m:Nat} {v u:Value} {xs ys:List Value} (hne:e≠e2) (hv:w.ownsRow base e size v n xs) (hu:w.ownsRow base2 e2 size2 u m ys) (hg:w.grownBy w' v.ownBlock):w'.ownsRow base2 e2 size2 u m ys:=by
 refine hu.kept hg ?_
 rcases hu.2 with⟨rfl, -⟩ | ⟨g,cap,cur,rfl, -,hgu, -⟩
 ·exact .inl rfl
 ·right
  rcases hv.2 with⟨rfl, -⟩ | ⟨g2,cap2,cur2,rfl, -,hgv, -⟩
  ·simp[Value.ownBlock]
  ·simp only[Value.ownBlock,ne_eq,Option.some.injEq]
   intro e3
   subst e3
   rw[hgu] at hgv
   simp only[Option.some.injEq,Obj.cells.injEq] at hgv
   exact hne hgv.2.1.symm
theorem wpList_append_cells2 {P:Program} {W:World} {ops:Array Oper} {rest:List Oper} {o:Oper} {a:Act} {Q:Exit→Act→World→Prop} (hgd:o.guard=none) (s x:Operand) (t:TypeId)
  (ho:o.op= .call { callee:= .builtin .append,args:= #[s,x],argTypes:= #[t,t] })
  (base:Nat) (e:TypeId) (z:Value) (size bytes:Nat) (ht:P.underlying t=some (.slice e)) (hinfo:(P.info? e).map (fun i=>(i.zero,i.size,i.bytes))=some (some z,size,bytes)) (hzs:z.cells.size=size) (hsz:0 < size)
  (v:Value) (n:Nat) (xs:List Value) (hs:a.eval s=v) (hown:W.ownsRow base e size v n xs) (vx:Value) (m:Nat) (ys:List Value) (hx:a.eval x=vx) (hc:CellsAt W vx m ys) (hl:ys.length=m*size) (h1: ∀u∈ys,u.oneCell'=true)
  (hbase:base≤W.heap.size) (hm:n+m≤maxLen) (hn:(n+m)*bytes≤140737488355328)
  (hK: ∀v' w',w'.ownsRow base e size v' (n+m) (xs++ys)→W.grownBy w' v.ownBlock→wpList P ops Q rest (a.put o.dst v') w'):
  wpList P ops Q (o::rest) a W:=by
 obtain⟨i,hi,hz,hsize,hby⟩:=info_parts hinfo
 obtain⟨ad,cap,rfl,hle, -,h0,hcs⟩:=hc
 cases ad with
 | none=>
  obtain rfl:=h0 rfl
  obtain rfl:m=0:=by omega
  obtain rfl:ys=[]:=List.eq_nil_of_length_eq_zero (by omega)
  exact wpList_append_own_none hgd s x t ho base e i size ht hi v n xs hs hown hx (by simpa using hK v W (by simpa using hown) ⟨rfl,rfl,rfl,Nat.le_refl _,fun _ _ _=>rfl⟩)
 | some ad=>
  refine wpList_append_own _ hgd s x t ho base e i z size bytes ht hi hz hsize hby hzs hsz v n xs hs hown ad m cap ys hx hl ?_ h1 hm hn hbase ?_
  ·intro j u hj
   rcases hcs with rfl | ⟨b,off,hab, -,hcc⟩
   ·simp at hj
   ·simp only[Option.some.injEq] at hab
    subst hab
    rw[Addr.add_lit];exact hcc j u hj
  ·intro v' w' hown' hg _
   exact hK v' w' hown' hg
end Go.Proofs.YtdljflabokhedaaDoor
