/- Slices of things of whatever type: what each element's cells hold, kept by every world in which all that could be read still reads the same. No program in sight. append, and where the new row lies: in the old block, or in a new one. No program in sight. Rows of the call's own and blocks of another type: what a store or an append leaves alone. No program in sight. -/
import Derived.Test.YtdljflabokhedaaDoorBase2
namespace Go.Proofs.YtdljflabokhedaaDoor
open Go.RowKit
structure Sub (w w':World):Prop where
 size:w.heap.size≤w'.heap.size
 cell: ∀p v,w.cell? p=some v→w'.cell? p=some v
structure Elt (α: Type) where
 size:Nat
 El:World→α→ List Value→Prop
 len: ∀ {w a cs},El w a cs→cs.length=size
 one: ∀ {w a cs},El w a cs→ ∀u∈cs,u.oneCell'=true
 sub: ∀ {w w' a cs},El w a cs→Sub w w'→El w' a cs
 pos:0 < size
variable {α: Type} {E:Elt α}
end Go.Proofs.YtdljflabokhedaaDoor
namespace Go.Proofs.YtdljflabokhedaaDoor
open Go.RowKit
theorem run_append_own' {P:Program} (w:World) (base:Nat) (t ty e:TypeId) (i:TypeInfo) (z:Value) (size bytes:Nat) (ht:P.underlying t=some (.slice e)) (hi:P.info? e=some i) (hz:i.zero=some z)
  (hsize:i.size=size) (hby:i.bytes=bytes) (hzs:z.cells.size=size) (hsz:0 < size)
  (v:Value) (n:Nat) (xs:List Value) (hown:w.ownsRow base e size v n xs)
  (a:Addr) (m c:Nat) (news:List Value) (hl:news.length=m*size) (hnews: ∀j u,news[j]? =some u→w.cell? (a.add j)=some u) (h1: ∀u∈news,u.oneCell'=true)
  (h63:n+m≤maxLen) (hbytes:(n+m)*bytes≤140737488355328) (hbase:base≤w.heap.size):
  ∃v' w',(Builtin.append_ #[t,t] ty #[v, .slice (some a) m c]).run P w= .ok v' w'∧w'.ownsRow base e size v' (n+m) (xs++news)∧w.grownBy w' v.ownBlock∧
   (v'.ownBlock=v.ownBlock∨v'.ownBlock=some w.heap.size):=by
 obtain⟨v',w',hr,h2,h3, -⟩:=run_append_own (P:=P) w base t ty e i z size bytes ht hi hz hsize hby hzs hsz v n xs hown a m c news hl hnews h1 h63 hbytes hbase
 refine⟨v',w',hr,h2,h3, ?_⟩
 subst hsize
 subst hby
 have h63i:n+m≤9223372036854775807:=by simp only[maxLen] at h63;omega
 rcases hown.2 with⟨rfl,rfl⟩ | ⟨g,cap,cur,rfl,hbg,hg,hnc,hcm,hcs,htake⟩
 ·by_cases hm:m=0
  ·subst hm
   have hn:news=[]:=List.eq_nil_of_length_eq_zero (by simpa using hl)
   subst hn
   have hr2:(Builtin.append_ #[t,t] ty #[.slice none 0 0, .slice (some a) 0 c]).run P w= .ok (.slice none 0 0) w:=by
    simp[Builtin.append_,run_underlying ht,sizeOf,typeInfo,hi,Builtin.lenOf,Builtin.firstCells,loadCells,loadCellsFrom]
   rw[hr2] at hr
   injection hr with e1 e2
   exact .inl (by rw[←e1])
  ·have hr2:=run_append_nil (P:=P) w t ty e i z ht hi hz a m c news hl hnews (by omega) (by omega) (by have hb:=hbytes;simp only[Nat.zero_add] at hb;omega)
   rw[hr2] at hr
   injection hr with e1 e2
   exact .inr (by rw[←e1];rfl)
 ·by_cases hroom:n+m≤cap
  ·have hfit:n*i.size+news.length≤cur.size:=by rw[hl,hcs,←Nat.add_mul];exact Nat.mul_le_mul_right _ hroom
   have hr2:=run_append_room (P:=P) w t ty e i ht hi g n cap cur hg a m c news hl hnews h1 hroom hfit
   rw[hr2] at hr
   injection hr with e1 e2
   exact .inl (by rw[←e1];rfl)
  ·have holds: ∀j u,xs[j]? =some u→w.cell? ((⟨g,0,none⟩:Addr).add j)=some u:=hown.cells (g:=g) rfl
   have hr2:=run_append_grow (P:=P) w t ty e i z ht hi hz ⟨g,0,none⟩ n cap xs hown.1 holds a m c news hl hnews (by omega) (by omega) (growslice_fits (by omega) hbytes)
   rw[hr2] at hr
   injection hr with e1 e2
   exact .inr (by rw[←e1];rfl)
theorem wpList_append_own' {P:Program} {w:World} {ops:Array Oper} {rest:List Oper} {o:Oper} {a:Act} {Q:Exit→Act→World→Prop} (hgd:o.guard=none) (s x:Operand) (t:TypeId)
  (ho:o.op= .call { callee:= .builtin .append,args:= #[s,x],argTypes:= #[t,t] })
  (base:Nat) (e:TypeId) (z:Value) (size bytes:Nat) (ht:P.underlying t=some (.slice e)) (hinfo:(P.info? e).map (fun i=>(i.zero,i.size,i.bytes))=some (some z,size,bytes)) (hzs:z.cells.size=size) (hsz:0 < size)
  (v:Value) (n:Nat) (xs:List Value) (hs:a.eval s=v) (hown:w.ownsRow base e size v n xs)
  (ad:Addr) (m c:Nat) (news:List Value) (hx:a.eval x= .slice (some ad) m c) (hl:news.length=m*size) (hnews: ∀j u,news[j]? =some u→w.cell? (ad.add j)=some u) (h1: ∀u∈news,u.oneCell'=true)
  (h63:n+m≤maxLen) (hbytes:(n+m)*bytes≤140737488355328) (hbase:base≤w.heap.size)
  (h: ∀v' w',w'.ownsRow base e size v' (n+m) (xs++news)→w.grownBy w' v.ownBlock→(v'.ownBlock=v.ownBlock∨v'.ownBlock=some w.heap.size)→wpList P ops Q rest (a.put o.dst v') w'):wpList P ops Q (o::rest) a w:=by
 obtain⟨i,hi,hz,hsize,hby⟩:=info_parts hinfo
 obtain⟨v',w',hr,h2,h3,h4⟩:=run_append_own' (P:=P) w base t o.type e i z size bytes ht hi hz hsize hby hzs hsz v n xs hown ad m c news hl hnews h1 h63 hbytes hbase
 refine wpList_plain hgd fun K hK=> ?_
 unfold Oper.wp execOp
 simp only[ho,resolve,invoke,builtin,Sem.run_bind,Sem.run_pure,Result.andThen_ok,List.map_toArray,List.map_cons,List.map_nil,hs,hx,hr]
 exact hK _ _ (h v' w' h2 h3 h4)
end Go.Proofs.YtdljflabokhedaaDoor
namespace Go.Proofs.YtdljflabokhedaaDoor
open Go.RowKit
theorem hlt_of {w:World} {c:Nat} {cs:Array Value} {t:TypeId} {r:Nat×Nat} (hc:w.heap[c]? =some (Obj.cells cs t r)):c < w.heap.size:=(Array.getElem?_eq_some_iff.1 hc).1
theorem below_keep {w w':World} {g:Nat} {o:Obj} (hb:Below w.heap.size w w') (hg:w.heap[g]? =some o):w'.heap[g]? =some o:=by
 rw[hb.block g (Array.getElem?_eq_some_iff.1 hg).1];exact hg
theorem alloc_keep {w:World} {g:Nat} {o:Obj} (o2:Obj) (hg:w.heap[g]? =some o):(w.alloc o2).heap[g]? =some o:=by
 rw[heap_alloc_old _ _ (Array.getElem?_eq_some_iff.1 hg).1];exact hg
theorem alloc_new (w:World) (cs:Array Value) (t:TypeId) (n:Nat) (hn:n=w.heap.size):(w.alloc (.cells cs t)).heap[n]? =some (Obj.cells cs t (0,0)):=by subst hn;exact heap_alloc_new _ _
end Go.Proofs.YtdljflabokhedaaDoor
