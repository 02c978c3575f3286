/- What a slice value holds: predicates that say which cells a slice reads, kept by every world that only grows. No program in sight. More on worlds that grow: cells that may be written stay so. No program in sight. Slices of things of whatever type: what each element's cells hold, kept by every world in which all that could be read still reads the same. No program in sight. append, and where the new row lies: in the old block, or in a new one. No program in sight. Rows of the call's own and blocks of another type: what a store or an append leaves alone. No program in sight. -/
import Derived.WalkKit
import Derived.WalkSpells
import Derived.WalkLawsBesides
import Derived.Handy
import Derived.Lib.Hide
import Derived.Laws.AppendOwnNone
import Derived.WalkSmall
import Derived.Laws.OwnMore
import Derived.Laws.MakeOwn
import Derived.Laws.Tables
import Derived.Laws.Rows
import Derived.Laws.CopyOwn
namespace Go.Proofs.YtajgndoiddmbmaaGreatDoor
open Go.RowKit
def CellsAt (w:World) (v:Value) (n:Nat) (xs:List Value):Prop:=
 ∃a cap,v= .slice a n cap∧n≤cap∧n≤140737488355328∧(a=none→cap=0)∧
  (xs=[]∨ ∃b off,a=some ⟨b,off,none⟩∧b < w.heap.size∧ ∀j x,xs[j]? =some x→w.cell? ⟨b,off+j,none⟩=some x)
theorem CellsAt.below {w w':World} {v:Value} {n:Nat} {xs:List Value} (h:CellsAt w v n xs) (hb:Below w.heap.size w w'):CellsAt w' v n xs:=by
 obtain⟨a,cap,hv,hn,hm,h0,h⟩:=h
 refine⟨a,cap,hv,hn,hm,h0, ?_⟩
 rcases h with h | ⟨b,off,ha,hlt,hc⟩
 ·exact .inl h
 ·exact .inr ⟨b,off,ha,Nat.lt_of_lt_of_le hlt hb.size,fun j x hj=>(hb.cell (p:=⟨b,off+j,none⟩) hlt).trans (hc j x hj)⟩
theorem CellsAt.nil (w:World):CellsAt w (.slice none 0 0) 0 []:=⟨none,0,rfl,Nat.le_refl _,by omega,fun _=>rfl, .inl rfl⟩
theorem CellsAt.of_owns {w:World} {base e size n:Nat} {v:Value} {xs:List Value} (h:w.ownsRow base e size v n xs) (hm:n≤140737488355328):CellsAt w v n xs:=by
 have hl:=h
 obtain⟨h1,h2⟩:=h
 rcases h2 with⟨rfl,rfl⟩ | ⟨g,cap,cur,rfl,hb,hg,hn,hc,hs,ht⟩
 ·have:xs=[]:=List.eq_nil_of_length_eq_zero (by simpa using h1)
  subst this;exact CellsAt.nil _
 ·refine⟨_,_,rfl,hn,hm,fun h=>by simp at h, .inr ⟨g,0,rfl,(Array.getElem?_eq_some_iff.1 hg).1,fun j x hj=> ?_⟩⟩
  have:=hl.cells (g:=g) rfl j x hj
  rwa[Addr.add_lit] at this
theorem bstep {w w1 w2:World} (h:Below w.heap.size w w1) (k:Below w1.heap.size w1 w2):Below w.heap.size w w2:=h.trans (k.mono h.size)
theorem ret_int {k:IntKind} {a b:Int} (h:a=b):Ending.returned (.int k a)= .returned (.int k b):=by rw[h]
theorem owns_below {w1 w2:World} {base e size n:Nat} {v:Value} {xs:List Value} (h:w1.ownsRow base e size v n xs) (hb:Below w1.heap.size w1 w2):w2.ownsRow base e size v n xs:=by
 refine⟨h.1, ?_⟩
 rcases h.2 with hn | ⟨g,cap,cur,rfl,hb1,hgg,rest⟩
 ·exact .inl hn
 ·exact .inr ⟨g,cap,cur,rfl,hb1,by rw[hb.block g (Array.getElem?_eq_some_iff.1 hgg).1];exact hgg,rest⟩
theorem owns_slice {w1:World} {base e size n:Nat} {v:Value} {xs:List Value} (h:w1.ownsRow base e size v n xs): ∃a cap,v= .slice a n cap:=by
 rcases h.2 with⟨rfl,rfl⟩ | ⟨g,cap,cur,rfl,_⟩
 ·exact⟨_,_,rfl⟩
 ·exact⟨_,_,rfl⟩
theorem CellsAt.shape {w:World} {v:Value} {n:Nat} {xs:List Value} (h:CellsAt w v n xs): ∃a cap,v= .slice a n cap:=by
 obtain⟨a,cap,hv,_⟩:=h;exact ⟨a,cap,hv⟩
theorem bal {W:World} (o:Obj):Below W.heap.size W (W.alloc o):=(Below.refl _ _).alloc (Nat.le_refl _) o
theorem ckeep {W W':World} (hb:Below W.heap.size W W') {p:Addr} {v:Value} (h:W.cell? p=some v):W'.cell? p=some v:=
 (hb.cell (p:=p) (World.block_lt_of_cell? W p h)).trans h
theorem cat (w:World) (cs:Array Value) (t:TypeId) (j:Nat) (v:Value) (h:cs[j]? =some v) (n:Nat) (hn:n=w.heap.size):(w.alloc (.cells cs t)).cell? ⟨n,j,none⟩=some v:=by
 rw[World.cell?_alloc_at _ _ _ _ hn];exact h
end Go.Proofs.YtajgndoiddmbmaaGreatDoor
namespace Go.Proofs.YtajgndoiddmbmaaGreatDoor
open Go.RowKit
theorem mk_slice {P:Program} (W:World) (t e:TypeId) (z:Value) (size bytes:Nat) (ht:P.underlying t=some (.slice e)) (hinfo:(P.info? e).map (fun i=>(i.zero,i.size,i.bytes))=some (some z,size,bytes))
  (n:Nat) (hb:bytes*n≤281474976710656) (hn:n≤maxLen):
  ∃w',(Instr.makeSlice t (.int .i64 (n:Int)) (.int .i64 (n:Int))).run P W= .ok (.slice (some ⟨W.heap.size,0,none⟩) n n) w'∧
   w'.ownsRow W.heap.size e size (.slice (some ⟨W.heap.size,0,none⟩) n n) n (madeCells z.cells (n*size)).toList∧Below W.heap.size W w':=by
 obtain⟨i,hi,hz,hsize,hby⟩:=info_parts hinfo
 subst hby
 obtain⟨w',h1,h2,h3⟩:=run_make_full (P:=P) W W.heap.size t e i z size ht hi hz hsize .i64 .i64 n hb hn (Nat.le_refl _)
 exact⟨w',h1,h2,(Below.refl _ _).grown h3 (Nat.le_refl _) (fun k hk=>by simp at hk)⟩
theorem madeCells_one (v:Value) (h:v.cells= #[v]) (n:Nat):(madeCells v.cells (n*1)).toList=List.replicate n v:=by
 rw[h];simp only[madeCells,Nat.mul_one];apply List.ext_getElem <;> simp[Nat.mod_one]
theorem owns_mono {w:World} {base base' e size n:Nat} {v:Value} {xs:List Value} (h:w.ownsRow base e size v n xs) (hb:base'≤base):w.ownsRow base' e size v n xs:=by
 refine⟨h.1, ?_⟩
 rcases h.2 with hn | ⟨g,cap,cur,rfl,hg,rest⟩
 ·exact .inl hn
 ·exact .inr ⟨g,cap,cur,rfl,Nat.le_trans hb hg,rest⟩
theorem cell_of_block {W:World} {g j:Nat} {cs:Array Value} {t:TypeId} {v:Value} (h:W.heap[g]? =some (.cells cs t (0,0))) (hv:cs[j]? =some v):W.cell? ⟨g,j,none⟩=some v:=by
 simp[World.cell?,h,hv]
theorem free_of_block {W:World} {g j:Nat} {cs:Array Value} {t:TypeId} (h:W.heap[g]? =some (.cells cs t (0,0))):W.frozen? ⟨g,j,none⟩=false:=by
 simp[World.frozen?,h]
theorem heap_set_same {W:World} {g j:Nat} {cs:Array Value} {t:TypeId} {v:Value} (h:W.heap[g]? =some (.cells cs t (0,0))):(W.setCell ⟨g,j,none⟩ v).heap[g]? =some (.cells (cs.setIfInBounds j v) t (0,0)):=by
 rw[setCell_eq_setRow W g j cs t (0,0) v h];exact setRow_heap W g _ _ t (0,0) h
theorem heap_set_other {W:World} {g k j:Nat} {v:Value} (h:k≠g):(W.setCell ⟨g,j,none⟩ v).heap[k]? =W.heap[k]? :=Below.heap_setCell W _ v k h
end Go.Proofs.YtajgndoiddmbmaaGreatDoor
namespace Go.Proofs.YtajgndoiddmbmaaGreatDoor
open Go.RowKit
structure Sub (w w':World):Prop where
 size:w.heap.size≤w'.heap.size
 cell: ∀p v,w.cell? p=some v→w'.cell? p=some v
structure Elt (α: Type) where
 size:Nat
 El:World→α→ List Value→Prop
 len: ∀ {w a cs},El w a cs→cs.length=size
 one: ∀ {w a cs},El w a cs→ ∀u∈cs,u.oneCell'=true
 sub: ∀ {w w' a cs},El w a cs→Sub w w'→El w' a cs
 pos:0 < size
variable {α: Type} {E:Elt α}
end Go.Proofs.YtajgndoiddmbmaaGreatDoor
namespace Go.Proofs.YtajgndoiddmbmaaGreatDoor
open Go.RowKit
theorem run_append_own' {P:Program} (w:World) (base:Nat) (t ty e:TypeId) (i:TypeInfo) (z:Value) (size bytes:Nat) (ht:P.underlying t=some (.slice e)) (hi:P.info? e=some i) (hz:i.zero=some z)
  (hsize:i.size=size) (hby:i.bytes=bytes) (hzs:z.cells.size=size) (hsz:0 < size)
  (v:Value) (n:Nat) (xs:List Value) (hown:w.ownsRow base e size v n xs)
  (a:Addr) (m c:Nat) (news:List Value) (hl:news.length=m*size) (hnews: ∀j u,news[j]? =some u→w.cell? (a.add j)=some u) (h1: ∀u∈news,u.oneCell'=true)
  (h63:n+m≤maxLen) (hbytes:(n+m)*bytes≤140737488355328) (hbase:base≤w.heap.size):
  ∃v' w',(Builtin.append_ #[t,t] ty #[v, .slice (some a) m c]).run P w= .ok v' w'∧w'.ownsRow base e size v' (n+m) (xs++news)∧w.grownBy w' v.ownBlock∧
   (v'.ownBlock=v.ownBlock∨v'.ownBlock=some w.heap.size):=by
 obtain⟨v',w',hr,h2,h3, -⟩:=run_append_own (P:=P) w base t ty e i z size bytes ht hi hz hsize hby hzs hsz v n xs hown a m c news hl hnews h1 h63 hbytes hbase
 refine⟨v',w',hr,h2,h3, ?_⟩
 subst hsize
 subst hby
 have h63i:n+m≤9223372036854775807:=by simp only[maxLen] at h63;omega
 rcases hown.2 with⟨rfl,rfl⟩ | ⟨g,cap,cur,rfl,hbg,hg,hnc,hcm,hcs,htake⟩
 ·by_cases hm:m=0
  ·subst hm
   have hn:news=[]:=List.eq_nil_of_length_eq_zero (by simpa using hl)
   subst hn
   have hr2:(Builtin.append_ #[t,t] ty #[.slice none 0 0, .slice (some a) 0 c]).run P w= .ok (.slice none 0 0) w:=by
    simp[Builtin.append_,run_underlying ht,sizeOf,typeInfo,hi,Builtin.lenOf,Builtin.firstCells,loadCells,loadCellsFrom]
   rw[hr2] at hr
   injection hr with e1 e2
   exact .inl (by rw[←e1])
  ·have hr2:=run_append_nil (P:=P) w t ty e i z ht hi hz a m c news hl hnews (by omega) (by omega) (by have hb:=hbytes;simp only[Nat.zero_add] at hb;omega)
   rw[hr2] at hr
   injection hr with e1 e2
   exact .inr (by rw[←e1];rfl)
 ·by_cases hroom:n+m≤cap
  ·have hfit:n*i.size+news.length≤cur.size:=by rw[hl,hcs,←Nat.add_mul];exact Nat.mul_le_mul_right _ hroom
   have hr2:=run_append_room (P:=P) w t ty e i ht hi g n cap cur hg a m c news hl hnews h1 hroom hfit
   rw[hr2] at hr
   injection hr with e1 e2
   exact .inl (by rw[←e1];rfl)
  ·have holds: ∀j u,xs[j]? =some u→w.cell? ((⟨g,0,none⟩:Addr).add j)=some u:=hown.cells (g:=g) rfl
   have hr2:=run_append_grow (P:=P) w t ty e i z ht hi hz ⟨g,0,none⟩ n cap xs hown.1 holds a m c news hl hnews (by omega) (by omega) (growslice_fits (by omega) hbytes)
   rw[hr2] at hr
   injection hr with e1 e2
   exact .inr (by rw[←e1];rfl)
theorem wpList_append_own' {P:Program} {w:World} {ops:Array Oper} {rest:List Oper} {o:Oper} {a:Act} {Q:Exit→Act→World→Prop} (hgd:o.guard=none) (s x:Operand) (t:TypeId)
  (ho:o.op= .call { callee:= .builtin .append,args:= #[s,x],argTypes:= #[t,t] })
  (base:Nat) (e:TypeId) (z:Value) (size bytes:Nat) (ht:P.underlying t=some (.slice e)) (hinfo:(P.info? e).map (fun i=>(i.zero,i.size,i.bytes))=some (some z,size,bytes)) (hzs:z.cells.size=size) (hsz:0 < size)
  (v:Value) (n:Nat) (xs:List Value) (hs:a.eval s=v) (hown:w.ownsRow base e size v n xs)
  (ad:Addr) (m c:Nat) (news:List Value) (hx:a.eval x= .slice (some ad) m c) (hl:news.length=m*size) (hnews: ∀j u,news[j]? =some u→w.cell? (ad.add j)=some u) (h1: ∀u∈news,u.oneCell'=true)
  (h63:n+m≤maxLen) (hbytes:(n+m)*bytes≤140737488355328) (hbase:base≤w.heap.size)
  (h: ∀v' w',w'.ownsRow base e size v' (n+m) (xs++news)→w.grownBy w' v.ownBlock→(v'.ownBlock=v.ownBlock∨v'.ownBlock=some w.heap.size)→wpList P ops Q rest (a.put o.dst v') w'):wpList P ops Q (o::rest) a w:=by
 obtain⟨i,hi,hz,hsize,hby⟩:=info_parts hinfo
 obtain⟨v',w',hr,h2,h3,h4⟩:=run_append_own' (P:=P) w base t o.type e i z size bytes ht hi hz hsize hby hzs hsz v n xs hown ad m c news hl hnews h1 h63 hbytes hbase
 refine wpList_plain hgd fun K hK=> ?_
 unfold Oper.wp execOp
 simp only[ho,resolve,invoke,builtin,Sem.run_bind,Sem.run_pure,Result.andThen_ok,List.map_toArray,List.map_cons,List.map_nil,hs,hx,hr]
 exact hK _ _ (h v' w' h2 h3 h4)
end Go.Proofs.YtajgndoiddmbmaaGreatDoor
namespace Go.Proofs.YtajgndoiddmbmaaGreatDoor
open Go.RowKit
theorem own_off {w:World} {base e size n g:Nat} {v:Value} {xs:List Value} {cs:Array Value} {t:TypeId} {r:Nat×Nat} (h:w.ownsRow base e size v n xs) (hg:w.heap[g]? =some (Obj.cells cs t r)) (hne:t≠e):v.ownBlock≠some g:=by
 rcases h.2 with⟨rfl, -⟩ | ⟨k,cap,cur,rfl, -,hk, -⟩
 ·simp[Value.ownBlock]
 ·simp only[Value.ownBlock,ne_eq,Option.some.injEq]
  rintro rfl
  rw[hk] at hg
  simp only[Option.some.injEq,Obj.cells.injEq] at hg
  exact hne hg.2.1.symm
theorem hlt_of {w:World} {c:Nat} {cs:Array Value} {t:TypeId} {r:Nat×Nat} (hc:w.heap[c]? =some (Obj.cells cs t r)):c < w.heap.size:=(Array.getElem?_eq_some_iff.1 hc).1
theorem grown_keep {w w':World} {base e size n g:Nat} {v:Value} {xs:List Value} {cs:Array Value} {t:TypeId} {r:Nat×Nat} (h:w.ownsRow base e size v n xs) (hgr:w.grownBy w' v.ownBlock) (hg:w.heap[g]? =some (Obj.cells cs t r)) (hne:t≠e):w'.heap[g]? =some (Obj.cells cs t r):=by
 rw[hgr.block g (hlt_of hg) (fun e=>own_off h hg hne e.symm)];exact hg
theorem below_keep {w w':World} {g:Nat} {o:Obj} (hb:Below w.heap.size w w') (hg:w.heap[g]? =some o):w'.heap[g]? =some o:=by
 rw[hb.block g (Array.getElem?_eq_some_iff.1 hg).1];exact hg
theorem alloc_keep {w:World} {g:Nat} {o:Obj} (o2:Obj) (hg:w.heap[g]? =some o):(w.alloc o2).heap[g]? =some o:=by
 rw[heap_alloc_old _ _ (Array.getElem?_eq_some_iff.1 hg).1];exact hg
theorem alloc_new (w:World) (cs:Array Value) (t:TypeId) (n:Nat) (hn:n=w.heap.size):(w.alloc (.cells cs t)).heap[n]? =some (Obj.cells cs t (0,0)):=by subst hn;exact heap_alloc_new _ _
end Go.Proofs.YtajgndoiddmbmaaGreatDoor
