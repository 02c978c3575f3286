/- What a slice value holds: predicates that say which cells a slice reads, kept by every world that only grows. No program in sight. -/
import Derived.WalkKit
import Derived.WalkSpells
import Derived.WalkLawsBesides
import Derived.Handy
import Derived.Lib.Hide
import Derived.Laws.AppendOwnNone
namespace Go.Proofs.YtdljflabokhedaaDoor
open Go.RowKit
def CellsAt (w:World) (v:Value) (n:Nat) (xs:List Value):Prop:=
 ∃a cap,v= .slice a n cap∧n≤cap∧n≤140737488355328∧(a=none→cap=0)∧
  (xs=[]∨ ∃b off,a=some ⟨b,off,none⟩∧b < w.heap.size∧ ∀j x,xs[j]? =some x→w.cell? ⟨b,off+j,none⟩=some x)
theorem CellsAt.below {w w':World} {v:Value} {n:Nat} {xs:List Value} (h:CellsAt w v n xs) (hb:Below w.heap.size w w'):CellsAt w' v n xs:=by
 obtain⟨a,cap,hv,hn,hm,h0,h⟩:=h
 refine⟨a,cap,hv,hn,hm,h0, ?_⟩
 rcases h with h | ⟨b,off,ha,hlt,hc⟩
 ·exact .inl h
 ·exact .inr ⟨b,off,ha,Nat.lt_of_lt_of_le hlt hb.size,fun j x hj=>(hb.cell (p:=⟨b,off+j,none⟩) hlt).trans (hc j x hj)⟩
theorem CellsAt.nil (w:World):CellsAt w (.slice none 0 0) 0 []:=⟨none,0,rfl,Nat.le_refl _,by omega,fun _=>rfl, .inl rfl⟩
theorem CellsAt.of_owns {w:World} {base e size n:Nat} {v:Value} {xs:List Value} (h:w.ownsRow base e size v n xs) (hm:n≤140737488355328):CellsAt w v n xs:=by
 have hl:=h
 obtain⟨h1,h2⟩:=h
 rcases h2 with⟨rfl,rfl⟩ | ⟨g,cap,cur,rfl,hb,hg,hn,hc,hs,ht⟩
 ·have:xs=[]:=List.eq_nil_of_length_eq_zero (by simpa using h1)
  subst this;exact CellsAt.nil _
 ·refine⟨_,_,rfl,hn,hm,fun h=>by simp at h, .inr ⟨g,0,rfl,(Array.getElem?_eq_some_iff.1 hg).1,fun j x hj=> ?_⟩⟩
  have:=hl.cells (g:=g) rfl j x hj
  rwa[Addr.add_lit] at this
theorem CellsAt.mk {w:World} {b off n cap:Nat} {xs:List Value} (hn:n≤cap) (hm:n≤140737488355328) (hb:b < w.heap.size)
  (hc: ∀j x,xs[j]? =some x→w.cell? ⟨b,off+j,none⟩=some x):CellsAt w (.slice (some ⟨b,off,none⟩) n cap) n xs:=
 ⟨_,_,rfl,hn,hm,fun h=>by simp at h, .inr ⟨b,off,rfl,hb,hc⟩⟩
theorem bstep {w w1 w2:World} (h:Below w.heap.size w w1) (k:Below w1.heap.size w1 w2):Below w.heap.size w w2:=h.trans (k.mono h.size)
theorem ret_bool {a b:Bool} (h:a=b):Ending.returned (.bool a)= .returned (.bool b):=by rw[h]
theorem ret_ve {v:Value} {k:IntKind} {a b:Int} (h:a=b):Ending.returned (.tuple #[v, .int k a])= .returned (.tuple #[v, .int k b]):=by rw[h]
theorem ret_be {x y:Bool} {k:IntKind} {a b:Int} (h':x=y) (h:a=b):Ending.returned (.tuple #[.bool x, .int k a])= .returned (.tuple #[.bool y, .int k b]):=by rw[h,h']
theorem ret_int {k:IntKind} {a b:Int} (h:a=b):Ending.returned (.int k a)= .returned (.int k b):=by rw[h]
theorem owns_below {w1 w2:World} {base e size n:Nat} {v:Value} {xs:List Value} (h:w1.ownsRow base e size v n xs) (hb:Below w1.heap.size w1 w2):w2.ownsRow base e size v n xs:=by
 refine⟨h.1, ?_⟩
 rcases h.2 with hn | ⟨g,cap,cur,rfl,hb1,hgg,rest⟩
 ·exact .inl hn
 ·exact .inr ⟨g,cap,cur,rfl,hb1,by rw[hb.block g (Array.getElem?_eq_some_iff.1 hgg).1];exact hgg,rest⟩
theorem owns_slice {w1:World} {base e size n:Nat} {v:Value} {xs:List Value} (h:w1.ownsRow base e size v n xs): ∃a cap,v= .slice a n cap:=by
 rcases h.2 with⟨rfl,rfl⟩ | ⟨g,cap,cur,rfl,_⟩
 ·exact⟨_,_,rfl⟩
 ·exact⟨_,_,rfl⟩
theorem wpList_append_new {P:Program} {w0 W:World} {ops:Array Oper} {rest:List Oper} {o:Oper} {a:Act} {Q:Exit→Act→World→Prop} (hgd:o.guard=none) (s x:Operand) (t:TypeId)
  (ho:o.op= .call { callee:= .builtin .append,args:= #[s,x],argTypes:= #[t,t] })
  (base:Nat) (e:TypeId) (z:Value) (size bytes:Nat) (ht:P.underlying t=some (.slice e)) (hinfo:(P.info? e).map (fun i=>(i.zero,i.size,i.bytes))=some (some z,size,bytes)) (hzs:z.cells.size=size) (hsz:0 < size)
  (v:Value) (n:Nat) (xs:List Value) (hs:a.eval s=v) (hown:W.ownsRow base e size v n xs) (news:List Value) (hl:news.length=size) (h1: ∀u∈news,u.oneCell'=true)
  (hx:a.eval x= .slice (some ⟨W.heap.size,0,none⟩) 1 1) (hbel:Below base w0 W) (hbase:base≤W.heap.size) (hm:n+1≤maxLen) (hn:(n+1)*bytes≤140737488355328)
  (hK: ∀v' w',w'.ownsRow base e size v' (n+1) (xs++news)→Below base w0 w'→wpList P ops Q rest (a.put o.dst v') w'):
  wpList P ops Q (o::rest) a (W.alloc (.cells news.toArray e)):=by
 obtain⟨i,hi,hz,hsize,hby⟩:=info_parts hinfo
 refine wpList_append_own _ hgd s x t ho base e i z size bytes ht hi hz hsize hby hzs hsz v n xs hs (hown.alloc _) ⟨W.heap.size,0,none⟩ 1 1 news hx (by omega) ?_ h1 hm hn (by simp;omega) ?_
 ·intro j u hj
  rw[Addr.add_lit,Nat.zero_add,World.cell?_alloc_at _ _ _ _ rfl]
  simpa using hj
 ·intro v' w' hown' hg _
  exact hK v' w' hown' ((hbel.alloc hbase _).grown hg (by simp;omega) (fun k hk=>(hown.lt k hk).1))
theorem CellsAt.shape {w:World} {v:Value} {n:Nat} {xs:List Value} (h:CellsAt w v n xs): ∃a cap,v= .slice a n cap:=by
 obtain⟨a,cap,hv,_⟩:=h;exact ⟨a,cap,hv⟩
theorem wpList_append_cells {P:Program} {w0 W:World} {ops:Array Oper} {rest:List Oper} {o:Oper} {a:Act} {Q:Exit→Act→World→Prop} (hgd:o.guard=none) (s x:Operand) (t:TypeId)
  (ho:o.op= .call { callee:= .builtin .append,args:= #[s,x],argTypes:= #[t,t] })
  (base:Nat) (e:TypeId) (z:Value) (size bytes:Nat) (ht:P.underlying t=some (.slice e)) (hinfo:(P.info? e).map (fun i=>(i.zero,i.size,i.bytes))=some (some z,size,bytes)) (hzs:z.cells.size=size) (hsz:0 < size)
  (v:Value) (n:Nat) (xs:List Value) (hs:a.eval s=v) (hown:W.ownsRow base e size v n xs) (vx:Value) (m:Nat) (ys:List Value) (hx:a.eval x=vx) (hc:CellsAt W vx m ys) (hl:ys.length=m*size) (h1: ∀u∈ys,u.oneCell'=true)
  (hbel:Below base w0 W) (hbase:base≤W.heap.size) (hm:n+m≤maxLen) (hn:(n+m)*bytes≤140737488355328)
  (hK: ∀v' w',w'.ownsRow base e size v' (n+m) (xs++ys)→Below base w0 w'→wpList P ops Q rest (a.put o.dst v') w'):
  wpList P ops Q (o::rest) a W:=by
 obtain⟨i,hi,hz,hsize,hby⟩:=info_parts hinfo
 obtain⟨ad,cap,rfl,hle, -,h0,hcs⟩:=hc
 cases ad with
 | none=>
  obtain rfl:=h0 rfl
  obtain rfl:m=0:=by omega
  obtain rfl:ys=[]:=List.eq_nil_of_length_eq_zero (by omega)
  exact wpList_append_own_none hgd s x t ho base e i size ht hi v n xs hs hown hx (by simpa using hK v W (by simpa using hown) hbel)
 | some ad=>
  refine wpList_append_own _ hgd s x t ho base e i z size bytes ht hi hz hsize hby hzs hsz v n xs hs hown ad m cap ys hx hl ?_ h1 hm hn hbase ?_
  ·intro j u hj
   rcases hcs with rfl | ⟨b,off,hab, -,hcc⟩
   ·simp at hj
   ·simp only[Option.some.injEq] at hab
    subst hab
    rw[Addr.add_lit];exact hcc j u hj
  ·intro v' w' hown' hg _
   exact hK v' w' hown' (hbel.grown hg hbase (fun k hk=>(hown.lt k hk).1))
theorem bal {W:World} (o:Obj):Below W.heap.size W (W.alloc o):=(Below.refl _ _).alloc (Nat.le_refl _) o
theorem ba1 {W W':World} {o:Obj} (h:Below (W.alloc o).heap.size (W.alloc o) W'):Below W.heap.size W W':=
 ((Below.refl _ _).alloc (Nat.le_refl _) o).trans (h.mono (by simp))
theorem ckeep {W W':World} (hb:Below W.heap.size W W') {p:Addr} {v:Value} (h:W.cell? p=some v):W'.cell? p=some v:=
 (hb.cell (p:=p) (World.block_lt_of_cell? W p h)).trans h
theorem cat (w:World) (cs:Array Value) (t:TypeId) (j:Nat) (v:Value) (h:cs[j]? =some v) (n:Nat) (hn:n=w.heap.size):(w.alloc (.cells cs t)).cell? ⟨n,j,none⟩=some v:=by
 rw[World.cell?_alloc_at _ _ _ _ hn];exact h
end Go.Proofs.YtdljflabokhedaaDoor
