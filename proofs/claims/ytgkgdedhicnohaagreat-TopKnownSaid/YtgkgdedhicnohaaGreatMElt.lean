/- Slices of things of whatever type: what each element's cells hold, kept by every world in which all that could be read still reads the same. No program in sight. Rows of the call's own and blocks of another type: what a store or an append leaves alone. No program in sight. append, and where the new row lies: in the old block, or in a new one. No program in sight. -/
import Derived.Test.YtgkgdedhicnohaaGreatBase2
namespace Go.Proofs.YtgkgdedhicnohaaGreat
open Go.RowKit
structure Sub (w w':World):Prop where
 size:w.heap.size≤w'.heap.size
 cell: ∀p v,w.cell? p=some v→w'.cell? p=some v
theorem Sub.of_below {w w':World} (h:Below w.heap.size w w'):Sub w w':=⟨h.size,fun _ _ hp=>ckeep h hp⟩
theorem CellsAt.sub {w w':World} {v:Value} {n:Nat} {xs:List Value} (h:CellsAt w v n xs) (hs:Sub w w'):CellsAt w' v n xs:=by
 obtain⟨a,cap,hv,hn,hm,h0,h⟩:=h
 refine⟨a,cap,hv,hn,hm,h0,h.imp id ?_⟩
 rintro⟨b,off,ha,hlt,hc⟩
 exact⟨b,off,ha,by have:=hs.size;omega,fun j x hj=>hs.cell _ _ (hc j x hj)⟩
structure Elt (α: Type) where
 size:Nat
 El:World→α→ List Value→Prop
 len: ∀ {w a cs},El w a cs→cs.length=size
 one: ∀ {w a cs},El w a cs→ ∀u∈cs,u.oneCell'=true
 sub: ∀ {w w' a cs},El w a cs→Sub w w'→El w' a cs
 pos:0 < size
variable {α: Type} {E:Elt α}
def Els (E:Elt α) (w:World):List α→ List (List Value)→Prop
 | [],[]=>True
 | a::l,c::cs=>E.El w a c∧Els E w l cs
 | _,_=>False
theorem Els.length {w:World} : ∀ {l:List α} {css:List (List Value)},Els E w l css→css.length=l.length
 | [],[],_=>rfl
 | _::_,_::_,h=>by simp[Els.length h.2]
 | [],_::_,h=>h.elim
 | _::_,[],h=>h.elim
theorem Els.flat {w:World} : ∀ {l:List α} {css:List (List Value)},Els E w l css→css.flatten.length=l.length*E.size
 | [],[],_=>by simp
 | _::l,c::cs,h=>by rw[List.flatten_cons,List.length_append,E.len h.1,Els.flat h.2,List.length_cons,Nat.succ_mul];omega
 | [],_::_,h=>h.elim
 | _::_,[],h=>h.elim
theorem Els.one {w:World} : ∀ {l:List α} {css:List (List Value)},Els E w l css→ ∀u∈css.flatten,u.oneCell'=true
 | [],[],_=>by simp
 | _::l,c::cs,h=>by
  intro u hu
  rw[List.flatten_cons,List.mem_append] at hu
  exact hu.elim (E.one h.1 u) (Els.one h.2 u)
 | [],_::_,h=>h.elim
 | _::_,[],h=>h.elim
theorem Els.sub {w w':World} (hs:Sub w w'): ∀ {l:List α} {css:List (List Value)},Els E w l css→Els E w' l css
 | [],[],_=>trivial
 | _::_,_::_,h=>⟨E.sub h.1 hs,Els.sub hs h.2⟩
 | [],_::_,h=>h.elim
 | _::_,[],h=>h.elim
theorem Els.append {w:World} : ∀ {l m:List α} {cs ds:List (List Value)},Els E w l cs→Els E w m ds→Els E w (l++m) (cs++ds)
 | [],_,[],_,_,k=>k
 | _::_,_,_::_,_,h,k=>⟨h.1,Els.append h.2 k⟩
 | [],_,_::_,_,h,_=>h.elim
 | _::_,_,[],_,h,_=>h.elim
theorem Els.single {w:World} {a:α} {c:List Value} (h:E.El w a c):Els E w [a] [c]:=⟨h,trivial⟩
theorem Els.take {w:World} : ∀ {l:List α} {cs:List (List Value)} (k:Nat),Els E w l cs→Els E w (l.take k) (cs.take k)
 | [],[],k,_=>by simp[Els]
 | _::_,_::_,0,_=>trivial
 | _::_,_::_,k+1,h=>⟨h.1,Els.take k h.2⟩
 | [],_::_,_,h=>h.elim
 | _::_,[],_,h=>h.elim
theorem Els.drop {w:World} : ∀ {l:List α} {cs:List (List Value)} (k:Nat),Els E w l cs→Els E w (l.drop k) (cs.drop k)
 | [],[],k,_=>by simp[Els]
 | _::_,_::_,0,h=>h
 | _::_,_::_,k+1,h=>Els.drop k h.2
 | [],_::_,_,h=>h.elim
 | _::_,[],_,h=>h.elim
theorem Els.get {w:World} : ∀ {l:List α} {cs:List (List Value)} (i:Nat) (_:Els E w l cs) (h1:i < l.length),∃h2:i < cs.length,E.El w l[i] cs[i]
 | [],_,i,_,h1=>by simp at h1
 | _::_,_::_,0,h,_=>⟨by simp,h.1⟩
 | _::_,_::_,i+1,h,h1=>by
  obtain⟨h2,h3⟩:=Els.get i h.2 (by simpa using h1)
  exact⟨by simpa using h2,h3⟩
 | _::_,[],_,h,_=>h.elim
theorem Els.cell {w:World} : ∀ {l:List α} {css:List (List Value)} (i:Nat) (_:Els E w l css) (h1:i < l.length),∃c,E.El w l[i] c∧css[i]? =some c∧ ∀j x,c[j]? =some x→css.flatten[i*E.size+j]? =some x
 | [],_,i,_,h1=>by simp at h1
 | _::_,c::cs,0,h,_=>⟨c,h.1,rfl,fun j x hj=>by
   rw[Nat.zero_mul,Nat.zero_add,List.flatten_cons,List.getElem?_append_left (List.getElem?_eq_some_iff.1 hj).1];exact hj⟩
 | _::_,c::cs,i+1,h,h1=>by
  obtain⟨d,h2,h3,h4⟩:=Els.cell i h.2 (by simpa using h1)
  refine⟨d,h2,by simpa using h3,fun j x hj=> ?_⟩
  have hl:=E.len h.1
  rw[List.flatten_cons,List.getElem?_append_right (by rw[hl,Nat.succ_mul];omega),hl,show(i+1)*E.size+j - E.size=i*E.size+j by rw[Nat.succ_mul];omega]
  exact h4 j x hj
 | _::_,[],_,h,_=>h.elim
def RowAt (E:Elt α) (w:World) (v:Value) (l:List α):Prop:= ∃css,Els E w l css∧CellsAt w v l.length css.flatten
theorem RowAt.sub {w w':World} {v:Value} {l:List α} (h:RowAt E w v l) (hs:Sub w w'):RowAt E w' v l:=by
 obtain⟨css,h1,h2⟩:=h
 exact⟨css,h1.sub hs,h2.sub hs⟩
theorem RowAt.below {w w':World} {v:Value} {l:List α} (h:RowAt E w v l) (hb:Below w.heap.size w w'):RowAt E w' v l:=h.sub (Sub.of_below hb)
theorem RowAt.shape {w:World} {v:Value} {l:List α} (h:RowAt E w v l): ∃a cap,v= .slice a l.length cap:=by
 obtain⟨css, -,h⟩:=h;exact h.shape
theorem RowAt.open_ {w:World} {v:Value} {l:List α} (h:RowAt E w v l): ∃a cap,v= .slice a l.length cap∧l.length≤cap∧l.length≤140737488355328∧(a=none→cap=0)∧
  (l=[]∨ ∃b off,a=some ⟨b,off,none⟩∧b < w.heap.size∧ ∀i (h:i < l.length),∃c,E.El w l[i] c∧ ∀j x,c[j]? =some x→w.cell? ⟨b,off+(i*E.size+j),none⟩=some x):=by
 obtain⟨css,he,⟨a,cap,hv,hn,hm,h0,h⟩⟩:=h
 refine⟨a,cap,hv,hn,hm,h0, ?_⟩
 rcases h with h | ⟨b,off,ha,hlt,hc⟩
 ·left
  have h1:=he.flat
  rw[h] at h1
  cases l with
  | nil=>rfl
  | cons x l=>exfalso;have:=E.pos;simp [Nat.succ_mul] at h1;omega
 ·refine .inr ⟨b,off,ha,hlt,fun i hi=> ?_⟩
  obtain⟨c,h1, -,h3⟩:=he.cell i hi
  exact⟨c,h1,fun j x hj=>hc _ _ (h3 j x hj)⟩
theorem css_take {n k:Nat} {css:List (List Value)} (h: ∀c∈css,c.length=n):(css.take k).flatten=css.flatten.take (k*n):=by
 induction css generalizing k with
 | nil=>simp
 | cons c css ih=>
  cases k with
  | zero=>simp
  | succ k=>
   have hc:=h c List.mem_cons_self
   rw[List.take_succ_cons,List.flatten_cons,List.flatten_cons,ih fun x hx=>h x (List.mem_cons_of_mem _ hx),Nat.succ_mul,List.take_append,hc,show k*n+n - n=k*n by omega,List.take_of_length_le (l:=c) (by omega)]
theorem css_drop {n k:Nat} {css:List (List Value)} (h: ∀c∈css,c.length=n):(css.drop k).flatten=css.flatten.drop (k*n):=by
 induction css generalizing k with
 | nil=>simp
 | cons c css ih=>
  cases k with
  | zero=>simp
  | succ k=>
   have hc:=h c List.mem_cons_self
   rw[List.drop_succ_cons,List.flatten_cons,ih fun x hx=>h x (List.mem_cons_of_mem _ hx),Nat.succ_mul,List.drop_append,hc,show k*n+n - n=k*n by omega,List.drop_of_length_le (l:=c) (by omega),List.nil_append]
theorem Els.lens {w:World} : ∀ {l:List α} {css:List (List Value)},Els E w l css→ ∀c∈css,c.length=E.size
 | [],[],_=>by simp
 | _::l,c::cs,h=>by
  intro d hd
  rcases List.mem_cons.1 hd with rfl | hd
  ·exact E.len h.1
  ·exact Els.lens h.2 d hd
 | [],_::_,h=>h.elim
 | _::_,[],h=>h.elim
theorem RowAt.take {w:World} {a:Option Addr} {n cap:Nat} {l:List α} (h:RowAt E w (.slice a n cap) l) (k:Nat) (hk:k≤l.length):RowAt E w (.slice a k cap) (l.take k):=by
 obtain⟨css,he,⟨a',cap',hv,hn,hm,h0,h⟩⟩:=h
 simp only[Value.slice.injEq] at hv
 obtain⟨rfl,rfl,rfl⟩:=hv
 refine⟨css.take k,he.take k,a,cap,by rw[List.length_take,Nat.min_eq_left hk],by simp;omega,by simp;omega,h0, ?_⟩
 rcases h with h | ⟨b,off,ha,hlt,hc⟩
 ·left;rw [css_take he.lens,h];simp
 ·exact .inr ⟨b,off,ha,hlt,fun j x hj=>hc j x (by rw[css_take he.lens,List.getElem?_take] at hj;split at hj;exact hj;simp at hj)⟩
def RowOwn (E:Elt α) (w0 w:World) (base e:Nat) (v:Value) (l:List α):Prop:= ∃css,Els E w0 l css∧w.ownsRow base e E.size v l.length css.flatten
theorem RowOwn.nil (w0 w:World) (base e:Nat):RowOwn E w0 w base e (.slice none 0 0) []:=⟨[],trivial,World.ownsRow_nil _ _ _ _⟩
theorem RowOwn.shape {w0 w:World} {base e:Nat} {v:Value} {l:List α} (h:RowOwn E w0 w base e v l): ∃a cap,v= .slice a l.length cap:=by
 obtain⟨css, -,h⟩:=h;exact owns_slice h
theorem RowOwn.at_ {w0 w:World} {base e:Nat} {v:Value} {l:List α} (h:RowOwn E w0 w base e v l) (hs:Sub w0 w) (hl:l.length≤140737488355328):RowAt E w v l:=by
 obtain⟨css,h1,h2⟩:=h
 exact⟨css,h1.sub hs,CellsAt.of_owns h2 hl⟩
theorem RowOwn.below {w0 w w':World} {base e:Nat} {v:Value} {l:List α} (h:RowOwn E w0 w base e v l) (hb:Below w.heap.size w w'):RowOwn E w0 w' base e v l:=by
 obtain⟨css,h1,h2⟩:=h
 exact⟨css,h1,owns_below h2 hb⟩
theorem RowOwn.lt {w0 w:World} {base e:Nat} {v:Value} {l:List α} (h:RowOwn E w0 w base e v l) (k:Nat) (hk:v.ownBlock=some k):base≤k∧k < w.heap.size:=by
 obtain⟨css, -,h⟩:=h;exact h.lt k hk
theorem own_off {w:World} {base e size n g:Nat} {v:Value} {xs:List Value} {cs:Array Value} {t:TypeId} {r:Nat×Nat} (h:w.ownsRow base e size v n xs) (hg:w.heap[g]? =some (Obj.cells cs t r)) (hne:t≠e):v.ownBlock≠some g:=by
 rcases h.2 with⟨rfl, -⟩ | ⟨k,cap,cur,rfl, -,hk, -⟩
 ·simp[Value.ownBlock]
 ·simp only[Value.ownBlock,ne_eq,Option.some.injEq]
  rintro rfl
  rw[hk] at hg
  simp only[Option.some.injEq,Obj.cells.injEq] at hg
  exact hne hg.2.1.symm
theorem grown_set (w:World) (g j:Nat) (u:Value):w.grownBy (w.setCell ⟨g,j,none⟩ u) (some g):=
 ⟨rfl,rfl,rfl,by simp[World.setCell],fun k _ hne=>heap_set_other (fun e=>hne (by rw[e]))⟩
theorem own_set {w:World} {base e size n g j:Nat} {v u:Value} {xs:List Value} {cs:Array Value} {t:TypeId} {r:Nat×Nat} (h:w.ownsRow base e size v n xs) (hg:w.heap[g]? =some (Obj.cells cs t r)) (hne:t≠e):(w.setCell ⟨g,j,none⟩ u).ownsRow base e size v n xs:=
 h.kept (grown_set _ _ _ _) (.inr (own_off h hg hne))
theorem hlt_of {w:World} {c:Nat} {cs:Array Value} {t:TypeId} {r:Nat×Nat} (hc:w.heap[c]? =some (Obj.cells cs t r)):c < w.heap.size:=(Array.getElem?_eq_some_iff.1 hc).1
theorem grown_keep {w w':World} {base e size n g:Nat} {v:Value} {xs:List Value} {cs:Array Value} {t:TypeId} {r:Nat×Nat} (h:w.ownsRow base e size v n xs) (hgr:w.grownBy w' v.ownBlock) (hg:w.heap[g]? =some (Obj.cells cs t r)) (hne:t≠e):w'.heap[g]? =some (Obj.cells cs t r):=by
 rw[hgr.block g (hlt_of hg) (fun e=>own_off h hg hne e.symm)];exact hg
theorem below_keep {w w':World} {g:Nat} {o:Obj} (hb:Below w.heap.size w w') (hg:w.heap[g]? =some o):w'.heap[g]? =some o:=by
 rw[hb.block g (Array.getElem?_eq_some_iff.1 hg).1];exact hg
theorem alloc_keep {w:World} {g:Nat} {o:Obj} (o2:Obj) (hg:w.heap[g]? =some o):(w.alloc o2).heap[g]? =some o:=by
 rw[heap_alloc_old _ _ (Array.getElem?_eq_some_iff.1 hg).1];exact hg
theorem alloc_new (w:World) (cs:Array Value) (t:TypeId) (n:Nat) (hn:n=w.heap.size):(w.alloc (.cells cs t)).heap[n]? =some (Obj.cells cs t (0,0)):=by subst hn;exact heap_alloc_new _ _
def AppR (base e size:Nat) (w w':World):Prop:= ∃v n xs,w.ownsRow base e size v n xs∧w.grownBy w' v.ownBlock
theorem AppR.keep {base e size g:Nat} {w w':World} {cs:Array Value} {t:TypeId} {r:Nat×Nat} (h:AppR base e size w w') (hg:w.heap[g]? =some (Obj.cells cs t r)) (hne:t≠e):w'.heap[g]? =some (Obj.cells cs t r):=by
 obtain⟨v,n,xs,h1,h2⟩:=h;exact grown_keep h1 h2 hg hne
theorem run_append_own' {P:Program} (w:World) (base:Nat) (t ty e:TypeId) (i:TypeInfo) (z:Value) (size bytes:Nat) (ht:P.underlying t=some (.slice e)) (hi:P.info? e=some i) (hz:i.zero=some z)
  (hsize:i.size=size) (hby:i.bytes=bytes) (hzs:z.cells.size=size) (hsz:0 < size)
  (v:Value) (n:Nat) (xs:List Value) (hown:w.ownsRow base e size v n xs)
  (a:Addr) (m c:Nat) (news:List Value) (hl:news.length=m*size) (hnews: ∀j u,news[j]? =some u→w.cell? (a.add j)=some u) (h1: ∀u∈news,u.oneCell'=true)
  (h63:n+m≤maxLen) (hbytes:(n+m)*bytes≤140737488355328) (hbase:base≤w.heap.size):
  ∃v' w',(Builtin.append_ #[t,t] ty #[v, .slice (some a) m c]).run P w= .ok v' w'∧w'.ownsRow base e size v' (n+m) (xs++news)∧w.grownBy w' v.ownBlock∧
   (v'.ownBlock=v.ownBlock∨v'.ownBlock=some w.heap.size):=by
 obtain⟨v',w',hr,h2,h3, -⟩:=run_append_own (P:=P) w base t ty e i z size bytes ht hi hz hsize hby hzs hsz v n xs hown a m c news hl hnews h1 h63 hbytes hbase
 refine⟨v',w',hr,h2,h3, ?_⟩
 subst hsize
 subst hby
 have h63i:n+m≤9223372036854775807:=by simp only[maxLen] at h63;omega
 rcases hown.2 with⟨rfl,rfl⟩ | ⟨g,cap,cur,rfl,hbg,hg,hnc,hcm,hcs,htake⟩
 ·by_cases hm:m=0
  ·subst hm
   have hn:news=[]:=List.eq_nil_of_length_eq_zero (by simpa using hl)
   subst hn
   have hr2:(Builtin.append_ #[t,t] ty #[.slice none 0 0, .slice (some a) 0 c]).run P w= .ok (.slice none 0 0) w:=by
    simp[Builtin.append_,run_underlying ht,sizeOf,typeInfo,hi,Builtin.lenOf,Builtin.firstCells,loadCells,loadCellsFrom]
   rw[hr2] at hr
   injection hr with e1 e2
   exact .inl (by rw[←e1])
  ·have hr2:=run_append_nil (P:=P) w t ty e i z ht hi hz a m c news hl hnews (by omega) (by omega) (by have hb:=hbytes;simp only[Nat.zero_add] at hb;omega)
   rw[hr2] at hr
   injection hr with e1 e2
   exact .inr (by rw[←e1];rfl)
 ·by_cases hroom:n+m≤cap
  ·have hfit:n*i.size+news.length≤cur.size:=by rw[hl,hcs,←Nat.add_mul];exact Nat.mul_le_mul_right _ hroom
   have hr2:=run_append_room (P:=P) w t ty e i ht hi g n cap cur hg a m c news hl hnews h1 hroom hfit
   rw[hr2] at hr
   injection hr with e1 e2
   exact .inl (by rw[←e1];rfl)
  ·have holds: ∀j u,xs[j]? =some u→w.cell? ((⟨g,0,none⟩:Addr).add j)=some u:=hown.cells (g:=g) rfl
   have hr2:=run_append_grow (P:=P) w t ty e i z ht hi hz ⟨g,0,none⟩ n cap xs hown.1 holds a m c news hl hnews (by omega) (by omega) (growslice_fits (by omega) hbytes)
   rw[hr2] at hr
   injection hr with e1 e2
   exact .inr (by rw[←e1];rfl)
theorem wpList_append_own' {P:Program} {w:World} {ops:Array Oper} {rest:List Oper} {o:Oper} {a:Act} {Q:Exit→Act→World→Prop} (hgd:o.guard=none) (s x:Operand) (t:TypeId)
  (ho:o.op= .call { callee:= .builtin .append,args:= #[s,x],argTypes:= #[t,t] })
  (base:Nat) (e:TypeId) (z:Value) (size bytes:Nat) (ht:P.underlying t=some (.slice e)) (hinfo:(P.info? e).map (fun i=>(i.zero,i.size,i.bytes))=some (some z,size,bytes)) (hzs:z.cells.size=size) (hsz:0 < size)
  (v:Value) (n:Nat) (xs:List Value) (hs:a.eval s=v) (hown:w.ownsRow base e size v n xs)
  (ad:Addr) (m c:Nat) (news:List Value) (hx:a.eval x= .slice (some ad) m c) (hl:news.length=m*size) (hnews: ∀j u,news[j]? =some u→w.cell? (ad.add j)=some u) (h1: ∀u∈news,u.oneCell'=true)
  (h63:n+m≤maxLen) (hbytes:(n+m)*bytes≤140737488355328) (hbase:base≤w.heap.size)
  (h: ∀v' w',w'.ownsRow base e size v' (n+m) (xs++news)→w.grownBy w' v.ownBlock→(v'.ownBlock=v.ownBlock∨v'.ownBlock=some w.heap.size)→wpList P ops Q rest (a.put o.dst v') w'):wpList P ops Q (o::rest) a w:=by
 obtain⟨i,hi,hz,hsize,hby⟩:=info_parts hinfo
 obtain⟨v',w',hr,h2,h3,h4⟩:=run_append_own' (P:=P) w base t o.type e i z size bytes ht hi hz hsize hby hzs hsz v n xs hown ad m c news hl hnews h1 h63 hbytes hbase
 refine wpList_plain hgd fun K hK=> ?_
 unfold Oper.wp execOp
 simp only[ho,resolve,invoke,builtin,Sem.run_bind,Sem.run_pure,Result.andThen_ok,List.map_toArray,List.map_cons,List.map_nil,hs,hx,hr]
 exact hK _ _ (h v' w' h2 h3 h4)
end Go.Proofs.YtgkgdedhicnohaaGreat
