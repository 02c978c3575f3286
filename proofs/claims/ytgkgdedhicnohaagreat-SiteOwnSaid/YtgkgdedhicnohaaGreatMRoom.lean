/- Rows with three elements behind them: what memory holds. No walk here. What is written over and what stays: no walk here. What the laws' roomy does: a copy with three elements behind it. Written by a small program (gen/roomy.py). What the laws' marked and spoil do. Written by a small program (gen/spoil.py). -/
import Derived.Deep.DeepAppendRoom
import Derived.Test.YtgkgdedhicnohaaGreatMClaims
namespace Go.Proofs.YtgkgdedhicnohaaGreat
set_option maxRecDepth 100000
set_option maxHeartbeats 40000000
open Go.RowKit
structure Roomy (w:World) (base e size:Nat) (v:Value) (n:Nat) (xs sp:List Value):Prop where
 lx:xs.length=n*size
 ls:sp.length=3*size
 mx:n+3≤maxLen
 row: ∃g,v= .slice (some ⟨g,0,none⟩) n (n+3)∧base≤g∧w.heap[g]? =some (.cells (xs++sp).toArray e (0,0))
theorem Roomy.owns {w:World} {base e size n:Nat} {v:Value} {xs sp:List Value} (h:Roomy w base e size v n xs sp):w.ownsRow base e size v n xs:=by
 obtain⟨g,h1,h2,h3⟩:=h.row
 refine⟨h.lx, .inr ⟨g,n+3,_,h1,h2,h3,by omega,h.mx, ?_, ?_⟩⟩
 ·rw[List.size_toArray,List.length_append,h.lx,h.ls,Nat.add_mul]
 ·rw[←h.lx,List.toList_toArray,List.take_left]
theorem Roomy.below {w w':World} {base e size n:Nat} {v:Value} {xs sp:List Value} (h:Roomy w base e size v n xs sp) (hb:Below w.heap.size w w'):Roomy w' base e size v n xs sp:=by
 obtain⟨g,h1,h2,h3⟩:=h.row
 exact⟨h.lx,h.ls,h.mx,g,h1,h2,below_keep hb h3⟩
theorem Roomy.mono {w:World} {base base' e size n:Nat} {v:Value} {xs sp:List Value} (h:Roomy w base e size v n xs sp) (hb:base'≤base):Roomy w base' e size v n xs sp:=by
 obtain⟨g,h1,h2,h3⟩:=h.row
 exact⟨h.lx,h.ls,h.mx,g,h1,Nat.le_trans hb h2,h3⟩
theorem owns_block {w:World} {base e size g n cap:Nat} {xs:List Value} (h:w.ownsRow base e size (.slice (some ⟨g,0,none⟩) n cap) n xs): ∃R:List Value,R.length=(cap - n)*size∧w.heap[g]? =some (.cells (xs++R).toArray e (0,0))∧base≤g∧n≤cap∧cap≤maxLen:=by
 rcases h.2 with⟨h0, -⟩ | ⟨g',cap',cur,hv,hb,hg,hn,hm,hs,ht⟩
 ·cases h0
 ·cases hv
  refine⟨cur.toList.drop (n*size), ?_, ?_,hb,hn,hm⟩
  ·rw[List.length_drop,Array.length_toList,hs,Nat.sub_mul]
  ·rw[hg,←ht,List.take_append_drop]
def sowRow (w:World) (g off:Nat):List Value→World
 | []=>w
 | v::l=>sowRow (w.setCell ⟨g,off,none⟩ v) g (off+1) l
theorem sowRow_block {e g:Nat} : ∀(l:List Value) (w:World) (A B C:List Value) (off:Nat),A.length=off→B.length=l.length→w.heap[g]? =some (.cells (A++B++C).toArray e (0,0))→(sowRow w g off l).heap[g]? =some (.cells (A++l++C).toArray e (0,0))
 | [],w,A,B,C,off,_,hB,h=>by
  obtain rfl:B=[]:=List.eq_nil_of_length_eq_zero hB
  exact h
 | v::l,w,A,b::B,C,off,hA,hB,h=>by
  have h1:(w.setCell ⟨g,off,none⟩ v).heap[g]? =some (.cells ((A++[v])++B++C).toArray e (0,0)):=by
   rw[heap_set_same h]
   congr 2
   subst hA
   rw[List.setIfInBounds_toArray]
   congr 1
   simp[List.set_append]
  have h2:=sowRow_block l _ (A++[v]) B C (off+1) (by simp[hA]) (by simpa using hB) h1
  show(sowRow (w.setCell ⟨g,off,none⟩ v) g (off+1) l).heap[g]? =_
  rw[h2];simp
 | v::l,w,A,[],C,off,_,hB,_=>by simp at hB
theorem sowRow_other {g k:Nat} (hk:k≠g): ∀(l:List Value) (w:World) (off:Nat),(sowRow w g off l).heap[k]? =w.heap[k]?
 | [],_,_=>rfl
 | v::l,w,off=>(sowRow_other hk l _ (off+1)).trans (heap_set_other hk)
theorem sowRow_below {g base:Nat} (hg:base≤g): ∀(l:List Value) (w0 w:World) (off:Nat),Below base w0 w→Below base w0 (sowRow w g off l)
 | [],_,_,_,h=>h
 | v::l,w0,w,off,h=>sowRow_below hg l w0 _ (off+1) (h.setCell hg _)
structure RSt (w0 w:World) (e size g n:Nat) (xs xc:List Value) (X:List Value) (i:Nat):Prop where
 bel:Below w0.heap.size w0 w
 hg:w0.heap.size≤g
 hX:X≠[]→w0.heap.size < g
 box:X≠[]→w.heap[w0.heap.size]? =some (.cells X.toArray e (0,0))
 blk: ∃R:List Value,R.length=(3 - i)*size∧w.heap[g]? =some (.cells (xs++(List.replicate i xc).flatten++R).toArray e (0,0))
theorem RSt.below {w0 w w':World} {e size g n i:Nat} {xs xc X:List Value} (h:RSt w0 w e size g n xs xc X i) (hb:Below w.heap.size w w'):RSt w0 w' e size g n xs xc X i:=by
 obtain⟨R,h1,h2⟩:=h.blk
 exact⟨bstep h.bel hb,h.hg,h.hX,fun hX=>below_keep hb (h.box hX),R,h1,below_keep hb h2⟩
theorem rep_len {size:Nat} {xc:List Value} (hx:xc.length=size): ∀i,((List.replicate i xc).flatten).length=i*size
 | 0=>by simp
 | i+1=>by rw[List.replicate_succ,List.flatten_cons,List.length_append,rep_len hx i,hx,Nat.succ_mul];omega
theorem rep_snoc (xc:List Value) (i:Nat):(List.replicate (i+1) xc).flatten=(List.replicate i xc).flatten++xc:=by
 rw[List.replicate_succ',List.flatten_append];simp
theorem RSt.set {w0 w:World} {e size g n i:Nat} {xs xc X:List Value} (h:RSt w0 w e size g n xs xc X i) (hx:xc.length=size) (hn:xs.length=n*size) (hi:i < 3):RSt w0 (sowRow w g ((n+i)*size) xc) e size g n xs xc X (i+1):=by
 obtain⟨R,h1,h2⟩:=h.blk
 have hs:size≤R.length:=by
  rw[h1]
  exact Nat.le_mul_of_pos_left _ (by omega)
 have hR:xs++(List.replicate i xc).flatten++R=(xs++(List.replicate i xc).flatten)++R.take size++R.drop size:=by rw[List.append_assoc (xs++_),List.take_append_drop]
 rw[hR] at h2
 have h3:=sowRow_block xc w _ _ _ ((n+i)*size) (by rw[List.length_append,hn,rep_len hx,Nat.add_mul]) (by rw[List.length_take,hx];omega) h2
 refine⟨sowRow_below h.hg xc w0 w _ h.bel,h.hg,h.hX,fun hX=> ?_,R.drop size, ?_, ?_⟩
 ·rw[sowRow_other (by have:=h.hX hX;omega)];exact h.box hX
 ·rw[List.length_drop,h1,show 3 - i=(3 - (i+1))+1 by omega,Nat.succ_mul];omega
 ·rw[h3,rep_snoc,List.append_assoc xs]
theorem RSt.cell {w0 w:World} {e size g n i:Nat} {xs xc X:List Value} (h:RSt w0 w e size g n xs xc X i) (hx:xc.length=size) (hn:xs.length=n*size) (hi:i < 3) (j:Nat) (hj:j < size):(∃v,w.cell? ⟨g,(n+i)*size+j,none⟩=some v)∧w.frozen? ⟨g,(n+i)*size+j,none⟩=false:=by
 obtain⟨R,h1,h2⟩:=h.blk
 refine⟨?_,free_of_block h2⟩
 have hl:(n+i)*size+j < (xs++(List.replicate i xc).flatten++R).length:=by
  rw[List.length_append,List.length_append,hn,rep_len hx,h1]
  have:size≤(3 - i)*size:=Nat.le_mul_of_pos_left _ (by omega)
  rw[Nat.add_mul];omega
 exact⟨_,cell_of_block (j:=(n+i)*size+j) h2 (by rw[List.getElem?_toArray,List.getElem?_eq_getElem hl])⟩
theorem RSt.done {w0 w:World} {e size g n:Nat} {xs xc X:List Value} (h:RSt w0 w e size g n xs xc X 3) (hx:xc.length=size) (hn:xs.length=n*size) (hm:n+3≤maxLen):Roomy w w0.heap.size e size (.slice (some ⟨g,0,none⟩) n (n+3)) n xs (List.replicate 3 xc).flatten:=by
 obtain⟨R,h1,h2⟩:=h.blk
 obtain rfl:R=[]:=List.eq_nil_of_length_eq_zero (by simpa using h1)
 rw[List.append_nil] at h2
 exact⟨hn,rep_len hx 3,hm,g,rfl,h.hg,h2⟩
theorem mk_room {P:Program} (W:World) (t e:TypeId) (z:Value) (size bytes:Nat) (ht:P.underlying t=some (.slice e)) (hinfo:(P.info? e).map (fun i=>(i.zero,i.size,i.bytes))=some (some z,size,bytes))
  (c:Nat) (x:Int) (hx:x=(c:Int)) (hb:bytes*c≤281474976710656) (hn:c≤maxLen):
  ∃w',(Instr.makeSlice t (.int .i64 0) (.int .i64 x)).run P W= .ok (.slice (some ⟨W.heap.size,0,none⟩) 0 c) w'∧
   w'.ownsRow W.heap.size e size (.slice (some ⟨W.heap.size,0,none⟩) 0 c) 0 []∧Below W.heap.size W w':=by
 subst hx
 obtain⟨i,hi,hz,hsize,hby⟩:=info_parts hinfo
 subst hby
 obtain⟨w',h1,h2,h3⟩:=run_make_own (P:=P) W W.heap.size t e i z size ht hi hz hsize .i64 .i64 c hb hn (Nat.le_refl _)
 exact⟨w',h1,h2,(Below.refl _ _).grown h3 (Nat.le_refl _) (fun k hk=>by simp at hk)⟩
theorem RSt.start {w0 w:World} {e size g n:Nat} {xs xc X:List Value} (hb:Below w0.heap.size w0 w) (hg:w0.heap.size≤g) (hX:X≠[]→w0.heap.size < g) (hbox:X≠[]→w.heap[w0.heap.size]? =some (.cells X.toArray e (0,0))) (h:w.ownsRow g e size (.slice (some ⟨g,0,none⟩) n (n+3)) n xs):RSt w0 w e size g n xs xc X 0:=by
 obtain⟨R,h1,h2, -⟩:=owns_block h
 exact⟨hb,hg,hX,hbox,R,by rw[h1];congr 1;omega,by simpa using h2⟩
theorem wpList_append_spare2 {P:Program} {W:World} {ops:Array Oper} {rest:List Oper} {o:Oper} {a:Act} {Q:Exit→Act→World→Prop} (hgd:o.guard=none) (s x:Operand) (t:TypeId)
  (ho:o.op= .call { callee:= .builtin .append,args:= #[s,x],argTypes:= #[t,t] })
  (base:Nat) (e:TypeId) (z:Value) (size bytes:Nat) (ht:P.underlying t=some (.slice e)) (hinfo:(P.info? e).map (fun i=>(i.zero,i.size,i.bytes))=some (some z,size,bytes)) (hsz:0 < size)
  (g n cap:Nat) (xs:List Value) (hs:a.eval s= .slice (some ⟨g,0,none⟩) n cap) (hown:W.ownsRow base e size (.slice (some ⟨g,0,none⟩) n cap) n xs) (vx:Value) (m:Nat) (ys:List Value) (hx:a.eval x=vx) (hc:CellsAt W vx m ys) (hl:ys.length=m*size) (h1: ∀u∈ys,u.oneCell'=true)
  (hroom:n+m≤cap)
  (hK: ∀w',w'.ownsRow base e size (.slice (some ⟨g,0,none⟩) (n+m) cap) (n+m) (xs++ys)→W.grownBy w' (some g)→wpList P ops Q rest (a.put o.dst (.slice (some ⟨g,0,none⟩) (n+m) cap)) w'):
  wpList P ops Q (o::rest) a W:=by
 obtain⟨i,hi,hz,hsize,hby⟩:=info_parts hinfo
 obtain⟨ad,cap2,rfl,hle, -,h0,hcs⟩:=hc
 cases ad with
 | none=>
  obtain rfl:=h0 rfl
  obtain rfl:m=0:=by omega
  obtain rfl:ys=[]:=List.eq_nil_of_length_eq_zero (by omega)
  exact wpList_append_own_none hgd s x t ho base e i size ht hi _ n xs hs hown hx (by simpa using hK W (by simpa using hown) ⟨rfl,rfl,rfl,Nat.le_refl _,fun _ _ _=>rfl⟩)
 | some ad=>
  refine wpList_append_own_spare _ hgd s x t ho base e i size ht hi hsize g n cap xs hs hown ad m cap2 ys hx hl ?_ h1 hroom ?_
  ·intro j u hj
   rcases hcs with rfl | ⟨b,off,hab, -,hcc⟩
   ·simp at hj
   ·simp only[Option.some.injEq] at hab
    subst hab
    rw[Addr.add_lit];exact hcc j u hj
  ·exact hK
structure Sp (S:Nat→Prop) (w w':World):Prop where
 os:w'.os=w.os
 tape:w'.tape=w.tape
 output:w'.output=w.output
 size:w.heap.size≤w'.heap.size
 keep: ∀k,k < w.heap.size→ ¬S k→w'.heap[k]? =w.heap[k]?
 shape: ∀(k:Nat) (cs:Array Value) (e:TypeId),w.heap[k]? =some (.cells cs e (0,0))→ ∃cs',w'.heap[k]? =some (.cells cs' e (0,0))∧cs'.size=cs.size
theorem Sp.refl (S:Nat→Prop) (w:World):Sp S w w:=⟨rfl,rfl,rfl,Nat.le_refl _,fun _ _ _=>rfl,fun _ cs _ h=>⟨cs,h,rfl⟩⟩
theorem Sp.trans {S:Nat→Prop} {a b c:World} (h:Sp S a b) (k:Sp S b c):Sp S a c:=by
 refine⟨k.os.trans h.os,k.tape.trans h.tape,k.output.trans h.output,Nat.le_trans h.size k.size,fun j hj hS=>(k.keep j (Nat.lt_of_lt_of_le hj h.size) hS).trans (h.keep j hj hS),fun j cs e hc=> ?_⟩
 obtain⟨c1,h1,h2⟩:=h.shape j cs e hc
 obtain⟨c2,h3,h4⟩:=k.shape j c1 e h1
 exact⟨c2,h3,h4.trans h2⟩
theorem Sp.mono {S T:Nat→Prop} {w w':World} (h:Sp S w w') (hST: ∀k,S k→T k):Sp T w w':=⟨h.os,h.tape,h.output,h.size,fun k hk hT=>h.keep k hk fun hs=>hT (hST k hs),h.shape⟩
theorem Sp.of_below {S:Nat→Prop} {w w':World} (h:Below w.heap.size w w'):Sp S w w':=⟨h.os,h.tape,h.output,h.size,fun k hk _=>h.block k hk,fun _ cs _ hc=>⟨cs,below_keep h hc,rfl⟩⟩
theorem Sp.toBelow {S:Nat→Prop} {base:Nat} {w w':World} (h:Sp S w w') (hS: ∀k,S k→base≤k) (hb:base≤w.heap.size):Below base w w':=⟨h.os,h.tape,h.output,h.size,fun k hk=>h.keep k (by omega) fun hs=>by have:=hS k hs;omega⟩
theorem Sp.block {S:Nat→Prop} {w w':World} {g:Nat} {o:Obj} (h:Sp S w w') (hg:w.heap[g]? =some o) (hS: ¬S g):w'.heap[g]? =some o:=by
 rw[h.keep g (Array.getElem?_eq_some_iff.1 hg).1 hS];exact hg
theorem Sp.row {g e:Nat} : ∀(l:List Value) (w:World) (off:Nat) (cs:Array Value),w.heap[g]? =some (.cells cs e (0,0))→Sp (fun k=>k=g) w (sowRow w g off l)
 | [],w,_,_,_=>Sp.refl _ _
 | v::l,w,off,cs,h=>by
  have h1:=heap_set_same (j:=off) (v:=v) h
  have h2:Sp (fun k=>k=g) w (w.setCell ⟨g,off,none⟩ v):=by
   refine⟨rfl,rfl,rfl,by simp,fun k _ hk=>heap_set_other hk,fun k cs' e' hc=> ?_⟩
   by_cases hk:k=g
   ·subst hk
    rw[h] at hc
    simp only[Option.some.injEq,Obj.cells.injEq,and_true] at hc
    obtain⟨rfl,rfl⟩:=hc
    exact⟨_,h1,by simp⟩
   ·exact⟨cs',(heap_set_other hk).trans hc,rfl⟩
  exact h2.trans (Sp.row l _ (off+1) _ h1)
def ShRow (w:World) (e size:Nat) (v:Value):Prop:=
 v= .slice none 0 0∨ ∃(g n cap:Nat) (cur:Array Value),v= .slice (some ⟨g,0,none⟩) n cap∧n≤cap∧cap≤maxLen∧w.heap[g]? =some (.cells cur e (0,0))∧cur.size=cap*size
theorem ShRow.sp {S:Nat→Prop} {w w':World} {e size:Nat} {v:Value} (h:ShRow w e size v) (hs:Sp S w w'):ShRow w' e size v:=by
 rcases h with h | ⟨g,n,cap,cur,h1,h2,h3,h4,h5⟩
 ·exact .inl h
 ·obtain⟨cs',h6,h7⟩:=hs.shape _ _ _ h4
  exact .inr ⟨g,n,cap,cs',h1,h2,h3,h6,h7.trans h5⟩
theorem ShRow.of_owns {w:World} {base e size n:Nat} {v:Value} {xs:List Value} (h:w.ownsRow base e size v n xs):ShRow w e size v:=by
 rcases h.2 with⟨h0, -⟩ | ⟨g,cap,cur,h1, -,h2,h3,h4,h5, -⟩
 ·exact .inl h0
 ·exact .inr ⟨g,n,cap,cur,h1,h3,h4,h2,h5⟩
theorem owns_sp {S:Nat→Prop} {w w':World} {base e size n:Nat} {v:Value} {xs:List Value} (h:w.ownsRow base e size v n xs) (hs:Sp S w w') (hv: ∀k,v.ownBlock=some k→ ¬S k):w'.ownsRow base e size v n xs:=by
 refine⟨h.1, ?_⟩
 rcases h.2 with h0 | ⟨g,cap,cur,h1,h2,h3,h4⟩
 ·exact .inl h0
 ·exact .inr ⟨g,cap,cur,h1,h2,hs.block h3 (hv g (by rw[h1];rfl)),h4⟩
theorem sh_cell {w:World} {g e size cap i j:Nat} {cur:Array Value} (h:w.heap[g]? =some (.cells cur e (0,0))) (hs:cur.size=cap*size) (hi:i < cap) (hj:j < size):(∃v,w.cell? ⟨g,i*size+j,none⟩=some v)∧w.frozen? ⟨g,i*size+j,none⟩=false:=by
 refine⟨?_,free_of_block h⟩
 have hl:i*size+j < cur.size:=by
  rw[hs]
  have:(i+1)*size≤cap*size:=Nat.mul_le_mul_right _ hi
  rw[Nat.add_mul,Nat.one_mul] at this;omega
 exact⟨_,cell_of_block h (Array.getElem?_eq_getElem hl)⟩
theorem Sp.cell {S:Nat→Prop} {w w':World} {p:Addr} (h:Sp S w w') (hp:p.block < w.heap.size) (hS: ¬S p.block):w'.cell? p=w.cell? p:=World.cell?_of_block (h.keep p.block hp hS)
theorem owns_type {w:World} {base e size n q:Nat} {v:Value} {xs:List Value} (h:w.ownsRow base e size v n xs) (hq:v.ownBlock=some q): ∃cs,w.heap[q]? =some (.cells cs e (0,0)):=by
 rcases h.2 with⟨rfl, -⟩ | ⟨g,cap,cur,rfl, -,h2, -⟩
 ·simp[Value.ownBlock] at hq
 ·simp only[Value.ownBlock,Option.some.injEq] at hq
  subst hq;exact ⟨cur,h2⟩
theorem Roomy.setOther {w:World} {base e e' size n g j:Nat} {v u:Value} {xs sp:List Value} {cs:Array Value} (h:Roomy w base e size v n xs sp) (hg:w.heap[g]? =some (.cells cs e' (0,0))) (hne:e≠e'):Roomy (w.setCell ⟨g,j,none⟩ u) base e size v n xs sp:=by
 obtain⟨g',h1,h2,h3⟩:=h.row
 refine⟨h.lx,h.ls,h.mx,g',h1,h2, ?_⟩
 rw[heap_set_other]
 ·exact h3
 ·rintro rfl
  rw[h3] at hg
  simp only[Option.some.injEq,Obj.cells.injEq] at hg
  exact hne hg.2.1
def InR (lo hi:Nat) (v:Value):Prop:= ∀k,v.ownBlock=some k→lo≤k∧k < hi
theorem inR_owns {w:World} {base e size n:Nat} {v:Value} {xs:List Value} (h:w.ownsRow base e size v n xs):InR base w.heap.size v:=fun k hk=>h.lt k hk
theorem RmTy.span:(Tryz.prog.info? 119).map (fun i=>(i.zero,i.size,i.bytes))=some (some (.agg #[.int .i64 0, .int .i64 0]),2,16):=by kernel_rfl
theorem roomy_span (v:Value) (n:Nat) (xs:List Value) (a0 a1:Int) (w:World) (hv:CellsAt w v n xs) (hl:xs.length=n*2) (h1: ∀u∈xs,u.oneCell'=true) (hn:n*16≤140737488355328):
  Calls Tryz.prog 96 #[v,(.agg #[.int .i64 a0, .int .i64 a1])] w fun e w'=> ∃v',e= .returned v'∧Roomy w' w.heap.size 119 2 v' n xs (List.replicate 3 ([.int .i64 a0, .int .i64 a1]:List Value)).flatten∧Below w.heap.size w w':=by
 obtain⟨va,vc,rfl⟩:=hv.shape
 obtain⟨W,hW⟩: ∃W,W=w.alloc (.cells #[.int .i64 a0, .int .i64 a1] 119):=⟨_,rfl⟩
 have hbw:Below w.heap.size w W:=by rw[hW];exact bal _
 have hsw:W.heap.size=w.heap.size+1:=by rw[hW];simp
 obtain⟨w2,hmk,hown,hb2⟩:=mk_room (P:=Tryz.prog) W 120 119 (.agg #[.int .i64 0, .int .i64 0]) 2 16 Tryz.underlying120 RmTy.span (n+3) ((n:Int)+3) rfl (by omega) (by unfold maxLen;omega)
 rw[hsw] at hmk hown
 obtain⟨g,hg⟩: ∃g,g=w.heap.size+1:=⟨_,rfl⟩
 rw[←hg] at hmk hown
 have HBX:=jD (show([.int .i64 a0, .int .i64 a1]:List Value)≠[]→w2.heap[w.heap.size]? =some (.cells ([.int .i64 a0, .int .i64 a1]:List Value).toArray 119 (0,0)) from fun _=>below_keep hb2 (by rw[hW];exact alloc_new _ _ _ _ rfl))
 have HB2:=jD (bstep hbw hb2)
 have HV:=jD ((hv.below hbw).below hb2)
 have HO:=jD hown
 have H1:=jD h1
 have HN:=jD hn
 have hn9:n≤140737488355328:=by omega
 have HG:=jD hg
 have HL:=jD hl
 rw[hW] at hmk
 clear hv hbw hb2 hown h1 hn hsw hg
 go_enter Tryz.func96,Tryz.ntmps96
 skip
 go_wp2_with (at_builtin;refine wpList_append_spare2 rfl (.tmp 10) (.tmp 11) 120 rfl g 119 (.agg #[.int .i64 0, .int .i64 0]) 2 16 Tryz.underlying120 RmTy.span (by decide) g 0 (n+3) [] rfl HO.out _ n xs rfl HV.out HL.out H1.out (by omega) ?_)
 rintro w3 hown3 hgr3
 have hb3:Below w.heap.size w w3:=HB2.out.grown hgr3 HB2.out.size (fun k hk=>by have:=HG.out;simp at hk;omega)
 have HS:=jD (RSt.start (xc:=[.int .i64 a0, .int .i64 a1]) (X:=[.int .i64 a0, .int .i64 a1]) hb3 (by have:=HG.out;omega) (by intro _;have:=HG.out;omega) (fun h=>(hgr3.block _ (by have:=hlt_of (HBX.out h);omega) (by have:=HG.out;simp;omega)).trans (HBX.out h)) hown3)
 clear hown3 hgr3 hb3 HBX HO H1 hmk hW
 try rw[Nat.zero_add]
 go_wp2
 go_loopw [13] (fun v wr=> ∃i:Nat,i≤3∧v= .int .i64 i∧RSt w wr 119 2 g n xs [.int .i64 a0, .int .i64 a1] [.int .i64 a0, .int .i64 a1] i) (fun v _=>3 - (intOf v).toNat)
 case atStart=>exact ⟨0,by omega,rfl,HS.out⟩
 case round=>
  obtain⟨i,hi,rfl,hr⟩:=hrel
  clear HS HB2
  by_cases hlt:i < 3
  ·have HR:=jD hr
   have hltb:decide ((i:Int) < 3)=true:=by simp;omega
   have HX:=jD (hr.set rfl HL.out hlt)
   clear hr
   go_wp2
   refine Cl.region0 29 rfl [11] (fun w=>Below wr.heap.size wr w) (fun _=>[]) (fun jq v ww=>match jq with | 0=>v= .slice (some ⟨g,0,none⟩) n (n+3) | 1=>v= .slice va n vc | 2=>v= .int .i64 (n:Nat) | 3=>v= .int .i64 ((n:Int)+3) | 4=>v= .slice (some ⟨g,0,none⟩) (n+3) (n+3) | 5=>v= .slice va n vc | 6=>v= .int .i64 (n:Nat) | 7=>v= .int .i64 (i:Nat) | 8=>v= .int .i64 ((n:Int)+(i:Int)) | 9=>v= .agg #[.int .i64 a0, .int .i64 a1] | 10=>v= .pointer (some ⟨g,(n+i)*2,none⟩) | 11=>RSt w ww 119 2 g n xs [.int .i64 a0, .int .i64 a1] [.int .i64 a0, .int .i64 a1] (i+1) | _=>True) (fun ww=>True) (fun jq ww ww'=>jq≠11→Below ww.heap.size ww ww') Tryz.mixed (by decide+kernel) trivial ((Below.refl _ _).drew) ?_ (fun q w w' hk h hR=>bstep h (hR (by simpa using hk))) ?_ ?_
   ·intro q r v w w' hne hk hlt h hR
    match r,hk,hlt,h,hne with
    | 0,_,_,h,_=>exact h
    | 1,_,_,h,_=>exact h
    | 2,_,_,h,_=>exact h
    | 3,_,_,h,_=>exact h
    | 4,_,_,h,_=>exact h
    | 5,_,_,h,_=>exact h
    | 6,_,_,h,_=>exact h
    | 7,_,_,h,_=>exact h
    | 8,_,_,h,_=>exact h
    | 9,_,_,h,_=>exact h
    | 10,_,_,h,_=>exact h
    | 11,_,_,h,hne=>exact h.below (hR (by exact hne))
    | _+12,_,_,_,_=>trivial
   ·refine⟨?_, ?_, ?_, ?_, ?_, ?_, ?_, ?_, ?_, ?_, ?_, ?_,trivial⟩
    ·intro x wx hG
     have f5:=hG.o 5
     have hp:=hG.p
     replace hG:=hG.good
     go_wp2
     exact⟨_,rfl,rfl,hG,fun _=>Below.refl _ _⟩
    ·intro x wx hG
     have f0:=hG.o 0
     have hp:=hG.p
     replace hG:=hG.good
     go_wp2
     exact⟨_,rfl,rfl,hG,fun _=>Below.refl _ _⟩
    ·intro x wx hG
     have g1:(x.tmps.getD 17 undef)= .slice va n vc:=hG.c 1 _ rfl
     have hp:=hG.p
     replace hG:=hG.good
     go_wp2
     exact⟨_,rfl,rfl,hG,fun _=>Below.refl _ _⟩
    ·intro x wx hG
     have g2:(x.tmps.getD 18 undef)= .int .i64 (n:Nat):=hG.c 2 _ rfl
     have hp:=hG.p
     replace hG:=hG.good
     go_wp2
     exact⟨_,rfl,rfl,hG,fun _=>Below.refl _ _⟩
    ·intro x wx hG
     have g0:(x.tmps.getD 16 undef)= .slice (some ⟨g,0,none⟩) n (n+3):=hG.c 0 _ rfl
     have g3:(x.tmps.getD 19 undef)= .int .i64 ((n:Int)+3):=hG.c 3 _ rfl
     have hp:=hG.p
     replace hG:=hG.good
     go_wp2
     exact⟨_,rfl,rfl,hG,fun _=>Below.refl _ _⟩
    ·intro x wx hG
     have f0:=hG.o 0
     have hp:=hG.p
     replace hG:=hG.good
     go_wp2
     exact⟨_,rfl,rfl,hG,fun _=>Below.refl _ _⟩
    ·intro x wx hG
     have g5:(x.tmps.getD 21 undef)= .slice va n vc:=hG.c 5 _ rfl
     have hp:=hG.p
     replace hG:=hG.good
     go_wp2
     exact⟨_,rfl,rfl,hG,fun _=>Below.refl _ _⟩
    ·intro x wx hG
     have f6:=hG.o 6
     have hp:=hG.p
     replace hG:=hG.good
     go_wp2
     exact⟨_,rfl,rfl,hG,fun _=>Below.refl _ _⟩
    ·intro x wx hG
     have g6:(x.tmps.getD 22 undef)= .int .i64 (n:Nat):=hG.c 6 _ rfl
     have g7:(x.tmps.getD 23 undef)= .int .i64 (i:Nat):=hG.c 7 _ rfl
     have hp:=hG.p
     replace hG:=hG.good
     go_wp2
     exact⟨_,rfl,rfl,hG,fun _=>Below.refl _ _⟩
    ·intro x wx hG
     have f3:=hG.o 3
     have hp:=hG.p
     replace hG:=hG.good
     have kb:=(HR.out.below hp).box (by simp)
     have k0:=cell_of_block (j:=0) kb rfl
     have k1:=cell_of_block (j:=1) kb rfl
     have kl:=hlt_of kb
     clear kb
     go_wp2
     exact⟨_,rfl,rfl,hG,fun _=>Below.refl _ _⟩
    ·intro x wx hG
     have g4:(x.tmps.getD 20 undef)= .slice (some ⟨g,0,none⟩) (n+3) (n+3):=hG.c 4 _ rfl
     have g8:(x.tmps.getD 24 undef)= .int .i64 ((n:Int)+(i:Int)):=hG.c 8 _ rfl
     have hp:=hG.p
     replace hG:=hG.good
     go_wp2
     exact⟨_,rfl,rfl,hG,fun _=>Below.refl _ _⟩
    ·intro x wx hG
     have g10:(x.tmps.getD 26 undef)= .pointer (some ⟨g,(n+i)*2,none⟩):=hG.c 10 _ rfl
     have g9:(x.tmps.getD 25 undef)= .agg #[.int .i64 a0, .int .i64 a1]:=hG.c 9 _ rfl
     have hp:=hG.p
     replace hG:=hG.good
     have HQ:=HR.out.below hp
     obtain⟨⟨q0,r0⟩,f0⟩:=HQ.cell rfl HL.out hlt 0 (by decide)
     obtain⟨⟨q1,r1⟩,f1⟩:=HQ.cell rfl HL.out hlt 1 (by decide)
     have HN9:=jD (HQ.set rfl HL.out hlt)
     have hRl:=hlt_of HQ.blk.choose_spec.2
     clear HQ hp hG
     simp only[Nat.add_zero] at r0 f0
     go_wp2
     exact⟨undef,rfl,HN9.out,trivial,fun h=>absurd rfl h⟩
   ·intro vals wz hg hF
    obtain⟨g0,g1,g2,g3,g4,g5,g6,g7,g8,g9,g10,g11, -⟩:=hF
    have e0:=gq (vals 0) g0
    have e1:=gq (vals 1) g1
    have e2:=gq (vals 2) g2
    have e3:=gq (vals 3) g3
    have e4:=gq (vals 4) g4
    have e5:=gq (vals 5) g5
    have e6:=gq (vals 6) g6
    have e7:=gq (vals 7) g7
    have e8:=gq (vals 8) g8
    have e9:=gq (vals 9) g9
    have e10:=gq (vals 10) g10
    replace g11:RSt w wz 119 2 g n xs [.int .i64 a0, .int .i64 a1] [.int .i64 a0, .int .i64 a1] (i+1):=g11 rfl
    simp only[Cl.puts,e0,e1,e2,e3,e4,e5,e6,e7,e8,e9,e10]
    clear e0 e1 e2 e3 e4 e5 e6 e7 e8 e9 e10 g0 g1 g2 g3 g4 g5 g6 g7 g8 g9 g10
    go_simp
    go_wp2
    go_roundw
    case rel=>exact ⟨i+1,by omega,by go_num,g11⟩
    case measure=>simp [intOf] <;> omega
  ·obtain rfl:i=3:=by omega
   have HR:=jD (hr.done rfl HL.out (by unfold maxLen;omega))
   have HB:=jD hr.bel
   clear hr
   go_wp2
   go_ret
   exact⟨_,rfl,HR.out,HB.out⟩
theorem RmTy.box:(Tryz.prog.info? 124).map (fun i=>(i.zero,i.size,i.bytes))=some (some (.agg #[.int .i64 0, .int .i64 0, .slice none 0 0]),3,40):=by kernel_rfl
theorem roomy_box (v:Value) (n:Nat) (xs:List Value) (a0 a1:Int) (w:World) (hv:CellsAt w v n xs) (hl:xs.length=n*3) (h1: ∀u∈xs,u.oneCell'=true) (hn:n*40≤140737488355328):
  Calls Tryz.prog 95 #[v,(.agg #[.int .i64 a0, .int .i64 a1, .slice none 0 0])] w fun e w'=> ∃v',e= .returned v'∧Roomy w' w.heap.size 124 3 v' n xs (List.replicate 3 ([.int .i64 a0, .int .i64 a1, .slice none 0 0]:List Value)).flatten∧Below w.heap.size w w':=by
 obtain⟨va,vc,rfl⟩:=hv.shape
 obtain⟨W,hW⟩: ∃W,W=w.alloc (.cells #[.int .i64 a0, .int .i64 a1, .slice none 0 0] 124):=⟨_,rfl⟩
 have hbw:Below w.heap.size w W:=by rw[hW];exact bal _
 have hsw:W.heap.size=w.heap.size+1:=by rw[hW];simp
 obtain⟨w2,hmk,hown,hb2⟩:=mk_room (P:=Tryz.prog) W 33 124 (.agg #[.int .i64 0, .int .i64 0, .slice none 0 0]) 3 40 Tryz.underlying33 RmTy.box (n+3) ((n:Int)+3) rfl (by omega) (by unfold maxLen;omega)
 rw[hsw] at hmk hown
 obtain⟨g,hg⟩: ∃g,g=w.heap.size+1:=⟨_,rfl⟩
 rw[←hg] at hmk hown
 have HBX:=jD (show([.int .i64 a0, .int .i64 a1, .slice none 0 0]:List Value)≠[]→w2.heap[w.heap.size]? =some (.cells ([.int .i64 a0, .int .i64 a1, .slice none 0 0]:List Value).toArray 124 (0,0)) from fun _=>below_keep hb2 (by rw[hW];exact alloc_new _ _ _ _ rfl))
 have HB2:=jD (bstep hbw hb2)
 have HV:=jD ((hv.below hbw).below hb2)
 have HO:=jD hown
 have H1:=jD h1
 have HN:=jD hn
 have hn9:n≤140737488355328:=by omega
 have HG:=jD hg
 have HL:=jD hl
 rw[hW] at hmk
 clear hv hbw hb2 hown h1 hn hsw hg
 go_enter Tryz.func95,Tryz.ntmps95
 skip
 go_wp2_with (at_builtin;refine wpList_append_spare2 rfl (.tmp 10) (.tmp 11) 33 rfl g 124 (.agg #[.int .i64 0, .int .i64 0, .slice none 0 0]) 3 40 Tryz.underlying33 RmTy.box (by decide) g 0 (n+3) [] rfl HO.out _ n xs rfl HV.out HL.out H1.out (by omega) ?_)
 rintro w3 hown3 hgr3
 have hb3:Below w.heap.size w w3:=HB2.out.grown hgr3 HB2.out.size (fun k hk=>by have:=HG.out;simp at hk;omega)
 have HS:=jD (RSt.start (xc:=[.int .i64 a0, .int .i64 a1, .slice none 0 0]) (X:=[.int .i64 a0, .int .i64 a1, .slice none 0 0]) hb3 (by have:=HG.out;omega) (by intro _;have:=HG.out;omega) (fun h=>(hgr3.block _ (by have:=hlt_of (HBX.out h);omega) (by have:=HG.out;simp;omega)).trans (HBX.out h)) hown3)
 clear hown3 hgr3 hb3 HBX HO H1 hmk hW
 try rw[Nat.zero_add]
 go_wp2
 go_loopw [13] (fun v wr=> ∃i:Nat,i≤3∧v= .int .i64 i∧RSt w wr 124 3 g n xs [.int .i64 a0, .int .i64 a1, .slice none 0 0] [.int .i64 a0, .int .i64 a1, .slice none 0 0] i) (fun v _=>3 - (intOf v).toNat)
 case atStart=>exact ⟨0,by omega,rfl,HS.out⟩
 case round=>
  obtain⟨i,hi,rfl,hr⟩:=hrel
  clear HS HB2
  by_cases hlt:i < 3
  ·have HR:=jD hr
   have hltb:decide ((i:Int) < 3)=true:=by simp;omega
   have HX:=jD (hr.set rfl HL.out hlt)
   clear hr
   go_wp2
   refine Cl.region0 29 rfl [11] (fun w=>Below wr.heap.size wr w) (fun _=>[]) (fun jq v ww=>match jq with | 0=>v= .slice (some ⟨g,0,none⟩) n (n+3) | 1=>v= .slice va n vc | 2=>v= .int .i64 (n:Nat) | 3=>v= .int .i64 ((n:Int)+3) | 4=>v= .slice (some ⟨g,0,none⟩) (n+3) (n+3) | 5=>v= .slice va n vc | 6=>v= .int .i64 (n:Nat) | 7=>v= .int .i64 (i:Nat) | 8=>v= .int .i64 ((n:Int)+(i:Int)) | 9=>v= .agg #[.int .i64 a0, .int .i64 a1, .slice none 0 0] | 10=>v= .pointer (some ⟨g,(n+i)*3,none⟩) | 11=>RSt w ww 124 3 g n xs [.int .i64 a0, .int .i64 a1, .slice none 0 0] [.int .i64 a0, .int .i64 a1, .slice none 0 0] (i+1) | _=>True) (fun ww=>True) (fun jq ww ww'=>jq≠11→Below ww.heap.size ww ww') Tryz.mixed (by decide+kernel) trivial ((Below.refl _ _).drew) ?_ (fun q w w' hk h hR=>bstep h (hR (by simpa using hk))) ?_ ?_
   ·intro q r v w w' hne hk hlt h hR
    match r,hk,hlt,h,hne with
    | 0,_,_,h,_=>exact h
    | 1,_,_,h,_=>exact h
    | 2,_,_,h,_=>exact h
    | 3,_,_,h,_=>exact h
    | 4,_,_,h,_=>exact h
    | 5,_,_,h,_=>exact h
    | 6,_,_,h,_=>exact h
    | 7,_,_,h,_=>exact h
    | 8,_,_,h,_=>exact h
    | 9,_,_,h,_=>exact h
    | 10,_,_,h,_=>exact h
    | 11,_,_,h,hne=>exact h.below (hR (by exact hne))
    | _+12,_,_,_,_=>trivial
   ·refine⟨?_, ?_, ?_, ?_, ?_, ?_, ?_, ?_, ?_, ?_, ?_, ?_,trivial⟩
    ·intro x wx hG
     have f5:=hG.o 5
     have hp:=hG.p
     replace hG:=hG.good
     go_wp2
     exact⟨_,rfl,rfl,hG,fun _=>Below.refl _ _⟩
    ·intro x wx hG
     have f0:=hG.o 0
     have hp:=hG.p
     replace hG:=hG.good
     go_wp2
     exact⟨_,rfl,rfl,hG,fun _=>Below.refl _ _⟩
    ·intro x wx hG
     have g1:(x.tmps.getD 17 undef)= .slice va n vc:=hG.c 1 _ rfl
     have hp:=hG.p
     replace hG:=hG.good
     go_wp2
     exact⟨_,rfl,rfl,hG,fun _=>Below.refl _ _⟩
    ·intro x wx hG
     have g2:(x.tmps.getD 18 undef)= .int .i64 (n:Nat):=hG.c 2 _ rfl
     have hp:=hG.p
     replace hG:=hG.good
     go_wp2
     exact⟨_,rfl,rfl,hG,fun _=>Below.refl _ _⟩
    ·intro x wx hG
     have g0:(x.tmps.getD 16 undef)= .slice (some ⟨g,0,none⟩) n (n+3):=hG.c 0 _ rfl
     have g3:(x.tmps.getD 19 undef)= .int .i64 ((n:Int)+3):=hG.c 3 _ rfl
     have hp:=hG.p
     replace hG:=hG.good
     go_wp2
     exact⟨_,rfl,rfl,hG,fun _=>Below.refl _ _⟩
    ·intro x wx hG
     have f0:=hG.o 0
     have hp:=hG.p
     replace hG:=hG.good
     go_wp2
     exact⟨_,rfl,rfl,hG,fun _=>Below.refl _ _⟩
    ·intro x wx hG
     have g5:(x.tmps.getD 21 undef)= .slice va n vc:=hG.c 5 _ rfl
     have hp:=hG.p
     replace hG:=hG.good
     go_wp2
     exact⟨_,rfl,rfl,hG,fun _=>Below.refl _ _⟩
    ·intro x wx hG
     have f6:=hG.o 6
     have hp:=hG.p
     replace hG:=hG.good
     go_wp2
     exact⟨_,rfl,rfl,hG,fun _=>Below.refl _ _⟩
    ·intro x wx hG
     have g6:(x.tmps.getD 22 undef)= .int .i64 (n:Nat):=hG.c 6 _ rfl
     have g7:(x.tmps.getD 23 undef)= .int .i64 (i:Nat):=hG.c 7 _ rfl
     have hp:=hG.p
     replace hG:=hG.good
     go_wp2
     exact⟨_,rfl,rfl,hG,fun _=>Below.refl _ _⟩
    ·intro x wx hG
     have f3:=hG.o 3
     have hp:=hG.p
     replace hG:=hG.good
     have kb:=(HR.out.below hp).box (by simp)
     have k0:=cell_of_block (j:=0) kb rfl
     have k1:=cell_of_block (j:=1) kb rfl
     have k2:=cell_of_block (j:=2) kb rfl
     have kl:=hlt_of kb
     clear kb
     go_wp2
     exact⟨_,rfl,rfl,hG,fun _=>Below.refl _ _⟩
    ·intro x wx hG
     have g4:(x.tmps.getD 20 undef)= .slice (some ⟨g,0,none⟩) (n+3) (n+3):=hG.c 4 _ rfl
     have g8:(x.tmps.getD 24 undef)= .int .i64 ((n:Int)+(i:Int)):=hG.c 8 _ rfl
     have hp:=hG.p
     replace hG:=hG.good
     go_wp2
     exact⟨_,rfl,rfl,hG,fun _=>Below.refl _ _⟩
    ·intro x wx hG
     have g10:(x.tmps.getD 26 undef)= .pointer (some ⟨g,(n+i)*3,none⟩):=hG.c 10 _ rfl
     have g9:(x.tmps.getD 25 undef)= .agg #[.int .i64 a0, .int .i64 a1, .slice none 0 0]:=hG.c 9 _ rfl
     have hp:=hG.p
     replace hG:=hG.good
     have HQ:=HR.out.below hp
     obtain⟨⟨q0,r0⟩,f0⟩:=HQ.cell rfl HL.out hlt 0 (by decide)
     obtain⟨⟨q1,r1⟩,f1⟩:=HQ.cell rfl HL.out hlt 1 (by decide)
     obtain⟨⟨q2,r2⟩,f2⟩:=HQ.cell rfl HL.out hlt 2 (by decide)
     have HN9:=jD (HQ.set rfl HL.out hlt)
     have hRl:=hlt_of HQ.blk.choose_spec.2
     clear HQ hp hG
     simp only[Nat.add_zero] at r0 f0
     go_wp2
     exact⟨undef,rfl,HN9.out,trivial,fun h=>absurd rfl h⟩
   ·intro vals wz hg hF
    obtain⟨g0,g1,g2,g3,g4,g5,g6,g7,g8,g9,g10,g11, -⟩:=hF
    have e0:=gq (vals 0) g0
    have e1:=gq (vals 1) g1
    have e2:=gq (vals 2) g2
    have e3:=gq (vals 3) g3
    have e4:=gq (vals 4) g4
    have e5:=gq (vals 5) g5
    have e6:=gq (vals 6) g6
    have e7:=gq (vals 7) g7
    have e8:=gq (vals 8) g8
    have e9:=gq (vals 9) g9
    have e10:=gq (vals 10) g10
    replace g11:RSt w wz 124 3 g n xs [.int .i64 a0, .int .i64 a1, .slice none 0 0] [.int .i64 a0, .int .i64 a1, .slice none 0 0] (i+1):=g11 rfl
    simp only[Cl.puts,e0,e1,e2,e3,e4,e5,e6,e7,e8,e9,e10]
    clear e0 e1 e2 e3 e4 e5 e6 e7 e8 e9 e10 g0 g1 g2 g3 g4 g5 g6 g7 g8 g9 g10
    go_simp
    go_wp2
    go_roundw
    case rel=>exact ⟨i+1,by omega,by go_num,g11⟩
    case measure=>simp [intOf] <;> omega
  ·obtain rfl:i=3:=by omega
   have HR:=jD (hr.done rfl HL.out (by unfold maxLen;omega))
   have HB:=jD hr.bel
   clear hr
   go_wp2
   go_ret
   exact⟨_,rfl,HR.out,HB.out⟩
theorem rep_get {size:Nat} {xc:List Value} (hx:xc.length=size) {i j:Nat} (hi:i < 3) (hj:j < size):((List.replicate 3 xc).flatten)[i*size+j]? =xc[j]? :=by
 subst hx
 match i,hi with
 | 0,_=>simp [List.replicate,List.getElem?_append_left hj]
 | 1,_=>
  rw[show(List.replicate 3 xc).flatten=xc++(xc++xc) by simp[List.replicate],List.getElem?_append_right (by omega),List.getElem?_append_left (by omega)]
  congr 1;omega
 | 2,_=>
  rw[show(List.replicate 3 xc).flatten=xc++(xc++xc) by simp[List.replicate],List.getElem?_append_right (by omega),List.getElem?_append_right (by omega)]
  congr 1;omega
theorem Roomy.spare {w:World} {base e size n g:Nat} {xs xc:List Value} {c:Nat} (h:Roomy w base e size (.slice (some ⟨g,0,none⟩) n c) n xs (List.replicate 3 xc).flatten) (hx:xc.length=size) {i j:Nat} {u:Value} (hi:i < 3) (hj:j < size) (hu:xc[j]? =some u):w.cell? ⟨g,n*size+(i*size+j),none⟩=some u:=by
 obtain⟨g',h1, -,h3⟩:=h.row
 simp only[Value.slice.injEq,Option.some.injEq,Addr.mk.injEq,and_true] at h1
 obtain⟨rfl, -⟩:=h1
 refine cell_of_block h3 ?_
 rw[List.getElem?_toArray,List.getElem?_append_right (by rw[h.lx];omega),h.lx,show n*size+(i*size+j) - n*size=i*size+j by omega,rep_get hx hi hj]
 exact hu
theorem Roomy.shape {w:World} {base e size n:Nat} {v:Value} {xs sp:List Value} (h:Roomy w base e size v n xs sp): ∃g,v= .slice (some ⟨g,0,none⟩) n (n+3)∧g < w.heap.size∧base≤g:=by
 obtain⟨g,h1,h2,h3⟩:=h.row
 exact⟨g,h1,hlt_of h3,h2⟩
theorem spoil_int (v:Value) (a0:Int) (w:World) (h:ShRow w 3 1 v):
  Calls Tryz.prog 102 #[v,(.int .i64 a0)] w fun e w'=>e= .returned (.tuple #[])∧Sp (fun k=>v.ownBlock=some k) w w':=by
 rcases h with rfl | ⟨g,n,cap,cur,rfl,hnc,hcm,hg,hs⟩
 ·go_enter Tryz.func102,Tryz.ntmps102
  go_wp2
  go_loopw [11] (fun v wr=>v= .int .i64 0∧Below w.heap.size w wr) (fun _ _=>0)
  case atStart=>exact ⟨rfl,Below.refl _ _⟩
  case round=>
   obtain⟨rfl,hb⟩:=hrel
   go_wp2
   refine bodyPost_end (v:= .tuple #[]) ?_ rfl ?_
   ·simp[results,Tryz.results102,go_sem]
   ·exact⟨rfl,Sp.of_below hb⟩
 obtain⟨W,hW⟩: ∃W,W=w:=⟨_,rfl⟩
 have HB0:=jD (show Below w.heap.size w W by rw[hW];exact Below.refl _ _)
 have HG:=jD (below_keep HB0.out hg)
 have HX:=jD (show ∀i:Nat,i < cap→((i:Int) < 9223372036854775807∧cap≤9223372036854775807) by intro i hi;unfold maxLen at hcm;omega)
 have hcm2:cap≤9223372036854775807:=by unfold maxLen at hcm;omega
 have HSZ:=jD hs
 clear hg hs hcm
 go_enter Tryz.func102,Tryz.ntmps102
 go_wp2_with fail
 rw[←hW]
 clear hW
 go_wp2
 go_loopw [11] (fun v wr=> ∃i:Nat,i≤cap∧v= .int .i64 i∧Sp (fun k=>k=g) W wr) (fun v _=>cap - (intOf v).toNat)
 case atStart=>exact ⟨0,by omega,rfl,Sp.refl _ _⟩
 case round=>
  obtain⟨i,hi,rfl,hb⟩:=hrel
  have HB:=jD hb
  clear hb
  by_cases hlt:i < cap
  ·have hltb:decide ((i:Int) < (cap:Int))=true:=by simp;omega
   obtain⟨cs,hcs,hcz⟩:=HB.out.shape _ _ _ HG.out
   have HC:=jD (hcz.trans HSZ.out)
   have HN:=jD (HB.out.trans (Sp.row [.int .i64 a0] wr (i*1) cs hcs))
   obtain⟨⟨q0,r0⟩,f0⟩:=sh_cell hcs HC.out hlt (j:=0) (by decide)
   have hRl:=hlt_of hcs
   simp only[Nat.add_zero,Nat.mul_one] at r0 f0 HN
   clear hcs hcz
   go_wp2
   go_roundw
   case rel=>exact ⟨i+1,by omega,by go_num,HN.out⟩
   case measure=>simp [intOf] <;> omega
  ·obtain rfl:i=cap:=by omega
   have HF:=jD ((Sp.of_below HB0.out).trans HB.out)
   clear HB
   go_wp2
   refine bodyPost_end (v:= .tuple #[]) ?_ rfl ?_
   ·simp[results,Tryz.results102,go_sem]
   ·exact⟨rfl,HF.out.mono fun k hk=>by rw[hk];rfl⟩
theorem marked_span (v:Value) (base n:Nat) (xs:List Value) (a0 a1:Int) (w:World) (h:Roomy w base 119 2 v n xs (List.replicate 3 ([.int .i64 a0, .int .i64 a1]:List Value)).flatten) (hn9:n≤140737488355328):
  Calls Tryz.prog 97 #[v,(.agg #[.int .i64 a0, .int .i64 a1])] w fun e w'=>e= .returned (.bool true)∧Below w.heap.size w w':=by
 obtain⟨g,rfl,hg, -⟩:=h.shape
 have HR:=jD h
 clear h
 obtain⟨W,hW⟩: ∃W,W=w.alloc (.cells #[.int .i64 a0, .int .i64 a1] 119):=⟨_,rfl⟩
 have HB0:=jD (show Below w.heap.size w W by rw[hW];exact bal _)
 have K:=jD (show W.heap[w.heap.size]? =some (.cells #[.int .i64 a0, .int .i64 a1] 119 (0,0)) by rw[hW];exact alloc_new _ _ _ _ rfl)
 go_enter Tryz.func97,Tryz.ntmps97
 go_wp2_with fail
 rw[←hW]
 clear hW
 have hq3:(n:Int)+3 - n=3:=by omega
 have hq4:n+3 - n=3:=by omega
 go_wp2
 go_loopw [14] (fun v wr=> ∃i:Nat,i≤3∧v= .int .i64 i∧Below W.heap.size W wr) (fun v _=>3 - (intOf v).toNat)
 case atStart=>exact ⟨0,by omega,rfl,Below.refl _ _⟩
 case round=>
  obtain⟨i,hi,rfl,hb⟩:=hrel
  have HB:=jD hb
  clear hb
  by_cases hlt:i < 3
  ·have hltb:decide ((i:Int) < 3)=true:=by simp;omega
   have HRW:=((HR.out.below HB0.out).below HB.out)
   have c0:=HRW.spare rfl hlt (j:=0) (by decide) rfl
   have c1:=HRW.spare rfl hlt (j:=1) (by decide) rfl
   have hgw:g < wr.heap.size:=Nat.lt_of_lt_of_le hg (Nat.le_trans HB0.out.size HB.out.size)
   clear HRW
   simp only[Nat.mul_one,Nat.add_zero,←Nat.add_assoc] at c0 c1
   skip
   have kb:=below_keep HB.out K.out
   have k0:=cell_of_block (j:=0) kb rfl
   have k1:=cell_of_block (j:=1) kb rfl
   have kl:=hlt_of kb
   clear kb
   go_wp2
   go_roundw
   case rel=>exact ⟨i+1,by omega,by go_num,bstep HB.out (bal _)⟩
   case measure=>simp [intOf] <;> omega
  ·obtain rfl:i=3:=by omega
   have HF:=jD (bstep HB0.out HB.out)
   clear HB
   go_wp2
   go_ret
   exact⟨rfl,HF.out⟩
theorem spoil_span (v:Value) (a0 a1:Int) (w:World) (h:ShRow w 119 2 v):
  Calls Tryz.prog 99 #[v,(.agg #[.int .i64 a0, .int .i64 a1])] w fun e w'=>e= .returned (.tuple #[])∧Sp (fun k=>v.ownBlock=some k) w w':=by
 rcases h with rfl | ⟨g,n,cap,cur,rfl,hnc,hcm,hg,hs⟩
 ·go_enter Tryz.func99,Tryz.ntmps99
  go_wp2
  go_loopw [11] (fun v wr=>v= .int .i64 0∧Below w.heap.size w wr) (fun _ _=>0)
  case atStart=>exact ⟨rfl,bal _⟩
  case round=>
   obtain⟨rfl,hb⟩:=hrel
   go_wp2
   refine bodyPost_end (v:= .tuple #[]) ?_ rfl ?_
   ·simp[results,Tryz.results99,go_sem]
   ·exact⟨rfl,Sp.of_below hb⟩
 obtain⟨W,hW⟩: ∃W,W=w.alloc (.cells #[.int .i64 a0, .int .i64 a1] 119):=⟨_,rfl⟩
 have HB0:=jD (show Below w.heap.size w W by rw[hW];exact bal _)
 have HG:=jD (below_keep HB0.out hg)
 have HX:=jD (show ∀i:Nat,i < cap→((i:Int) < 9223372036854775807∧cap≤9223372036854775807) by intro i hi;unfold maxLen at hcm;omega)
 have hcm2:cap≤9223372036854775807:=by unfold maxLen at hcm;omega
 have K:=jD (show W.heap[w.heap.size]? =some (.cells #[.int .i64 a0, .int .i64 a1] 119 (0,0)) by rw[hW];exact alloc_new _ _ _ _ rfl)
 have hgw:g < w.heap.size:=hlt_of hg
 have HSZ:=jD hs
 clear hg hs hcm
 go_enter Tryz.func99,Tryz.ntmps99
 go_wp2_with fail
 rw[←hW]
 clear hW
 go_wp2
 go_loopw [11] (fun v wr=> ∃i:Nat,i≤cap∧v= .int .i64 i∧Sp (fun k=>k=g) W wr) (fun v _=>cap - (intOf v).toNat)
 case atStart=>exact ⟨0,by omega,rfl,Sp.refl _ _⟩
 case round=>
  obtain⟨i,hi,rfl,hb⟩:=hrel
  have HB:=jD hb
  clear hb
  by_cases hlt:i < cap
  ·have hltb:decide ((i:Int) < (cap:Int))=true:=by simp;omega
   obtain⟨cs,hcs,hcz⟩:=HB.out.shape _ _ _ HG.out
   have HC:=jD (hcz.trans HSZ.out)
   have HN:=jD (HB.out.trans (Sp.row [.int .i64 a0, .int .i64 a1] wr (i*2) cs hcs))
   obtain⟨⟨q0,r0⟩,f0⟩:=sh_cell hcs HC.out hlt (j:=0) (by decide)
   obtain⟨⟨q1,r1⟩,f1⟩:=sh_cell hcs HC.out hlt (j:=1) (by decide)
   have hRl:=hlt_of hcs
   simp only[Nat.add_zero,Nat.mul_one] at r0 f0 HN
   have kb:=HB.out.block K.out (by omega)
   have k0:=cell_of_block (j:=0) kb rfl
   have k1:=cell_of_block (j:=1) kb rfl
   have kl:=hlt_of kb
   clear kb
   clear hcs hcz
   go_wp2
   go_roundw
   case rel=>exact ⟨i+1,by omega,by go_num,HN.out⟩
   case measure=>simp [intOf] <;> omega
  ·obtain rfl:i=cap:=by omega
   have HF:=jD ((Sp.of_below HB0.out).trans HB.out)
   clear HB
   go_wp2
   refine bodyPost_end (v:= .tuple #[]) ?_ rfl ?_
   ·simp[results,Tryz.results99,go_sem]
   ·exact⟨rfl,HF.out.mono fun k hk=>by rw[hk];rfl⟩
theorem spoil_dot (v:Value) (a0 a1:Int) (w:World) (h:ShRow w 41 2 v):
  Calls Tryz.prog 103 #[v,(.agg #[.int .i64 a0, .int .i64 a1])] w fun e w'=>e= .returned (.tuple #[])∧Sp (fun k=>v.ownBlock=some k) w w':=by
 rcases h with rfl | ⟨g,n,cap,cur,rfl,hnc,hcm,hg,hs⟩
 ·go_enter Tryz.func103,Tryz.ntmps103
  go_wp2
  go_loopw [11] (fun v wr=>v= .int .i64 0∧Below w.heap.size w wr) (fun _ _=>0)
  case atStart=>exact ⟨rfl,bal _⟩
  case round=>
   obtain⟨rfl,hb⟩:=hrel
   go_wp2
   refine bodyPost_end (v:= .tuple #[]) ?_ rfl ?_
   ·simp[results,Tryz.results103,go_sem]
   ·exact⟨rfl,Sp.of_below hb⟩
 obtain⟨W,hW⟩: ∃W,W=w.alloc (.cells #[.int .i64 a0, .int .i64 a1] 41):=⟨_,rfl⟩
 have HB0:=jD (show Below w.heap.size w W by rw[hW];exact bal _)
 have HG:=jD (below_keep HB0.out hg)
 have HX:=jD (show ∀i:Nat,i < cap→((i:Int) < 9223372036854775807∧cap≤9223372036854775807) by intro i hi;unfold maxLen at hcm;omega)
 have hcm2:cap≤9223372036854775807:=by unfold maxLen at hcm;omega
 have K:=jD (show W.heap[w.heap.size]? =some (.cells #[.int .i64 a0, .int .i64 a1] 41 (0,0)) by rw[hW];exact alloc_new _ _ _ _ rfl)
 have hgw:g < w.heap.size:=hlt_of hg
 have HSZ:=jD hs
 clear hg hs hcm
 go_enter Tryz.func103,Tryz.ntmps103
 go_wp2_with fail
 rw[←hW]
 clear hW
 go_wp2
 go_loopw [11] (fun v wr=> ∃i:Nat,i≤cap∧v= .int .i64 i∧Sp (fun k=>k=g) W wr) (fun v _=>cap - (intOf v).toNat)
 case atStart=>exact ⟨0,by omega,rfl,Sp.refl _ _⟩
 case round=>
  obtain⟨i,hi,rfl,hb⟩:=hrel
  have HB:=jD hb
  clear hb
  by_cases hlt:i < cap
  ·have hltb:decide ((i:Int) < (cap:Int))=true:=by simp;omega
   obtain⟨cs,hcs,hcz⟩:=HB.out.shape _ _ _ HG.out
   have HC:=jD (hcz.trans HSZ.out)
   have HN:=jD (HB.out.trans (Sp.row [.int .i64 a0, .int .i64 a1] wr (i*2) cs hcs))
   obtain⟨⟨q0,r0⟩,f0⟩:=sh_cell hcs HC.out hlt (j:=0) (by decide)
   obtain⟨⟨q1,r1⟩,f1⟩:=sh_cell hcs HC.out hlt (j:=1) (by decide)
   have hRl:=hlt_of hcs
   simp only[Nat.add_zero,Nat.mul_one] at r0 f0 HN
   have kb:=HB.out.block K.out (by omega)
   have k0:=cell_of_block (j:=0) kb rfl
   have k1:=cell_of_block (j:=1) kb rfl
   have kl:=hlt_of kb
   clear kb
   clear hcs hcz
   go_wp2
   go_roundw
   case rel=>exact ⟨i+1,by omega,by go_num,HN.out⟩
   case measure=>simp [intOf] <;> omega
  ·obtain rfl:i=cap:=by omega
   have HF:=jD ((Sp.of_below HB0.out).trans HB.out)
   clear HB
   go_wp2
   refine bodyPost_end (v:= .tuple #[]) ?_ rfl ?_
   ·simp[results,Tryz.results103,go_sem]
   ·exact⟨rfl,HF.out.mono fun k hk=>by rw[hk];rfl⟩
theorem spoil_box (v:Value) (a0 a1:Int) (w:World) (h:ShRow w 124 3 v):
  Calls Tryz.prog 100 #[v,(.agg #[.int .i64 a0, .int .i64 a1, .slice none 0 0])] w fun e w'=>e= .returned (.tuple #[])∧Sp (fun k=>v.ownBlock=some k) w w':=by
 rcases h with rfl | ⟨g,n,cap,cur,rfl,hnc,hcm,hg,hs⟩
 ·go_enter Tryz.func100,Tryz.ntmps100
  go_wp2
  go_loopw [11] (fun v wr=>v= .int .i64 0∧Below w.heap.size w wr) (fun _ _=>0)
  case atStart=>exact ⟨rfl,bal _⟩
  case round=>
   obtain⟨rfl,hb⟩:=hrel
   go_wp2
   refine bodyPost_end (v:= .tuple #[]) ?_ rfl ?_
   ·simp[results,Tryz.results100,go_sem]
   ·exact⟨rfl,Sp.of_below hb⟩
 obtain⟨W,hW⟩: ∃W,W=w.alloc (.cells #[.int .i64 a0, .int .i64 a1, .slice none 0 0] 124):=⟨_,rfl⟩
 have HB0:=jD (show Below w.heap.size w W by rw[hW];exact bal _)
 have HG:=jD (below_keep HB0.out hg)
 have HX:=jD (show ∀i:Nat,i < cap→((i:Int) < 9223372036854775807∧cap≤9223372036854775807) by intro i hi;unfold maxLen at hcm;omega)
 have hcm2:cap≤9223372036854775807:=by unfold maxLen at hcm;omega
 have K:=jD (show W.heap[w.heap.size]? =some (.cells #[.int .i64 a0, .int .i64 a1, .slice none 0 0] 124 (0,0)) by rw[hW];exact alloc_new _ _ _ _ rfl)
 have hgw:g < w.heap.size:=hlt_of hg
 have HSZ:=jD hs
 clear hg hs hcm
 go_enter Tryz.func100,Tryz.ntmps100
 go_wp2_with fail
 rw[←hW]
 clear hW
 go_wp2
 go_loopw [11] (fun v wr=> ∃i:Nat,i≤cap∧v= .int .i64 i∧Sp (fun k=>k=g) W wr) (fun v _=>cap - (intOf v).toNat)
 case atStart=>exact ⟨0,by omega,rfl,Sp.refl _ _⟩
 case round=>
  obtain⟨i,hi,rfl,hb⟩:=hrel
  have HB:=jD hb
  clear hb
  by_cases hlt:i < cap
  ·have hltb:decide ((i:Int) < (cap:Int))=true:=by simp;omega
   obtain⟨cs,hcs,hcz⟩:=HB.out.shape _ _ _ HG.out
   have HC:=jD (hcz.trans HSZ.out)
   have HN:=jD (HB.out.trans (Sp.row [.int .i64 a0, .int .i64 a1, .slice none 0 0] wr (i*3) cs hcs))
   obtain⟨⟨q0,r0⟩,f0⟩:=sh_cell hcs HC.out hlt (j:=0) (by decide)
   obtain⟨⟨q1,r1⟩,f1⟩:=sh_cell hcs HC.out hlt (j:=1) (by decide)
   obtain⟨⟨q2,r2⟩,f2⟩:=sh_cell hcs HC.out hlt (j:=2) (by decide)
   have hRl:=hlt_of hcs
   simp only[Nat.add_zero,Nat.mul_one] at r0 f0 HN
   have kb:=HB.out.block K.out (by omega)
   have k0:=cell_of_block (j:=0) kb rfl
   have k1:=cell_of_block (j:=1) kb rfl
   have k2:=cell_of_block (j:=2) kb rfl
   have kl:=hlt_of kb
   clear kb
   clear hcs hcz
   go_wp2
   go_roundw
   case rel=>exact ⟨i+1,by omega,by go_num,HN.out⟩
   case measure=>simp [intOf] <;> omega
  ·obtain rfl:i=cap:=by omega
   have HF:=jD ((Sp.of_below HB0.out).trans HB.out)
   clear HB
   go_wp2
   refine bodyPost_end (v:= .tuple #[]) ?_ rfl ?_
   ·simp[results,Tryz.results100,go_sem]
   ·exact⟨rfl,HF.out.mono fun k hk=>by rw[hk];rfl⟩
theorem spoil_ver (v:Value) (s0:ByteArray) (a0 a1 a2 a3 a4:Int) (w:World) (h:ShRow w 75 8 v):
  Calls Tryz.prog 101 #[v,(.agg #[.string s0, .int .i64 a0, .int .i64 a1, .int .i64 a2, .int .i64 a3, .int .i64 a4, .slice none 0 0, .slice none 0 0])] w fun e w'=>e= .returned (.tuple #[])∧Sp (fun k=>v.ownBlock=some k) w w':=by
 rcases h with rfl | ⟨g,n,cap,cur,rfl,hnc,hcm,hg,hs⟩
 ·go_enter Tryz.func101,Tryz.ntmps101
  go_wp2
  go_loopw [11] (fun v wr=>v= .int .i64 0∧Below w.heap.size w wr) (fun _ _=>0)
  case atStart=>exact ⟨rfl,bal _⟩
  case round=>
   obtain⟨rfl,hb⟩:=hrel
   go_wp2
   refine bodyPost_end (v:= .tuple #[]) ?_ rfl ?_
   ·simp[results,Tryz.results101,go_sem]
   ·exact⟨rfl,Sp.of_below hb⟩
 obtain⟨W,hW⟩: ∃W,W=w.alloc (.cells #[.string s0, .int .i64 a0, .int .i64 a1, .int .i64 a2, .int .i64 a3, .int .i64 a4, .slice none 0 0, .slice none 0 0] 75):=⟨_,rfl⟩
 have HB0:=jD (show Below w.heap.size w W by rw[hW];exact bal _)
 have HG:=jD (below_keep HB0.out hg)
 have HX:=jD (show ∀i:Nat,i < cap→((i:Int) < 9223372036854775807∧cap≤9223372036854775807) by intro i hi;unfold maxLen at hcm;omega)
 have hcm2:cap≤9223372036854775807:=by unfold maxLen at hcm;omega
 have K:=jD (show W.heap[w.heap.size]? =some (.cells #[.string s0, .int .i64 a0, .int .i64 a1, .int .i64 a2, .int .i64 a3, .int .i64 a4, .slice none 0 0, .slice none 0 0] 75 (0,0)) by rw[hW];exact alloc_new _ _ _ _ rfl)
 have hgw:g < w.heap.size:=hlt_of hg
 have HSZ:=jD hs
 clear hg hs hcm
 go_enter Tryz.func101,Tryz.ntmps101
 go_wp2_with fail
 rw[←hW]
 clear hW
 go_wp2
 go_loopw [11] (fun v wr=> ∃i:Nat,i≤cap∧v= .int .i64 i∧Sp (fun k=>k=g) W wr) (fun v _=>cap - (intOf v).toNat)
 case atStart=>exact ⟨0,by omega,rfl,Sp.refl _ _⟩
 case round=>
  obtain⟨i,hi,rfl,hb⟩:=hrel
  have HB:=jD hb
  clear hb
  by_cases hlt:i < cap
  ·have hltb:decide ((i:Int) < (cap:Int))=true:=by simp;omega
   obtain⟨cs,hcs,hcz⟩:=HB.out.shape _ _ _ HG.out
   have HC:=jD (hcz.trans HSZ.out)
   have HN:=jD (HB.out.trans (Sp.row [.string s0, .int .i64 a0, .int .i64 a1, .int .i64 a2, .int .i64 a3, .int .i64 a4, .slice none 0 0, .slice none 0 0] wr (i*8) cs hcs))
   obtain⟨⟨q0,r0⟩,f0⟩:=sh_cell hcs HC.out hlt (j:=0) (by decide)
   obtain⟨⟨q1,r1⟩,f1⟩:=sh_cell hcs HC.out hlt (j:=1) (by decide)
   obtain⟨⟨q2,r2⟩,f2⟩:=sh_cell hcs HC.out hlt (j:=2) (by decide)
   obtain⟨⟨q3,r3⟩,f3⟩:=sh_cell hcs HC.out hlt (j:=3) (by decide)
   obtain⟨⟨q4,r4⟩,f4⟩:=sh_cell hcs HC.out hlt (j:=4) (by decide)
   obtain⟨⟨q5,r5⟩,f5⟩:=sh_cell hcs HC.out hlt (j:=5) (by decide)
   obtain⟨⟨q6,r6⟩,f6⟩:=sh_cell hcs HC.out hlt (j:=6) (by decide)
   obtain⟨⟨q7,r7⟩,f7⟩:=sh_cell hcs HC.out hlt (j:=7) (by decide)
   have hRl:=hlt_of hcs
   simp only[Nat.add_zero,Nat.mul_one] at r0 f0 HN
   have kb:=HB.out.block K.out (by omega)
   have k0:=cell_of_block (j:=0) kb rfl
   have k1:=cell_of_block (j:=1) kb rfl
   have k2:=cell_of_block (j:=2) kb rfl
   have k3:=cell_of_block (j:=3) kb rfl
   have k4:=cell_of_block (j:=4) kb rfl
   have k5:=cell_of_block (j:=5) kb rfl
   have k6:=cell_of_block (j:=6) kb rfl
   have k7:=cell_of_block (j:=7) kb rfl
   have kl:=hlt_of kb
   clear kb
   clear hcs hcz
   go_wp2
   go_roundw
   case rel=>exact ⟨i+1,by omega,by go_num,HN.out⟩
   case measure=>simp [intOf] <;> omega
  ·obtain rfl:i=cap:=by omega
   have HF:=jD ((Sp.of_below HB0.out).trans HB.out)
   clear HB
   go_wp2
   refine bodyPost_end (v:= .tuple #[]) ?_ rfl ?_
   ·simp[results,Tryz.results101,go_sem]
   ·exact⟨rfl,HF.out.mono fun k hk=>by rw[hk];rfl⟩
end Go.Proofs.YtgkgdedhicnohaaGreat
