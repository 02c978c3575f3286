/- What stays in memory, said by the types of blocks; rows of what is gone that are the call's own. No walk here. What a reader of bytes does: sets of dots. Written by a small program (gen/rknow.py). What a reader of bytes does: filters. Written by a small program (gen/rfil.py). -/
import Derived.Test.YtgkgdedhicnohaaGreatMWireR
import Derived.Test.YtgkgdedhicnohaaGreatPartOwn
import Derived.Test.YtgkgdedhicnohaaGreatMShelfP
import Derived.Test.YtgkgdedhicnohaaGreatDots5
import Derived.Deep.QuietTactic
import Derived.BigQuiet
import Derived.Test.YtgkgdedhicnohaaGreatMCl3
namespace Go.Proofs.YtgkgdedhicnohaaGreat
set_option maxRecDepth 100000
set_option maxHeartbeats 40000000
open Go.RowKit
structure TKeep (T:Nat→Bool) (w w':World):Prop where
 size:w.heap.size≤w'.heap.size
 blk: ∀(k:Nat) (cs:Array Value) (t:TypeId),w.heap[k]? =some (Obj.cells cs t (0,0))→T t=true→w'.heap[k]? =some (Obj.cells cs t (0,0))
theorem TKeep.owns {T:Nat→Bool} {w w':World} {base e size n:Nat} {v:Value} {xs:List Value} (h:TKeep T w w') (hu:w.ownsRow base e size v n xs) (he:T e=true):w'.ownsRow base e size v n xs:=by
 refine⟨hu.1, ?_⟩
 rcases hu.2 with h0 | ⟨g,cap,cur,h1,h2,h3,h4⟩
 ·exact .inl h0
 ·exact .inr ⟨g,cap,cur,h1,h2,h.blk _ _ _ h3 he,h4⟩
theorem TKeep.of_below {T:Nat→Bool} {w w':World} (h:Below w.heap.size w w'):TKeep T w w':=⟨h.size,fun _ _ _ hk _=>below_keep h hk⟩
theorem TKeep.refl (T:Nat→Bool) (w:World):TKeep T w w:=⟨Nat.le_refl _,fun _ _ _ h _=>h⟩
theorem TKeep.of_block {T:Nat→Bool} {w w':World} {B:Nat} {cs:Array Value} {t:TypeId} (hs:w.heap.size≤w'.heap.size) (h: ∀k,k < w.heap.size→k≠B→w'.heap[k]? =w.heap[k]?) (hB:w.heap[B]? =some (Obj.cells cs t (0,0))) (ht:T t=false):TKeep T w w':=by
 refine⟨hs,fun k ds u hk hu=> ?_⟩
 have hne:k≠B:=by
  intro e;subst e
  rw[hB] at hk
  simp only[Option.some.injEq,Obj.cells.injEq] at hk
  rw[hk.2.1,hu] at ht
  exact absurd ht (by decide)
 rw[h k (Array.getElem?_eq_some_iff.1 hk).1 hne];exact hk
theorem TKeep.of_rk {T:Nat→Bool} {B:Nat} {s:ByteArray} {b:Bool} {w w':World} (h:RKeep B w w') (hr:RdSt B s b w) (ht:T 214=false):TKeep T w w':=TKeep.of_block h.size h.blk hr.blk ht
theorem TKeep.of_app {T:Nat→Bool} {base e size n:Nat} {w w':World} {v:Value} {xs:List Value} (h:w.ownsRow base e size v n xs) (hg:w.grownBy w' v.ownBlock) (ht:T e=false):TKeep T w w':=by
 refine⟨hg.size,fun k ds u hk hu=> ?_⟩
 refine grown_keep h hg hk ?_
 intro e0;subst e0
 rw[hu] at ht;exact absurd ht (by decide)
theorem TKeep.of_set {T:Nat→Bool} {w:World} {g j:Nat} {v:Value} {cs:Array Value} {t:TypeId} (hg:w.heap[g]? =some (Obj.cells cs t (0,0))) (ht:T t=false):TKeep T w (w.setCell ⟨g,j,none⟩ v):=
 TKeep.of_block (by simp[World.setCell]) (fun k _ hne=>heap_set_other hne) hg ht
theorem KnOwn.tk {T:Nat→Bool} {w w':World} {base:Nat} {u x:Value} {k:Kn} (h:KnOwn w base u x k) (hk:TKeep T w w') (h1:T 3=true) (h2:T 41=true):KnOwn w' base u x k:=⟨hk.owns h.vec h1,hk.owns h.more h2⟩
theorem FOwn.tk {T:Nat→Bool} {w w':World} {base:Nat} {f:Value} {l:Bxs} (h:FOwn w base f l) (hk:TKeep T w w') (h1:T 124=true) (h2:T 119=true):FOwn w' base f l:=by
 obtain⟨us,a,b,c⟩:=h
 exact⟨us,a,hk.owns b h1,fun i hi hi'=>hk.owns (c i hi hi') h2⟩
theorem VOwn.tk {T:Nat→Bool} {w w':World} {base:Nat} {v:Value} {l:List Ver} (h:VOwn w base v l) (hk:TKeep T w w') (h1:T 3=true) (h2:T 41=true) (h3:T 75=true):VOwn w' base v l:=by
 obtain⟨css,a,b⟩:=h
 exact⟨css,a.map fun _ _ _ h=>h.tk hk h1 h2,hk.owns b h3⟩
theorem POwn.tk {T:Nat→Bool} {w w':World} {base:Nat} {v:Value} {l:List Pt} (h:POwn w base v l) (hk:TKeep T w w') (h1:T 3=true) (h2:T 41=true) (h3:T 124=true) (h4:T 119=true) (h5:T 105=true):POwn w' base v l:=by
 obtain⟨css,a,b⟩:=h
 exact⟨css,a.map fun _ _ _ _ h k=>⟨h.tk hk h3 h4,k.tk hk h1 h2⟩,hk.owns b h5⟩
def GE (w:World) (base:Nat):List Gn→List (List Value)→Prop
 | [],[]=>True
 | g::l,c::cs=>(∃u x:Value,c=[.string g.id,u,x]∧KnOwn w base u x g.past)∧GE w base l cs
 | _,_=>False
theorem GE.map {w w':World} {base base':Nat} (h: ∀u x k,KnOwn w base u x k→KnOwn w' base' u x k): ∀ {l:List Gn} {cs:List (List Value)},GE w base l cs→GE w' base' l cs
 | [],[],_=>trivial
 | _::_,_::_,⟨⟨u,x,h1,h2⟩,h3⟩=>⟨⟨u,x,h1,h _ _ _ h2⟩,GE.map h h3⟩
 | [],_::_,h3=>h3.elim
 | _::_,[],h3=>h3.elim
theorem GE.snoc {w:World} {base:Nat} : ∀ {l:List Gn} {cs:List (List Value)} {v:Gn} {c:List Value},GE w base l cs→GE w base [v] [c]→GE w base (l++[v]) (cs++[c])
 | [],[],_,_,_,k=>k
 | _::_,_::_,_,_,h,k=>⟨h.1,GE.snoc h.2 k⟩
 | [],_::_,_,_,h,_=>h.elim
 | _::_,[],_,_,h,_=>h.elim
theorem GE.els {w:World} {base:Nat} : ∀ {l:List Gn} {cs:List (List Value)},GE w base l cs→(∀v∈l,v.past.vec.length≤5∧v.past.more.length≤60)→Els goneE w l cs
 | [],[],_,_=>trivial
 | v::_,_::_,⟨⟨u,x,h1,h2⟩,h3⟩,hb=>⟨⟨_,_,h1,h2.at_ (hb v (by simp)).1 (by have:=(hb v (by simp)).2;omega)⟩,GE.els h3 fun x hx=>hb x (by simp[hx])⟩
 | [],_::_,h,_=>h.elim
 | _::_,[],h,_=>h.elim
def GOwn (w:World) (base:Nat) (v:Value) (l:List Gn):Prop:= ∃css,GE w base l css∧w.ownsRow base 101 3 v l.length css.flatten
theorem GOwn.nil (w:World) (base:Nat):GOwn w base (.slice none 0 0) []:=⟨[],trivial,World.ownsRow_nil _ _ _ _⟩
theorem GOwn.tk {T:Nat→Bool} {w w':World} {base:Nat} {v:Value} {l:List Gn} (h:GOwn w base v l) (hk:TKeep T w w') (h1:T 3=true) (h2:T 41=true) (h3:T 101=true):GOwn w' base v l:=by
 obtain⟨css,a,b⟩:=h
 exact⟨css,a.map fun _ _ _ h=>h.tk hk h1 h2,hk.owns b h3⟩
theorem GOwn.below {w w':World} {base:Nat} {v:Value} {l:List Gn} (h:GOwn w base v l) (hb:Below w.heap.size w w'):GOwn w' base v l:=h.tk (T:=fun _=>true) (TKeep.of_below hb) rfl rfl rfl
theorem GOwn.mono {w:World} {base base':Nat} {v:Value} {l:List Gn} (h:GOwn w base v l) (hb:base'≤base):GOwn w base' v l:=by
 obtain⟨css,h1,h2⟩:=h;exact ⟨css,h1.map fun _ _ _ h=>h.mono hb,owns_mono h2 hb⟩
theorem GOwn.shape {w:World} {base:Nat} {v:Value} {l:List Gn} (h:GOwn w base v l): ∃a c,v= .slice a l.length c:=by
 obtain⟨css, -,h2⟩:=h;exact owns_slice h2
theorem GOwn.at_ {w:World} {base:Nat} {v:Value} {l:List Gn} (h:GOwn w base v l) (hb: ∀v∈l,v.past.vec.length≤5∧v.past.more.length≤60) (hl:l.length≤1000):RowAt goneE w v l:=by
 obtain⟨css,h1,h2⟩:=h
 exact⟨css,h1.els hb,CellsAt.of_owns h2 (by omega)⟩
theorem GOwn.push {w w':World} {base:Nat} {v v' u x:Value} {l:List Gn} {css:List (List Value)} {g:Gn} (h1:GE w base l css) (h2:w.ownsRow base 101 3 v l.length css.flatten) (hk:KnOwn w base u x g.past)
  (ho:w'.ownsRow base 101 3 v' (l.length+1) (css.flatten++[.string g.id,u,x])) (hg:w.grownBy w' v.ownBlock):GOwn w' base v' (l++[g]):=by
 have hK: ∀u x (k:Kn),KnOwn w base u x k→KnOwn w' base u x k:=fun u x k h=>⟨own_kept2 h.vec h2 (by decide) hg,own_kept2 h.more h2 (by decide) hg⟩
 refine⟨css++[[.string g.id,u,x]],GE.snoc (h1.map fun u x k h=>hK _ _ _ h) ⟨⟨u,x,rfl,hK _ _ _ hk⟩,trivial⟩, ?_⟩
 rw[List.flatten_append,List.length_append]
 simpa using ho
theorem GoneTy.info:(Tryz.prog.info? 101).map (fun i=>(i.zero,i.size,i.bytes))=some (some (.agg #[.string ByteArray.empty, .slice none 0 0, .slice none 0 0]),3,64):=by kernel_rfl
def PrOwn (e:Nat) (w:World) (base:Nat) (v:Value) (l:List (Int×Int)):Prop:=w.ownsRow base e 2 v l.length (spansCells l)
theorem PrOwn.tk {e:Nat} {T:Nat→Bool} {w w':World} {base:Nat} {v:Value} {l:List (Int×Int)} (h:PrOwn e w base v l) (hk:TKeep T w w') (h1:T e=true):PrOwn e w' base v l:=hk.owns h h1
theorem PrOwn.push {e:Nat} {w:World} {base:Nat} {v:Value} {l:List (Int×Int)} {a b:Int} (h:w.ownsRow base e 2 v (l.length+1) (spansCells l++[.int .i64 a, .int .i64 b])):PrOwn e w base v (l++[(a,b)]):=by
 unfold PrOwn;rw [spansCells_append,List.length_append];exact h
def KnP (w:World) (base:Nat) (v:Value) (k:Kn):Prop:= ∃(a:Option Addr) (n c:Nat) (b:Option Addr) (m d:Nat),v= .agg #[.slice a n c, .slice b m d]∧KnOwn w base (.slice a n c) (.slice b m d) k
theorem KnP.tk {T:Nat→Bool} {w w':World} {base:Nat} {v:Value} {k:Kn} (h:KnP w base v k) (hk:TKeep T w w') (h1:T 3=true) (h2:T 41=true):KnP w' base v k:=by
 obtain⟨a,n,c,b,m,d,e,h3⟩:=h;exact ⟨a,n,c,b,m,d,e,h3.tk hk h1 h2⟩
def FlP (w:World) (base:Nat) (v:Value) (l:Bxs):Prop:= ∃(a:Option Addr) (n c:Nat),v= .slice a n c∧FOwn w base (.slice a n c) l
theorem FlP.tk {T:Nat→Bool} {w w':World} {base:Nat} {v:Value} {l:Bxs} (h:FlP w base v l) (hk:TKeep T w w') (h1:T 124=true) (h2:T 119=true):FlP w' base v l:=by
 obtain⟨a,n,c,e,h3⟩:=h;exact ⟨a,n,c,e,h3.tk hk h1 h2⟩
def tj (et kt q t:Nat):Bool:= !((q==3 || q==5)&&t==214)&& !(q==8&&t==et)&& !(q==10&&t==kt)
theorem tj_else {et kt t:Nat} (h1:(t==214)=false) (h2:(t==et)=false) (h3:(t==kt)=false) (q:Nat):tj et kt q t=true:=by
 unfold tj;rw [h1,h2,h3];simp
theorem tj_row {et kt q:Nat} (h1:(et==214)=false) (h3:(et==kt)=false) (h:q≠8):tj et kt q et=true:=by
 unfold tj;rw [h1,h3,show(q==8)=false by simpa using h];simp
theorem tj_own {et kt q:Nat} (h1:(kt==214)=false) (h3:(kt==et)=false) (h:q≠10):tj et kt q kt=true:=by
 unfold tj;rw [h1,h3,show(q==10)=false by simpa using h];simp
theorem tj_rd {et kt q:Nat} (h1:(214==et)=false) (h3:(214==kt)=false) (ha:q≠3) (hb:q≠5):tj et kt q 214=true:=by
 unfold tj;rw [h1,h3,show(q==3)=false by simpa using ha,show(q==5)=false by simpa using hb];simp
theorem RdSt.tk {B:Nat} {s:ByteArray} {b:Bool} {T:Nat→Bool} {w w':World} (h:RdSt B s b w) (hk:TKeep T w w') (ht:T 214=true):RdSt B s b w':=⟨hk.blk _ _ _ h.blk ht⟩
theorem RKeep.grown {B:Nat} {w w':World} (h:RKeep B w w'):w.grownBy w' (some B):=⟨h.os,h.tape,h.output,h.size,fun k hk hne=>h.blk k hk fun e=>hne (by rw[e])⟩
theorem RKeep.keep {B g:Nat} {w w':World} {ob:Obj} (h:RKeep B w w') (hg:w.heap[g]? =some ob) (hne:g≠B):w'.heap[g]? =some ob:=by
 rw[h.blk g (Array.getElem?_eq_some_iff.1 hg).1 hne];exact hg
theorem RKeep.of_below {B:Nat} {w w':World} (h:Below w.heap.size w w'):RKeep B w w':=⟨h.os,h.tape,h.output,h.size,fun k hk _=>h.block k hk⟩
theorem RKeep.owns {B base e size n:Nat} {w w':World} {v:Value} {xs:List Value} (h:RKeep B w w') (hu:w.ownsRow base e size v n xs) (hB:B < base):w'.ownsRow base e size v n xs:=
 hu.kept h.grown (.inr fun hc=>by have:=(hu.lt B hc).1;omega)
theorem RKeep.owns2 {B base e size n:Nat} {w w':World} {v:Value} {xs:List Value} {cs:Array Value} {t:TypeId} (h:RKeep B w w') (hu:w.ownsRow base e size v n xs) (hB:w.heap[B]? =some (Obj.cells cs t (0,0))) (hne:t≠e):w'.ownsRow base e size v n xs:=
 hu.kept h.grown (.inr (own_off hu hB hne))
theorem RKeep.row {B base e size n:Nat} {a w w':World} {v:Value} {xs:List Value} (h:RKeep B a w) (hu:w.ownsRow base e size v n xs) (hg:w.grownBy w' v.ownBlock) (hb:a.heap.size≤base):RKeep B a w':=
 ⟨hg.os.trans h.os,hg.tape.trans h.tape,hg.output.trans h.output,Nat.le_trans h.size hg.size,fun k hk hne=>(hg.block k (Nat.lt_of_lt_of_le hk h.size) fun hc=>by have:=(hu.lt k hc.symm).1;omega).trans (h.blk k hk hne)⟩
theorem RKeep.setHi {B g j:Nat} {a w:World} {v:Value} (h:RKeep B a w) (hg:a.heap.size≤g):RKeep B a (w.setCell ⟨g,j,none⟩ v):=
 ⟨h.os,h.tape,h.output,by have:=h.size;simp [World.setCell];exact this,fun k hk hne=>(heap_set_other (by omega)).trans (h.blk k hk hne)⟩
theorem RKeep.drew {B:Nat} {a w:World} (h:RKeep B a w):RKeep B a w.drew:=⟨h.os,h.tape,h.output,h.size,h.blk⟩
theorem IntEl.info:(Tryz.prog.info? 3).map (fun i=>(i.zero,i.size,i.bytes))=some (some (.int .i64 0),1,8):=by kernel_rfl
structure KReg2 (BR B2 B3:Nat) (w0:World) (s:ByteArray) (bad:Bool) (VV DD:Value) (n:Nat) (xs:List Value) (k:Nat) (ys:List Value) (w:World):Prop where
 rd:RdSt BR s bad w
 row:w.ownsRow w0.heap.size 3 1 VV n xs
 dots:w.ownsRow w0.heap.size 41 2 DD k ys
 b3:w.heap[B3]? =some (Obj.cells #[VV,DD] 73 (0,0))
 b2:w.heap[B2]? =some (Obj.cells #[.slice none 0 0, .slice none 0 0] 73 (0,0))
 rk:RKeep BR w0 w
structure KReg (BR B2 B3:Nat) (w0:World) (s:ByteArray) (bad:Bool) (VV XX:Value) (n:Nat) (xs:List Value) (w:World):Prop where
 rd:RdSt BR s bad w
 row:w.ownsRow w0.heap.size 3 1 VV n xs
 b3:w.heap[B3]? =some (Obj.cells #[VV,XX] 73 (0,0))
 b2:w.heap[B2]? =some (Obj.cells #[.slice none 0 0, .slice none 0 0] 73 (0,0))
 rk:RKeep BR w0 w
theorem rknow_c (BR:Nat) (s:ByteArray) (bad:Bool) (w:World) (h:RdSt BR s bad w) (hs:s.size≤1000000):
  Calls Tryz.prog 142 #[.pointer (some ⟨BR,0,none⟩)] w fun e w'=> ∃u x,e= .returned (.agg #[u,x])∧KnOwn w' w.heap.size u x (knRd s bad)∧RdSt BR (dotRd s bad).2.1 (dotRd s bad).2.2 w'∧RKeep BR w w':=by
 have HR:=jD (hlt_of h.blk)
 have HC:=jD (fun w2 (h2:RdSt BR s bad w2)=>rnum_c BR s bad 5 w2 h2 hs)
 have hv5:=numV_bd s (most:=5) (by decide)
 obtain⟨n,hn⟩: ∃n:Nat,numV s 5=(n:Int):=⟨(numV s 5).toNat,by omega⟩
 obtain⟨w1,hw1⟩: ∃w1,w1=(w.alloc (.cells #[.slice none 0 0, .slice none 0 0] 73)).alloc (.cells #[.slice none 0 0, .slice none 0 0] 73):=⟨_,rfl⟩
 have hb1:Below w.heap.size w w1:=by rw[hw1];exact (bal _).alloc (by simp) _
 have K2:=jD (show w1.heap[w.heap.size]? =some (Obj.cells #[.slice none 0 0, .slice none 0 0] 73 (0,0)) by rw[hw1];exact alloc_keep _ (alloc_new _ _ _ _ rfl))
 have K3:=jD (show w1.heap[w.heap.size+1]? =some (Obj.cells #[.slice none 0 0, .slice none 0 0] 73 (0,0)) by rw[hw1];exact alloc_new _ _ _ _ (by simp))
 have HRD:=jD (show RdSt BR s bad w1 from⟨below_keep hb1 h.blk⟩)
 have HRK:=jD (show RKeep BR w w1 from RKeep.of_below hb1)
 have HWW:=jD hw1
 clear hb1 h hw1
 go_enter Tryz.func142,Tryz.ntmps142
 go_wp2_with fail
 rw[←HWW.out]
 clear HWW
 (with_reducible refine(HC.out _ HRD.out).mono ?_)
 rintro e w2 ⟨rfl,hr2,hk2⟩
 have hlw:=HR.out
 have HST:=jD (show KReg BR w.heap.size (w.heap.size+1) w (numR s) (numB s bad 5) (.slice none 0 0) (.slice none 0 0) 0 [] w2 from
  ⟨hr2,World.ownsRow_nil _ _ _ _,hk2.keep K3.out (by omega),hk2.keep K2.out (by omega),HRK.out.trans hk2⟩)
 have hrs:=numR_size s
 have HKV:=jD (show vecRd s bad=numsR 1000 (numR s) (numB s bad 5) n by unfold vecRd;rw [hn];simp)
 have HKN:=jD (show knRd s bad=⟨(vecRd s bad).1,(dotRd s bad).1⟩ from rfl)
 have HKD:=jD (show dotRd s bad=pairsR 5 1000 (numR (vecRd s bad).2.1) (numB (vecRd s bad).2.1 (vecRd s bad).2.2 60) (numV (vecRd s bad).2.1 60).toNat from rfl)
 rw[hn] at hv5 ⊢
 clear HC HRD HRK K2 K3 hr2 hk2 hn
 generalize numR s=s1 at*
 generalize numB s bad 5=bad1 at*
 obtain⟨B2,hB2⟩: ∃B2,B2=w.heap.size:=⟨_,rfl⟩
 obtain⟨B3,hB3⟩: ∃B3,B3=w.heap.size+1:=⟨_,rfl⟩
 rw[←hB3,←hB2] at HST ⊢
 have HB2:=jD hB2
 have HB3:=jD hB3
 clear hB2 hB3
 go_wp2
 go_loopw [4] (fun i wr=> ∃m k:Nat,m+k=n∧i= .int .i64 (m:Nat)∧ ∃VV,KReg BR B2 B3 w (numsR 1000 s1 bad1 k).2.1 (numsR 1000 s1 bad1 k).2.2 VV (.slice none 0 0) k (intsC (numsR 1000 s1 bad1 k).1) wr) (fun i _=>(intOf i).toNat)
 case atStart=>exact ⟨n,0,by omega,rfl,_,HST.out⟩
 case round=>
  clear HST
  obtain⟨m,k,hmk,rfl,VV,hst⟩:=hrel
  obtain⟨va,vc,rfl⟩:=owns_slice hst.row
  cases m with
  | zero=>
   obtain rfl:k=n:=by omega
   have hms:=numsR_size 1000 s1 bad1 k
   have hvl:=numsR_len 1000 s1 bad1 k
   have E1:=jD (show(vecRd s bad).1=(numsR 1000 s1 bad1 k).1 by rw[HKV.out])
   have E2:=jD (show(vecRd s bad).2.1=(numsR 1000 s1 bad1 k).2.1 by rw[HKV.out])
   have E3:=jD (show(vecRd s bad).2.2=(numsR 1000 s1 bad1 k).2.2 by rw[HKV.out])
   clear HKV
   generalize (numsR 1000 s1 bad1 k).2.1=s2 at*
   generalize (numsR 1000 s1 bad1 k).2.2=bad2 at*
   generalize (numsR 1000 s1 bad1 k).1=lv at*
   have HST:=jD hst
   have HC:=jD (rnum_c BR s2 bad2 60 wr hst.rd (by omega))
   have hlw:BR < w.heap.size:=HR.out
   have hv60:=numV_bd s2 (most:=60) (by decide)
   obtain⟨n2,hn2⟩: ∃n2:Nat,numV s2 60=(n2:Int):=⟨(numV s2 60).toNat,by omega⟩
   have hrs2:=numR_size s2
   have HKE:=jD (show dotRd s bad=pairsR 5 1000 (numR s2) (numB s2 bad2 60) n2 by rw[HKD.out,E2.out,E3.out,hn2];simp)
   have HVL:=jD hvl
   clear HKD hvl
   rw[hn2] at HC hv60
   clear hst hn2
   go_wp2_with fail
   (with_reducible refine(HC.out).mono ?_)
   rintro e w4 ⟨rfl,hr4,hk4⟩
   have HST2:=jD (show KReg2 BR B2 B3 w (numR s2) (numB s2 bad2 60) (.slice va k vc) (.slice none 0 0) k (intsC lv) 0 [] w4 from
    ⟨hr4,hk4.owns HST.out.row hlw,World.ownsRow_nil _ _ _ _,hk4.keep HST.out.b3 (by rw[HB3.out];omega),hk4.keep HST.out.b2 (by rw[HB2.out];omega),HST.out.rk.trans hk4⟩)
   clear HC HST hr4 hk4
   generalize numR s2=s3 at*
   generalize numB s2 bad2 60=bad3 at*
   go_wp2
   go_loopw [5] (fun i wr=> ∃m j:Nat,m+j=n2∧i= .int .i64 (m:Nat)∧ ∃DD,KReg2 BR B2 B3 w (pairsR 5 1000 s3 bad3 j).2.1 (pairsR 5 1000 s3 bad3 j).2.2 (.slice va k vc) DD k (intsC lv) j (spansCells (pairsR 5 1000 s3 bad3 j).1) wr) (fun i _=>(intOf i).toNat)
   case atStart=>exact ⟨n2,0,by omega,rfl,_,HST2.out⟩
   case round=>
    clear HST2
    obtain⟨m,j,hmj,rfl,DD,hst⟩:=hrel
    obtain⟨da,dc,rfl⟩:=owns_slice hst.dots
    cases m with
    | zero=>
     obtain rfl:j=n2:=by omega
     have k0:=cell_of_block (j:=0) hst.b3 rfl
     have k1:=cell_of_block (j:=1) hst.b3 rfl
     have hl3:=hlt_of hst.b3
     have r0:=cell_of_block (j:=0) hst.b2 rfl
     have r1:=cell_of_block (j:=1) hst.b2 rfl
     have hl2:=hlt_of hst.b2
     have f0:=free_of_block (j:=0) hst.b2
     have f1:=free_of_block (j:=1) hst.b2
     have HST:=jD hst
     clear hst
     have HD:=jD (show KnOwn wr w.heap.size (.slice va k vc) (.slice da j dc) (knRd s bad) by
      rw[HKN.out,E1.out,HKE.out]
      refine⟨?_, ?_⟩
      ·show wr.ownsRow _ _ _ _ lv.length (intsC lv)
       rw[HVL.out];exact HST.out.row
      ·show wr.ownsRow _ _ _ _ (pairsR 5 1000 s3 bad3 j).1.length (spansCells (pairsR 5 1000 s3 bad3 j).1)
       rw[pairsR_len];exact HST.out.dots)
     have HBB:=jD (show w.heap.size≤B2 by rw[HB2.out];exact Nat.le_refl _)
     have HB4:=jD (show BR≠B2 by rw[HB2.out];have:=HR.out;omega)
     clear hlw
     go_wp2
     refine bodyPost_ret (v:= .agg #[.slice va k vc, .slice da j dc]) (by simp[results,Tryz.results142,go_sem, *]) rfl ?_
     refine⟨.slice va k vc, .slice da j dc,rfl,⟨own_set (own_set HD.out.vec HST.out.b2 (by decide)) (heap_set_same HST.out.b2) (by decide),own_set (own_set HD.out.more HST.out.b2 (by decide)) (heap_set_same HST.out.b2) (by decide)⟩,⟨?_⟩,(HST.out.rk.setHi HBB.out).setHi HBB.out⟩
     rw[heap_set_other HB4.out,heap_set_other HB4.out,HKE.out]
     exact HST.out.rd.blk
    | succ m=>
     have hms3:=pairsR_size 5 1000 s3 bad3 j
     have hdl:=pairsR_len 5 1000 s3 bad3 j
     have HNX:=jD (show pairsR 5 1000 s3 bad3 (j+1)=((pairsR 5 1000 s3 bad3 j).1++[(numV (pairsR 5 1000 s3 bad3 j).2.1 5,numV (numR (pairsR 5 1000 s3 bad3 j).2.1) 1000)],numR (numR (pairsR 5 1000 s3 bad3 j).2.1),numB (numR (pairsR 5 1000 s3 bad3 j).2.1) (numB (pairsR 5 1000 s3 bad3 j).2.1 (pairsR 5 1000 s3 bad3 j).2.2 5) 1000) from rfl)
     generalize (pairsR 5 1000 s3 bad3 j).2.1=sk at*
     generalize (pairsR 5 1000 s3 bad3 j).2.2=bk at*
     generalize (pairsR 5 1000 s3 bad3 j).1=lk at*
     subst hdl
     have hn5:=numR_size sk
     have HRA:=jD (num_rd sk bk 5)
     have HRB:=jD (num_rd (numR sk) (numB sk bk 5) 1000)
     have HC1:=jD (fun w2 (h2:RdSt BR sk bk w2)=>rnum_c BR sk bk 5 w2 h2 (by omega))
     have HC2:=jD (fun w2 (h2:RdSt BR (numR sk) (numB sk bk 5) w2)=>rnum_c BR (numR sk) (numB sk bk 5) 1000 w2 h2 (by omega))
     have HR0:=jD hst.rd
     have HOW:=jD (show PrOwn 41 wr w.heap.size (.slice da lk.length dc) lk from hst.dots)
     have HKB:=jD hst.b3
     have HEX:=jD (And.intro hst.b2 hst.row)
     have HGK:=jD hst.rk
     have hmb:decide ((0:Int) < ((m+1:Nat):Int))=true:=by simp
     have hjb:lk.length≤60:=by omega
     have hqk:w.heap.size≤B3:=by rw[HB3.out];omega
     have hq2:B2≠B3:=by rw[HB3.out,HB2.out];omega
     clear hst hn5
     generalize numR (numR sk)=sk2 at*
     generalize numB (numR sk) (numB sk bk 5) 1000=bk2 at*
     generalize numV (numR sk) 1000=n9 at*
     generalize numR sk=sk1 at*
     generalize numB sk bk 5=bk1 at*
     generalize numV sk 5=n1 at*
     go_wp2_with fail
     refine Cl3.region0 36 rfl (fun u=>match u with | 0=>[3,5] | 1=>[8] | 2=>[10] | 3=>[5] | _=>[]) (fun u ww=>match u with | 0=>RdSt BR sk bk ww | 1=>PrOwn 41 ww w.heap.size (.slice da lk.length dc) lk | 2=>ww.heap[B3]? =some (Obj.cells #[.slice va k vc, .slice da lk.length dc] 73 (0,0)) | 3=>RdSt BR sk bk ww∨RdSt BR sk1 bk1 ww | _=>(ww.heap[B2]? =some (Obj.cells #[.slice none 0 0, .slice none 0 0] 73 (0,0))∧ww.ownsRow w.heap.size 3 1 (.slice va k vc) k (intsC lv))) (fun jq=>match jq with | 7=>[8] | _=>[]) (fun jq v ww=>match jq with | 0=>v= .pointer (some ⟨B3,1,none⟩) | 1=>v= .slice da lk.length dc | 2=>v= .pointer (some ⟨BR,0,none⟩) | 3=>(v= .int .i64 n1)∧(RdSt BR sk1 bk1 ww∨RdSt BR sk2 bk2 ww) | 4=>v= .pointer (some ⟨BR,0,none⟩) | 5=>(v= .int .i64 n9)∧RdSt BR sk2 bk2 ww | 6=>v= .agg #[.int .i64 n1, .int .i64 n9] | 7=> ∃g7,v= .slice (some ⟨g7,0,none⟩) 1 1∧ww.heap[g7]? =some (Obj.cells #[.int .i64 n1, .int .i64 n9] 41 (0,0)) | 8=> ∃a cc,v= .slice a (lk.length+1) cc∧PrOwn 41 ww w.heap.size (.slice a (lk.length+1) cc) (lk++[(n1,n9)]) | 9=>v= .pointer (some ⟨B3,1,none⟩) | 10=> ∃a cc,ww.heap[B3]? =some (Obj.cells #[.slice va k vc, .slice a (lk.length+1) cc] 73 (0,0))∧PrOwn 41 ww w.heap.size (.slice a (lk.length+1) cc) (lk++[(n1,n9)])∧(ww.heap[B2]? =some (Obj.cells #[.slice none 0 0, .slice none 0 0] 73 (0,0))∧ww.ownsRow w.heap.size 3 1 (.slice va k vc) k (intsC lv)) | _=>True) (fun ww=>RKeep BR w ww) (fun jq ww ww'=>TKeep (tj 41 73 jq) ww ww'∧(jq=3→RdSt BR sk1 bk1 ww')∧(jq=5→RdSt BR sk1 bk1 ww∧RdSt BR sk2 bk2 ww')∧(jq=10→RKeep B3 ww ww')) Tryz.mixed (by decide+kernel) HGK.out.drew (fun u=>match u with | 0=>⟨HR0.out.blk⟩ | 1=>HOW.out | 2=>HKB.out | 3=> .inl ⟨HR0.out.blk⟩ | _+4=>HEX.out) ?_ (fun jq ww ww' u hk h hR=>match u,hk,h with | 0,hk,h=>(h.tk hR.1 (tj_rd rfl rfl (by intro e;simp [e] at hk) (by intro e;simp [e] at hk))) | 1,hk,h=>(h.tk hR.1 (tj_row rfl rfl (by simpa using hk))) | 2,hk,h=>(hR.1.blk _ _ _ h (tj_own rfl rfl (by simpa using hk))) | 3,hk,h=>(by by_cases h3:jq=3;exact .inr (hR.2.1 h3);exact h.imp (fun h=>h.tk hR.1 (tj_rd rfl rfl h3 (by simpa using hk))) (fun h=>h.tk hR.1 (tj_rd rfl rfl h3 (by simpa using hk)))) | _+4,hk,h=>(⟨(by by_cases h10:jq=10;exact (hR.2.2.2 h10).keep h.1 hq2;exact hR.1.blk _ _ _ h.1 (tj_own rfl rfl h10)),hR.1.owns h.2 (tj_else rfl rfl rfl _)⟩)) ?_ ?_
     ·intro q r v w w' hne hk hlt h hR
      match r,hk,hlt,h,hne with
      | 0,_,_,h,_=>exact h
      | 1,_,_,h,_=>exact h
      | 2,_,_,h,_=>exact h
      | 3,hk,hlt,h,hne=>
       by_cases h5:q=5
       ·exact⟨h.1, .inr (hR.2.2.1 h5).2⟩
       by_cases h3:q=3
       ·exact absurd h3 (by intro e;subst e;first | exact absurd hlt (by decide+kernel) | exact absurd rfl hne | simp at hk)
       exact⟨h.1,h.2.imp (fun h=>h.tk hR.1 (tj_rd rfl rfl h3 h5)) (fun h=>h.tk hR.1 (tj_rd rfl rfl h3 h5))⟩
      | 4,_,_,h,_=>exact h
      | 5,hk,hlt,h,hne=>
       by_cases h3:q=3
       ·exact absurd h3 (by intro e;subst e;first | exact absurd hlt (by decide+kernel) | exact absurd rfl hne | simp at hk)
       by_cases h5:q=5
       ·exact absurd h5 (by intro e;subst e;first | exact absurd hlt (by decide+kernel) | exact absurd rfl hne | simp at hk)
       exact⟨h.1,h.2.tk hR.1 (tj_rd rfl rfl h3 h5)⟩
      | 6,_,_,h,_=>exact h
      | 7,hk,hlt,h,hne=>
       by_cases h8:q=8
       ·exact absurd h8 (by intro e;subst e;first | exact absurd hlt (by decide+kernel) | exact absurd rfl hne | simp at hk)
       obtain⟨g7,e1,e2⟩:=h
       exact⟨_,e1,hR.1.blk _ _ _ e2 (tj_row rfl rfl h8)⟩
      | 8,hk,hlt,h,hne=>
       by_cases h8:q=8
       ·exact absurd h8 (by intro e;subst e;first | exact absurd hlt (by decide+kernel) | exact absurd rfl hne | simp at hk)
       obtain⟨a,cc,e1,k1⟩:=h
       exact⟨a,cc,e1,k1.tk hR.1 (tj_row rfl rfl h8)⟩
      | 9,_,_,h,_=>exact h
      | 10,hk,hlt,h,hne=>
       by_cases h8:q=8
       ·exact absurd h8 (by intro e;subst e;first | exact absurd hlt (by decide+kernel) | exact absurd rfl hne | simp at hk)
       by_cases h10:q=10
       ·exact absurd h10 (by intro e;subst e;first | exact absurd hlt (by decide+kernel) | exact absurd rfl hne | simp at hk)
       obtain⟨a,cc,e1,k1,k2⟩:=h
       exact⟨a,cc,hR.1.blk _ _ _ e1 (tj_own rfl rfl h10),k1.tk hR.1 (tj_row rfl rfl h8),⟨(by by_cases h10:q=10;exact (hR.2.2.2 h10).keep k2.1 hq2;exact hR.1.blk _ _ _ k2.1 (tj_own rfl rfl h10)),hR.1.owns k2.2 (tj_else rfl rfl rfl _)⟩⟩
      | _+11,_,_,_,_=>trivial
     ·refine⟨?_, ?_, ?_, ?_, ?_, ?_, ?_, ?_, ?_, ?_, ?_,trivial⟩
      ·intro x wx hG
       have f3:=hG.o 3
       replace hG:=hG.good
       go_wp2
       exact⟨_,rfl,rfl,hG,⟨TKeep.refl _ _,fun h=>zd h,fun h=>zd h,fun h=>zd h⟩⟩
      ·intro x wx hG
       have g0:(x.tmps.getD 25 undef)= .pointer (some ⟨B3,1,none⟩):=hG.c 0 _ rfl
       have hp2:=hG.p 2
       replace hG:=hG.good
       have c0:=cell_of_block (j:=1) hp2 rfl
       clear hp2
       go_wp2
       exact⟨_,rfl,rfl,hG,⟨TKeep.refl _ _,fun h=>zd h,fun h=>zd h,fun h=>zd h⟩⟩
      ·intro x wx hG
       have f0:=hG.o 0
       replace hG:=hG.good
       go_wp2
       exact⟨_,rfl,rfl,hG,⟨TKeep.refl _ _,fun h=>zd h,fun h=>zd h,fun h=>zd h⟩⟩
      ·intro x wx hG
       have g2:(x.tmps.getD 27 undef)= .pointer (some ⟨BR,0,none⟩):=hG.c 2 _ rfl
       have hp0:=hG.p 0
       replace hG:=hG.good
       have HP:=jD hp0
       go_wp2_with fail
       (with_reducible refine(HC1.out _ HP.out).mono ?_)
       rintro e wq ⟨rfl,h1,h2⟩
       have H1:=jD h1
       have H2:=jD h2
       clear h1 h2
       go_wp2
       exact⟨_,rfl,⟨rfl, .inl H1.out⟩,hG.trans H2.out,⟨TKeep.of_rk H2.out HP.out (by decide),fun _=>H1.out,fun h=>zd h,fun h=>zd h⟩⟩
      ·intro x wx hG
       have f0:=hG.o 0
       replace hG:=hG.good
       go_wp2
       exact⟨_,rfl,rfl,hG,⟨TKeep.refl _ _,fun h=>zd h,fun h=>zd h,fun h=>zd h⟩⟩
      ·intro x wx hG
       have g4:(x.tmps.getD 29 undef)= .pointer (some ⟨BR,0,none⟩):=hG.c 4 _ rfl
       have g3:((x.tmps.getD 28 undef)= .int .i64 n1)∧(RdSt BR sk1 bk1 wx∨RdSt BR sk2 bk2 wx):=hG.c 3 _ rfl
       have hp3:=hG.p 3
       replace hG:=hG.good
       have HP:=jD (Rd.mid HRA.out HRB.out g3.2 hp3)
       go_wp2_with fail
       (with_reducible refine(HC2.out _ HP.out).mono ?_)
       rintro e wq ⟨rfl,h1,h2⟩
       have H1:=jD h1
       have H2:=jD h2
       clear h1 h2
       go_wp2
       exact⟨_,rfl,⟨rfl,H1.out⟩,hG.trans H2.out,⟨TKeep.of_rk H2.out HP.out (by decide),fun h=>zd h,fun _=>⟨HP.out,H1.out⟩,fun h=>zd h⟩⟩
      ·intro x wx hG
       have g3:((x.tmps.getD 28 undef)= .int .i64 n1)∧(RdSt BR sk1 bk1 wx∨RdSt BR sk2 bk2 wx):=hG.c 3 _ rfl
       have g5:((x.tmps.getD 30 undef)= .int .i64 n9)∧RdSt BR sk2 bk2 wx:=hG.c 5 _ rfl
       replace hG:=hG.good
       obtain⟨g3, -⟩:=g3
       have g3b:=gd g3
       obtain⟨g5, -⟩:=g5
       have g5b:=gd g5
       go_wp2
       exact⟨_,rfl,rfl,hG,⟨TKeep.refl _ _,fun h=>zd h,fun h=>zd h,fun h=>zd h⟩⟩
      ·intro x wx hG
       have g6:(x.tmps.getD 31 undef)= .agg #[.int .i64 n1, .int .i64 n9]:=hG.c 6 _ rfl
       have g6b:=gd g6
       replace hG:=hG.good
       have g6b:=gd g6
       go_wp2
       exact⟨_,rfl,⟨_,rfl,alloc_new _ _ _ _ rfl⟩,hG.trans (RKeep.of_below (bal _)),⟨TKeep.of_below (bal _),fun h=>zd h,fun h=>zd h,fun h=>zd h⟩⟩
      ·intro x wx hG
       have g1:(x.tmps.getD 26 undef)= .slice da lk.length dc:=hG.c 1 _ rfl
       have g7: ∃g7,(x.tmps.getD 32 undef)= .slice (some ⟨g7,0,none⟩) 1 1∧wx.heap[g7]? =some (Obj.cells #[.int .i64 n1, .int .i64 n9] 41 (0,0)):=hG.c 7 _ rfl
       have hp1:=hG.p 1
       replace hG:=hG.good
       obtain⟨g9,hg1,hg2⟩:=g7
       have hz:=g1
       have hzb:=hz
       rw[Array.getD_eq_getD_getElem?] at hzb
       have hg1b:=hg1
       rw[Array.getD_eq_getD_getElem?] at hg1b
       have H9:=jD hp1
       have HON:=jD (show ∀u∈([.int .i64 n1, .int .i64 n9]:List Value),u.oneCell'=true by intro u hu;simp only[List.mem_cons,List.not_mem_nil,or_false] at hu;rcases hu with rfl | rfl <;> rfl)
       have HCL:=jD (show CellsAt wx (.slice (some ⟨g9,0,none⟩) 1 1) 1 [.int .i64 n1, .int .i64 n9] from CellsAt.mk (Nat.le_refl _) (by decide) (hlt_of hg2) fun j x hj=>by rw[Nat.zero_add];exact cell_of_block hg2 (by simpa using hj))
       have hbs:=hG.size
       have HG:=jD hG
       clear hG hg2 hp1
       go_wp2_with (at_builtin;apply Classical.byContradiction;intro hcon)
       refine hcon ?_
       (refine wpList_append_cells2 rfl (.tmp 26) (.tmp 32) 71 rfl w.heap.size 41 (.agg #[.int .i64 0, .int .i64 0]) 2 16 Tryz.underlying71 DcTy.info rfl (by decide) (.slice da lk.length dc) _ _ hz H9.out (.slice (some ⟨g9,0,none⟩) 1 1) 1 _ hg1 HCL.out rfl HON.out hbs (by unfold maxLen;omega) (by omega) ?_)
       intro v' wq ho hgr
       obtain⟨qa,qc,hq⟩:=owns_slice ho
       subst hq
       have HO:=jD ho
       have HGR:=jD hgr
       clear ho hgr
       go_wp2
       exact⟨_,rfl,⟨_,_,rfl,PrOwn.push HO.out⟩,HG.out.row H9.out HGR.out (Nat.le_refl _),⟨TKeep.of_app H9.out HGR.out (by decide),fun h=>zd h,fun h=>zd h,fun h=>zd h⟩⟩
      ·intro x wx hG
       have f3:=hG.o 3
       replace hG:=hG.good
       go_wp2
       exact⟨_,rfl,rfl,hG,⟨TKeep.refl _ _,fun h=>zd h,fun h=>zd h,fun h=>zd h⟩⟩
      ·intro x wx hG
       have g9:(x.tmps.getD 34 undef)= .pointer (some ⟨B3,1,none⟩):=hG.c 9 _ rfl
       have g8: ∃a cc,(x.tmps.getD 33 undef)= .slice a (lk.length+1) cc∧PrOwn 41 wx w.heap.size (.slice a (lk.length+1) cc) (lk++[(n1,n9)]):=hG.c 8 _ rfl
       have hp2:=hG.p 2
       have hp4:=hG.p 4
       replace hG:=hG.good
       obtain⟨za,zc,hz,h9⟩:=g8
       have H9:=jD h9
       clear h9
       have hzb:=hz
       rw[Array.getD_eq_getD_getElem?] at hzb
       have hc:=cell_of_block (j:=1) hp2 rfl
       have hfz:=free_of_block (j:=1) hp2
       have hbl:=hlt_of hp2
       have HP:=jD hp2
       have HP4:=jD hp4
       clear hp2 hp4
       go_wp2
       exact⟨undef,rfl,⟨za,zc,by rw[heap_set_same HP.out];rfl,H9.out.tk (TKeep.of_set HP.out (T:=tj 41 73 10) (by decide)) (tj_row rfl rfl (by decide)),⟨(RKeep.set _ _ _ _).keep HP4.out.1 hq2,(TKeep.of_set HP.out (T:=tj 41 73 10) (by decide)).owns HP4.out.2 (tj_else rfl rfl rfl _)⟩⟩,hG.setHi hqk,⟨TKeep.of_set HP.out (by decide),fun h=>zd h,fun h=>zd h,fun _=>RKeep.set _ _ _ _⟩⟩
     ·intro vals w3 hg hF
      obtain⟨g0,g1,g2,g3,g4,g5,g6,g7,g8,g9,g10, -⟩:=hF
      have e0:=gq (vals 0) g0
      have e1:=gq (vals 1) g1
      have e2:=gq (vals 2) g2
      have e4:=gq (vals 4) g4
      replace g5:((vals 5)= .int .i64 n9)∧RdSt BR sk2 bk2 w3:=g5 rfl
      have e6:=gq (vals 6) g6
      have e9:=gq (vals 9) g9
      replace g10: ∃a cc,w3.heap[B3]? =some (Obj.cells #[.slice va k vc, .slice a (lk.length+1) cc] 73 (0,0))∧PrOwn 41 w3 w.heap.size (.slice a (lk.length+1) cc) (lk++[(n1,n9)])∧(w3.heap[B2]? =some (Obj.cells #[.slice none 0 0, .slice none 0 0] 73 (0,0))∧w3.ownsRow w.heap.size 3 1 (.slice va k vc) k (intsC lv)):=g10 rfl
      simp only[Cl3.puts,e0,e1,e2,e4,e6,e9]
      clear e0 e1 e2 e4 e6 e9 g0 g1 g2 g3 g4 g6 g7 g8 g9
      go_simp
      generalize vals 5=u5 at*
      obtain⟨-,hrd⟩:=g5
      obtain⟨qa,qc,hk3,hrow,hk2,hvr⟩:=g10
      have HKR:=jD (show KReg2 BR B2 B3 w (pairsR 5 1000 s3 bad3 (lk.length+1)).2.1 (pairsR 5 1000 s3 bad3 (lk.length+1)).2.2 (.slice va k vc) (.slice qa (lk.length+1) qc) k (intsC lv) (lk.length+1) (spansCells (pairsR 5 1000 s3 bad3 (lk.length+1)).1) w3 from by
       rw[HNX.out];exact ⟨hrd,hvr,by have h9:=hrow;unfold PrOwn at h9;rw [List.length_append] at h9;exact h9,hk3,hk2,hg⟩)
      clear hrd hk3 hrow hk2 hvr hg HC1 HC2 HRA HRB HR0 HOW HKB HEX HGK HNX
      go_wp2
      go_roundw
      case rel=>exact ⟨m,lk.length+1,by omega,by go_num,_,HKR.out⟩
      case measure=>simp [intOf] <;> omega
  | succ m=>
   have hms:=numsR_size 1000 s1 bad1 k
   have HNX:=jD (show numsR 1000 s1 bad1 (k+1)=((numsR 1000 s1 bad1 k).1++[numV (numsR 1000 s1 bad1 k).2.1 1000],numR (numsR 1000 s1 bad1 k).2.1,numB (numsR 1000 s1 bad1 k).2.1 (numsR 1000 s1 bad1 k).2.2 1000) from rfl)
   generalize (numsR 1000 s1 bad1 k).2.1=sk at*
   generalize (numsR 1000 s1 bad1 k).2.2=bk at*
   generalize (numsR 1000 s1 bad1 k).1=lk at*
   have HC:=jD (fun w2 (h2:RdSt BR sk bk w2)=>rnum_c BR sk bk 1000 w2 h2 (by omega))
   have HST:=jD hst
   have hmb:decide ((0:Int) < ((m+1:Nat):Int))=true:=by simp
   have hk5:k≤5:=by omega
   obtain⟨nv,hnv⟩: ∃nv,nv=numV sk 1000:=⟨_,rfl⟩
   rw[←hnv] at HC HNX
   clear hst hnv
   go_wp2_with fail
   have hq1:w.heap.size≤B3:=by rw[HB3.out];omega
   have hq2:B2≠B3:=by rw[HB3.out,HB2.out];omega
   have hlw:BR < w.heap.size:=HR.out
   have hq3:BR≠B3:=by omega
   have hq4:BR≠B2:=by rw[HB2.out];omega
   refine Cl3.region0 36 rfl (fun u=>match u with | 0=>[3] | 1=>[5] | 2=>[7] | _=>[]) (fun u ww=>match u with | 0=>RdSt BR sk bk ww | 1=>ww.ownsRow w.heap.size 3 1 (.slice va k vc) k (intsC lk) | 2=>ww.heap[B3]? =some (Obj.cells #[.slice va k vc, .slice none 0 0] 73 (0,0)) | _=>ww.heap[B2]? =some (Obj.cells #[.slice none 0 0, .slice none 0 0] 73 (0,0))) (fun jq=>match jq with | 4=>[5] | _=>[]) (fun jq v ww=>match jq with | 0=>v= .pointer (some ⟨B3,0,none⟩) | 1=>v= .slice va k vc | 2=>v= .pointer (some ⟨BR,0,none⟩) | 3=>(v= .int .i64 nv)∧RdSt BR (numR sk) (numB sk bk 1000) ww | 4=> ∃g,v= .slice (some ⟨g,0,none⟩) 1 1∧ww.heap[g]? =some (Obj.cells #[.int .i64 nv] 3 (0,0))∧((.slice va k vc):Value).ownBlock≠some g | 5=> ∃a cc,v= .slice a (k+1) cc∧ww.ownsRow w.heap.size 3 1 (.slice a (k+1) cc) (k+1) (intsC (lk++[nv])) | 6=>v= .pointer (some ⟨B3,0,none⟩) | 7=> ∃a cc,ww.heap[B3]? =some (Obj.cells #[.slice a (k+1) cc, .slice none 0 0] 73 (0,0))∧ww.ownsRow w.heap.size 3 1 (.slice a (k+1) cc) (k+1) (intsC (lk++[nv]))∧ww.heap[B2]? =some (Obj.cells #[.slice none 0 0, .slice none 0 0] 73 (0,0)) | _=>True) (fun ww=>RKeep BR w ww) (fun jq ww ww'=>(jq≠3→jq≠5→jq≠7→Below ww.heap.size ww ww')∧(jq=3→RKeep BR ww ww'∧RdSt BR sk bk ww)∧(jq=5→AppV w.heap.size 3 1 (.slice va k vc) ww ww')∧(jq=7→RKeep B3 ww ww'∧ ∃cs,ww.heap[B3]? =some (Obj.cells cs 73 (0,0)))) Tryz.mixed (by decide+kernel) HST.out.rk.drew (fun u=>match u with | 0=>⟨HST.out.rd.blk⟩ | 1=>HST.out.row | 2=>HST.out.b3 | _+3=>HST.out.b2) ?_ (fun jq ww ww' u hk h hR=>match u,hk,h with | 0,hk,h=>(by by_cases h5:jq=5;exact ⟨(hR.2.2.1 h5).keep h.blk (by decide)⟩;by_cases h7:jq=7;exact ⟨(hR.2.2.2 h7).1.keep h.blk (by omega)⟩;exact ⟨below_keep (hR.1 (by simpa using hk) h5 h7) h.blk⟩) | 1,hk,h=>(by by_cases h3:jq=3;exact (hR.2.1 h3).1.owns h hlw;by_cases h7:jq=7;obtain ⟨cs9,a4⟩:=(hR.2.2.2 h7).2;exact (hR.2.2.2 h7).1.owns2 h a4 (by decide);exact owns_below h (hR.1 h3 (by simpa using hk) h7)) | 2,hk,h=>(by by_cases h3:jq=3;exact (hR.2.1 h3).1.keep h (by omega);by_cases h5:jq=5;exact (hR.2.2.1 h5).keep h (by decide);exact below_keep (hR.1 h3 h5 (by simpa using hk)) h) | _+3,hk,h=>(by by_cases h3:jq=3;exact (hR.2.1 h3).1.keep h (by omega);by_cases h5:jq=5;exact (hR.2.2.1 h5).keep h (by decide);by_cases h7:jq=7;exact (hR.2.2.2 h7).1.keep h (by omega);exact below_keep (hR.1 h3 h5 h7) h)) ?_ ?_
   ·intro q r v w w' hne hk hlt h hR
    match r,hk,hlt,h,hne with
    | 0,_,_,h,_=>exact h
    | 1,_,_,h,_=>exact h
    | 2,_,_,h,_=>exact h
    | 3,hk,hlt,h,hne=>
     by_cases h3:q=3
     ·exact absurd h3 (by intro e;subst e;first | exact absurd hlt (by decide+kernel) | exact absurd rfl hne | simp at hk)
     by_cases h5:q=5
     ·exact⟨h.1,⟨(hR.2.2.1 h5).keep h.2.blk (by decide)⟩⟩
     by_cases h7:q=7
     ·exact⟨h.1,⟨(hR.2.2.2 h7).1.keep h.2.blk (by omega)⟩⟩
     have hb:=hR.1 h3 h5 h7
     exact⟨h.1,⟨below_keep hb h.2.blk⟩⟩
    | 4,hk,hlt,h,hne=>
     by_cases h3:q=3
     ·let ⟨g,a1,a2,a3⟩:=h;exact ⟨g,a1,(hR.2.1 h3).1.keep a2 (by intro e;subst e;have a4:=(hR.2.1 h3).2.blk;rw [a2] at a4;simp at a4),a3⟩
     by_cases h5:q=5
     ·exact absurd h5 (by intro e;subst e;first | exact absurd hlt (by decide+kernel) | exact absurd rfl hne | simp at hk)
     by_cases h7:q=7
     ·let ⟨g,a1,a2,a3⟩:=h;exact ⟨g,a1,(hR.2.2.2 h7).1.keep a2 (by intro e;subst e;obtain ⟨cs9,a4⟩:=(hR.2.2.2 h7).2;rw [a2] at a4;simp at a4),a3⟩
     have hb:=hR.1 h3 h5 h7
     let ⟨g,a1,a2,a3⟩:=h;exact ⟨g,a1,below_keep hb a2,a3⟩
    | 5,hk,hlt,h,hne=>
     by_cases h3:q=3
     ·let ⟨a,cc,a1,a2⟩:=h;exact ⟨a,cc,a1,(hR.2.1 h3).1.owns a2 hlw⟩
     by_cases h5:q=5
     ·exact absurd h5 (by intro e;subst e;first | exact absurd hlt (by decide+kernel) | exact absurd rfl hne | simp at hk)
     by_cases h7:q=7
     ·let ⟨a,cc,a1,a2⟩:=h;obtain ⟨cs9,a4⟩:=(hR.2.2.2 h7).2;exact ⟨a,cc,a1,(hR.2.2.2 h7).1.owns2 a2 a4 (by decide)⟩
     have hb:=hR.1 h3 h5 h7
     let ⟨a,cc,a1,a2⟩:=h;exact ⟨a,cc,a1,owns_below a2 hb⟩
    | 6,_,_,h,_=>exact h
    | 7,hk,hlt,h,hne=>
     by_cases h3:q=3
     ·let ⟨a,cc,a1,a2,a3⟩:=h;exact ⟨a,cc,(hR.2.1 h3).1.keep a1 (by omega),(hR.2.1 h3).1.owns a2 hlw,(hR.2.1 h3).1.keep a3 (by omega)⟩
     by_cases h5:q=5
     ·exact absurd h5 (by intro e;subst e;first | exact absurd hlt (by decide+kernel) | exact absurd rfl hne | simp at hk)
     by_cases h7:q=7
     ·exact absurd h7 (by intro e;subst e;first | exact absurd hlt (by decide+kernel) | exact absurd rfl hne | simp at hk)
     have hb:=hR.1 h3 h5 h7
     let ⟨a,cc,a1,a2,a3⟩:=h;exact ⟨a,cc,below_keep hb a1,owns_below a2 hb,below_keep hb a3⟩
    | _+8,_,_,_,_=>trivial
   ·refine⟨?_, ?_, ?_, ?_, ?_, ?_, ?_, ?_,trivial⟩
    ·intro x wx hG
     have f3:=hG.o 3
     replace hG:=hG.good
     go_wp2
     exact⟨_,rfl,rfl,hG,⟨fun _ _ _=>Below.refl _ _,fun h=>zd h,fun h=>zd h,fun h=>zd h⟩⟩
    ·intro x wx hG
     have g0:(x.tmps.getD 12 undef)= .pointer (some ⟨B3,0,none⟩):=hG.c 0 _ rfl
     have hp2:=hG.p 2
     replace hG:=hG.good
     have c0:=cell_of_block (j:=0) hp2 rfl
     clear hp2
     go_wp2
     exact⟨_,rfl,rfl,hG,⟨fun _ _ _=>Below.refl _ _,fun h=>zd h,fun h=>zd h,fun h=>zd h⟩⟩
    ·intro x wx hG
     have f0:=hG.o 0
     replace hG:=hG.good
     go_wp2
     exact⟨_,rfl,rfl,hG,⟨fun _ _ _=>Below.refl _ _,fun h=>zd h,fun h=>zd h,fun h=>zd h⟩⟩
    ·intro x wx hG
     have g2:(x.tmps.getD 14 undef)= .pointer (some ⟨BR,0,none⟩):=hG.c 2 _ rfl
     have hp0:=hG.p 0
     replace hG:=hG.good
     have HP:=jD hp0
     go_wp2_with fail
     (with_reducible refine(HC.out _ HP.out).mono ?_)
     rintro e wq ⟨rfl,h1,h2⟩
     have H1:=jD h1
     have H2:=jD h2
     clear h1 h2
     go_wp2
     exact⟨_,rfl,⟨rfl,H1.out⟩,hG.trans H2.out,⟨fun h=>absurd rfl h,fun _=>⟨H2.out,HP.out⟩,fun h=>zd h,fun h=>zd h⟩⟩
    ·intro x wx hG
     have g3:((x.tmps.getD 15 undef)= .int .i64 nv)∧RdSt BR (numR sk) (numB sk bk 1000) wx:=hG.c 3 _ rfl
     have hp1:=hG.p 1
     replace hG:=hG.good
     obtain⟨g3, -⟩:=g3
     have g3b:=gd g3
     have HP:=jD hp1
     go_wp2
     exact⟨_,rfl,⟨_,rfl,alloc_new _ _ _ _ rfl,fun e=>by have:=(HP.out.lt _ e).2;omega⟩,hG.trans (RKeep.of_below (bal _)),⟨fun _ _ _=>bal _,fun h=>zd h,fun h=>zd h,fun h=>zd h⟩⟩
    ·intro x wx hG
     have g1:(x.tmps.getD 13 undef)= .slice va k vc:=hG.c 1 _ rfl
     have g4: ∃g,(x.tmps.getD 16 undef)= .slice (some ⟨g,0,none⟩) 1 1∧wx.heap[g]? =some (Obj.cells #[.int .i64 nv] 3 (0,0))∧((.slice va k vc):Value).ownBlock≠some g:=hG.c 4 _ rfl
     have hp1:=hG.p 1
     replace hG:=hG.good
     obtain⟨g9,hg1,hg2, -⟩:=g4
     have hz:=g1
     have hzb:=hz
     rw[Array.getD_eq_getD_getElem?] at hzb
     have hg1b:=hg1
     rw[Array.getD_eq_getD_getElem?] at hg1b
     have H9:=jD hp1
     have HCL:=jD (show CellsAt wx (.slice (some ⟨g9,0,none⟩) 1 1) 1 [.int .i64 nv] from CellsAt.mk (Nat.le_refl _) (by decide) (hlt_of hg2) fun j x hj=>by rw[Nat.zero_add];exact cell_of_block hg2 (by simpa using hj))
     have hbs:=hG.size
     have HG:=jD hG
     clear hg2 hp1
     go_wp2_with (at_builtin;apply Classical.byContradiction;intro hcon)
     refine hcon ?_
     (refine wpList_append_cells2 rfl (.tmp 13) (.tmp 16) 35 rfl w.heap.size 3 (.int .i64 0) 1 8 Tryz.underlying35 IntEl.info rfl (by decide) (.slice va k vc) k _ hz H9.out (.slice (some ⟨g9,0,none⟩) 1 1) 1 _ hg1 HCL.out rfl (by intro u hu;simp only[List.mem_singleton] at hu;subst hu;rfl) hbs (by unfold maxLen;omega) (by omega) ?_)
     intro v' wq ho hgr
     obtain⟨qa,qc,hq⟩:=owns_slice ho
     subst hq
     have HO:=jD ho
     have HGR:=jD hgr
     clear ho hgr
     go_wp2
     exact⟨_,rfl,⟨_,_,rfl,by rw[intsC_append];exact HO.out⟩,HG.out.row H9.out HGR.out (Nat.le_refl _),⟨fun _ h=>absurd rfl h,fun h=>zd h,fun _=>⟨_,_,H9.out,HGR.out⟩,fun h=>zd h⟩⟩
    ·intro x wx hG
     have f3:=hG.o 3
     replace hG:=hG.good
     go_wp2
     exact⟨_,rfl,rfl,hG,⟨fun _ _ _=>Below.refl _ _,fun h=>zd h,fun h=>zd h,fun h=>zd h⟩⟩
    ·intro x wx hG
     have g6:(x.tmps.getD 18 undef)= .pointer (some ⟨B3,0,none⟩):=hG.c 6 _ rfl
     have g5: ∃a cc,(x.tmps.getD 17 undef)= .slice a (k+1) cc∧wx.ownsRow w.heap.size 3 1 (.slice a (k+1) cc) (k+1) (intsC (lk++[nv])):=hG.c 5 _ rfl
     have hp2:=hG.p 2
     have hp3:=hG.p 3
     replace hG:=hG.good
     obtain⟨za,zc,hz,h9⟩:=g5
     have H9:=jD h9
     clear h9
     have hzb:=hz
     rw[Array.getD_eq_getD_getElem?] at hzb
     have hc:=cell_of_block (j:=0) hp2 rfl
     have hfz:=free_of_block (j:=0) hp2
     have hbl:=hlt_of hp2
     have HP:=jD hp2
     have HP3:=jD hp3
     clear hp2 hp3
     go_wp2
     exact⟨undef,rfl,⟨za,zc,by rw[heap_set_same HP.out];rfl,(RKeep.set _ _ _ _).owns2 H9.out HP.out (by decide),(RKeep.set _ _ _ _).keep HP3.out hq2⟩,hG.setHi (by omega),⟨fun _ _ h=>absurd rfl h,fun h=>zd h,fun h=>zd h,fun _=>⟨RKeep.set _ _ _ _,_,HP.out⟩⟩⟩
   ·intro vals w3 hg hF
    obtain⟨g0,g1,g2,g3,g4,g5,g6,g7, -⟩:=hF
    have e0:=gq (vals 0) g0
    have e1:=gq (vals 1) g1
    have e2:=gq (vals 2) g2
    replace g3:((vals 3)= .int .i64 nv)∧RdSt BR (numR sk) (numB sk bk 1000) w3:=g3 rfl
    have e6:=gq (vals 6) g6
    replace g7: ∃a cc,w3.heap[B3]? =some (Obj.cells #[.slice a (k+1) cc, .slice none 0 0] 73 (0,0))∧w3.ownsRow w.heap.size 3 1 (.slice a (k+1) cc) (k+1) (intsC (lk++[nv]))∧w3.heap[B2]? =some (Obj.cells #[.slice none 0 0, .slice none 0 0] 73 (0,0)):=g7 rfl
    simp only[Cl3.puts,e0,e1,e2,e6]
    clear e0 e1 e2 e6 g0 g1 g2 g4 g5 g6
    go_simp
    generalize vals 3=u3 at*
    obtain⟨-,hrd⟩:=g3
    obtain⟨qa,qc,hk3,hrow,hk2⟩:=g7
    have HKR:=jD (show KReg BR B2 B3 w (numsR 1000 s1 bad1 (k+1)).2.1 (numsR 1000 s1 bad1 (k+1)).2.2 (.slice qa (k+1) qc) (.slice none 0 0) (k+1) (intsC (numsR 1000 s1 bad1 (k+1)).1) w3 from by
     rw[HNX.out];exact ⟨hrd,hrow,hk3,hk2,hg⟩)
    clear hrd hk3 hrow hk2 hg HC HST HNX
    go_wp2
    go_roundw
    case rel=>exact ⟨m,k+1,by omega,by go_num,_,HKR.out⟩
    case measure=>simp [intOf] <;> omega
theorem FOwn.rk {B base:Nat} {s:ByteArray} {b:Bool} {w w':World} {f:Value} {l:Bxs} (h:FOwn w base f l) (hk:RKeep B w w') (hr:RdSt B s b w):FOwn w' base f l:=
 h.tk (TKeep.of_rk (T:=fun t=>t != 214) hk hr (by decide)) (by decide) (by decide)
def Naught (_w:World):Prop:=True
theorem SpTy.info:(Tryz.prog.info? 119).map (fun i=>(i.zero,i.size,i.bytes))=some (some (.agg #[.int .i64 0, .int .i64 0]),2,16):=by kernel_rfl
theorem rfil_c (BR:Nat) (s:ByteArray) (bad:Bool) (w:World) (h:RdSt BR s bad w) (hs:s.size≤1000000):
  Calls Tryz.prog 143 #[.pointer (some ⟨BR,0,none⟩)] w fun e w'=> ∃u,e= .returned u∧FOwn w' w.heap.size u (filRd s bad).1∧RdSt BR (filRd s bad).2.1 (filRd s bad).2.2 w'∧RKeep BR w w':=by
 have HR:=jD (hlt_of h.blk)
 have HC:=jD (rnum_c BR s bad 40 w h hs)
 have hv:=numV_bd s (most:=40) (by decide)
 obtain⟨n,hn⟩: ∃n:Nat,numV s 40=(n:Int):=⟨(numV s 40).toNat,by omega⟩
 have HF:=jD (show filRd s bad=manyR bx1 (numR s) (numB s bad 40) n by unfold filRd;rw [hn];simp)
 have hrs:=numR_size s
 rw[hn] at hv HC
 clear h hn
 go_enter Tryz.func143,Tryz.ntmps143
 go_wp2_with fail
 (with_reducible refine(HC.out).mono ?_)
 rintro e w2 ⟨rfl,hr2,hk2⟩
 have HRD:=jD hr2
 have HRK:=jD hk2
 clear HC hr2 hk2
 generalize numR s=s1 at*
 generalize numB s bad 40=bad1 at*
 go_wp2
 go_loopw [3,4] (fun f i wr=> ∃m k:Nat,m+k=n∧i= .int .i64 (m:Nat)∧FOwn wr w.heap.size f (manyR bx1 s1 bad1 k).1∧RdSt BR (manyR bx1 s1 bad1 k).2.1 (manyR bx1 s1 bad1 k).2.2 wr∧RKeep BR w wr) (fun _ i _=>(intOf i).toNat)
 case atStart=>exact ⟨n,0,by omega,rfl,BxsOwn.nil _ _ _ _,HRD.out,HRK.out⟩
 case round=>
  clear HRD HRK
  obtain⟨m,k,hmk,rfl,hf,hrd,hrk⟩:=hrel
  have hms:=manyR_size bx1_rd s1 bad1 k
  have hml:=manyR_len bx1 s1 bad1 k
  cases m with
  | zero=>
   obtain rfl:k=n:=by omega
   obtain⟨fa,fc,hfv⟩:=BxsOwn.shape hf
   subst hfv
   have HO:=jD hf
   have HRD:=jD hrd
   have HRK:=jD hrk
   clear hf hrd hrk
   go_wp2
   refine bodyPost_ret (v:= .slice fa (manyR bx1 s1 bad1 k).1.length fc) (by simp[results,Tryz.results143,go_sem, *]) rfl ?_
   rw[HF.out]
   exact⟨_,rfl,HO.out,HRD.out,HRK.out⟩
  | succ m=>
   have hmb:decide ((0:Int) < ((m+1:Nat):Int))=true:=by simp
   have HNX:=jD (show manyR bx1 s1 bad1 (k+1)=((manyR bx1 s1 bad1 k).1++[(bx1 (manyR bx1 s1 bad1 k).2.1 (manyR bx1 s1 bad1 k).2.2).1],(bx1 (manyR bx1 s1 bad1 k).2.1 (manyR bx1 s1 bad1 k).2.2).2) from rfl)
   generalize (manyR bx1 s1 bad1 k).2.1=sk at*
   generalize (manyR bx1 s1 bad1 k).2.2=bk at*
   generalize (manyR bx1 s1 bad1 k).1=lf at*
   subst hml
   obtain⟨fa,fc,hfv⟩:=BxsOwn.shape hf
   subst hfv
   have hlf:lf.length≤40:=by omega
   have h1s:=numR_size sk
   have h2s:=numR_size (numR sk)
   have h3s:=numR_size (numR (numR sk))
   have HWO:=jD hrk.size
   obtain⟨wo,hwo⟩: ∃wo,wo=wr:=⟨_,rfl⟩
   rw[←hwo] at hf hrd hrk HWO ⊢
   have HO:=jD hf
   have HRK:=jD hrk
   have HRD:=jD hrd
   have HC1:=jD (rnum_c BR sk bk 15 wo hrd (by omega))
   have HC2:=jD (fun wa h=>rnum_c BR (numR sk) (numB sk bk 15) 15 wa h (by omega))
   have HC3:=jD (fun wa h=>rnum_c BR (numR (numR sk)) (numB (numR sk) (numB sk bk 15) 15) 16 wa h (by omega))
   have hv3:=numV_bd (numR (numR sk)) (most:=16) (by decide)
   obtain⟨n3,hn3⟩: ∃n3:Nat,numV (numR (numR sk)) 16=(n3:Int):=⟨(numV (numR (numR sk)) 16).toNat,by omega⟩
   have HBX:=jD (show bx1 sk bk=(⟨numV sk 15,numV (numR sk) 15,(pairsR 32 32 (numR (numR (numR sk))) (numB (numR (numR sk)) (numB (numR sk) (numB sk bk 15) 15) 16) n3).1⟩,(pairsR 32 32 (numR (numR (numR sk))) (numB (numR (numR sk)) (numB (numR sk) (numB sk bk 15) 15) 16) n3).2) by unfold bx1 bxRd spRd;rw [hn3];simp)
   rw[hn3] at HC3 hv3
   clear hf hrd hrk hwo hn3
   go_wp2_with fail
   (with_reducible refine(HC1.out).mono ?_)
   rintro e wa ⟨rfl,hra,hka⟩
   have HRA:=jD hra
   have HKA:=jD hka
   clear hra hka HC1
   go_wp2_with fail
   (with_reducible refine(HC2.out _ HRA.out).mono ?_)
   rintro e wb ⟨rfl,hrb,hkb⟩
   have HRB:=jD hrb
   have HKB:=jD (HKA.out.trans hkb)
   clear hrb hkb HC2 HRA HKA
   generalize numV sk 15=ny at*
   generalize numV (numR sk) 15=nn at*
   go_wp2_with fail
   (with_reducible refine(HC3.out (wb.alloc (.cells #[.int .i64 ny, .int .i64 nn, .slice none 0 0] 124)) ⟨below_keep (bal _) HRB.out.blk⟩).mono ?_)
   rintro e wd ⟨rfl,hrd,hkd⟩
   have hwb:=HKB.out.size
   have hBR:=HR.out
   have hww:=HWO.out
   have HRW:=jD hrd
   have HKW:=jD ((HKB.out.trans (RKeep.of_below (bal _))).trans hkd)
   have HBK:=jD (hkd.keep (alloc_new wb #[.int .i64 ny, .int .i64 nn, .slice none 0 0] 124 _ rfl) (by omega))
   obtain⟨BK,hBK⟩: ∃BK,BK=wb.heap.size:=⟨_,rfl⟩
   rw[←hBK] at HBK hwb ⊢
   generalize numB (numR (numR sk)) (numB (numR sk) (numB sk bk 15) 15) 16=bk3 at*
   generalize numR (numR (numR sk))=sk3 at*
   clear hrd hkd HC3 HRB HKB hBK
   go_wp2
   go_loopw [6] (fun i wr=> ∃m2 j:Nat,m2+j=n3∧i= .int .i64 (m2:Nat)∧ ∃SS,PrOwn 119 wr wo.heap.size SS (pairsR 32 32 sk3 bk3 j).1∧wr.heap[BK]? =some (Obj.cells #[.int .i64 ny, .int .i64 nn,SS] 124 (0,0))∧RdSt BR (pairsR 32 32 sk3 bk3 j).2.1 (pairsR 32 32 sk3 bk3 j).2.2 wr∧RKeep BR wo wr) (fun i _=>(intOf i).toNat)
   case atStart=>exact ⟨n3,0,by omega,rfl,_,World.ownsRow_nil _ _ _ _,HBK.out,HRW.out,HKW.out⟩
   case round=>
    clear HBK HRW HKW
    obtain⟨m2,j,hmj,rfl,SS,hso,hbk,hrd,hrk⟩:=hrel
    have hps:=pairsR_size 32 32 sk3 bk3 j
    have hpl:=pairsR_len 32 32 sk3 bk3 j
    cases m2 with
    | zero=>
     obtain rfl:j=n3:=by omega
     generalize (pairsR 32 32 sk3 bk3 j).2=z3 at*
     generalize (pairsR 32 32 sk3 bk3 j).1=ls at*
     subst hpl
     obtain⟨sa,sc,hsv⟩:=owns_slice hso
     subst hsv
     have c0:=cell_of_block (j:=0) hbk rfl
     have c1:=cell_of_block (j:=1) hbk rfl
     have c2:=cell_of_block (j:=2) hbk rfl
     have hbl:=hlt_of hbk
     have HF2:=jD ((FOwn.rk HO.out hrk HRD.out).below (bal (.cells #[.int .i64 ny, .int .i64 nn, .slice sa ls.length sc] 124)))
     have HS2:=jD ((owns_mono hso HWO.out).alloc (.cells #[.int .i64 ny, .int .i64 nn, .slice sa ls.length sc] 124))
     have HRD2:=jD (below_keep (bal (.cells #[.int .i64 ny, .int .i64 nn, .slice sa ls.length sc] 124)) hrd.blk)
     have HRK2:=jD ((HRK.out.trans hrk).trans (RKeep.of_below (bal (.cells #[.int .i64 ny, .int .i64 nn, .slice sa ls.length sc] 124))))
     have ROW:=jD (CellsAt.mk (w:=wr.alloc (.cells #[.int .i64 ny, .int .i64 nn, .slice sa ls.length sc] 124)) (b:=wr.heap.size) (off:=0) (n:=1) (cap:=1) (xs:=[.int .i64 ny, .int .i64 nn, .slice sa ls.length sc]) (Nat.le_refl _) (by decide) (by simp) (fun j x hj=>by
      rw[Nat.zero_add,World.cell?_alloc_at _ _ _ _ rfl];simpa using hj))
     obtain⟨us,o1,o2,o3⟩:=HF2.out
     have O1:=jD o1
     have O2:=jD o2
     have O3:=jD o3
     have hsz:=HRK2.out.size
     clear o1 o2 o3 hso hbk hrd hrk HF2
     go_wp2_with (at_builtin;refine wpList_append_cells2 rfl (.tmp 35) (.tmp 37) 33 rfl w.heap.size 124 _ 3 40 Tryz.underlying33 BoxTy.info rfl (by decide) _ lf.length _ rfl O2.out _ 1 _ rfl ROW.out rfl (by intro z hz;simp at hz;rcases hz with rfl | rfl | rfl <;> rfl) hsz (by unfold maxLen;omega) (by omega) ?_)
     intro v9 w9 ho hgr
     have HN:=jD (BxsOwn.push (b:=⟨ny,nn,ls⟩) (by decide) O1.out O2.out O3.out HS2.out ho hgr)
     have HRD3:=jD (grown_keep O2.out hgr HRD2.out (by decide))
     have HRK3:=jD (HRK2.out.row O2.out hgr (Nat.le_refl _))
     obtain⟨qa,qc,hq⟩:=owns_slice ho
     subst hq
     clear ho hgr
     go_wp2
     go_roundw
     case rel=>
      refine⟨m,lf.length+1,by omega,by go_num, ?_, ?_,HRK3.out⟩
      ·rw[HNX.out,HBX.out];exact HN.out
      ·rw[HNX.out,HBX.out];exact ⟨HRD3.out⟩
     case measure=>simp [intOf] <;> omega
    | succ m2=>
     have HNY:=jD (show pairsR 32 32 sk3 bk3 (j+1)=((pairsR 32 32 sk3 bk3 j).1++[(numV (pairsR 32 32 sk3 bk3 j).2.1 32,numV (numR (pairsR 32 32 sk3 bk3 j).2.1) 32)],numR (numR (pairsR 32 32 sk3 bk3 j).2.1),numB (numR (pairsR 32 32 sk3 bk3 j).2.1) (numB (pairsR 32 32 sk3 bk3 j).2.1 (pairsR 32 32 sk3 bk3 j).2.2 32) 32) from rfl)
     generalize (pairsR 32 32 sk3 bk3 j).2.1=sj at*
     generalize (pairsR 32 32 sk3 bk3 j).2.2=bj at*
     generalize (pairsR 32 32 sk3 bk3 j).1=ls at*
     subst hpl
     obtain⟨sa,sc,hsv⟩:=owns_slice hso
     subst hsv
     have hn5:=numR_size sj
     have HRA:=jD (num_rd sj bj 32)
     have HRB:=jD (num_rd (numR sj) (numB sj bj 32) 32)
     have HC1:=jD (fun w2 (h2:RdSt BR sj bj w2)=>rnum_c BR sj bj 32 w2 h2 (by omega))
     have HC2:=jD (fun w2 (h2:RdSt BR (numR sj) (numB sj bj 32) w2)=>rnum_c BR (numR sj) (numB sj bj 32) 32 w2 h2 (by omega))
     have HR0:=jD hrd
     have HOW:=jD hso
     have HKB:=jD hbk
     have HEX:=jD (show Naught wr from trivial)
     have HGK:=jD hrk
     have hmb2:decide ((0:Int) < ((m2+1:Nat):Int))=true:=by simp
     have hjb:ls.length≤16:=by omega
     have hqk:wo.heap.size≤BK:=hwb
     clear hso hbk hrd hrk hn5
     generalize numR (numR sj)=sj2 at*
     generalize numB (numR sj) (numB sj bj 32) 32=bj2 at*
     generalize numV (numR sj) 32=n9 at*
     generalize numR sj=sj1 at*
     generalize numB sj bj 32=bj1 at*
     generalize numV sj 32=n1 at*
     go_wp2_with fail
     refine Cl3.region0 40 rfl (fun u=>match u with | 0=>[3,5] | 1=>[8] | 2=>[10] | 3=>[5] | _=>[]) (fun u ww=>match u with | 0=>RdSt BR sj bj ww | 1=>PrOwn 119 ww wo.heap.size (.slice sa ls.length sc) ls | 2=>ww.heap[BK]? =some (Obj.cells #[.int .i64 ny, .int .i64 nn, .slice sa ls.length sc] 124 (0,0)) | 3=>RdSt BR sj bj ww∨RdSt BR sj1 bj1 ww | _=>Naught ww) (fun jq=>match jq with | 7=>[8] | _=>[]) (fun jq v ww=>match jq with | 0=>v= .pointer (some ⟨BK,2,none⟩) | 1=>v= .slice sa ls.length sc | 2=>v= .pointer (some ⟨BR,0,none⟩) | 3=>(v= .int .i64 n1)∧(RdSt BR sj1 bj1 ww∨RdSt BR sj2 bj2 ww) | 4=>v= .pointer (some ⟨BR,0,none⟩) | 5=>(v= .int .i64 n9)∧RdSt BR sj2 bj2 ww | 6=>v= .agg #[.int .i64 n1, .int .i64 n9] | 7=> ∃g7,v= .slice (some ⟨g7,0,none⟩) 1 1∧ww.heap[g7]? =some (Obj.cells #[.int .i64 n1, .int .i64 n9] 119 (0,0)) | 8=> ∃a cc,v= .slice a (ls.length+1) cc∧PrOwn 119 ww wo.heap.size (.slice a (ls.length+1) cc) (ls++[(n1,n9)]) | 9=>v= .pointer (some ⟨BK,2,none⟩) | 10=> ∃a cc,ww.heap[BK]? =some (Obj.cells #[.int .i64 ny, .int .i64 nn, .slice a (ls.length+1) cc] 124 (0,0))∧PrOwn 119 ww wo.heap.size (.slice a (ls.length+1) cc) (ls++[(n1,n9)])∧Naught ww | _=>True) (fun ww=>RKeep BR wo ww) (fun jq ww ww'=>TKeep (tj 119 124 jq) ww ww'∧(jq=3→RdSt BR sj1 bj1 ww')∧(jq=5→RdSt BR sj1 bj1 ww∧RdSt BR sj2 bj2 ww')∧(jq=10→RKeep BK ww ww')) Tryz.mixed (by decide+kernel) HGK.out.drew (fun u=>match u with | 0=>⟨HR0.out.blk⟩ | 1=>HOW.out | 2=>HKB.out | 3=> .inl ⟨HR0.out.blk⟩ | _+4=>HEX.out) ?_ (fun jq ww ww' u hk h hR=>match u,hk,h with | 0,hk,h=>(h.tk hR.1 (tj_rd rfl rfl (by intro e;simp [e] at hk) (by intro e;simp [e] at hk))) | 1,hk,h=>(h.tk hR.1 (tj_row rfl rfl (by simpa using hk))) | 2,hk,h=>(hR.1.blk _ _ _ h (tj_own rfl rfl (by simpa using hk))) | 3,hk,h=>(by by_cases h3:jq=3;exact .inr (hR.2.1 h3);exact h.imp (fun h=>h.tk hR.1 (tj_rd rfl rfl h3 (by simpa using hk))) (fun h=>h.tk hR.1 (tj_rd rfl rfl h3 (by simpa using hk)))) | _+4,hk,h=>(h)) ?_ ?_
     ·intro q r v w w' hne hk hlt h hR
      match r,hk,hlt,h,hne with
      | 0,_,_,h,_=>exact h
      | 1,_,_,h,_=>exact h
      | 2,_,_,h,_=>exact h
      | 3,hk,hlt,h,hne=>
       by_cases h5:q=5
       ·exact⟨h.1, .inr (hR.2.2.1 h5).2⟩
       by_cases h3:q=3
       ·exact absurd h3 (by intro e;subst e;first | exact absurd hlt (by decide+kernel) | exact absurd rfl hne | simp at hk)
       exact⟨h.1,h.2.imp (fun h=>h.tk hR.1 (tj_rd rfl rfl h3 h5)) (fun h=>h.tk hR.1 (tj_rd rfl rfl h3 h5))⟩
      | 4,_,_,h,_=>exact h
      | 5,hk,hlt,h,hne=>
       by_cases h3:q=3
       ·exact absurd h3 (by intro e;subst e;first | exact absurd hlt (by decide+kernel) | exact absurd rfl hne | simp at hk)
       by_cases h5:q=5
       ·exact absurd h5 (by intro e;subst e;first | exact absurd hlt (by decide+kernel) | exact absurd rfl hne | simp at hk)
       exact⟨h.1,h.2.tk hR.1 (tj_rd rfl rfl h3 h5)⟩
      | 6,_,_,h,_=>exact h
      | 7,hk,hlt,h,hne=>
       by_cases h8:q=8
       ·exact absurd h8 (by intro e;subst e;first | exact absurd hlt (by decide+kernel) | exact absurd rfl hne | simp at hk)
       obtain⟨g7,e1,e2⟩:=h
       exact⟨_,e1,hR.1.blk _ _ _ e2 (tj_row rfl rfl h8)⟩
      | 8,hk,hlt,h,hne=>
       by_cases h8:q=8
       ·exact absurd h8 (by intro e;subst e;first | exact absurd hlt (by decide+kernel) | exact absurd rfl hne | simp at hk)
       obtain⟨a,cc,e1,k1⟩:=h
       exact⟨a,cc,e1,k1.tk hR.1 (tj_row rfl rfl h8)⟩
      | 9,_,_,h,_=>exact h
      | 10,hk,hlt,h,hne=>
       by_cases h8:q=8
       ·exact absurd h8 (by intro e;subst e;first | exact absurd hlt (by decide+kernel) | exact absurd rfl hne | simp at hk)
       by_cases h10:q=10
       ·exact absurd h10 (by intro e;subst e;first | exact absurd hlt (by decide+kernel) | exact absurd rfl hne | simp at hk)
       obtain⟨a,cc,e1,k1,k2⟩:=h
       exact⟨a,cc,hR.1.blk _ _ _ e1 (tj_own rfl rfl h10),k1.tk hR.1 (tj_row rfl rfl h8),k2⟩
      | _+11,_,_,_,_=>trivial
     ·refine⟨?_, ?_, ?_, ?_, ?_, ?_, ?_, ?_, ?_, ?_, ?_,trivial⟩
      ·intro x wx hG
       have f5:=hG.o 5
       replace hG:=hG.good
       go_wp2
       exact⟨_,rfl,rfl,hG,⟨TKeep.refl _ _,fun h=>zd h,fun h=>zd h,fun h=>zd h⟩⟩
      ·intro x wx hG
       have g0:(x.tmps.getD 25 undef)= .pointer (some ⟨BK,2,none⟩):=hG.c 0 _ rfl
       have hp2:=hG.p 2
       replace hG:=hG.good
       have c0:=cell_of_block (j:=2) hp2 rfl
       clear hp2
       go_wp2
       exact⟨_,rfl,rfl,hG,⟨TKeep.refl _ _,fun h=>zd h,fun h=>zd h,fun h=>zd h⟩⟩
      ·intro x wx hG
       have f0:=hG.o 0
       replace hG:=hG.good
       go_wp2
       exact⟨_,rfl,rfl,hG,⟨TKeep.refl _ _,fun h=>zd h,fun h=>zd h,fun h=>zd h⟩⟩
      ·intro x wx hG
       have g2:(x.tmps.getD 27 undef)= .pointer (some ⟨BR,0,none⟩):=hG.c 2 _ rfl
       have hp0:=hG.p 0
       replace hG:=hG.good
       have HP:=jD hp0
       go_wp2_with fail
       (with_reducible refine(HC1.out _ HP.out).mono ?_)
       rintro e wq ⟨rfl,h1,h2⟩
       have H1:=jD h1
       have H2:=jD h2
       clear h1 h2
       go_wp2
       exact⟨_,rfl,⟨rfl, .inl H1.out⟩,hG.trans H2.out,⟨TKeep.of_rk H2.out HP.out (by decide),fun _=>H1.out,fun h=>zd h,fun h=>zd h⟩⟩
      ·intro x wx hG
       have f0:=hG.o 0
       replace hG:=hG.good
       go_wp2
       exact⟨_,rfl,rfl,hG,⟨TKeep.refl _ _,fun h=>zd h,fun h=>zd h,fun h=>zd h⟩⟩
      ·intro x wx hG
       have g4:(x.tmps.getD 29 undef)= .pointer (some ⟨BR,0,none⟩):=hG.c 4 _ rfl
       have g3:((x.tmps.getD 28 undef)= .int .i64 n1)∧(RdSt BR sj1 bj1 wx∨RdSt BR sj2 bj2 wx):=hG.c 3 _ rfl
       have hp3:=hG.p 3
       replace hG:=hG.good
       have HP:=jD (Rd.mid HRA.out HRB.out g3.2 hp3)
       go_wp2_with fail
       (with_reducible refine(HC2.out _ HP.out).mono ?_)
       rintro e wq ⟨rfl,h1,h2⟩
       have H1:=jD h1
       have H2:=jD h2
       clear h1 h2
       go_wp2
       exact⟨_,rfl,⟨rfl,H1.out⟩,hG.trans H2.out,⟨TKeep.of_rk H2.out HP.out (by decide),fun h=>zd h,fun _=>⟨HP.out,H1.out⟩,fun h=>zd h⟩⟩
      ·intro x wx hG
       have g3:((x.tmps.getD 28 undef)= .int .i64 n1)∧(RdSt BR sj1 bj1 wx∨RdSt BR sj2 bj2 wx):=hG.c 3 _ rfl
       have g5:((x.tmps.getD 30 undef)= .int .i64 n9)∧RdSt BR sj2 bj2 wx:=hG.c 5 _ rfl
       replace hG:=hG.good
       obtain⟨g3, -⟩:=g3
       have g3b:=gd g3
       obtain⟨g5, -⟩:=g5
       have g5b:=gd g5
       go_wp2
       exact⟨_,rfl,rfl,hG,⟨TKeep.refl _ _,fun h=>zd h,fun h=>zd h,fun h=>zd h⟩⟩
      ·intro x wx hG
       have g6:(x.tmps.getD 31 undef)= .agg #[.int .i64 n1, .int .i64 n9]:=hG.c 6 _ rfl
       have g6b:=gd g6
       replace hG:=hG.good
       have g6b:=gd g6
       go_wp2
       exact⟨_,rfl,⟨_,rfl,alloc_new _ _ _ _ rfl⟩,hG.trans (RKeep.of_below (bal _)),⟨TKeep.of_below (bal _),fun h=>zd h,fun h=>zd h,fun h=>zd h⟩⟩
      ·intro x wx hG
       have g1:(x.tmps.getD 26 undef)= .slice sa ls.length sc:=hG.c 1 _ rfl
       have g7: ∃g7,(x.tmps.getD 32 undef)= .slice (some ⟨g7,0,none⟩) 1 1∧wx.heap[g7]? =some (Obj.cells #[.int .i64 n1, .int .i64 n9] 119 (0,0)):=hG.c 7 _ rfl
       have hp1:=hG.p 1
       replace hG:=hG.good
       obtain⟨g9,hg1,hg2⟩:=g7
       have hz:=g1
       have hzb:=hz
       rw[Array.getD_eq_getD_getElem?] at hzb
       have hg1b:=hg1
       rw[Array.getD_eq_getD_getElem?] at hg1b
       have H9:=jD hp1
       have HON:=jD (show ∀u∈([.int .i64 n1, .int .i64 n9]:List Value),u.oneCell'=true by intro u hu;simp only[List.mem_cons,List.not_mem_nil,or_false] at hu;rcases hu with rfl | rfl <;> rfl)
       have HCL:=jD (show CellsAt wx (.slice (some ⟨g9,0,none⟩) 1 1) 1 [.int .i64 n1, .int .i64 n9] from CellsAt.mk (Nat.le_refl _) (by decide) (hlt_of hg2) fun j x hj=>by rw[Nat.zero_add];exact cell_of_block hg2 (by simpa using hj))
       have hbs:=hG.size
       have HG:=jD hG
       clear hG hg2 hp1
       go_wp2_with (at_builtin;apply Classical.byContradiction;intro hcon)
       refine hcon ?_
       (refine wpList_append_cells2 rfl (.tmp 26) (.tmp 32) 120 rfl wo.heap.size 119 (.agg #[.int .i64 0, .int .i64 0]) 2 16 Tryz.underlying120 SpTy.info rfl (by decide) (.slice sa ls.length sc) _ _ hz H9.out (.slice (some ⟨g9,0,none⟩) 1 1) 1 _ hg1 HCL.out rfl HON.out hbs (by unfold maxLen;omega) (by omega) ?_)
       intro v' wq ho hgr
       obtain⟨qa,qc,hq⟩:=owns_slice ho
       subst hq
       have HO:=jD ho
       have HGR:=jD hgr
       clear ho hgr
       go_wp2
       exact⟨_,rfl,⟨_,_,rfl,PrOwn.push HO.out⟩,HG.out.row H9.out HGR.out (Nat.le_refl _),⟨TKeep.of_app H9.out HGR.out (by decide),fun h=>zd h,fun h=>zd h,fun h=>zd h⟩⟩
      ·intro x wx hG
       have f5:=hG.o 5
       replace hG:=hG.good
       go_wp2
       exact⟨_,rfl,rfl,hG,⟨TKeep.refl _ _,fun h=>zd h,fun h=>zd h,fun h=>zd h⟩⟩
      ·intro x wx hG
       have g9:(x.tmps.getD 34 undef)= .pointer (some ⟨BK,2,none⟩):=hG.c 9 _ rfl
       have g8: ∃a cc,(x.tmps.getD 33 undef)= .slice a (ls.length+1) cc∧PrOwn 119 wx wo.heap.size (.slice a (ls.length+1) cc) (ls++[(n1,n9)]):=hG.c 8 _ rfl
       have hp2:=hG.p 2
       have hp4:=hG.p 4
       replace hG:=hG.good
       obtain⟨za,zc,hz,h9⟩:=g8
       have H9:=jD h9
       clear h9
       have hzb:=hz
       rw[Array.getD_eq_getD_getElem?] at hzb
       have hc:=cell_of_block (j:=2) hp2 rfl
       have hfz:=free_of_block (j:=2) hp2
       have hbl:=hlt_of hp2
       have HP:=jD hp2
       have HP4:=jD hp4
       clear hp2 hp4
       go_wp2
       exact⟨undef,rfl,⟨za,zc,by rw[heap_set_same HP.out];rfl,H9.out.tk (TKeep.of_set HP.out (T:=tj 119 124 10) (by decide)) (tj_row rfl rfl (by decide)),HP4.out⟩,hG.setHi hqk,⟨TKeep.of_set HP.out (by decide),fun h=>zd h,fun h=>zd h,fun _=>RKeep.set _ _ _ _⟩⟩
     ·intro vals w3 hg hF
      obtain⟨g0,g1,g2,g3,g4,g5,g6,g7,g8,g9,g10, -⟩:=hF
      have e0:=gq (vals 0) g0
      have e1:=gq (vals 1) g1
      have e2:=gq (vals 2) g2
      have e4:=gq (vals 4) g4
      replace g5:((vals 5)= .int .i64 n9)∧RdSt BR sj2 bj2 w3:=g5 rfl
      have e6:=gq (vals 6) g6
      have e9:=gq (vals 9) g9
      replace g10: ∃a cc,w3.heap[BK]? =some (Obj.cells #[.int .i64 ny, .int .i64 nn, .slice a (ls.length+1) cc] 124 (0,0))∧PrOwn 119 w3 wo.heap.size (.slice a (ls.length+1) cc) (ls++[(n1,n9)])∧Naught w3:=g10 rfl
      simp only[Cl3.puts,e0,e1,e2,e4,e6,e9]
      clear e0 e1 e2 e4 e6 e9 g0 g1 g2 g3 g4 g6 g7 g8 g9
      go_simp
      generalize vals 5=u5 at*
      obtain⟨-,hrd⟩:=g5
      obtain⟨qa,qc,hk3,hrow, -⟩:=g10
      have HS3:=jD (show ∃SS,PrOwn 119 w3 wo.heap.size SS (pairsR 32 32 sk3 bk3 (ls.length+1)).1∧w3.heap[BK]? =some (Obj.cells #[.int .i64 ny, .int .i64 nn,SS] 124 (0,0))∧RdSt BR (pairsR 32 32 sk3 bk3 (ls.length+1)).2.1 (pairsR 32 32 sk3 bk3 (ls.length+1)).2.2 w3∧RKeep BR wo w3 from by
       rw[HNY.out];exact ⟨_,hrow,hk3,hrd,hg⟩)
      clear hrd hk3 hrow hg HC1 HC2 HRA HRB HR0 HOW HKB HEX HGK HNY
      go_wp2
      go_roundw
      case rel=>exact ⟨m2,ls.length+1,by omega,by go_num,HS3.out⟩
      case measure=>simp [intOf] <;> omega
end Go.Proofs.YtgkgdedhicnohaaGreat
