/- What a reader of bytes does, put together for wire.Unpack: each thing that it reads, its steps named. What wire.Unpack answers. No walk here. A batch of some versions and parts: what memory holds while it is put together. No walk here. -/
import Derived.Test.YtgkgdedhicnohaaGreatMWire6
import Derived.Deep.QuietTactic
import Derived.BigQuiet
namespace Go.Proofs.YtgkgdedhicnohaaGreat
open Go.RowKit
theorem empty_list:(⟨#[]⟩:ByteArray).toList=[]:=by rw[ByteArray.toList_eq]
theorem str_ne {s:ByteArray} (h: ¬s=⟨#[]⟩):(s.toList==(⟨#[]⟩:ByteArray).toList)=false∧(s.toList != (⟨#[]⟩:ByteArray).toList)=true∧(s.toList==[])=false∧(s.toList != [])=true:=by
 have h1:(s.toList==(⟨#[]⟩:ByteArray).toList)=false:=by rw[ids_eq,decide_eq_false h]
 have h2:(s.toList != (⟨#[]⟩:ByteArray).toList)=true:=by unfold bne;rw [h1];rfl
 have h3:=h1
 have h4:=h2
 rw[empty_list] at h3 h4
 exact⟨h1,h2,h3,h4⟩
theorem str_eq {s:ByteArray} (h:s=⟨#[]⟩):(s.toList==(⟨#[]⟩:ByteArray).toList)=true∧(s.toList != (⟨#[]⟩:ByteArray).toList)=false∧(s.toList==[])=true∧(s.toList != [])=false:=by
 have h1:(s.toList==(⟨#[]⟩:ByteArray).toList)=true:=by rw[ids_eq,decide_eq_true h]
 have h2:(s.toList != (⟨#[]⟩:ByteArray).toList)=false:=by unfold bne;rw [h1];rfl
 have h3:=h1
 have h4:=h2
 rw[empty_list] at h3 h4
 exact⟨h1,h2,h3,h4⟩
abbrev numCall (BR:Nat) (s:ByteArray) (b:Bool) (most v:Int) (s':ByteArray) (b':Bool):Prop:=
 ∀w,RdSt BR s b w→Calls Tryz.prog 140 #[.pointer (some ⟨BR,0,none⟩), .int .i64 most] w fun e w'=>e= .returned (.int .i64 v)∧RdSt BR s' b' w'∧RKeep BR w w'
abbrev textCall (BR:Nat) (s:ByteArray) (b:Bool) (v:ByteArray) (s':ByteArray) (b':Bool):Prop:=
 ∀w,RdSt BR s b w→Calls Tryz.prog 141 #[.pointer (some ⟨BR,0,none⟩)] w fun e w'=>e= .returned (.string v)∧RdSt BR s' b' w'∧RKeep BR w w'
abbrev knowCall (BR:Nat) (s:ByteArray) (b:Bool) (v:Kn) (s':ByteArray) (b':Bool):Prop:=
 ∀w,RdSt BR s b w→Calls Tryz.prog 142 #[.pointer (some ⟨BR,0,none⟩)] w fun e w'=> ∃u x,e= .returned (.agg #[u,x])∧KnOwn w' w.heap.size u x v∧RdSt BR s' b' w'∧RKeep BR w w'
abbrev filCall (BR:Nat) (s:ByteArray) (b:Bool) (v:Bxs) (s':ByteArray) (b':Bool):Prop:=
 ∀w,RdSt BR s b w→Calls Tryz.prog 143 #[.pointer (some ⟨BR,0,none⟩)] w fun e w'=> ∃u,e= .returned u∧FOwn w' w.heap.size u v∧RdSt BR s' b' w'∧RKeep BR w w'
theorem numCall_mk (BR:Nat) (s:ByteArray) (b:Bool) (most:Int) (hs:s.size≤1000000):numCall BR s b most (numV s most) (numR s) (numB s b most):=fun w h=>rnum_c BR s b most w h hs
theorem textCall_mk (BR:Nat) (s:ByteArray) (b:Bool) (hs:s.size≤1000000):textCall BR s b (textV s) (textR s) (textB s b):=fun w h=>rtext_c BR s b w h hs
theorem knowCall_mk (BR:Nat) (s:ByteArray) (b:Bool) (hs:s.size≤1000000):knowCall BR s b (knRd s b) (dotRd s b).2.1 (dotRd s b).2.2:=fun w h=>rknow_c BR s b w h hs
theorem filCall_mk (BR:Nat) (s:ByteArray) (b:Bool) (hs:s.size≤1000000):filCall BR s b (filRd s b).1 (filRd s b).2.1 (filRd s b).2.2:=fun w h=>rfil_c BR s b w h hs
structure VerC (BR:Nat) (s:ByteArray) (b:Bool) (id:ByteArray) (ds dc tg nm bd:Int) (kk:Kn) (s1 s2 s3 s4 s5 s6 s7:ByteArray) (b1 b2 b3 b4 b5 b6 b7:Bool):Prop where
 c0:textCall BR s b id s1 b1
 c1:numCall BR s1 b1 5 ds s2 b2
 c2:numCall BR s2 b2 1000 dc s3 b3
 c3:numCall BR s3 b3 15 tg s4 b4
 c4:numCall BR s4 b4 32 nm s5 b5
 c5:numCall BR s5 b5 1000000 bd s6 b6
 c6:knowCall BR s6 b6 kk s7 b7
 eq:ver1 s b=(⟨id,ds,dc,tg,nm,bd,kk⟩,s7,b7)
theorem verCall (BR:Nat) (s:ByteArray) (b:Bool) (hs:s.size≤1000000): ∃id ds dc tg nm bd kk s1 s2 s3 s4 s5 s6 s7 b1 b2 b3 b4 b5 b6 b7,VerC BR s b id ds dc tg nm bd kk s1 s2 s3 s4 s5 s6 s7 b1 b2 b3 b4 b5 b6 b7:=by
 have h1:(textR s).size≤1000000:=Nat.le_trans (text_rd s b).le hs
 have h2:=Nat.le_trans (numR_size (textR s)) h1
 have h3:=Nat.le_trans (numR_size (numR (textR s))) h2
 have h4:=Nat.le_trans (numR_size (numR (numR (textR s)))) h3
 have h5:=Nat.le_trans (numR_size (numR (numR (numR (textR s))))) h4
 have h6:=Nat.le_trans (numR_size (numR (numR (numR (numR (textR s)))))) h5
 have he:ver1 s b=(⟨textV s,numV (textR s) 5,numV (numR (textR s)) 1000,numV (numR (numR (textR s))) 15,numV (numR (numR (numR (textR s)))) 32,numV (numR (numR (numR (numR (textR s))))) 1000000,knRd (numR (numR (numR (numR (numR (textR s)))))) (numB (numR (numR (numR (numR (textR s))))) (numB (numR (numR (numR (textR s)))) (numB (numR (numR (textR s))) (numB (numR (textR s)) (numB (textR s) (textB s b) 5) 1000) 15) 32) 1000000)⟩,(dotRd (numR (numR (numR (numR (numR (textR s)))))) (numB (numR (numR (numR (numR (textR s))))) (numB (numR (numR (numR (textR s)))) (numB (numR (numR (textR s))) (numB (numR (textR s)) (numB (textR s) (textB s b) 5) 1000) 15) 32) 1000000)).2.1,(dotRd (numR (numR (numR (numR (numR (textR s)))))) (numB (numR (numR (numR (numR (textR s))))) (numB (numR (numR (numR (textR s)))) (numB (numR (numR (textR s))) (numB (numR (textR s)) (numB (textR s) (textB s b) 5) 1000) 15) 32) 1000000)).2.2):=by unfold ver1 verHead;dsimp only
 refine⟨textV s,numV (textR s) 5,numV (numR (textR s)) 1000,numV (numR (numR (textR s))) 15,numV (numR (numR (numR (textR s)))) 32,numV (numR (numR (numR (numR (textR s))))) 1000000,knRd (numR (numR (numR (numR (numR (textR s)))))) (numB (numR (numR (numR (numR (textR s))))) (numB (numR (numR (numR (textR s)))) (numB (numR (numR (textR s))) (numB (numR (textR s)) (numB (textR s) (textB s b) 5) 1000) 15) 32) 1000000),textR s,numR (textR s),numR (numR (textR s)),numR (numR (numR (textR s))),numR (numR (numR (numR (textR s)))),numR (numR (numR (numR (numR (textR s))))),(dotRd (numR (numR (numR (numR (numR (textR s)))))) (numB (numR (numR (numR (numR (textR s))))) (numB (numR (numR (numR (textR s)))) (numB (numR (numR (textR s))) (numB (numR (textR s)) (numB (textR s) (textB s b) 5) 1000) 15) 32) 1000000)).2.1,textB s b,numB (textR s) (textB s b) 5,numB (numR (textR s)) (numB (textR s) (textB s b) 5) 1000,numB (numR (numR (textR s))) (numB (numR (textR s)) (numB (textR s) (textB s b) 5) 1000) 15,numB (numR (numR (numR (textR s)))) (numB (numR (numR (textR s))) (numB (numR (textR s)) (numB (textR s) (textB s b) 5) 1000) 15) 32,numB (numR (numR (numR (numR (textR s))))) (numB (numR (numR (numR (textR s)))) (numB (numR (numR (textR s))) (numB (numR (textR s)) (numB (textR s) (textB s b) 5) 1000) 15) 32) 1000000,(dotRd (numR (numR (numR (numR (numR (textR s)))))) (numB (numR (numR (numR (numR (textR s))))) (numB (numR (numR (numR (textR s)))) (numB (numR (numR (textR s))) (numB (numR (textR s)) (numB (textR s) (textB s b) 5) 1000) 15) 32) 1000000)).2.2, ?_⟩
 exact⟨textCall_mk BR s b hs,numCall_mk BR (textR s) (textB s b) 5 h1,numCall_mk BR (numR (textR s)) (numB (textR s) (textB s b) 5) 1000 h2,numCall_mk BR (numR (numR (textR s))) (numB (numR (textR s)) (numB (textR s) (textB s b) 5) 1000) 15 h3,numCall_mk BR (numR (numR (numR (textR s)))) (numB (numR (numR (textR s))) (numB (numR (textR s)) (numB (textR s) (textB s b) 5) 1000) 15) 32 h4,numCall_mk BR (numR (numR (numR (numR (textR s))))) (numB (numR (numR (numR (textR s)))) (numB (numR (numR (textR s))) (numB (numR (textR s)) (numB (textR s) (textB s b) 5) 1000) 15) 32) 1000000 h5,knowCall_mk BR (numR (numR (numR (numR (numR (textR s)))))) (numB (numR (numR (numR (numR (textR s))))) (numB (numR (numR (numR (textR s)))) (numB (numR (numR (textR s))) (numB (numR (textR s)) (numB (textR s) (textB s b) 5) 1000) 15) 32) 1000000) h6,he⟩
structure GoneC (BR:Nat) (s:ByteArray) (b:Bool) (v:Gn) (s1 s2:ByteArray) (b1 b2:Bool):Prop where
 c0:textCall BR s b v.id s1 b1
 c1:knowCall BR s1 b1 v.past s2 b2
 r1:Rd s s1 b1
 r2:Rd s1 s2 b2
 eq:gone1 s b=(v,s2,b2)
theorem goneCall (BR:Nat) (s:ByteArray) (b:Bool) (hs:s.size≤1000000): ∃v s1 s2 b1 b2,GoneC BR s b v s1 s2 b1 b2:=
 ⟨_,_,_,_,_,textCall_mk BR s b hs,knowCall_mk BR _ _ (Nat.le_trans (text_rd s b).le hs),text_rd s b,kn_rd _ _,rfl⟩
structure PartC (BR:Nat) (s:ByteArray) (b:Bool) (v:Pt) (s1 s2:ByteArray) (b1 b2:Bool):Prop where
 c0:filCall BR s b v.f s1 b1
 c1:knowCall BR s1 b1 v.k s2 b2
 r1:Rd s s1 b1
 r2:Rd s1 s2 b2
 eq:part1 s b=(v,s2,b2)
theorem partCall (BR:Nat) (s:ByteArray) (b:Bool) (hs:s.size≤1000000): ∃v s1 s2 b1 b2,PartC BR s b v s1 s2 b1 b2:=
 ⟨_,_,_,_,_,filCall_mk BR s b hs,knowCall_mk BR _ _ (Nat.le_trans (fil_rd s b).le hs),fil_rd s b,kn_rd _ _,rfl⟩
theorem VOwn.slc {w:World} {base:Nat} {v:Value} {l:List Ver} (h:VOwn w base v l): ∃a c,v= .slice a l.length c:=by
 obtain⟨css, -,h2⟩:=h;exact owns_slice h2
theorem VOwn.push {w w':World} {base n d m e:Nat} {a b:Option Addr} {v v':Value} {l:List Ver} {css:List (List Value)} {x:Ver} (h1:VE w base l css) (h2:w.ownsRow base 75 8 v l.length css.flatten) (hk:KnOwn w base (.slice a n d) (.slice b m e) x.past)
  (ho:w'.ownsRow base 75 8 v' (l.length+1) (css.flatten++(verC x (.slice a n d) (.slice b m e)).toList)) (hg:w.grownBy w' v.ownBlock):VOwn w' base v' (l++[x]):=by
 have hK: ∀u x (k:Kn),KnOwn w base u x k→KnOwn w' base u x k:=fun u x k h=>⟨own_kept2 h.vec h2 (by decide) hg,own_kept2 h.more h2 (by decide) hg⟩
 refine⟨css++[(verC x (.slice a n d) (.slice b m e)).toList],VE.snoc (h1.map fun u x k h=>hK _ _ _ h) ⟨⟨_,_,_,_,_,_,rfl,hK _ _ _ hk⟩,trivial⟩, ?_⟩
 rw[List.flatten_append,List.length_append]
 simpa using ho
structure UpSt (w:World) (BR B2 BB:Nat) (st sm:Int) (VV GV PV:Value) (V:List Ver) (G:List Gn) (P:List Pt) (s:ByteArray) (b:Bool) (wr:World):Prop where
 rd:RdSt BR s b wr
 b2:wr.heap[B2]? =some (Obj.cells #[.int .i64 0, .int .i64 0, .slice none 0 0, .slice none 0 0, .slice none 0 0] 52 (0,0))
 bb:wr.heap[BB]? =some (Obj.cells #[.int .i64 st, .int .i64 sm,VV,GV,PV] 52 (0,0))
 v:VOwn wr w.heap.size VV V
 g:GOwn wr w.heap.size GV G
 p:POwn wr w.heap.size PV P
 rk:RKeep BR w wr
theorem UpSt.call {w wr w':World} {BR B2 BB:Nat} {st sm:Int} {VV GV PV:Value} {V:List Ver} {G:List Gn} {P:List Pt} {s s':ByteArray} {b b':Bool} (h:UpSt w BR B2 BB st sm VV GV PV V G P s b wr) (hr:RdSt BR s' b' w') (hk:RKeep BR wr w') (h1:B2≠BR) (h2:BB≠BR):UpSt w BR B2 BB st sm VV GV PV V G P s' b' w':=by
 have ht:TKeep (fun t=>t != 214) wr w':=TKeep.of_rk hk h.rd (by decide)
 exact⟨hr,hk.keep h.b2 h1,hk.keep h.bb h2,h.v.tk ht (by decide) (by decide) (by decide),h.g.tk ht (by decide) (by decide) (by decide),h.p.tk ht (by decide) (by decide) (by decide) (by decide) (by decide),h.rk.trans hk⟩
structure VSt (wo:World) (BR VB:Nat) (s:ByteArray) (b:Bool) (cs:Array Value) (wr:World):Prop where
 rd:RdSt BR s b wr
 vb:wr.heap[VB]? =some (Obj.cells cs 75 (0,0))
 rk:RKeep BR wo wr
theorem VSt.call {wo wr w':World} {BR VB:Nat} {s s':ByteArray} {b b':Bool} {cs:Array Value} (h:VSt wo BR VB s b cs wr) (hr:RdSt BR s' b' w') (hk:RKeep BR wr w') (h1:VB≠BR):VSt wo BR VB s' b' cs w':=⟨hr,hk.keep h.vb h1,h.rk.trans hk⟩
theorem VSt.set {wo wr:World} {BR VB j:Nat} {s:ByteArray} {b:Bool} {cs:Array Value} {x:Value} (h:VSt wo BR VB s b cs wr) (h1:VB≠BR) (h2:wo.heap.size≤VB):VSt wo BR VB s b (cs.setIfInBounds j x) (wr.setCell ⟨VB,j,none⟩ x):=
 ⟨⟨by rw[heap_set_other h1.symm];exact h.rd.blk⟩,heap_set_same h.vb,h.rk.setHi h2⟩
theorem VSt.owns {wo w:World} {BR VB:Nat} {s s0:ByteArray} {b b0:Bool} {cs:Array Value} (h:VSt wo BR VB s b cs w) (h0:RdSt BR s0 b0 wo):TKeep (fun t=>t != 214) wo w:=TKeep.of_rk h.rk h0 (by decide)
theorem UpSt.of_set {w w9:World} {BR B2 BB j:Nat} {st sm:Int} {x:Value} {cs:Array Value} {VV GV PV:Value} {V:List Ver} {G:List Gn} {P:List Pt} {s:ByteArray} {b:Bool} (rd:RdSt BR s b w9) (b2:w9.heap[B2]? =some (Obj.cells #[.int .i64 0, .int .i64 0, .slice none 0 0, .slice none 0 0, .slice none 0 0] 52 (0,0)))
  (bb:w9.heap[BB]? =some (Obj.cells cs 52 (0,0))) (hcs:cs.setIfInBounds j x= #[.int .i64 st, .int .i64 sm,VV,GV,PV]) (v:VOwn w9 w.heap.size VV V) (g:GOwn w9 w.heap.size GV G) (p:POwn w9 w.heap.size PV P) (rk:RKeep BR w w9) (h1:BR≠BB) (h2:B2≠BB) (h3:w.heap.size≤BB):
  UpSt w BR B2 BB st sm VV GV PV V G P s b (w9.setCell ⟨BB,j,none⟩ x):=by
 have ht:TKeep (fun t=>t != 52) w9 (w9.setCell ⟨BB,j,none⟩ x):=TKeep.of_set bb (by decide)
 exact⟨⟨by rw[heap_set_other h1];exact rd.blk⟩,by rw[heap_set_other h2];exact b2,by rw[heap_set_same bb,hcs],v.tk ht (by decide) (by decide) (by decide),g.tk ht (by decide) (by decide) (by decide),p.tk ht (by decide) (by decide) (by decide) (by decide) (by decide),rk.setHi h3⟩
theorem BxsOwn.at_bd {w:World} {base:Nat} {v:Value} {l:Bxs} (h:FOwn w base v l) (hl:l.length≤1000) (hok: ∀b∈l,b.sp.length≤1000):BxsAt w v l:=by
 obtain⟨us,h1,h2,h3⟩:=h
 refine⟨us,h1,CellsAt.of_owns h2 (by omega),fun i hi hi'=>CellsAt.of_owns (h3 i hi hi') ?_⟩
 have:=hok _ (List.getElem_mem hi)
 omega
def PtBd (p:Pt):Prop:=(p.f.length≤1000∧ ∀b∈p.f,b.sp.length≤1000)∧p.k.vec.length≤5∧p.k.more.length≤60
theorem PE.els_bd {w:World} {base:Nat} : ∀ {l:List Pt} {cs:List (List Value)},PE w base l cs→(∀p∈l,PtBd p)→Els partE w l cs
 | [],[],_,_=>trivial
 | p::_,_::_,⟨⟨f,u,x,h1,h2,h3⟩,h4⟩,hb=>⟨⟨f,u,x,h1,h2.at_bd (hb p (by simp)).1.1 (hb p (by simp)).1.2,h3.at_ (hb p (by simp)).2.1 (by have:=(hb p (by simp)).2.2;omega)⟩,PE.els_bd h4 fun x hx=>hb x (by simp[hx])⟩
 | [],_::_,h,_=>h.elim
 | _::_,[],h,_=>h.elim
theorem POwn.at_bd {w:World} {base:Nat} {v:Value} {l:List Pt} (h:POwn w base v l) (hok: ∀p∈l,PtBd p) (hl:l.length≤1000):RowAt partE w v l:=by
 obtain⟨css,h1,h2⟩:=h
 exact⟨css,h1.els_bd hok,CellsAt.of_owns h2 (by omega)⟩
theorem manyR_all {α: Type} {f:ByteArray→Bool→α× ByteArray×Bool} {P:α→ Prop} (hf: ∀s b,P (f s b).1) (s:ByteArray) (b:Bool): ∀k,∀x∈(manyR f s b k).1,P x
 | 0,x,hx=>by simp[manyR] at hx
 | k+1,x,hx=>by
  unfold manyR at hx
  dsimp only at hx
  rcases List.mem_append.1 hx with h | h
  ·exact manyR_all hf s b k x h
  ·rw[List.mem_singleton] at h;subst h;exact hf _ _
theorem knRd_bd (s:ByteArray) (b:Bool):(knRd s b).vec.length≤5∧(knRd s b).more.length≤60:=by
 have h1:=numV_bd s (most:=5) (by decide)
 have h2:=numV_bd (vecRd s b).2.1 (most:=60) (by decide)
 unfold knRd dotRd
 dsimp only
 rw[pairsR_len]
 refine⟨?_,by omega⟩
 unfold vecRd
 rw[numsR_len];omega
theorem manyR_next {α: Type} {f:ByteArray→Bool→α× ByteArray×Bool} {s sk s':ByteArray} {b bk b':Bool} {k:Nat} {l:List α} {x:α} (h1:manyR f s b k=(l,sk,bk)) (h2:f sk bk=(x,s',b')):manyR f s b (k+1)=(l++[x],s',b'):=by
 have h3:manyR f s b (k+1)=((manyR f s b k).1++[(f (manyR f s b k).2.1 (manyR f s b k).2.2).1],(f (manyR f s b k).2.1 (manyR f s b k).2.2).2):=by rw[manyR]
 rw[h1] at h3
 dsimp only at h3
 rw[h2] at h3
 exact h3
def KnBd (k:Kn):Prop:=k.vec.length≤5∧k.more.length≤60
def VerBd (v:Ver):Prop:=KnBd v.past
def GnBd (v:Gn):Prop:=KnBd v.past
theorem ver1_bd (s:ByteArray) (b:Bool):VerBd (ver1 s b).1:=by unfold ver1 VerBd;dsimp only;exact knRd_bd _ _
theorem gone1_bd (s:ByteArray) (b:Bool):GnBd (gone1 s b).1:=by unfold gone1 GnBd;dsimp only;exact knRd_bd _ _
theorem vers_bd (s:ByteArray) (b:Bool) (k:Nat): ∀x∈(manyR ver1 s b k).1,VerBd x:=manyR_all (f:=ver1) (P:=VerBd) (fun s b=>ver1_bd s b) s b k
theorem gones_bd (s:ByteArray) (b:Bool) (k:Nat): ∀x∈(manyR gone1 s b k).1,GnBd x:=manyR_all (f:=gone1) (P:=GnBd) (fun s b=>gone1_bd s b) s b k
theorem bx1_bd (s:ByteArray) (b:Bool):(bx1 s b).1.sp.length≤1000:=by
 have h1:=numV_bd (numR (numR s)) (most:=16) (by decide)
 unfold bx1 bxRd spRd
 dsimp only
 rw[pairsR_len];omega
theorem part1_bd (s:ByteArray) (b:Bool):PtBd (part1 s b).1:=by
 have h1:=numV_bd s (most:=40) (by decide)
 unfold part1 PtBd
 dsimp only
 refine⟨⟨?_, ?_⟩,knRd_bd _ _⟩
 ·unfold filRd;rw [manyR_len];omega
 ·unfold filRd;exact manyR_all (f:=bx1) (P:=fun b=>b.sp.length≤1000) (fun s b=>bx1_bd s b) _ _ _
theorem parts_bd (s:ByteArray) (b:Bool) (k:Nat): ∀x∈(manyR part1 s b k).1,PtBd x:=manyR_all (f:=part1) (P:=PtBd) (fun s b=>part1_bd s b) s b k
def upT (s:ByteArray):ByteArray:=s.extract 0 (s.size - 3)
def upSum (s:ByteArray):Int:=headN (s.extract (s.size - 3) s.size)
def upBad (t:ByteArray):Bool:=(partsRd t).2.2 || (decide (¬(partsRd t).2.1=⟨#[]⟩) || decide (batchChk (btRd t)≠0))
def upE (s:ByteArray):Int:=if 20000 < s.size then 2 else if s.size < 3 then 7 else if sumOf (upT s)≠upSum s then 8 else if upBad (upT s)=true then 3 else 0
def upB (s:ByteArray):Bt:=if upE s=0 then btRd (upT s) else⟨0,0,[],[],[]⟩
structure UpRes (w:World) (base:Nat) (vv gv pv:Value) (b:Bt):Prop where
 v:VOwn w base vv b.vers
 g:GOwn w base gv b.gone
 p:POwn w base pv b.parts
theorem UpRes.nil (w:World) (base:Nat) (x y:Int):UpRes w base (.slice none 0 0) (.slice none 0 0) (.slice none 0 0) ⟨x,y,[],[],[]⟩:=⟨own_nilV _ _,GOwn.nil _ _,POwn.nil _ _⟩
theorem RKeep.toBelow {B base:Nat} {w w':World} (h:RKeep B w w') (hB:base≤B) (hs:base≤w.heap.size):Below base w w':=⟨h.os,h.tape,h.output,h.size,fun k hk=>h.blk k (by omega) (by omega)⟩
theorem str_getN (s:ByteArray) (n:Nat) (h:s.size=n+3) (j:Nat) (hj:j < 3):(s.extract n s.size).data.toList[j]?.getD 0=s[n+j]'(by omega):=by
 rw[←byte_get s (n+j) (by omega),extract_list,List.getElem?_drop]
def UpOut (s:ByteArray) (w:World) (e:Ending) (w':World):Prop:= ∃vv gv pv,e= .returned (.tuple #[.agg #[.int .i64 (upB s).site, .int .i64 (upB s).stamp,vv,gv,pv], .int .i64 (upE s)])∧UpRes w' w.heap.size vv gv pv (upB s)∧Below w.heap.size w w'
theorem UpOut.fail {s:ByteArray} {w w':World} {E:Int} (hE:upE s=E) (h0:E≠0) (hb:Below w.heap.size w w'):UpOut s w (.returned (.tuple #[.agg #[.int .i64 0, .int .i64 0, .slice none 0 0, .slice none 0 0, .slice none 0 0], .int .i64 E])) w':=by
 have e:upB s=⟨0,0,[],[],[]⟩:=by unfold upB;rw [if_neg (by rw[hE];exact h0)]
 refine⟨_,_,_,by rw[e,hE],by rw[e];exact UpRes.nil _ _ _ _,hb⟩
theorem TKeep.trans {T:Nat→Bool} {a b c:World} (h:TKeep T a b) (k:TKeep T b c):TKeep T a c:=⟨Nat.le_trans h.size k.size,fun _ _ _ hj ht=>k.blk _ _ _ (h.blk _ _ _ hj ht) ht⟩
theorem TKeep.set5 {T:Nat→Bool} {w:World} {g:Nat} {cs:Array Value} {t:TypeId} {x0 x1 x2 x3 x4:Value} (hg:w.heap[g]? =some (Obj.cells cs t (0,0))) (ht:T t=false):
  TKeep T w (((((w.setCell ⟨g,0,none⟩ x0).setCell ⟨g,1,none⟩ x1).setCell ⟨g,2,none⟩ x2).setCell ⟨g,3,none⟩ x3).setCell ⟨g,4,none⟩ x4):=by
 have h1:=heap_set_same (j:=0) (v:=x0) hg
 have h2:=heap_set_same (j:=1) (v:=x1) h1
 have h3:=heap_set_same (j:=2) (v:=x2) h2
 have h4:=heap_set_same (j:=3) (v:=x3) h3
 exact((((TKeep.of_set hg ht).trans (TKeep.of_set h1 ht)).trans (TKeep.of_set h2 ht)).trans (TKeep.of_set h3 ht)).trans (TKeep.of_set h4 ht)
theorem UpSt.fin {w wr:World} {BR B2 BB:Nat} {st sm:Int} {VV GV PV:Value} {V:List Ver} {G:List Gn} {P:List Pt} {s:ByteArray} {b:Bool} {x0 x1 x2 x3 x4:Value} (h:UpSt w BR B2 BB st sm VV GV PV V G P s b wr) (hle:w.heap.size≤B2) (hbr:w.heap.size≤BR):
  UpRes (((((wr.setCell ⟨B2,0,none⟩ x0).setCell ⟨B2,1,none⟩ x1).setCell ⟨B2,2,none⟩ x2).setCell ⟨B2,3,none⟩ x3).setCell ⟨B2,4,none⟩ x4) w.heap.size VV GV PV ⟨st,sm,V,G,P⟩∧
  Below w.heap.size w (((((wr.setCell ⟨B2,0,none⟩ x0).setCell ⟨B2,1,none⟩ x1).setCell ⟨B2,2,none⟩ x2).setCell ⟨B2,3,none⟩ x3).setCell ⟨B2,4,none⟩ x4):=by
 have ht:TKeep (fun t=>t != 52) wr (((((wr.setCell ⟨B2,0,none⟩ x0).setCell ⟨B2,1,none⟩ x1).setCell ⟨B2,2,none⟩ x2).setCell ⟨B2,3,none⟩ x3).setCell ⟨B2,4,none⟩ x4):=TKeep.set5 h.b2 (by decide)
 have hb:=h.rk.toBelow hbr (Nat.le_refl _)
 exact⟨⟨h.v.tk ht (by decide) (by decide) (by decide),h.g.tk ht (by decide) (by decide) (by decide),h.p.tk ht (by decide) (by decide) (by decide) (by decide) (by decide)⟩,
  ((((hb.setCell (p:=⟨B2,0,none⟩) hle _).setCell (p:=⟨B2,1,none⟩) hle _).setCell (p:=⟨B2,2,none⟩) hle _).setCell (p:=⟨B2,3,none⟩) hle _).setCell (p:=⟨B2,4,none⟩) hle _⟩
theorem VE.get {w:World} {base:Nat} : ∀ {l:List Ver} {cs:List (List Value)} (_:VE w base l cs) (i:Nat) (hi:i < l.length),∃(a:Option Addr) (n d:Nat) (b:Option Addr) (m e:Nat),cs[i]? =some (verC l[i] (.slice a n d) (.slice b m e)).toList∧KnOwn w base (.slice a n d) (.slice b m e) l[i].past
 | [],_,_,i,hi=>by simp at hi
 | _::_,_::_,⟨⟨a,n,d,b,m,e,h1,h2⟩,_⟩,0,_=>⟨a,n,d,b,m,e,by simp[h1],h2⟩
 | _::_,_::_,⟨_,h4⟩,i+1,hi=>by
  obtain⟨a,n,d,b,m,e,h1,h2⟩:=VE.get h4 i (by simpa using hi)
  exact⟨a,n,d,b,m,e,by simpa using h1,h2⟩
 | _::_,[],h,_,_=>h.elim
theorem VE.lens {w:World} {base:Nat} : ∀ {l:List Ver} {cs:List (List Value)},VE w base l cs→ ∀c∈cs,c.length=8
 | [],[],_=>by simp
 | _::_,_::_,⟨⟨a,n,d,b,m,e,h1,_⟩,h4⟩=>by
  intro c hc
  rcases List.mem_cons.1 hc with rfl | hc
  ·rw[h1];rfl
  ·exact VE.lens h4 c hc
 | [],_::_,h=>h.elim
 | _::_,[],h=>h.elim
theorem flat_get {n:Nat} : ∀ {css:List (List Value)} (_: ∀c∈css,c.length=n) (i:Nat) {c:List Value} (_:css[i]? =some c) (j:Nat) {x:Value} (_:c[j]? =some x),css.flatten[i*n+j]? =some x
 | [],_,i,c,h,j,x,hj=>by simp at h
 | d::css,hl,0,c,h,j,x,hj=>by
  simp only[List.getElem?_cons_zero,Option.some.injEq] at h
  subst h
  have hlt:=(List.getElem?_eq_some_iff.1 hj).1
  rw[List.flatten_cons,Nat.zero_mul,Nat.zero_add,List.getElem?_append_left hlt];exact hj
 | d::css,hl,i+1,c,h,j,x,hj=>by
  have hd:=hl d (by simp)
  rw[List.flatten_cons,List.getElem?_append_right (by rw[hd,Nat.succ_mul];omega),hd,show(i+1)*n+j - n=i*n+j by rw[Nat.succ_mul];omega]
  exact flat_get (fun c hc=>hl c (by simp[hc])) i (by simpa using h) j hj
theorem VOwn.cellsAt {w:World} {base:Nat} {v:Value} {l:List Ver} (h:VOwn w base v l) (i:Nat) (hi:i < l.length): ∃(g cap:Nat) (a:Option Addr) (n d:Nat) (b:Option Addr) (m e:Nat),v= .slice (some ⟨g,0,none⟩) l.length cap∧l.length≤cap∧g < w.heap.size∧
  (∀j x,(verC l[i] (.slice a n d) (.slice b m e)).toList[j]? =some x→w.cell? ⟨g,i*8+j,none⟩=some x)∧KnOwn w base (.slice a n d) (.slice b m e) l[i].past:=by
 obtain⟨css,h1,h2⟩:=h
 obtain⟨a,n,d,b,m,e,e1,e2⟩:=h1.get i hi
 rcases h2.2 with⟨-,h0⟩ | ⟨g,cap,cur,hv,hb,hg,hn,hr⟩
 ·omega
 ·refine⟨g,cap,a,n,d,b,m,e,hv,hn,hlt_of hg,fun j x hj=> ?_,e2⟩
  have h3:=h2.cells (g:=g) (by rw[hv];rfl) (i*8+j) x (flat_get h1.lens i e1 j hj)
  rwa[Addr.add_lit,Nat.zero_add] at h3
def tb (q t:Nat):Bool:= !(q==16&&t==52)
end Go.Proofs.YtgkgdedhicnohaaGreat
