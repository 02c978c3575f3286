/- Sets of dots, and versions, with room behind their lists: what memory holds. No walk here. What the laws' roomyKnow, keptKnow and wasteKnow do. Written by a small program (gen/roomk.py). -/
import Derived.Test.YtgkgdedhicnohaaGreatMRoom
import Derived.Test.YtgkgdedhicnohaaGreatMShelf5
namespace Go.Proofs.YtgkgdedhicnohaaGreat
set_option maxRecDepth 100000
set_option maxHeartbeats 40000000
open Go.RowKit
structure SzK (k:Kn):Prop where
 vec:k.vec.length*8≤140737488355328
 more:k.more.length*16≤140737488355328
theorem SzK.of_ok {k:Kn} (h:k.vec.length≤5) (h2:k.more.length≤60):SzK k:=⟨by omega,by omega⟩
structure OwnK (w:World) (lo hi:Nat) (u x:Value) (k:Kn):Prop where
 own:KnOwn w lo u x k
 ru:InR lo hi u
 rx:InR lo hi x
theorem OwnK.of_own {w:World} {base:Nat} {u x:Value} {k:Kn} (h:KnOwn w base u x k):OwnK w base w.heap.size u x k:=⟨h,inR_owns h.vec,inR_owns h.more⟩
theorem OwnK.sp {S:Nat→Prop} {w w':World} {lo hi:Nat} {u x:Value} {k:Kn} (h:OwnK w lo hi u x k) (hs:Sp S w w') (hd: ∀q,lo≤q→q < hi→ ¬S q):OwnK w' lo hi u x k:=
 ⟨⟨owns_sp h.own.vec hs fun q hq=>hd q (h.ru q hq).1 (h.ru q hq).2,owns_sp h.own.more hs fun q hq=>hd q (h.rx q hq).1 (h.rx q hq).2⟩,h.ru,h.rx⟩
structure SzV (l:List Ver):Prop where
 len:l.length*104≤140737488355328
 past: ∀v∈l,SzK v.past
theorem SzV.l {l:List Ver} (h:SzV l):l.length≤140737488355328:=by have:=h.len;omega
def OwnV (w:World) (lo hi:Nat) (v:Value) (l:List Ver):Prop:=
 ∃css:List (List Value),css.length=l.length∧w.ownsRow lo 75 8 v l.length css.flatten∧InR lo hi v∧ ∀i (h:i < l.length) (h':i < css.length),∃u x,css[i]=(verC l[i] u x).toList∧OwnK w lo hi u x l[i].past
theorem VE.point {w:World} {base:Nat} : ∀ {l:List Ver} {cs:List (List Value)},VE w base l cs→cs.length=l.length∧ ∀i (h:i < l.length) (h':i < cs.length),∃u x,cs[i]=(verC l[i] u x).toList∧KnOwn w base u x l[i].past
 | [],[],_=>⟨rfl,fun i h=>by simp at h⟩
 | v::l,c::cs,⟨⟨a,n,d,b,m,e,h1,h2⟩,h3⟩=>by
  obtain⟨k1,k2⟩:=VE.point h3
  refine⟨by simp[k1],fun i hi hi'=> ?_⟩
  cases i with
  | zero=>exact ⟨_,_,h1,h2⟩
  | succ i=>exact k2 i (by simpa using hi) (by simpa using hi')
 | [],_::_,h=>h.elim
 | _::_,[],h=>h.elim
theorem OwnV.of_own {w:World} {base:Nat} {v:Value} {l:List Ver} (h:VOwn w base v l):OwnV w base w.heap.size v l:=by
 obtain⟨css,h1,h2⟩:=h
 obtain⟨k1,k2⟩:=h1.point
 exact⟨css,k1,h2,inR_owns h2,fun i hi hi'=>by obtain⟨u,x,q1,q2⟩:=k2 i hi hi';exact ⟨u,x,q1,OwnK.of_own q2⟩⟩
theorem OwnV.sp {S:Nat→Prop} {w w':World} {lo hi:Nat} {v:Value} {l:List Ver} (h:OwnV w lo hi v l) (hs:Sp S w w') (hd: ∀q,lo≤q→q < hi→ ¬S q):OwnV w' lo hi v l:=by
 obtain⟨css,k1,k2,k3,k4⟩:=h
 exact⟨css,k1,owns_sp k2 hs fun q hq=>hd q (k3 q hq).1 (k3 q hq).2,k3,fun i hi hi'=>by obtain⟨u,x,q1,q2⟩:=k4 i hi hi';exact ⟨u,x,q1,q2.sp hs hd⟩⟩
theorem OwnV.below {w w':World} {lo hi:Nat} {v:Value} {l:List Ver} (h:OwnV w lo hi v l) (hb:Below w.heap.size w w'):OwnV w' lo hi v l:=h.sp (S:=fun _=>False) (Sp.of_below hb) fun _ _ _ h=>h
theorem flat8_get: ∀ {css:List (List Value)} {k:Nat} (_: ∀c∈css,c.length=8) (hk:k < css.length) (j:Nat) (_:j < 8),css.flatten[k*8+j]? =css[k][j]?
 | c::css,0,hl,_,j,hj=>by
  have h8:=hl c (by simp)
  simp only[Nat.zero_mul,Nat.zero_add,List.flatten_cons,List.getElem_cons_zero]
  rw[List.getElem?_append_left (by omega)]
 | c::css,k+1,hl,hk,j,hj=>by
  have h8:=hl c (by simp)
  have:=flat8_get (css:=css) (k:=k) (fun d hd=>hl d (by simp[hd])) (by simpa using hk) j hj
  rw[List.flatten_cons,List.getElem?_append_right (by omega),show(k+1)*8+j - c.length=k*8+j by omega,this]
  simp
theorem ShRow.off {w:World} {e size g:Nat} {v:Value} {cs:Array Value} {t:TypeId} (h:ShRow w e size v) (hg:w.heap[g]? =some (.cells cs t (0,0))) (hne:t≠e):v.ownBlock≠some g:=by
 rcases h with rfl | ⟨g',n,cap,cur,rfl, -, -,h4, -⟩
 ·simp[Value.ownBlock]
 ·simp only[Value.ownBlock,ne_eq,Option.some.injEq]
  rintro rfl
  rw[h4] at hg
  simp only[Option.some.injEq,Obj.cells.injEq] at hg
  exact hne hg.2.1.symm
theorem ShRow.shape {w:World} {e size:Nat} {v:Value} (h:ShRow w e size v): ∃a n c,v= .slice a n c:=by
 rcases h with rfl | ⟨g',n,cap,cur,rfl, -⟩
 ·exact⟨_,_,_,rfl⟩
 ·exact⟨_,_,_,rfl⟩
theorem wasteKnow_s (u x:Value) (w:World) (hu:ShRow w 3 1 u) (hx:ShRow w 41 2 x):
  Calls Tryz.prog 53 #[.agg #[u,x]] w fun e w'=>e= .returned (.tuple #[])∧Sp (fun q=>u.ownBlock=some q∨x.ownBlock=some q) w w':=by
 have HU:=jD hu
 have HX:=jD hx
 obtain⟨ua,un,uc,rfl⟩:=hu.shape
 obtain⟨xa,xn,xc,rfl⟩:=hx.shape
 obtain⟨W,hW⟩: ∃W,W=w.alloc (.cells #[.slice ua un uc, .slice xa xn xc] 73):=⟨_,rfl⟩
 have hbw:Below w.heap.size w W:=by rw[hW];exact bal _
 have K1:=jD (show W.heap[w.heap.size]? =some (Obj.cells #[.slice ua un uc, .slice xa xn xc] 73 (0,0)) by rw[hW];exact alloc_new _ _ _ _ rfl)
 have HB:=jD hbw
 have HV:=jD ((hu.sp (S:=fun _=>False) (Sp.of_below hbw)).off K1.out (by decide))
 have HC:=jD (spoil_int _ 9 W (HU.out.sp (S:=fun _=>False) (Sp.of_below hbw)))
 have x0:=cell_of_block (j:=0) K1.out rfl
 have l1:=hlt_of K1.out
 rw[hW] at x0 l1
 clear hu hx hbw
 go_enter Tryz.func53,Tryz.ntmps53
 go_wp2_with fail
 rw[←hW]
 clear x0 l1 hW
 (with_reducible refine(HC.out).mono ?_)
 rintro e w1 ⟨rfl,hs1⟩
 have HS1:=jD hs1
 have k1:=hs1.block K1.out (fun hq=>HV.out hq)
 have x1:=cell_of_block (j:=1) k1 rfl
 have l1:=hlt_of k1
 have HD:=jD (spoil_dot _ 3 9 w1 ((HX.out.sp (S:=fun _=>False) (Sp.of_below HB.out)).sp hs1))
 clear hs1 HC k1
 go_wp2_with fail
 (with_reducible refine(HD.out).mono ?_)
 rintro e w2 ⟨rfl,hs2⟩
 have HF:=jD ((Sp.of_below HB.out).trans ((HS1.out.mono (T:=fun q=>(Value.slice ua un uc).ownBlock=some q∨(Value.slice xa xn xc).ownBlock=some q) fun q hq=> .inl hq).trans (hs2.mono fun q hq=> .inr hq)))
 clear hs2 HD x1 l1
 go_wp2
 refine bodyPost_end (v:= .tuple #[]) ?_ rfl ?_
 ·simp[results,Tryz.results53,go_sem]
 ·exact⟨rfl,HF.out⟩
end Go.Proofs.YtgkgdedhicnohaaGreat
