/- What a town does with one of its sites: is there such a one, Make, Want, Shelf, Has. Written by a small program (gen/town1.py). What a town's Way does. What a town's Bring does. Written by a small program (gen/town6.py). What a town's Send does. Written by a small program (gen/town2.py). How a town begins. What a town's Make does. Written by a small program (gen/town3.py). -/
import Derived.Test.YtgkgdedhicnohaaGreatMTown0
namespace Go.Proofs.YtgkgdedhicnohaaGreat
set_option maxRecDepth 100000
set_option maxHeartbeats 40000000
open Go.RowKit
theorem tis_c (g n cap:Nat) (a:Option Addr) (wv:Value) (i:Int) (w:World) (h:w.heap[g]? =some (.cells #[.slice a n cap,wv] 117 (0,0))):
  Calls Tryz.prog 66 #[.pointer (some ⟨g,0,none⟩), .int .i64 i] w fun e w'=>e= .returned (.bool (decide (0≤i)&&decide (i < (n:Int))))∧Below w.heap.size w w':=by
 have c0:w.cell? ⟨g,0,none⟩=some (.slice a n cap):=cell_of_block (j:=0) h rfl
 go_enter Tryz.func66,Tryz.ntmps66
 by_cases h0:0≤i
 ·have d0:decide (0≤i)=true:=decide_eq_true h0
  cases h1:decide (i < (n:Int))
  ·go_wp2
   go_ret
   exact⟨by rw[d0];rfl,Below.refl _ _⟩
  ·go_wp2
   go_ret
   exact⟨by rw[d0];rfl,Below.refl _ _⟩
 ·have d0:decide (0≤i)=false:=decide_eq_false h0
  go_wp2
  go_ret
  exact⟨rfl,Below.refl _ _⟩
theorem tis_in {g n cap:Nat} {a:Option Addr} {wv:Value} {i:Nat} (hi:i < n) (w:World) (h:w.heap[g]? =some (.cells #[.slice a n cap,wv] 117 (0,0))):
  Calls Tryz.prog 66 #[.pointer (some ⟨g,0,none⟩), .int .i64 (i:Nat)] w fun e w'=>e= .returned (.bool true)∧Below w.heap.size w w':=
 (tis_c g n cap a wv i w h).mono fun e w' hh=>by
  obtain⟨h1,h2⟩:=hh
  rw[decide_eq_true (show(0:Int)≤(i:Int) by omega),decide_eq_true (show(i:Int) < (n:Int) by omega)] at h1
  exact⟨h1,h2⟩
theorem tshelf_c (g b:Nat) (T:Nat→Prop) (t:TownS) (i:Nat) (hi:i < t.sites.length) (w:World) (h:TownAt w b T g t):
  Calls Tryz.prog 25 #[.pointer (some ⟨g,0,none⟩), .int .i64 (i:Nat)] w fun e w'=> ∃a c,e= .returned (.tuple #[.slice a t.sites[i].L.length c, .int .i64 0])∧VOwn w' w.heap.size (.slice a t.sites[i].L.length c) t.sites[i].L∧Below w.heap.size w w':=by
 obtain⟨qs,cap,gi,wv,hblk,hqs,hq,hS,hTi,hne,hqg,hset⟩:=h.use hi
 have HSET:=jD hset
 have HBK:=jD hblk
 have HSI:=jD hS
 have HGL:=jD h.lt
 have HGI:=jD hS.lt
 have HQ:=jD hq
 have hi0:decide ((0:Int)≤(i:Int))=true:=by simp
 have hin:decide ((i:Int) < (t.sites.length:Int))=true:=by simp;omega
 clear h hblk hS hset hTi hne hqg hq hqs
 go_enter Tryz.func25,Tryz.ntmps25
 go_wp2_with fail
 (with_reducible refine(tis_in hi w HBK.out).mono ?_)
 rintro e w1 ⟨rfl,hb⟩
 have HB1:=jD hb
 have c0:w1.cell? ⟨g,0,none⟩=some (.slice (some ⟨qs,0,none⟩) t.sites.length cap):=cell_of_block (j:=0) (below_keep hb HBK.out) rfl
 have cq:=ckeep hb HQ.out
 have HS1:=jD (HSI.out.below hb)
 clear hb
 go_wp2_with fail
 clear c0 cq
 (with_reducible refine(sshelf_c gi b _ w1 HS1.out).mono ?_)
 rintro e w2 ⟨a,c,rfl,hv,hb⟩
 have HV:=jD (VOwn.mono hv HB1.out.size)
 have HB2:=jD (bstep HB1.out hb)
 clear hv hb
 go_wp2
 go_ret2
 exact⟨_,_,rfl,HV.out,HB2.out⟩
theorem let_cells {w:World} {b:Nat} {x:LetS} {c:List Value} (h:LetAt w b x c): ∃v1 v2:Value,c=[.int .i64 x.to,v1,v2]∧((x.isB=false∧v2= .pointer none∧ ∃q,v1= .pointer (some ⟨q,0,none⟩))∨(x.isB=true∧v1= .pointer none∧ ∃q,v2= .pointer (some ⟨q,0,none⟩))):=by
 cases x with
 | ask t a=>obtain ⟨q,rfl, -⟩:=h;exact ⟨_,_,rfl, .inl ⟨rfl,rfl,q,rfl⟩⟩
 | bat t bt=>obtain ⟨q,rfl, -⟩:=h;exact ⟨_,_,rfl, .inr ⟨rfl,rfl,q,rfl⟩⟩
theorem row_let {w:World} {b base k:Nat} {v:Value} {l:List LetS} {css:List (List Value)} (hr:w.ownsRow base 136 3 v l.length css.flatten) (hl:LetsAt w b l css) (hk:k < l.length):
  ∃qw cap c,v= .slice (some ⟨qw,0,none⟩) l.length cap∧qw < w.heap.size∧css[k]? =some c∧LetAt w b l[k] c∧ ∀j x,c[j]? =some x→w.cell? ⟨qw,k*3+j,none⟩=some x:=by
 have hk2:k < css.length:=by have:=hl.len;omega
 have hf:=hl.flat
 rcases hr.2 with⟨-,h0⟩ | ⟨g,cap,cur,rfl,h2,h3,h4⟩
 ·omega
 ·refine⟨g,cap,css[k],rfl,hlt_of h3,List.getElem?_eq_getElem hk2,hl.each k hk hk2,fun j x hj=> ?_⟩
  have:=hr.cells (g:=g) rfl (k*3+j) x (flat_get hf k (List.getElem?_eq_getElem hk2) j hj)
  rw[Addr.add_lit,Nat.zero_add] at this;exact this
def wayC (l:List LetS):List Value:=l.map fun x=> .bool x.isB
theorem tway_c (g b:Nat) (T:Nat→Prop) (t:TownS) (w:World) (h:TownAt w b T g t):
  Calls Tryz.prog 58 #[.pointer (some ⟨g,0,none⟩)] w fun e w'=> ∃a c,e= .returned (.slice a t.way.length c)∧w'.ownsRow w.heap.size 4 1 (.slice a t.way.length c) t.way.length (wayC t.way)∧Below w.heap.size w w':=by
 obtain⟨sv,wv,css,hblk,hlets,hrow, -⟩:=h.letters
 have h60:=h.ok.lw
 obtain⟨wa,wc,rfl⟩:=owns_slice hrow
 have HLETS:=jD hlets
 have HROW:=jD hrow
 have c1:w.cell? ⟨g,1,none⟩=some (.slice wa t.way.length wc):=cell_of_block (j:=1) hblk rfl
 generalize t.way=l at*
 clear h hblk hlets hrow
 go_enter Tryz.func58,Tryz.ntmps58
 go_wp2
 clear c1
 go_loopw [11,3] (fun i ov wr=> ∃k:Nat,k≤l.length∧i= .int .i64 k∧wr.ownsRow w.heap.size 4 1 ov k (wayC (l.take k))∧Below w.heap.size w wr) (fun i _ _=>l.length - (intOf i).toNat)
 case atStart=>exact ⟨0,Nat.zero_le _,rfl,World.ownsRow_nil _ _ _ _,Below.refl _ _⟩
 case round=>
  obtain⟨k,hk,rfl,hown,hbl⟩:=hrel
  obtain⟨oa,oc,hov⟩:=owns_slice hown
  subst hov
  have HOW:=jD hown
  have HBL:=jD hbl
  by_cases hlt:k < l.length
  rotate_left
  ·obtain rfl:k=l.length:=by omega
   rw[List.take_length] at HOW
   have hkb:decide ((l.length:Int) < (l.length:Int))=false:=by simp
   clear hown hbl
   go_wp2
   go_ret
   exact⟨_,_,rfl,HOW.out,HBL.out⟩
  obtain⟨qw,cap,c,hsl,hqw,hck,hla,hcc⟩:=row_let HROW.out HLETS.out hlt
  simp only[Value.slice.injEq] at hsl
  obtain⟨rfl, -,rfl⟩:=hsl
  obtain⟨v1,v2,rfl,hor⟩:=let_cells hla
  have c0:=hbl.cell (p:=⟨qw,k*3+0,none⟩) hqw |>.trans (hcc 0 _ rfl)
  have c1:=hbl.cell (p:=⟨qw,k*3+1,none⟩) hqw |>.trans (hcc 1 _ rfl)
  have c2:=hbl.cell (p:=⟨qw,k*3+2,none⟩) hqw |>.trans (hcc 2 _ rfl)
  rw[Nat.add_zero] at c0
  have hltb:decide ((k:Int) < (l.length:Int))=true:=by simp;omega
  have HT:=jD (show wayC (l.take (k+1))=wayC (l.take k)++[.bool l[k].isB] by unfold wayC;rw [List.take_succ_eq_append_getElem hlt,List.map_append];rfl)
  generalize l[k].to=to9 at*
  generalize l[k].isB=isb at*
  clear hck hla hcc hown hbl
  have key: ∃y:Value,y=v2∧v1.oneCell'=true∧v2.oneCell'=true:=⟨_,rfl,by rcases hor with⟨-, -,q,rfl⟩ | ⟨-,rfl, -⟩ <;> rfl,by rcases hor with⟨-,rfl, -⟩ | ⟨-, -,q,rfl⟩ <;> rfl⟩
  have hbx:=bal (W:=wr) (.cells #[.int .i64 to9,v1,v2] 136)
  have HO6:=jD (owns_below HOW.out hbx)
  have HB6:=jD (bstep HBL.out hbx)
  clear HOW HBL hbx
  have hsz:=HB6.out.size
  have HFIN: ∀(bv:Bool),bv=isb→ ∀(v9:Value) (w9:World),w9.ownsRow w.heap.size 4 1 v9 (k+1) (wayC (l.take k)++[.bool bv])→Below w.heap.size w w9→ ∃k':Nat,k'≤l.length∧(Value.int .i64 ((k:Int)+1)= .int .i64 k')∧w9.ownsRow w.heap.size 4 1 v9 k' (wayC (l.take k'))∧Below w.heap.size w w9:=fun bv hb v9 w9 ho hb9=>⟨k+1,by omega,by simp,by rw[HT.out,←hb];exact ho,hb9⟩
  replace HFIN:=jD HFIN
  have HC0:=jD c0
  clear key HT c0 hqw
  rcases hor with⟨hb,rfl,q,rfl⟩ | ⟨hb,rfl,q,rfl⟩
  ·have HBI:=jD hb
   clear hb
   have c0:=HC0.out
   go_wp2_with (at_builtin;apply Classical.byContradiction;intro hcon)
   refine hcon ?_
   (refine wpList_append_new2 (w0:=w) rfl (.tmp 15) (.tmp 19) 107 rfl w.heap.size 4 (.bool false) 1 1 Tryz.underlying107 BoolTy.info rfl (by decide) (.slice oa k oc) k _ (by simp[go_sem]) HO6.out [.bool false] rfl (by simp[Value.oneCell']) (by simp[go_sem]) HB6.out hsz (by unfold maxLen;omega) (by omega) ?_)
   intro v9 w9 ho hgr
   obtain⟨va,vc,hva⟩:=owns_slice ho
   subst hva
   have HB9:=jD (HB6.out.grown hgr hsz (fun q hq=>(HO6.out.lt q hq).1))
   have HO9:=jD ho
   clear ho hgr hcon hsz c1 c2
   go_wp2
   go_roundw
   case rel=>exact HFIN.out false HBI.out.symm _ _ HO9.out HB9.out
   case measure=>simp [intOf] <;> omega
  ·have HBI:=jD hb
   clear hb
   have c0:=HC0.out
   go_wp2_with (at_builtin;apply Classical.byContradiction;intro hcon)
   refine hcon ?_
   (refine wpList_append_new2 (w0:=w) rfl (.tmp 15) (.tmp 19) 107 rfl w.heap.size 4 (.bool false) 1 1 Tryz.underlying107 BoolTy.info rfl (by decide) (.slice oa k oc) k _ (by simp[go_sem]) HO6.out [.bool true] rfl (by simp[Value.oneCell']) (by simp[go_sem]) HB6.out hsz (by unfold maxLen;omega) (by omega) ?_)
   intro v9 w9 ho hgr
   obtain⟨va,vc,hva⟩:=owns_slice ho
   subst hva
   have HB9:=jD (HB6.out.grown hgr hsz (fun q hq=>(HO6.out.lt q hq).1))
   have HO9:=jD ho
   clear ho hgr hcon hsz c1 c2
   go_wp2
   go_roundw
   case rel=>exact HFIN.out true HBI.out.symm _ _ HO9.out HB9.out
   case measure=>simp [intOf] <;> omega
def GvT (w:World) (b:Nat) (bt:BtS) (v:Value):Prop:= ∃(a1:Option Addr) (c1:Nat) (a2:Option Addr) (c2:Nat) (a3:Option Addr) (c3:Nat),v= .tuple #[.agg #[.int .i64 bt.site, .int .i64 bt.stamp, .slice a1 bt.V.length c1, .slice a2 bt.G.length c2, .slice a3 bt.S.length c3], .int .i64 0]∧BtOwn w b (.slice a1 bt.V.length c1) (.slice a2 bt.G.length c2) (.slice a3 bt.S.length c3) bt
def GvA (w:World) (b:Nat) (bt:BtS) (v:Value):Prop:= ∃(a1:Option Addr) (c1:Nat) (a2:Option Addr) (c2:Nat) (a3:Option Addr) (c3:Nat),v= .agg #[.int .i64 bt.site, .int .i64 bt.stamp, .slice a1 bt.V.length c1, .slice a2 bt.G.length c2, .slice a3 bt.S.length c3]∧BtOwn w b (.slice a1 bt.V.length c1) (.slice a2 bt.G.length c2) (.slice a3 bt.S.length c3) bt
theorem GvT.stp {G:Nat→Prop} {w w':World} {b:Nat} {bt:BtS} {v:Value} (h:GvT w b bt v) (hs:Stp G w w'):GvT w' b bt v:=by
 obtain⟨a1,c1,a2,c2,a3,c3,e,ho⟩:=h;exact ⟨a1,c1,a2,c2,a3,c3,e,ho.stp hs⟩
theorem GvA.stp {G:Nat→Prop} {w w':World} {b:Nat} {bt:BtS} {v:Value} (h:GvA w b bt v) (hs:Stp G w w'):GvA w' b bt v:=by
 obtain⟨a1,c1,a2,c2,a3,c3,e,ho⟩:=h;exact ⟨a1,c1,a2,c2,a3,c3,e,ho.stp hs⟩
def BatNew (w:World) (lo:Nat) (v:Value):Prop:= ∃q,v= .pointer (some ⟨q,0,none⟩)∧w.heap[q]? =some (Obj.cells #[.int .i64 0, .int .i64 0, .slice none 0 0, .slice none 0 0, .slice none 0 0] 52 (0,0))∧lo≤q
theorem BatNew.below {w w':World} {lo:Nat} {v:Value} (h:BatNew w lo v) (hb:Below w.heap.size w w'):BatNew w' lo v:=by
 obtain⟨q,e,h1,h2⟩:=h;exact ⟨q,e,below_keep hb h1,h2⟩
def BatIs (w:World) (b lo:Nat) (bt:BtS) (v:Value):Prop:= ∃q,v= .pointer (some ⟨q,0,none⟩)∧BatBk w b q bt∧lo≤q
theorem BatIs.below {w w':World} {b lo:Nat} {bt:BtS} {v:Value} (h:BatIs w b lo bt v) (hb:Below w.heap.size w w'):BatIs w' b lo bt v:=by
 obtain⟨q,e,h1,h2⟩:=h;exact ⟨q,e,h1.stp (G:=fun _=>False) (Stp.of_below hb) fun h=>h,h2⟩
theorem set5 {w:World} {q:Nat} {x0 x1 x2 x3 x4 y0 y1 y2 y3 y4:Value} {t:TypeId} (h:w.heap[q]? =some (Obj.cells #[x0,x1,x2,x3,x4] t (0,0))) (ht:dataT t=false):
  (((((w.setCell ⟨q,0,none⟩ y0).setCell ⟨q,1,none⟩ y1).setCell ⟨q,2,none⟩ y2).setCell ⟨q,3,none⟩ y3).setCell ⟨q,4,none⟩ y4).heap[q]? =some (Obj.cells #[y0,y1,y2,y3,y4] t (0,0))∧Stp (fun k=>k=q) w (((((w.setCell ⟨q,0,none⟩ y0).setCell ⟨q,1,none⟩ y1).setCell ⟨q,2,none⟩ y2).setCell ⟨q,3,none⟩ y3).setCell ⟨q,4,none⟩ y4):=by
 have b0:=heap_set_same (j:=0) (v:=y0) h
 have b1:=heap_set_same (j:=1) (v:=y1) b0
 have b2:=heap_set_same (j:=2) (v:=y2) b1
 have b3:=heap_set_same (j:=3) (v:=y3) b2
 have b4:=heap_set_same (j:=4) (v:=y4) b3
 exact⟨by rw[b4];rfl,((((Stp.set h ht).trans (Stp.set b0 ht)).trans (Stp.set b1 ht)).trans (Stp.set b2 ht)).trans (Stp.set b3 ht)⟩
theorem tbring_bat (g b:Nat) (T:Nat→Prop) (t:TownS) (j to:Nat) (bt:BtS) (hj:t.way[j]? =some (.bat to bt)) (wz:World) (h:TownAt wz b T g t) (hTn: ∀q,wz.heap.size≤q→T q) (hto0:to < t.sites.length):
  Calls Tryz.prog 20 #[.pointer (some ⟨g,0,none⟩), .int .i64 (j:Nat)] wz fun e w'=>e= .returned (.int .i64 (tookE t.sites[to] bt))∧TownAt w' b T g (takeT t to hto0 bt)∧Stp T wz w':=by
 have h60:=h.ok.lw
 obtain⟨hjl,hje⟩:=List.getElem?_eq_some_iff.1 hj
 have hlo:=h.ok.way _ (List.getElem_mem hjl)
 rw[hje] at hlo
 obtain⟨sv,wv,css,hblk,hlets,hrow,hwT,hset⟩:=h.letters
 obtain⟨qw,wcap,c,rfl,hqw,hck,hla,hcc⟩:=row_let hrow hlets hjl
 rw[hje] at hla
 obtain⟨qb,rfl,vv,gv,pv,hbk,hbo⟩:=hla
 obtain⟨qs,cap,gi,wv2,hblk2,hqs,hq,hS,hTi,hne,hqg,hset2⟩:=h.use hto0
 have he2:=hblk
 rw[hblk2] at he2
 simp only[Option.some.injEq,Obj.cells.injEq,and_true,Array.mk.injEq,List.cons.injEq] at he2
 obtain⟨rfl,rfl⟩:=he2
 have c1:wz.cell? ⟨g,1,none⟩=some (.slice (some ⟨qw,0,none⟩) t.way.length wcap):=cell_of_block (j:=1) hblk rfl
 have l0:=hcc 0 _ rfl
 have l1:=hcc 1 _ rfl
 have l2:=hcc 2 _ rfl
 rw[Nat.add_zero] at l0
 obtain⟨BL,hBL⟩: ∃BL,BL=wz.heap.size:=⟨_,rfl⟩
 obtain⟨W1,hW1⟩: ∃W1,W1=wz.alloc (.cells #[.int .i64 (to:Nat), .pointer none, .pointer (some ⟨qb,0,none⟩)] 136):=⟨_,rfl⟩
 have hb1:Below wz.heap.size wz W1:=by rw[hW1];exact bal _
 have HLB:=jD (show W1.heap[BL]? =some (Obj.cells #[.int .i64 (to:Nat), .pointer none, .pointer (some ⟨qb,0,none⟩)] 136 (0,0)) by rw[hW1];exact alloc_new _ _ _ _ hBL)
 have HB1:=jD hb1
 have HTW:=jD h
 have HTN:=jD hTn
 have HBLE:=jD hBL
 obtain⟨va,vc,rfl⟩:=hbo.vers.shape
 obtain⟨ga,gc,rfl⟩:=GOwn.shape hbo.gone
 obtain⟨pa,pc,rfl⟩:=hbo.parts.shape
 have HBK:=jD (below_keep hb1 hbk)
 have HBO:=jD (hbo.below hb1)
 have HLO:=jD hlo
 have HSI:=jD (hS.below hb1)
 have HGI:=jD hS.lt
 have HTI:=jD hTi
 have HC0:=jD (cell_of_block (j:=0) (below_keep hb1 hblk) rfl:W1.cell? ⟨g,0,none⟩=some (.slice (some ⟨qs,0,none⟩) t.sites.length cap))
 have HCQ:=jD (ckeep hb1 hq)
 have HL0:=jD (cell_of_block (j:=0) HLB.out rfl:W1.cell? ⟨BL,0,none⟩=some (.int .i64 (to:Nat)))
 have HL1:=jD (cell_of_block (j:=1) HLB.out rfl:W1.cell? ⟨BL,1,none⟩=some (.pointer none))
 have HL2:=jD (cell_of_block (j:=2) HLB.out rfl:W1.cell? ⟨BL,2,none⟩=some (.pointer (some ⟨qb,0,none⟩)))
 have HSET2:=jD hset2
 have d0:decide ((j:Int) < 0)=false:=by simp
 have d1:decide ((t.way.length:Int)≤(j:Int))=false:=by simp;omega
 have hjn:(j:Int) < (t.way.length:Int):=by omega
 have hin:decide ((to:Int) < (t.sites.length:Int))=true:=by simp;omega
 have H60:=jD h60
 clear h hTn hj hje hlo hblk hlets hrow hwT hset hck hcc hbk hblk2 hqs hq hS hTi hne hqg hset2 hb1 hbo
 go_enter Tryz.func20,Tryz.ntmps20
 go_wp2_with fail
 rw[←hBL,←hW1]
 clear hW1 hBL l0 l1 l2 c1
 obtain⟨E9,hE9⟩: ∃E9,E9=tookE t.sites[to] bt:=⟨_,rfl⟩
 obtain⟨s9,hs9⟩: ∃s9,s9=tookS t.sites[to] bt:=⟨_,rfl⟩
 have HMK:=jD (fun (wx:World) (hb:Below W1.heap.size W1 wx)=>show Calls Tryz.prog 23 #[.pointer (some ⟨gi,0,none⟩), .agg #[.int .i64 bt.site, .int .i64 bt.stamp, .slice va bt.V.length vc, .slice ga bt.G.length gc, .slice pa bt.S.length pc]] wx fun e w'=>e= .returned (.int .i64 E9)∧SiteAt w' b gi s9∧Stp (fun q=>q=gi) wx w' from
  (take_bt (HSI.out.below hb) HLO.out.2 (HBO.out.below hb)).mono fun e w' hh=>by
   obtain⟨h1,h2,h3⟩:=hh
   exact⟨by rw[h1,hE9],by rw[hs9];exact h2,h3⟩)
 have HSETS:=jD (fun (w':World) (hs:Stp (fun q=>q=gi) wz w') (hn:SiteAt w' b gi s9)=>show TownAt w' b T g (takeT t to hto0 bt) from by
  unfold takeT;rw [←hs9];exact HSET2.out w' s9 hs hn (by rw[hs9];exact (tookS_me _ _).1))
 have HK0:=jD (cell_of_block (j:=0) HBK.out rfl:W1.cell? ⟨qb,0,none⟩=some (.int .i64 bt.site))
 have HK1:=jD (cell_of_block (j:=1) HBK.out rfl:W1.cell? ⟨qb,1,none⟩=some (.int .i64 bt.stamp))
 have HK2:=jD (cell_of_block (j:=2) HBK.out rfl:W1.cell? ⟨qb,2,none⟩=some (.slice va bt.V.length vc))
 have HK3:=jD (cell_of_block (j:=3) HBK.out rfl:W1.cell? ⟨qb,3,none⟩=some (.slice ga bt.G.length gc))
 have HK4:=jD (cell_of_block (j:=4) HBK.out rfl:W1.cell? ⟨qb,4,none⟩=some (.slice pa bt.S.length pc))
 have HE9:=jD hE9
 clear hE9 hs9
 refine Cl3.region0 79 rfl (fun u=>[12]) (fun u ww=>Below W1.heap.size W1 ww) (fun _=>[]) (fun jq v ww=>match jq with | 0=>v= .pointer (some ⟨g,0,none⟩) | 1=>v= .pointer (some ⟨g,0,none⟩) | 2=>v= .pointer (some ⟨g,0,none⟩) | 3=>v= .slice (some ⟨qs,0,none⟩) t.sites.length cap | 4=>v= .pointer (some ⟨BL,0,none⟩) | 5=>v= .int .i64 (to:Nat) | 6=>v= .pointer (some ⟨qs,to,none⟩) | 7=>v= .pointer (some ⟨gi,0,none⟩) | 8=>v= .pointer (some ⟨BL,2,none⟩) | 9=>v= .pointer (some ⟨qb,0,none⟩) | 10=>v= .pointer (some ⟨qb,0,none⟩) | 11=>v= .agg #[.int .i64 bt.site, .int .i64 bt.stamp, .slice va bt.V.length vc, .slice ga bt.G.length gc, .slice pa bt.S.length pc] | 12=>SiteAt ww b gi s9∧v= .int .i64 E9 | 13=>v= .int .i64 E9 | _=>True) (fun ww=>Stp (fun q=>q=gi) wz ww) (fun jq ww ww'=>(jq≠12→Below ww.heap.size ww ww')∧(jq=12→Stp (fun q=>q=gi) ww ww')) Tryz.mixed (by decide+kernel) (Stp.of_below HB1.out).drew (fun u=>(Below.refl _ _).drew) ?_ (fun jq ww ww' u hk h hR=>bstep h (hR.1 (by intro e;simp [e] at hk))) ?_ ?_
 ·intro q r v w w' hne hk hlt h hR
  match r,hk,hlt,h,hne with
  | 0,_,_,h,_=>exact h
  | 1,_,_,h,_=>exact h
  | 2,_,_,h,_=>exact h
  | 3,_,_,h,_=>exact h
  | 4,_,_,h,_=>exact h
  | 5,_,_,h,_=>exact h
  | 6,_,_,h,_=>exact h
  | 7,_,_,h,_=>exact h
  | 8,_,_,h,_=>exact h
  | 9,_,_,h,_=>exact h
  | 10,_,_,h,_=>exact h
  | 11,_,_,h,_=>exact h
  | 12,hk,hlt,h,hne=>exact ⟨h.1.below (hR.1 (by exact hne)),h.2⟩
  | 13,_,_,h,_=>exact h
  | _+14,_,_,_,_=>trivial
 ·refine⟨?_, ?_, ?_, ?_, ?_, ?_, ?_, ?_, ?_, ?_, ?_, ?_, ?_, ?_,trivial⟩
  ·intro x wx hG
   have f0:=hG.o 0
   replace hG:=hG.good
   go_wp2
   exact⟨_,rfl,rfl,hG,⟨fun _=>Below.refl _ _,fun h=>zd h⟩⟩
  ·intro x wx hG
   have g0:(x.tmps.getD 29 undef)= .pointer (some ⟨g,0,none⟩):=hG.c 0 _ rfl
   have g0b:=gd g0
   replace hG:=hG.good
   go_wp2
   exact⟨_,rfl,rfl,hG,⟨fun _=>Below.refl _ _,fun h=>zd h⟩⟩
  ·intro x wx hG
   have g1:(x.tmps.getD 30 undef)= .pointer (some ⟨g,0,none⟩):=hG.c 1 _ rfl
   have g1b:=gd g1
   replace hG:=hG.good
   go_wp2
   exact⟨_,rfl,rfl,hG,⟨fun _=>Below.refl _ _,fun h=>zd h⟩⟩
  ·intro x wx hG
   have g2:(x.tmps.getD 31 undef)= .pointer (some ⟨g,0,none⟩):=hG.c 2 _ rfl
   have g2b:=gd g2
   have hp0:=hG.p 0
   replace hG:=hG.good
   have c_HC0:=ckeep hp0 HC0.out
   go_wp2
   exact⟨_,rfl,rfl,hG,⟨fun _=>Below.refl _ _,fun h=>zd h⟩⟩
  ·intro x wx hG
   have f5:=hG.o 5
   replace hG:=hG.good
   go_wp2
   exact⟨_,rfl,rfl,hG,⟨fun _=>Below.refl _ _,fun h=>zd h⟩⟩
  ·intro x wx hG
   have g4:(x.tmps.getD 33 undef)= .pointer (some ⟨BL,0,none⟩):=hG.c 4 _ rfl
   have g4b:=gd g4
   have hp0:=hG.p 0
   replace hG:=hG.good
   have c_HL0:=ckeep hp0 HL0.out
   go_wp2
   exact⟨_,rfl,rfl,hG,⟨fun _=>Below.refl _ _,fun h=>zd h⟩⟩
  ·intro x wx hG
   have g3:(x.tmps.getD 32 undef)= .slice (some ⟨qs,0,none⟩) t.sites.length cap:=hG.c 3 _ rfl
   have g3b:=gd g3
   have g5:(x.tmps.getD 34 undef)= .int .i64 (to:Nat):=hG.c 5 _ rfl
   have g5b:=gd g5
   replace hG:=hG.good
   go_wp2
   exact⟨_,rfl,rfl,hG,⟨fun _=>Below.refl _ _,fun h=>zd h⟩⟩
  ·intro x wx hG
   have g6:(x.tmps.getD 35 undef)= .pointer (some ⟨qs,to,none⟩):=hG.c 6 _ rfl
   have g6b:=gd g6
   have hp0:=hG.p 0
   replace hG:=hG.good
   have c_HCQ:=ckeep hp0 HCQ.out
   go_wp2
   exact⟨_,rfl,rfl,hG,⟨fun _=>Below.refl _ _,fun h=>zd h⟩⟩
  ·intro x wx hG
   have f5:=hG.o 5
   replace hG:=hG.good
   go_wp2
   exact⟨_,rfl,rfl,hG,⟨fun _=>Below.refl _ _,fun h=>zd h⟩⟩
  ·intro x wx hG
   have g8:(x.tmps.getD 37 undef)= .pointer (some ⟨BL,2,none⟩):=hG.c 8 _ rfl
   have g8b:=gd g8
   have hp0:=hG.p 0
   replace hG:=hG.good
   have c_HL2:=ckeep hp0 HL2.out
   go_wp2
   exact⟨_,rfl,rfl,hG,⟨fun _=>Below.refl _ _,fun h=>zd h⟩⟩
  ·intro x wx hG
   have g9:(x.tmps.getD 38 undef)= .pointer (some ⟨qb,0,none⟩):=hG.c 9 _ rfl
   have g9b:=gd g9
   replace hG:=hG.good
   go_wp2
   exact⟨_,rfl,rfl,hG,⟨fun _=>Below.refl _ _,fun h=>zd h⟩⟩
  ·intro x wx hG
   have g10:(x.tmps.getD 39 undef)= .pointer (some ⟨qb,0,none⟩):=hG.c 10 _ rfl
   have g10b:=gd g10
   have hp0:=hG.p 0
   replace hG:=hG.good
   have c_HK0:=ckeep hp0 HK0.out
   have c_HK1:=ckeep hp0 HK1.out
   have c_HK2:=ckeep hp0 HK2.out
   have c_HK3:=ckeep hp0 HK3.out
   have c_HK4:=ckeep hp0 HK4.out
   go_wp2
   exact⟨_,rfl,rfl,hG,⟨fun _=>Below.refl _ _,fun h=>zd h⟩⟩
  ·intro x wx hG
   have g7:(x.tmps.getD 36 undef)= .pointer (some ⟨gi,0,none⟩):=hG.c 7 _ rfl
   have g7b:=gd g7
   have g11:(x.tmps.getD 40 undef)= .agg #[.int .i64 bt.site, .int .i64 bt.stamp, .slice va bt.V.length vc, .slice ga bt.G.length gc, .slice pa bt.S.length pc]:=hG.c 11 _ rfl
   have g11b:=gd g11
   have hp0:=hG.p 0
   replace hG:=hG.good
   have HN:=jD (HMK.out wx hp0)
   go_wp2_with fail
   (with_reducible refine(HN.out).mono ?_)
   rintro e wq ⟨rfl,h1,h2⟩
   have H1:=jD h1
   have H2:=jD h2
   clear h1 h2 HN
   go_wp2
   exact⟨_,rfl,⟨H1.out,rfl⟩,hG.trans H2.out,⟨fun h=>absurd rfl h,fun _=>H2.out⟩⟩
  ·intro x wx hG
   have g12:SiteAt wx b gi s9∧(x.tmps.getD 41 undef)= .int .i64 E9:=hG.c 12 _ rfl
   replace hG:=hG.good
   have g12v:=g12.2
   have g12vb:=g12v
   rw[Array.getD_eq_getD_getElem?] at g12vb
   go_wp2
   exact⟨_,rfl,rfl,hG,⟨fun _=>Below.refl _ _,fun h=>zd h⟩⟩
 ·intro vals w2 hg hF
  obtain⟨g0,g1,g2,g3,g4,g5,g6,g7,g8,g9,g10,g11,g12,g13, -⟩:=hF
  have e0:=gq (vals 0) g0
  have e1:=gq (vals 1) g1
  have e2:=gq (vals 2) g2
  have e3:=gq (vals 3) g3
  have e4:=gq (vals 4) g4
  have e5:=gq (vals 5) g5
  have e6:=gq (vals 6) g6
  have e7:=gq (vals 7) g7
  have e8:=gq (vals 8) g8
  have e9:=gq (vals 9) g9
  have e10:=gq (vals 10) g10
  have e11:=gq (vals 11) g11
  replace g12:SiteAt w2 b gi s9∧(vals 12)= .int .i64 E9:=g12 rfl
  have e13:=gq (vals 13) g13
  simp only[Cl3.puts,e0,e1,e2,e3,e4,e5,e6,e7,e8,e9,e10,e11,e13]
  clear e0 e1 e2 e3 e4 e5 e6 e7 e8 e9 e10 e11 e13 g0 g1 g2 g3 g4 g5 g6 g7 g8 g9 g10 g11 g13
  go_simp
  generalize vals 12=mk9 at*
  have HST:=jD hg
  have HSN:=jD g12.1
  clear g12 hg
  go_wp2
  go_ret
  exact⟨by rw[←HE9.out];rfl,HSETS.out _ HST.out HSN.out,HST.out.mono fun k hk=>by rw[hk];exact HTI.out⟩
theorem tbring_ask (g b:Nat) (T:Nat→Prop) (t:TownS) (j to:Nat) (ak:AskS) (hj:t.way[j]? =some (.ask to ak)) (wz:World) (h:TownAt wz b T g t) (hTn: ∀q,wz.heap.size≤q→T q) (hto0:to < t.sites.length) (hw60:t.way.length < 60):
  Calls Tryz.prog 20 #[.pointer (some ⟨g,0,none⟩), .int .i64 (j:Nat)] wz fun e w'=>e= .returned (.int .i64 0)∧TownAt w' b T g { t with way:=t.way++[ansT t.sites[to] ak] } ∧Stp T wz w':=by
 have h60:=h.ok.lw
 obtain⟨hjl,hje⟩:=List.getElem?_eq_some_iff.1 hj
 have hlo:=h.ok.way _ (List.getElem_mem hjl)
 rw[hje] at hlo
 obtain⟨sv,wv,css,hblk,hlets,hrow,hwT,hset⟩:=h.letters
 obtain⟨qw,wcap,c,rfl,hqw,hck,hla,hcc⟩:=row_let hrow hlets hjl
 rw[hje] at hla
 obtain⟨qb,rfl,fv,pv,hbk,hfo,hpo⟩:=hla
 obtain⟨qs,cap,gi,wv2,hblk2,hqs,hq,hS,hTi,hne,hqg,hset2⟩:=h.use hto0
 have he2:=hblk
 rw[hblk2] at he2
 simp only[Option.some.injEq,Obj.cells.injEq,and_true,Array.mk.injEq,List.cons.injEq] at he2
 obtain⟨rfl,rfl⟩:=he2
 have c1:wz.cell? ⟨g,1,none⟩=some (.slice (some ⟨qw,0,none⟩) t.way.length wcap):=cell_of_block (j:=1) hblk rfl
 have l0:=hcc 0 _ rfl
 have l1:=hcc 1 _ rfl
 have l2:=hcc 2 _ rfl
 rw[Nat.add_zero] at l0
 obtain⟨BL,hBL⟩: ∃BL,BL=wz.heap.size:=⟨_,rfl⟩
 obtain⟨W1,hW1⟩: ∃W1,W1=wz.alloc (.cells #[.int .i64 (to:Nat), .pointer (some ⟨qb,0,none⟩), .pointer none] 136):=⟨_,rfl⟩
 have hb1:Below wz.heap.size wz W1:=by rw[hW1];exact bal _
 have HLB:=jD (show W1.heap[BL]? =some (Obj.cells #[.int .i64 (to:Nat), .pointer (some ⟨qb,0,none⟩), .pointer none] 136 (0,0)) by rw[hW1];exact alloc_new _ _ _ _ hBL)
 have HB1:=jD hb1
 have HTW:=jD h
 have HTN:=jD hTn
 have HBLE:=jD hBL
 obtain⟨fa,fn,fc,rfl⟩:=FO.shape0 hfo
 obtain⟨pa,pc,rfl⟩:=hpo.shape
 have HBK:=jD (below_keep hb1 hbk)
 have HFO:=jD (hfo.below hb1)
 have HPO:=jD (hpo.below hb1)
 have c1a:(wz.alloc (.cells #[.int .i64 (to:Nat), .pointer (some ⟨qb,0,none⟩), .pointer none] 136)).cell? ⟨g,1,none⟩=some (.slice (some ⟨qw,0,none⟩) t.way.length wcap):=by rw[←hW1];exact ckeep hb1 c1
 have hd6:decide ((60:Int)≤(t.way.length:Int))=false:=by simp;omega
 have HLO:=jD hlo
 have HSI:=jD (hS.below hb1)
 have HGI:=jD hS.lt
 have HTI:=jD hTi
 have HC0:=jD (cell_of_block (j:=0) (below_keep hb1 hblk) rfl:W1.cell? ⟨g,0,none⟩=some (.slice (some ⟨qs,0,none⟩) t.sites.length cap))
 have HCQ:=jD (ckeep hb1 hq)
 have HL0:=jD (cell_of_block (j:=0) HLB.out rfl:W1.cell? ⟨BL,0,none⟩=some (.int .i64 (to:Nat)))
 have HL1:=jD (cell_of_block (j:=1) HLB.out rfl:W1.cell? ⟨BL,1,none⟩=some (.pointer (some ⟨qb,0,none⟩)))
 have HL2:=jD (cell_of_block (j:=2) HLB.out rfl:W1.cell? ⟨BL,2,none⟩=some (.pointer none))
 have HSET2:=jD hset2
 have d0:decide ((j:Int) < 0)=false:=by simp
 have d1:decide ((t.way.length:Int)≤(j:Int))=false:=by simp;omega
 have hjn:(j:Int) < (t.way.length:Int):=by omega
 have hin:decide ((to:Int) < (t.sites.length:Int))=true:=by simp;omega
 have H60:=jD h60
 clear h hTn hj hje hlo hblk hlets hrow hwT hset hck hcc hbk hblk2 hqs hq hS hTi hne hqg hset2 hb1 hfo hpo
 go_enter Tryz.func20,Tryz.ntmps20
 go_wp2_with fail
 rw[←hBL,←hW1]
 clear hW1 hBL l0 l1 l2 c1 c1a hd6
 obtain⟨bt,hbt⟩: ∃bt,bt=giveB t.sites[to] ak.site ak.stamp ak.P ak.S:=⟨_,rfl⟩
 have HBT:=jD hbt
 have HBTOK:=jD (show BtSOk bt by rw[hbt];exact giveB_ok HSI.out.ok HLO.out.2.1.site HLO.out.2.1.stamp _ _)
 have HMK:=jD (fun (wx:World) (hb:Below W1.heap.size W1 wx)=>show Calls Tryz.prog 21 #[.pointer (some ⟨gi,0,none⟩), .agg #[.int .i64 ak.site, .int .i64 ak.stamp, .slice fa fn fc, .slice pa ak.S.length pc]] wx fun e w'=> ∃v,e= .returned v∧GvT w' b bt v∧Below wx.heap.size wx w' from by
  obtain⟨FF,hF1,hF2,hF3⟩:=HFO.out.below hb
  obtain⟨AP,hA1,hA2,hA3⟩:=HPO.out.below hb
  have hl:=HLO.out.2.1.ls
  have hA30:AP.length≤30:=by rw[←hA3,List.length_map] at hl;exact hl
  refine(sgive_c gi b t.sites[to] ak.site ak.stamp _ _ FF AP wx (HSI.out.below hb) HLO.out.2.1.site HLO.out.2.1.stamp.1 (FOwn.at_ok hF1 hF2) hF2 (hA1.at_ (fun z hz=>(hA2 z hz).1) (by omega)) (ptsChk_zero.2 ⟨hA30,fun z hz=>(hA2 z hz).1⟩)).mono ?_
  rintro e w' ⟨vv,gv,pv,rfl,ho,hb2⟩
  have e2:giveB t.sites[to] ak.site ak.stamp (ptsOf FF) (AP.map sem)=bt:=by
   rw[hbt,hA3]
   exact giveB_congr HSI.out.ok fun t n ht hn=>by rw[ptsOf_in ht hn];exact hF3 t n ht hn
  rw[e2] at ho
  obtain⟨a1,c1,rfl⟩:=ho.vers.shape
  obtain⟨a2,c2,rfl⟩:=GOwn.shape ho.gone
  obtain⟨a3,c3,rfl⟩:=ho.parts.shape
  have e3:ak.site=bt.site∧ak.stamp=bt.stamp:=by rw[hbt];exact ⟨rfl,rfl⟩
  refine⟨_,rfl,⟨a1,c1,a2,c2,a3,c3,by rw[e3.1,e3.2],ho.mono ?_⟩,hb2⟩
  have h1:=HTW.out.ge.1
  have h2:=HTW.out.lt
  have h3:=HB1.out.size
  have h4:=hb.size
  omega)
 have HK0:=jD (cell_of_block (j:=0) HBK.out rfl:W1.cell? ⟨qb,0,none⟩=some (.int .i64 ak.site))
 have HK1:=jD (cell_of_block (j:=1) HBK.out rfl:W1.cell? ⟨qb,1,none⟩=some (.int .i64 ak.stamp))
 have HK2:=jD (cell_of_block (j:=2) HBK.out rfl:W1.cell? ⟨qb,2,none⟩=some (.slice fa fn fc))
 have HK3:=jD (cell_of_block (j:=3) HBK.out rfl:W1.cell? ⟨qb,3,none⟩=some (.slice pa ak.S.length pc))
 have H6X:=jD hw60
 clear hbt hw60
 refine Cl2.region0 79 rfl [] (fun _=>True) (fun jq=>match jq with | 16=>[17] | _=>[]) (fun jq v ww=>match jq with | 0=>v= .pointer (some ⟨g,0,none⟩) | 1=>v= .pointer (some ⟨g,0,none⟩) | 2=>v= .pointer (some ⟨g,0,none⟩) | 3=>v= .slice (some ⟨qs,0,none⟩) t.sites.length cap | 4=>v= .pointer (some ⟨BL,0,none⟩) | 5=>v= .int .i64 (to:Nat) | 6=>v= .pointer (some ⟨qs,to,none⟩) | 7=>v= .pointer (some ⟨gi,0,none⟩) | 8=>v= .pointer (some ⟨BL,1,none⟩) | 9=>v= .pointer (some ⟨qb,0,none⟩) | 10=>v= .pointer (some ⟨qb,0,none⟩) | 11=>v= .agg #[.int .i64 ak.site, .int .i64 ak.stamp, .slice fa fn fc, .slice pa ak.S.length pc] | 12=>GvT ww b bt v | 13=>GvT ww b bt v | 14=>GvA ww b bt v | 15=>v= .int .i64 0 | 16=>BatNew ww W1.heap.size v | 17=>BatIs ww b W1.heap.size bt v | 18=>v= .int .i64 0 | _=>True) (fun ww=>Below W1.heap.size W1 ww) (fun jq ww ww'=>(jq≠17→Below ww.heap.size ww ww')∧(jq=17→Stp (fun q=>W1.heap.size≤q) ww ww')) Tryz.mixed (by decide+kernel) (Below.refl _ _).drew trivial ?_ (fun _ _ _ _ _ _=>trivial) ?_ ?_
 ·intro q r v w w' hne hk hlt h hR
  match r,hk,hlt,h,hne with
  | 0,_,_,h,_=>exact h
  | 1,_,_,h,_=>exact h
  | 2,_,_,h,_=>exact h
  | 3,_,_,h,_=>exact h
  | 4,_,_,h,_=>exact h
  | 5,_,_,h,_=>exact h
  | 6,_,_,h,_=>exact h
  | 7,_,_,h,_=>exact h
  | 8,_,_,h,_=>exact h
  | 9,_,_,h,_=>exact h
  | 10,_,_,h,_=>exact h
  | 11,_,_,h,_=>exact h
  | 12,hk,hlt,h,hne=>
   by_cases e:q=17
   ·exact h.stp (hR.2 e)
   ·exact h.stp (Stp.of_below (G:=fun _=>False) (hR.1 e))
  | 13,hk,hlt,h,hne=>
   by_cases e:q=17
   ·exact h.stp (hR.2 e)
   ·exact h.stp (Stp.of_below (G:=fun _=>False) (hR.1 e))
  | 14,hk,hlt,h,hne=>
   by_cases e:q=17
   ·exact h.stp (hR.2 e)
   ·exact h.stp (Stp.of_below (G:=fun _=>False) (hR.1 e))
  | 15,_,_,h,_=>exact h
  | 16,hk,hlt,h,hne=>exact h.below (hR.1 (by simpa using hk))
  | 17,hk,hlt,h,hne=>exact h.below (hR.1 (by exact hne))
  | 18,_,_,h,_=>exact h
  | _+19,_,_,_,_=>trivial
 ·refine⟨?_, ?_, ?_, ?_, ?_, ?_, ?_, ?_, ?_, ?_, ?_, ?_, ?_, ?_, ?_, ?_, ?_, ?_, ?_,trivial⟩
  ·intro x wx hG
   have f0:=hG.o 0
   replace hG:=hG.good
   go_wp2
   exact⟨_,rfl,rfl,hG,⟨fun _=>Below.refl _ _,fun h=>zd h⟩⟩
  ·intro x wx hG
   have g0:(x.tmps.getD 49 undef)= .pointer (some ⟨g,0,none⟩):=hG.c 0 _ rfl
   have g0b:=gd g0
   replace hG:=hG.good
   go_wp2
   exact⟨_,rfl,rfl,hG,⟨fun _=>Below.refl _ _,fun h=>zd h⟩⟩
  ·intro x wx hG
   have g1:(x.tmps.getD 50 undef)= .pointer (some ⟨g,0,none⟩):=hG.c 1 _ rfl
   have g1b:=gd g1
   replace hG:=hG.good
   go_wp2
   exact⟨_,rfl,rfl,hG,⟨fun _=>Below.refl _ _,fun h=>zd h⟩⟩
  ·intro x wx hG
   have g2:(x.tmps.getD 51 undef)= .pointer (some ⟨g,0,none⟩):=hG.c 2 _ rfl
   have g2b:=gd g2
   replace hG:=hG.good
   have c_HC0:=ckeep hG HC0.out
   go_wp2
   exact⟨_,rfl,rfl,hG,⟨fun _=>Below.refl _ _,fun h=>zd h⟩⟩
  ·intro x wx hG
   have f5:=hG.o 5
   replace hG:=hG.good
   go_wp2
   exact⟨_,rfl,rfl,hG,⟨fun _=>Below.refl _ _,fun h=>zd h⟩⟩
  ·intro x wx hG
   have g4:(x.tmps.getD 53 undef)= .pointer (some ⟨BL,0,none⟩):=hG.c 4 _ rfl
   have g4b:=gd g4
   replace hG:=hG.good
   have c_HL0:=ckeep hG HL0.out
   go_wp2
   exact⟨_,rfl,rfl,hG,⟨fun _=>Below.refl _ _,fun h=>zd h⟩⟩
  ·intro x wx hG
   have g3:(x.tmps.getD 52 undef)= .slice (some ⟨qs,0,none⟩) t.sites.length cap:=hG.c 3 _ rfl
   have g3b:=gd g3
   have g5:(x.tmps.getD 54 undef)= .int .i64 (to:Nat):=hG.c 5 _ rfl
   have g5b:=gd g5
   replace hG:=hG.good
   go_wp2
   exact⟨_,rfl,rfl,hG,⟨fun _=>Below.refl _ _,fun h=>zd h⟩⟩
  ·intro x wx hG
   have g6:(x.tmps.getD 55 undef)= .pointer (some ⟨qs,to,none⟩):=hG.c 6 _ rfl
   have g6b:=gd g6
   replace hG:=hG.good
   have c_HCQ:=ckeep hG HCQ.out
   go_wp2
   exact⟨_,rfl,rfl,hG,⟨fun _=>Below.refl _ _,fun h=>zd h⟩⟩
  ·intro x wx hG
   have f5:=hG.o 5
   replace hG:=hG.good
   go_wp2
   exact⟨_,rfl,rfl,hG,⟨fun _=>Below.refl _ _,fun h=>zd h⟩⟩
  ·intro x wx hG
   have g8:(x.tmps.getD 57 undef)= .pointer (some ⟨BL,1,none⟩):=hG.c 8 _ rfl
   have g8b:=gd g8
   replace hG:=hG.good
   have c_HL1:=ckeep hG HL1.out
   go_wp2
   exact⟨_,rfl,rfl,hG,⟨fun _=>Below.refl _ _,fun h=>zd h⟩⟩
  ·intro x wx hG
   have g9:(x.tmps.getD 58 undef)= .pointer (some ⟨qb,0,none⟩):=hG.c 9 _ rfl
   have g9b:=gd g9
   replace hG:=hG.good
   go_wp2
   exact⟨_,rfl,rfl,hG,⟨fun _=>Below.refl _ _,fun h=>zd h⟩⟩
  ·intro x wx hG
   have g10:(x.tmps.getD 59 undef)= .pointer (some ⟨qb,0,none⟩):=hG.c 10 _ rfl
   have g10b:=gd g10
   replace hG:=hG.good
   have c_HK0:=ckeep hG HK0.out
   have c_HK1:=ckeep hG HK1.out
   have c_HK2:=ckeep hG HK2.out
   have c_HK3:=ckeep hG HK3.out
   go_wp2
   exact⟨_,rfl,rfl,hG,⟨fun _=>Below.refl _ _,fun h=>zd h⟩⟩
  ·intro x wx hG
   have g7:(x.tmps.getD 56 undef)= .pointer (some ⟨gi,0,none⟩):=hG.c 7 _ rfl
   have g7b:=gd g7
   have g11:(x.tmps.getD 60 undef)= .agg #[.int .i64 ak.site, .int .i64 ak.stamp, .slice fa fn fc, .slice pa ak.S.length pc]:=hG.c 11 _ rfl
   have g11b:=gd g11
   replace hG:=hG.good
   have HN:=jD (HMK.out wx hG)
   go_wp2_with fail
   (with_reducible refine(HN.out).mono ?_)
   rintro e wq ⟨y9,rfl,h1,hb⟩
   obtain⟨a1,c1,a2,c2,a3,c3,hv,ho⟩:=h1
   subst hv
   have HO:=jD ho
   have H2:=jD hb
   clear ho hb HN
   go_wp2
   exact⟨_,rfl,⟨_,_,_,_,_,_,rfl,HO.out⟩,bstep hG H2.out,⟨fun _=>H2.out,fun h=>zd h⟩⟩
  ·intro x wx hG
   have g12:GvT wx b bt (x.tmps.getD 61 undef):=hG.c 12 _ rfl
   replace hG:=hG.good
   obtain⟨a1,c1,a2,c2,a3,c3,hv,ho⟩:=g12
   have hvb:=hv
   rw[Array.getD_eq_getD_getElem?] at hvb
   have HO:=jD ho
   clear ho
   go_wp2
   exact⟨_,rfl,⟨_,_,_,_,_,_,rfl,HO.out⟩,hG,⟨fun _=>Below.refl _ _,fun h=>zd h⟩⟩
  ·intro x wx hG
   have g13:GvT wx b bt (x.tmps.getD 48 undef):=hG.c 13 _ rfl
   replace hG:=hG.good
   obtain⟨a1,c1,a2,c2,a3,c3,hv,ho⟩:=g13
   have hvb:=hv
   rw[Array.getD_eq_getD_getElem?] at hvb
   have HO:=jD ho
   clear ho
   go_wp2
   exact⟨_,rfl,⟨_,_,_,_,_,_,rfl,HO.out⟩,hG,⟨fun _=>Below.refl _ _,fun h=>zd h⟩⟩
  ·intro x wx hG
   have g13:GvT wx b bt (x.tmps.getD 48 undef):=hG.c 13 _ rfl
   replace hG:=hG.good
   obtain⟨a1,c1,a2,c2,a3,c3,hv,ho⟩:=g13
   have hvb:=hv
   rw[Array.getD_eq_getD_getElem?] at hvb
   have HO:=jD ho
   clear ho
   go_wp2
   exact⟨_,rfl,rfl,hG,⟨fun _=>Below.refl _ _,fun h=>zd h⟩⟩
  ·intro x wx hG
   replace hG:=hG.good
   go_wp2
   exact⟨_,rfl,⟨_,rfl,alloc_new _ _ _ _ rfl,hG.size⟩,bstep hG (bal _),⟨fun _=>bal _,fun h=>zd h⟩⟩
  ·intro x wx hG
   have g16:BatNew wx W1.heap.size (x.tmps.getD 6 undef):=hG.c 16 _ rfl
   have g14:GvA wx b bt (x.tmps.getD 62 undef):=hG.c 14 _ rfl
   replace hG:=hG.good
   obtain⟨q,hq1,hq2,hlo⟩:=g16
   have HV:=jD hq1
   have hq1b:=hq1
   rw[Array.getD_eq_getD_getElem?] at hq1b
   obtain⟨a1,c1,a2,c2,a3,c3,hv,ho⟩:=g14
   have hvb:=hv
   rw[Array.getD_eq_getD_getElem?] at hvb
   have HO:=jD ho
   clear ho
   have HQ:=jD hq2
   have HLW:=jD hlo
   have r0:=cell_of_block (j:=0) hq2 rfl
   have f0:=free_of_block (j:=0) hq2
   have r1:=cell_of_block (j:=1) hq2 rfl
   have f1:=free_of_block (j:=1) hq2
   have r2:=cell_of_block (j:=2) hq2 rfl
   have f2:=free_of_block (j:=2) hq2
   have r3:=cell_of_block (j:=3) hq2 rfl
   have f3:=free_of_block (j:=3) hq2
   have r4:=cell_of_block (j:=4) hq2 rfl
   have f4:=free_of_block (j:=4) hq2
   have hRl:=hlt_of hq2
   have HG:=jD hG
   clear hq2 hlo hG
   go_wp2
   exact⟨undef,rfl,⟨q,Eq.trans (by kernel_rfl) HV.out,⟨_,_,_,(set5 HQ.out (by decide)).1,HO.out.stp (set5 HQ.out (by decide)).2⟩,HLW.out⟩,((((HG.out.setCell (p:=⟨q,0,none⟩) HLW.out _).setCell (p:=⟨q,1,none⟩) HLW.out _).setCell (p:=⟨q,2,none⟩) HLW.out _).setCell (p:=⟨q,3,none⟩) HLW.out _).setCell (p:=⟨q,4,none⟩) HLW.out _,⟨fun h=>absurd rfl h,fun _=>(set5 HQ.out (by decide)).2.mono fun k hk=>by rw[hk];exact HLW.out⟩⟩
  ·intro x wx hG
   have g15:(x.tmps.getD 63 undef)= .int .i64 0:=hG.c 15 _ rfl
   have g15b:=gd g15
   replace hG:=hG.good
   go_wp2
   exact⟨_,rfl,rfl,hG,⟨fun _=>Below.refl _ _,fun h=>zd h⟩⟩
 ·intro vals w2 hg hF
  obtain⟨g0,g1,g2,g3,g4,g5,g6,g7,g8,g9,g10,g11,g12,g13,g14,g15,g16,g17,g18, -⟩:=hF
  have e0:=gq (vals 0) g0
  have e1:=gq (vals 1) g1
  have e2:=gq (vals 2) g2
  have e3:=gq (vals 3) g3
  have e4:=gq (vals 4) g4
  have e5:=gq (vals 5) g5
  have e6:=gq (vals 6) g6
  have e7:=gq (vals 7) g7
  have e8:=gq (vals 8) g8
  have e9:=gq (vals 9) g9
  have e10:=gq (vals 10) g10
  have e11:=gq (vals 11) g11
  have e15:=gq (vals 15) g15
  have g17:=g17 rfl
  have e18:=gq (vals 18) g18
  simp only[Cl2.puts,e0,e1,e2,e3,e4,e5,e6,e7,e8,e9,e10,e11,e15,e18]
  clear e0 e1 e2 e3 e4 e5 e6 e7 e8 e9 e10 e11 e15 e18 g0 g1 g2 g3 g4 g5 g6 g7 g8 g9 g10 g11 g12 g13 g14 g15 g18
  go_simp
  obtain⟨qn,hqn9,hbkn,hlon⟩:=g17
  have hqn:vals 16= .pointer (some ⟨qn,0,none⟩):=Eq.trans (by kernel_rfl) hqn9
  clear hqn9
  have HBKN:=jD hbkn
  have HB2:=jD (bstep HB1.out hg)
  have HLN:=jD hlon
  clear g16 hbkn hg hlon
  rw[hqn]
  clear hqn
  generalize vals 12=j12 at*
  generalize vals 13=j13 at*
  generalize vals 14=j14 at*
  obtain⟨bv,bg,bp,hblkn,hbon⟩:=HBKN.out
  have HNB:=jD hblkn
  have HTT:=jD (HTW.out.below HB2.out)
  obtain⟨sv,wv9,css9,hblk,hlets,hrow,hwT,hset⟩:=HTT.out.letters
  obtain⟨wa,wc,rfl⟩:=owns_slice hrow
  have HBKT:=jD hblk
  have HLETS:=jD hlets
  have HROW:=jD hrow
  have HWT:=jD hwT
  have HSET:=jD hset
  have HC1:=jD (cell_of_block (j:=1) hblk rfl:w2.cell? ⟨g,1,none⟩=some (.slice wa t.way.length wc))
  have HN0:=jD (cell_of_block (j:=0) hblkn rfl:w2.cell? ⟨qn,0,none⟩=some (.int .i64 bt.site))
  have HWS:=jD (show wz.heap.size≤w2.heap.size from HB2.out.size)
  clear hblk hlets hrow hwT hset hblkn hbon
  go_wp2_with fail
  refine Cl3.region0 79 rfl (fun u=>[9,12]) (fun u ww=>Below w2.heap.size w2 ww) (fun jq=>match jq with | 8=>[9,12] | 9=>[12] | _=>[]) (fun jq v ww=>match jq with | 0=>v= .pointer (some ⟨g,0,none⟩) | 1=>v= .pointer (some ⟨g,0,none⟩) | 2=>v= .pointer (some ⟨g,0,none⟩) | 3=>v= .pointer (some ⟨g,1,none⟩) | 4=>v= .slice wa t.way.length wc | 5=>v= .pointer (some ⟨qn,0,none⟩) | 6=>v= .int .i64 bt.site | 7=>v= .agg #[.int .i64 bt.site, .pointer none, .pointer (some ⟨qn,0,none⟩)] | 8=> ∃q,v= .slice (some ⟨q,0,none⟩) 1 1∧ww.heap[q]? =some (Obj.cells #[.int .i64 bt.site, .pointer none, .pointer (some ⟨qn,0,none⟩)] 136 (0,0)) | 9=> ∃(W4:World) (va:Option Addr) (vc:Nat),v= .slice va (t.way.length+1) vc∧Below w2.heap.size w2 W4∧AppO W4 ww b 136 3 (Value.agg #[.int .i64 0, .pointer none, .pointer none]).cells (.slice wa t.way.length wc) (.slice va (t.way.length+1) vc) t.way.length 1 css9.flatten [.int .i64 bt.site, .pointer none, .pointer (some ⟨qn,0,none⟩)] | 10=>v= .pointer (some ⟨g,0,none⟩) | 11=>v= .pointer (some ⟨g,1,none⟩) | 12=> ∃(W4 w5:World) (va:Option Addr) (vc:Nat),Below w2.heap.size w2 W4∧AppO W4 w5 b 136 3 (Value.agg #[.int .i64 0, .pointer none, .pointer none]).cells (.slice wa t.way.length wc) (.slice va (t.way.length+1) vc) t.way.length 1 css9.flatten [.int .i64 bt.site, .pointer none, .pointer (some ⟨qn,0,none⟩)]∧ww=w5.setCell ⟨g,1,none⟩ (.slice va (t.way.length+1) vc) | _=>True) (fun ww=>True) (fun jq ww ww'=>(jq≠8→jq≠9→jq≠12→ww'=ww)∧(jq=8→Below ww.heap.size ww ww')) Tryz.mixed (by decide+kernel) trivial (fun u=>(Below.refl _ _).drew) ?_ (fun jq ww ww' u hk h hR=>by by_cases e:jq=8;exact bstep h (hR.2 e);rw [hR.1 e (by intro e;simp [e] at hk) (by intro e;simp [e] at hk)];exact h) ?_ ?_
  ·intro q r v w w' hne hk hlt h hR
   match r,hk,hlt,h,hne with
   | 0,_,_,h,_=>exact h
   | 1,_,_,h,_=>exact h
   | 2,_,_,h,_=>exact h
   | 3,_,_,h,_=>exact h
   | 4,_,_,h,_=>exact h
   | 5,_,_,h,_=>exact h
   | 6,_,_,h,_=>exact h
   | 7,_,_,h,_=>exact h
   | 8,hk,hlt,h,hne=>
    have e:=hR.1 (by exact hne) (by intro e;simp [e] at hk) (by intro e;simp [e] at hk)
    rw[e];exact h
   | 9,hk,hlt,h,hne=>
    have e:=hR.1 (by intro e;subst e;exact absurd hlt (by decide+kernel)) (by exact hne) (by intro e;simp [e] at hk)
    rw[e];exact h
   | 10,_,_,h,_=>exact h
   | 11,_,_,h,_=>exact h
   | 12,hk,hlt,h,hne=>
    have e:=hR.1 (by intro e;subst e;exact absurd hlt (by decide+kernel)) (by intro e;subst e;exact absurd hlt (by decide+kernel)) (by exact hne)
    rw[e];exact h
   | _+13,_,_,_,_=>trivial
  ·refine⟨?_, ?_, ?_, ?_, ?_, ?_, ?_, ?_, ?_, ?_, ?_, ?_, ?_,trivial⟩
   ·intro x wx hG
    have f0:=hG.o 0
    replace hG:=hG.good
    go_wp2
    exact⟨_,rfl,rfl,trivial,⟨fun _ _ _=>rfl,fun _=>Below.refl _ _⟩⟩
   ·intro x wx hG
    have f0:=hG.o 0
    replace hG:=hG.good
    go_wp2
    exact⟨_,rfl,rfl,trivial,⟨fun _ _ _=>rfl,fun _=>Below.refl _ _⟩⟩
   ·intro x wx hG
    have g1:(x.tmps.getD 67 undef)= .pointer (some ⟨g,0,none⟩):=hG.c 1 _ rfl
    have g1b:=gd g1
    replace hG:=hG.good
    go_wp2
    exact⟨_,rfl,rfl,trivial,⟨fun _ _ _=>rfl,fun _=>Below.refl _ _⟩⟩
   ·intro x wx hG
    have g2:(x.tmps.getD 68 undef)= .pointer (some ⟨g,0,none⟩):=hG.c 2 _ rfl
    have g2b:=gd g2
    replace hG:=hG.good
    go_wp2
    exact⟨_,rfl,rfl,trivial,⟨fun _ _ _=>rfl,fun _=>Below.refl _ _⟩⟩
   ·intro x wx hG
    have g3:(x.tmps.getD 69 undef)= .pointer (some ⟨g,1,none⟩):=hG.c 3 _ rfl
    have g3b:=gd g3
    have hp0:=hG.p 0
    replace hG:=hG.good
    have c_HC1:=ckeep hp0 HC1.out
    go_wp2
    exact⟨_,rfl,rfl,trivial,⟨fun _ _ _=>rfl,fun _=>Below.refl _ _⟩⟩
   ·intro x wx hG
    have f6:=hG.o 6
    replace hG:=hG.good
    go_wp2
    exact⟨_,rfl,rfl,trivial,⟨fun _ _ _=>rfl,fun _=>Below.refl _ _⟩⟩
   ·intro x wx hG
    have g5:(x.tmps.getD 71 undef)= .pointer (some ⟨qn,0,none⟩):=hG.c 5 _ rfl
    have g5b:=gd g5
    have hp0:=hG.p 0
    replace hG:=hG.good
    have c_HN0:=ckeep hp0 HN0.out
    go_wp2
    exact⟨_,rfl,rfl,trivial,⟨fun _ _ _=>rfl,fun _=>Below.refl _ _⟩⟩
   ·intro x wx hG
    have f6:=hG.o 6
    have g6:(x.tmps.getD 72 undef)= .int .i64 bt.site:=hG.c 6 _ rfl
    have g6b:=gd g6
    replace hG:=hG.good
    have f6b:=f6
    rw[Array.getD_eq_getD_getElem?] at f6b
    go_wp2
    exact⟨_,rfl,rfl,trivial,⟨fun _ _ _=>rfl,fun _=>Below.refl _ _⟩⟩
   ·intro x wx hG
    have g7:(x.tmps.getD 73 undef)= .agg #[.int .i64 bt.site, .pointer none, .pointer (some ⟨qn,0,none⟩)]:=hG.c 7 _ rfl
    have g7b:=gd g7
    replace hG:=hG.good
    go_wp2
    exact⟨_,rfl,⟨_,rfl,alloc_new _ _ _ _ rfl⟩,trivial,⟨fun h _ _=>absurd rfl h,fun _=>bal _⟩⟩
   ·intro x wx hG
    have g4:(x.tmps.getD 70 undef)= .slice wa t.way.length wc:=hG.c 4 _ rfl
    have g4b:=gd g4
    have g8: ∃q,(x.tmps.getD 74 undef)= .slice (some ⟨q,0,none⟩) 1 1∧wx.heap[q]? =some (Obj.cells #[.int .i64 bt.site, .pointer none, .pointer (some ⟨qn,0,none⟩)] 136 (0,0)):=hG.c 8 _ rfl
    have hp0:=hG.p 0
    replace hG:=hG.good
    obtain⟨q,hq1,hq2⟩:=g8
    have hq1b:=hq1
    rw[Array.getD_eq_getD_getElem?] at hq1b
    have HP:=jD hp0
    have HN:=jD (show ∀j u,([.int .i64 bt.site, .pointer none, .pointer (some ⟨qn,0,none⟩)]:List Value)[j]? =some u→wx.cell? ((⟨q,0,none⟩:Addr).add j)=some u from fun j u hj=>by
     rw[Addr.add_lit,Nat.zero_add]
     exact cell_of_block (j:=j) hq2 (by simpa using hj))
    have HON:=jD (show ∀u∈([.int .i64 bt.site, .pointer none, .pointer (some ⟨qn,0,none⟩)]:List Value),u.oneCell'=true by intro u hu;simp only[List.mem_cons,List.not_mem_nil,or_false] at hu;rcases hu with rfl | rfl | rfl <;> rfl)
    have HBS:=jD (show b≤wx.heap.size by have:=HTT.out.ge.1;have:=HTT.out.lt;have:=hp0.size;omega)
    have HR9:=jD (owns_below HROW.out hp0)
    have g4c:=g4
    have g4cb:=g4
    rw[Array.getD_eq_getD_getElem?] at g4cb
    clear hp0 hq2
    go_wp2_with (at_builtin;apply Classical.byContradiction;intro hcon)
    refine hcon ?_
    (refine wpList_append_ownS rfl (.tmp 70) (.tmp 74) 115 rfl b 136 (.agg #[.int .i64 0, .pointer none, .pointer none]) 3 24 Tryz.underlying115 LetTy.info rfl (by decide) (.slice wa t.way.length wc) t.way.length css9.flatten (by simp[go_sem, *]) HR9.out ⟨q,0,none⟩ 1 1 _ (by simp[go_sem, *]) rfl HN.out HON.out (by unfold maxLen;omega) (by omega) HBS.out ?_)
    intro v9 w9 A
    obtain⟨va,vc,hva⟩:=owns_slice A.own
    subst hva
    have HA:=jD A
    clear A hcon
    go_wp2
    exact⟨_,rfl,⟨wx,va,vc,rfl,HP.out,HA.out⟩,trivial,⟨fun _ h _=>absurd rfl h,fun h=>zd h⟩⟩
   ·intro x wx hG
    have g0:(x.tmps.getD 66 undef)= .pointer (some ⟨g,0,none⟩):=hG.c 0 _ rfl
    have g0b:=gd g0
    replace hG:=hG.good
    go_wp2
    exact⟨_,rfl,rfl,trivial,⟨fun _ _ _=>rfl,fun _=>Below.refl _ _⟩⟩
   ·intro x wx hG
    have g10:(x.tmps.getD 76 undef)= .pointer (some ⟨g,0,none⟩):=hG.c 10 _ rfl
    have g10b:=gd g10
    replace hG:=hG.good
    go_wp2
    exact⟨_,rfl,rfl,trivial,⟨fun _ _ _=>rfl,fun _=>Below.refl _ _⟩⟩
   ·intro x wx hG
    have g11:(x.tmps.getD 77 undef)= .pointer (some ⟨g,1,none⟩):=hG.c 11 _ rfl
    have g11b:=gd g11
    have g9: ∃(W4:World) (va:Option Addr) (vc:Nat),(x.tmps.getD 75 undef)= .slice va (t.way.length+1) vc∧Below w2.heap.size w2 W4∧AppO W4 wx b 136 3 (Value.agg #[.int .i64 0, .pointer none, .pointer none]).cells (.slice wa t.way.length wc) (.slice va (t.way.length+1) vc) t.way.length 1 css9.flatten [.int .i64 bt.site, .pointer none, .pointer (some ⟨qn,0,none⟩)]:=hG.c 9 _ rfl
    replace hG:=hG.good
    obtain⟨W4,va,vc,hv,hb4,A⟩:=g9
    have hvb:=hv
    rw[Array.getD_eq_getD_getElem?] at hvb
    have HA:=jD A
    have HB4:=jD hb4
    have hg5:=grown_keep (owns_below HROW.out hb4) A.grown (below_keep hb4 HBKT.out) (by decide)
    have r1:=cell_of_block (j:=1) hg5 rfl
    have f1:=free_of_block (j:=1) hg5
    have hRl:=hlt_of hg5
    clear A hb4 hg5
    go_wp2
    exact⟨undef,rfl,⟨W4,wx,va,vc,HB4.out,HA.out,rfl⟩,trivial,⟨fun _ _ h=>absurd rfl h,fun h=>zd h⟩⟩
  ·intro vals w3 hg hF
   obtain⟨g0,g1,g2,g3,g4,g5,g6,g7,g8,g9,g10,g11,g12, -⟩:=hF
   have e0:=gq (vals 0) g0
   have e1:=gq (vals 1) g1
   have e2:=gq (vals 2) g2
   have e3:=gq (vals 3) g3
   have e4:=gq (vals 4) g4
   have e5:=gq (vals 5) g5
   have e6:=gq (vals 6) g6
   have e7:=gq (vals 7) g7
   have e10:=gq (vals 10) g10
   have e11:=gq (vals 11) g11
   replace g12: ∃(W4 w5:World) (va:Option Addr) (vc:Nat),Below w2.heap.size w2 W4∧AppO W4 w5 b 136 3 (Value.agg #[.int .i64 0, .pointer none, .pointer none]).cells (.slice wa t.way.length wc) (.slice va (t.way.length+1) vc) t.way.length 1 css9.flatten [.int .i64 bt.site, .pointer none, .pointer (some ⟨qn,0,none⟩)]∧w3=w5.setCell ⟨g,1,none⟩ (.slice va (t.way.length+1) vc):=g12 rfl
   simp only[Cl3.puts,e0,e1,e2,e3,e4,e5,e6,e7,e10,e11]
   clear e0 e1 e2 e3 e4 e5 e6 e7 e10 e11 g0 g1 g2 g3 g4 g5 g6 g7 g8 g9 g10 g11
   go_simp
   obtain⟨W4,w5,va,vc,hb4,A,rfl⟩:=g12
   have e3:((ak.site.toNat:Nat):Int)=bt.site:=by rw[HBT.out];show _=ak.site;have:=HLO.out.2.1.site;omega
   have hx:LetAt w2 b (ansT t.sites[to] ak) [.int .i64 bt.site, .pointer none, .pointer (some ⟨qn,0,none⟩)]:=by
    unfold ansT
    rw[←HBT.out]
    exact⟨qn,by rw[e3],HBKN.out⟩
   have hok:LetOk t.sites.length (ansT t.sites[to] ak):=by
    unfold ansT
    rw[←HBT.out]
    have h1:=HLO.out.2.1.site
    have h2:=HLO.out.2.2
    exact⟨by omega,HBTOK.out⟩
   have HW:=jD (town_push HTT.out HBKT.out HLETS.out HROW.out HWT.out HSET.out hx hok H6X.out (fun q hq=>HTN.out q (Nat.le_trans HWS.out hq)) hb4 A)
   clear A hb4 hx hok e3 hg
   generalize vals 8=j8 at*
   generalize vals 9=j9 at*
   go_wp2
   go_ret
   exact⟨rfl,HW.out.1,(Stp.of_below HB2.out).trans HW.out.2⟩
def sendE (t:TownS) (i to:Nat):Int:=if i=to then 1 else if 60≤t.way.length then 2 else 0
def sendR (t:TownS) (i:Nat) (hi:i < t.sites.length) (to:Nat):TownS:=if sendE t i to=0 then sendT t i hi to else t
theorem tsend_c (g b:Nat) (T:Nat→Prop) (t:TownS) (i to:Nat) (hi:i < t.sites.length) (hto:to < t.sites.length) (w:World) (h:TownAt w b T g t) (hTn: ∀q,w.heap.size≤q→T q):
  Calls Tryz.prog 19 #[.pointer (some ⟨g,0,none⟩), .int .i64 (i:Nat), .int .i64 (to:Nat)] w fun e w'=>e= .returned (.int .i64 (sendE t i to))∧TownAt w' b T g (sendR t i hi to)∧Stp T w w':=by
 obtain⟨qs,cap,gi,wv,hblk,hqs,hq,hS,hTi,hne,hqg, -⟩:=h.use hi
 have HT:=jD h
 have HTN:=jD hTn
 have HBK:=jD hblk
 have HSI:=jD hS
 have HGL:=jD h.lt
 have HQ:=jD hq
 have hwv: ∃wa wc,wv= .slice wa t.way.length wc:=by
  obtain⟨sv2,wv2,css2,h2, -,h3, -⟩:=h.letters
  rw[hblk] at h2
  simp only[Option.some.injEq,Obj.cells.injEq,and_true,Array.mk.injEq,List.cons.injEq] at h2
  obtain⟨-,rfl⟩:=h2
  exact owns_slice h3
 obtain⟨wa,wc,rfl⟩:=hwv
 have hi0:decide ((0:Int)≤(i:Int))=true:=by simp
 have hin:decide ((i:Int) < (t.sites.length:Int))=true:=by simp;omega
 clear h hblk hS hTi hne hqg hq hqs hTn
 go_enter Tryz.func19,Tryz.ntmps19
 go_wp2_with fail
 (with_reducible refine(tis_in hi w HBK.out).mono ?_)
 rintro e w1 ⟨rfl,hb⟩
 have HB1:=jD hb
 have HBK1:=jD (below_keep hb HBK.out)
 clear hb
 go_wp2_with fail
 (with_reducible refine(tis_in hto w1 HBK1.out).mono ?_)
 rintro e w2 ⟨rfl,hb⟩
 have HB2:=jD (bstep HB1.out hb)
 have HBK2:=jD (below_keep hb HBK1.out)
 clear hb HB1
 by_cases heq:i=to
 ·have hd:((i:Int)==(to:Int))=true:=by simp[heq]
  have he:sendE t i to=1:=by unfold sendE;rw [if_pos heq]
  have HR:=jD (show sendR t i hi to=t by unfold sendR;rw [if_neg (by rw[he];decide)])
  have HE:=jD he
  clear he heq
  go_wp2
  go_ret
  exact⟨by rw[HE.out];rfl,by rw[HR.out];exact HT.out.below HB2.out,Stp.of_below HB2.out⟩
 have hd:((i:Int)==(to:Int))=false:=by simp;omega
 have HNE:=jD heq
 have c1:w2.cell? ⟨g,1,none⟩=some (.slice wa t.way.length wc):=cell_of_block (j:=1) HBK2.out rfl
 by_cases h60:60≤t.way.length
 ·have hd6:decide ((60:Int)≤(t.way.length:Int))=true:=by simp;omega
  have he:sendE t i to=2:=by unfold sendE;rw [if_neg heq,if_pos h60]
  have HR:=jD (show sendR t i hi to=t by unfold sendR;rw [if_neg (by rw[he];decide)])
  have HE:=jD he
  clear he heq h60
  go_wp2
  go_ret
  exact⟨by rw[HE.out];rfl,by rw[HR.out];exact HT.out.below HB2.out,Stp.of_below HB2.out⟩
 have hd6:decide ((60:Int)≤(t.way.length:Int))=false:=by simp;omega
 have he:sendE t i to=0:=by unfold sendE;rw [if_neg heq,if_neg h60]
 have HR:=jD (show sendR t i hi to=sendT t i hi to by unfold sendR;rw [if_pos he])
 have H60:=jD h60
 have HE:=jD he
 have c0:w2.cell? ⟨g,0,none⟩=some (.slice (some ⟨qs,0,none⟩) t.sites.length cap):=cell_of_block (j:=0) HBK2.out rfl
 have cq:=ckeep HB2.out HQ.out
 have HS2:=jD (HSI.out.below HB2.out)
 clear he heq h60
 go_wp2_with fail
 clear c0 c1 cq
 (with_reducible refine(ask_c gi b _ w2 HS2.out).mono ?_)
 rintro e w3 ⟨fv,pv,rfl,hf,hp,hb⟩
 obtain⟨fa,fn,fc,hfv⟩:=FO.shape0 hf
 obtain⟨pa,pc,hpv⟩:=hp.shape
 subst hfv hpv
 have HFO:=jD hf
 have HPO:=jD hp
 have HB3:=jD (bstep HB2.out hb)
 have HT3:=jD (HT.out.below HB3.out)
 have HBK3:=jD (below_keep hb HBK2.out)
 have HWS:=jD (show w.heap.size≤w2.heap.size from HB2.out.size)
 clear hf hp hb HBK2 HB2 HS2 HT
 have c0:w3.cell? ⟨g,0,none⟩=some (.slice (some ⟨qs,0,none⟩) t.sites.length cap):=cell_of_block (j:=0) HBK3.out rfl
 have c1:w3.cell? ⟨g,1,none⟩=some (.slice wa t.way.length wc):=cell_of_block (j:=1) HBK3.out rfl
 have hgl:=hlt_of HBK3.out
 obtain⟨WA,hWA⟩: ∃WA,WA=w3.alloc (.cells #[.int .i64 t.sites[i].me, .int .i64 t.sites[i].stamp, .slice fa fn fc, .slice pa (knownS t.sites[i]).length pc] 56):=⟨_,rfl⟩
 have hbA:Below w3.heap.size w3 WA:=by rw[hWA];exact bal _
 have HTA:=jD (HT3.out.below hbA)
 have HBA:=jD (bstep HB3.out hbA)
 have HASK:=jD (show AskBk WA b w3.heap.size (askS t.sites[i]) from⟨_,_,by rw[hWA];exact alloc_new _ _ _ _ rfl,FO.mono (HFO.out.below hbA) (by have:=HTA.out.ge.1;have:=HGL.out;have:=HWS.out;omega),PtsOwnA.mono (HPO.out.below hbA) (by have:=HTA.out.ge.1;have:=HGL.out;have:=HWS.out;omega)⟩)
 have HBKA:=jD (below_keep hbA HBK3.out)
 obtain⟨sv2,wv2,css,h2,hlets,hrow,hT2,hset⟩:=HTA.out.letters
 have he2:=HBKA.out
 rw[h2] at he2
 simp only[Option.some.injEq,Obj.cells.injEq,and_true,Array.mk.injEq,List.cons.injEq] at he2
 obtain⟨rfl,rfl⟩:=he2
 have HLETS:=jD hlets
 have HROWA:=jD hrow
 have HT2:=jD hT2
 have HSET:=jD hset
 have HROW:=jD (show((w3.alloc (.cells #[.int .i64 t.sites[i].me, .int .i64 t.sites[i].stamp, .slice fa fn fc, .slice pa (knownS t.sites[i]).length pc] 56)).alloc (.cells #[.int .i64 (to:Nat), .pointer (some ⟨w3.heap.size,0,none⟩), .pointer none] 136)).ownsRow b 136 3 (.slice wa t.way.length wc) t.way.length css.flatten by rw[←hWA];exact owns_below hrow (bal _))
 have HWA:=jD hWA
 have HN:=jD (show ∀j u,[Value.int .i64 (to:Nat), .pointer (some ⟨w3.heap.size,0,none⟩), .pointer none][j]? =some u→((w3.alloc (.cells #[.int .i64 t.sites[i].me, .int .i64 t.sites[i].stamp, .slice fa fn fc, .slice pa (knownS t.sites[i]).length pc] 56)).alloc (.cells #[.int .i64 (to:Nat), .pointer (some ⟨w3.heap.size,0,none⟩), .pointer none] 136)).cell? ((⟨w3.heap.size+1,0,none⟩:Addr).add j)=some u from fun j u hj=>by
  rw[Addr.add_lit,Nat.zero_add]
  exact cell_of_block (j:=j) (alloc_new _ _ _ _ (by rw[World.size_alloc])) (by simpa using hj))
 have HON:=jD (show ∀u∈[Value.int .i64 (to:Nat), .pointer (some ⟨w3.heap.size,0,none⟩), .pointer none],u.oneCell'=true by intro u hu;simp only[List.mem_cons,List.not_mem_nil,or_false] at hu;rcases hu with rfl | rfl | rfl <;> rfl)
 have hbs:b≤((w3.alloc (.cells #[.int .i64 t.sites[i].me, .int .i64 t.sites[i].stamp, .slice fa fn fc, .slice pa (knownS t.sites[i]).length pc] 56)).alloc (.cells #[.int .i64 (to:Nat), .pointer (some ⟨w3.heap.size,0,none⟩), .pointer none] 136)).heap.size:=by
  have:=HTA.out.ge.1;have:=HTA.out.lt;rw [World.size_alloc,←hWA];omega
 have HBS:=jD hbs
 have h60:=H60.out
 clear hlets hrow hT2 hset h2 hbA hWA hbs
 go_wp2_with (at_builtin;refine wpList_append_ownS rfl (.tmp 39) (.tmp 42) 115 rfl b 136 (.agg #[.int .i64 0, .pointer none, .pointer none]) 3 24 Tryz.underlying115 LetTy.info rfl (by decide) _ t.way.length css.flatten rfl HROW.out ⟨w3.heap.size+1,0,none⟩ 1 1 _ rfl rfl HN.out HON.out (by unfold maxLen;omega) (by omega) HBS.out ?_)
 intro v' w5 A
 obtain⟨va,vc,hva⟩:=owns_slice A.own
 subst hva
 have HA:=jD A
 have HW:=jD (town_push HTA.out HBKA.out HLETS.out HROWA.out HT2.out HSET.out (x:= .ask to (askS t.sites[i])) ⟨_,rfl,HASK.out⟩ (ask_letOk HTA.out.ok hi hto HSI.out.ok) (by omega) (fun q hq=>HTN.out q (Nat.le_trans HBA.out.size hq)) (by rw[HWA.out];exact bal _) HA.out)
 have hr4:=HROW.out
 rw[←HWA.out] at hr4
 have hg5:=grown_keep hr4 (by have:=HA.out.grown;rw [←HWA.out] at this;exact this) (alloc_keep _ HBKA.out) (by decide)
 have q1:=cell_of_block (j:=1) hg5 rfl
 have f1:=free_of_block (j:=1) hg5
 have hgl5:=hlt_of hg5
 clear A hr4 h60 hgl c0 c1
 go_wp2
 go_ret
 refine⟨by rw[HE.out];rfl,by rw[HR.out];exact HW.out.1,(Stp.of_below HBA.out).trans HW.out.2⟩
def newL (l:List Bxs):List SiteS:=l.mapIdx fun i F=>newS i (ptsOf F)
theorem newL_snoc (l:List Bxs) (F:Bxs):newL (l++[F])=newL l++[newS l.length (ptsOf F)]:=by unfold newL;rw [List.mapIdx_concat]
theorem newL_len (l:List Bxs):(newL l).length=l.length:=by unfold newL;rw [List.length_mapIdx]
theorem newL_get {l:List Bxs} {i:Nat} (h:i < (newL l).length) (h2:i < l.length):(newL l)[i]=newS i (ptsOf l[i]):=List.getElem_mapIdx ..
def newT (l:List Bxs):TownS:=⟨newL l,[]⟩
theorem newT_ok {l:List Bxs} (h:l.length≤5):TownOk (newT l):=by
 refine⟨fun i hi=> ?_,by show(newL l).length≤5;rw [newL_len];exact h,fun l hl=>by simp[newT] at hl,by simp[newT]⟩
 have hi':i < (newL l).length:=hi
 show(newL l)[i].me=i
 rw[newL_get hi' (by rw[newL_len] at hi';exact hi')];rfl
theorem PtrTy.info:(Tryz.prog.info? 43).map (fun i=>(i.zero,i.size,i.bytes))=some (some (.pointer none),1,8):=rfl
theorem SitesAt.nil (w:World) (b:Nat):SitesAt w b [] []:=⟨rfl,List.nodup_nil,fun i h=>absurd h (by simp)⟩
theorem SitesAt.snoc {w:World} {b g:Nat} {gs:List Nat} {l:List SiteS} {s:SiteS} (h:SitesAt w b gs l) (hs:SiteAt w b g s) (hg:g∉gs):SitesAt w b (gs++[g]) (l++[s]):=by
 refine⟨by simp[h.len], ?_,fun i h1 h2=> ?_⟩
 ·rw[List.nodup_append]
  exact⟨h.nd,by simp,fun a ha b hb e=>by rw[List.mem_singleton] at hb;subst hb;subst e;exact hg ha⟩
 ·by_cases hi:i < gs.length
  ·rw[List.getElem_append_left hi,List.getElem_append_left (by have:=h.len;omega)]
   exact h.each i hi _
  ·have hi2:i=gs.length:=by simp at h1;omega
   subst hi2
   rw[List.getElem_append_right (by omega),List.getElem_append_right (by have:=h.len;omega)]
   simp only[Nat.sub_self,h.len,List.getElem_singleton]
   exact hs
structure NwSt (w:World) (BT:Nat) (l:List Bxs) (wr:World):Prop where
 bel:Below w.heap.size w wr
 at_: ∃sv gs,wr.heap[BT]? =some (.cells #[sv, .slice none 0 0] 117 (0,0))∧wr.ownsRow w.heap.size 43 1 sv l.length (ptrs gs)∧SitesAt wr w.heap.size gs (newL l)
theorem tnew_c (fv:Value) (l:List Bxs) (T:Nat→Prop) (w:World) (hl:RowAt bxsE w fv l) (h5:l.length≤5) (hc: ∀F∈l,fChk F=0) (hT: ∀q,w.heap.size≤q→T q):
  Calls Tryz.prog 13 #[fv] w fun e w'=> ∃g,e= .returned (.tuple #[.pointer (some ⟨g,0,none⟩), .int .i64 0])∧TownAt w' w.heap.size T g (newT l)∧Below w.heap.size w w':=by
 obtain⟨fa,fc,rfl, -, -, -,hvl⟩:=hl.open_
 have HVL:=jD hvl
 have HC:=jD hc
 have HTT:=jD hT
 have d5:decide ((5:Int) < (l.length:Int))=false:=by simp;omega
 obtain⟨BT,hBT⟩: ∃BT,BT=w.heap.size:=⟨_,rfl⟩
 obtain⟨W0,hW0⟩: ∃W0,W0=w.alloc (.cells #[.slice none 0 0, .slice none 0 0] 117):=⟨_,rfl⟩
 have M0:=jD (show NwSt w BT [] W0 from⟨by rw[hW0];exact bal _,_,[],by rw[hW0];exact alloc_new _ _ _ _ hBT,World.ownsRow_nil _ _ _ _,SitesAt.nil _ _⟩)
 have HBT:=jD hBT
 clear hl hvl hc hT
 go_enter Tryz.func13,Tryz.ntmps13
 go_wp2_with fail
 rw[←hBT,←hW0]
 clear hBT hW0
 go_loopw [16] (fun i wr=> ∃k:Nat,k≤l.length∧i= .int .i64 k∧NwSt w BT (l.take k) wr) (fun i _=>l.length - (intOf i).toNat)
 case atStart=>exact ⟨0,Nat.zero_le _,rfl,M0.out⟩
 case round=>
  clear M0
  obtain⟨k,hk,rfl,hst⟩:=hrel
  by_cases hlt:k < l.length
  rotate_left
  ·obtain rfl:k=l.length:=by omega
   rw[List.take_length] at hst
   have hkb:decide ((l.length:Int) < (l.length:Int))=false:=by simp
   have HST:=jD hst
   clear hst
   go_wp2
   go_ret2
   obtain⟨hb,sv,gs,h1,h2,h3⟩:=HST.out
   have hlen:gs.length=l.length:=by have:=h3.len;rw [newL_len] at this;exact this
   exact⟨BT,rfl,⟨newT_ok h5,⟨by rw[HBT.out];exact Nat.le_refl _,HTT.out _ (by rw[HBT.out];exact Nat.le_refl _)⟩,sv,_,gs,[],h1,by rw[hlen];exact h2,h3,fun q hq=>by
    obtain⟨i,hi,rfl⟩:=List.getElem_of_mem hq
    exact HTT.out _ (h3.each i hi (by rw[newL_len];omega)).ge,LetsAt.nil _ _,World.ownsRow_nil _ _ _ _,fun q hq=>by simp[Value.ownBlock] at hq⟩,hb⟩
  rcases HVL.out with hnil | ⟨b,off,rfl,hb,hcl⟩
  ·rw[hnil] at hlt;simp at hlt
  obtain⟨cc,⟨v,rfl,hv⟩,hcc⟩:=hcl k hlt
  have c0:=hst.bel.cell (p:=⟨b,off+k,none⟩) hb |>.trans (by have:=hcc 0 _ rfl;simpa [bxsE] using this)
  have HBX:=jD (hv.below hst.bel)
  have HCK:=jD (HC.out _ (List.getElem_mem hlt))
  have HTK:=jD (show l.take (k+1)=l.take k++[l[k]] from List.take_succ_eq_append_getElem hlt)
  have HTL:=jD (show(l.take k).length=k by rw[List.length_take];omega)
  generalize l[k]=F at*
  generalize l.take k=lk at*
  have HST:=jD hst
  obtain⟨xa,xc,hvv⟩:=hv.shape
  subst hvv
  have hkb:decide ((k:Int) < (l.length:Int))=true:=by simp;omega
  clear hst hv hcl hcc
  go_wp2_with fail
  clear c0
  (with_reducible refine(snew_c k _ F wr (by omega) HBX.out HCK.out).mono ?_)
  rintro e w2 ⟨gn,rfl,hs,hb2⟩
  obtain⟨hbel,sv,gs,h1,h2,h3⟩:=HST.out
  have HS:=jD (SiteAt.mono hs hbel.size)
  have HB2:=jD (bstep hbel hb2)
  have HGN:=jD (show gn∉gs from fun hm=>by
   obtain⟨i,hi,e⟩:=List.getElem_of_mem hm
   have h4:=(h3.each i hi (by have:=h3.len;omega)).lt
   have h5:=hs.ge
   omega)
  obtain⟨sa,sc,rfl⟩:=owns_slice h2
  have HBK:=jD (below_keep hb2 h1)
  have HROW:=jD (owns_below h2 hb2)
  have HSS:=jD (h3.below hb2)
  clear hs hb2 hbel h1 h2 h3 HST
  have q0:w2.cell? ⟨BT,0,none⟩=some (.slice sa lk.length sc):=cell_of_block (j:=0) HBK.out rfl
  have HN:=jD (show ∀j u,[Value.pointer (some ⟨gn,0,none⟩)][j]? =some u→(w2.alloc (.cells #[.pointer (some ⟨gn,0,none⟩)] 43)).cell? ((⟨w2.heap.size,0,none⟩:Addr).add j)=some u from fun j u hj=>by
   rw[Addr.add_lit,Nat.zero_add]
   exact cell_of_block (j:=j) (alloc_new _ _ _ _ rfl) (by simpa using hj))
  have HR4:=jD (owns_below HROW.out (bal (W:=w2) (.cells #[.pointer (some ⟨gn,0,none⟩)] 43)))
  have hbs:w.heap.size≤(w2.alloc (.cells #[.pointer (some ⟨gn,0,none⟩)] 43)).heap.size:=by have:=HB2.out.size;rw [World.size_alloc];omega
  have hl5:lk.length≤5:=by have:=HTL.out;omega
  go_wp2_with (at_builtin;refine wpList_append_ownS rfl (.tmp 34) (.tmp 36) 26 rfl w.heap.size 43 (.pointer none) 1 8 Tryz.underlying26 PtrTy.info rfl (by decide) _ lk.length (ptrs gs) rfl HR4.out ⟨w2.heap.size,0,none⟩ 1 1 _ rfl rfl HN.out (by intro u hu;simp only[List.mem_singleton] at hu;subst hu;rfl) (by unfold maxLen;omega) (by omega) hbs ?_)
  intro v9 w9 A
  obtain⟨va,vc,hva⟩:=owns_slice A.own
  subst hva
  have S9:=jD ((Stp.of_below (G:=fun q=>(Value.slice sa lk.length sc).ownBlock=some q) (bal (W:=w2) (.cells #[.pointer (some ⟨gn,0,none⟩)] 43))).trans (A.stp HR4.out (by decide)))
  have hg9:=grown_keep HR4.out A.grown (alloc_keep _ HBK.out) (by decide)
  have HG9:=jD hg9
  have HA:=jD A
  have r0:=cell_of_block (j:=0) hg9 rfl
  have r1:=free_of_block (j:=0) hg9
  have r2:=hlt_of hg9
  have HB9:=jD ((HB2.out.alloc (by have:=HB2.out.size;omega) _).grown A.grown hbs (fun q hq=>(HR4.out.lt q hq).1))
  clear A hg9 q0 hbs
  have HBG:=jD (show w.heap.size≤BT by rw[HBT.out];exact Nat.le_refl _)
  go_wp2
  go_roundw
  case rel=>
   refine⟨k+1,by omega,by go_num, ?_⟩
   rw[HTK.out]
   have hset:=Stp.set (j:=0) (v:= .slice va (lk.length+1) vc) HG9.out (by decide)
   have hoff: ∀q,q∈gs++[gn]→ ¬(Value.slice sa lk.length sc).ownBlock=some q:=fun q hq he=>by
    have hty: ∃cs,w2.heap[q]? =some (Obj.cells cs 128 (0,0)):=by
     rcases List.mem_append.1 hq with hq | hq
     ·obtain⟨i,hi,rfl⟩:=List.getElem_of_mem hq
      exact(HSS.out.each i hi (by have:=HSS.out.len;omega)).ty
     ·rw[List.mem_singleton.1 hq];exact HS.out.ty
    obtain⟨cs,hcs⟩:=hty
    exact own_off HROW.out hcs (by decide) he
   have hoff2: ∀q,q∈gs++[gn]→ ¬q=BT:=fun q hq he=>by
    have hty: ∃cs,w2.heap[q]? =some (Obj.cells cs 128 (0,0)):=by
     rcases List.mem_append.1 hq with hq | hq
     ·obtain⟨i,hi,rfl⟩:=List.getElem_of_mem hq
      exact(HSS.out.each i hi (by have:=HSS.out.len;omega)).ty
     ·rw[List.mem_singleton.1 hq];exact HS.out.ty
    obtain⟨cs,hcs⟩:=hty
    rw[he] at hcs
    exact absurd (heap_ty HBK.out hcs) (by decide)
   refine⟨HB9.out.setCell (p:=⟨BT,0,none⟩) HBG.out _, .slice va (lk.length+1) vc,gs++[gn],by rw[heap_set_same HG9.out];rfl, ?_, ?_⟩
   ·have e1:ptrs (gs++[gn])=ptrs gs++[.pointer (some ⟨gn,0,none⟩)]:=by unfold ptrs;rw [List.map_append];rfl
    rw[e1,List.length_append,List.length_singleton]
    exact own_set HA.out.own HG9.out (by decide)
   ·rw[newL_snoc,show newS ((lk.length:Nat):Int) (ptsOf F)=newS (k:Int) (ptsOf F) by rw[HTL.out]]
    have hh:=HSS.out.snoc HS.out HGN.out
    exact(hh.stp S9.out hoff).stp hset hoff2
  case measure=>simp [intOf] <;> omega
def madeD (s:SiteS) (id:ByteArray) (a n bd:Int):Int×Int:=if madeE s id a n bd=0 then(s.me,s.made+1) else(0,0)
theorem tmake_c (g b:Nat) (T:Nat→Prop) (t:TownS) (i:Nat) (hi:i < t.sites.length) (id:ByteArray) (a n bd:Int) (wz:World) (h:TownAt wz b T g t):
  Calls Tryz.prog 18 #[.pointer (some ⟨g,0,none⟩), .int .i64 (i:Nat), .string id, .agg #[.int .i64 a, .int .i64 n], .int .i64 bd] wz fun e w'=>e= .returned (.tuple #[.agg #[.int .i64 (madeD t.sites[i] id a n bd).1, .int .i64 (madeD t.sites[i] id a n bd).2], .int .i64 (madeE t.sites[i] id a n bd)])∧TownAt w' b T g (makeT t i hi id a n bd)∧Stp T wz w':=by
 obtain⟨qs,cap,gi,wv,hblk,hqs,hq,hS,hTi,hne,hqg,hset⟩:=h.use hi
 obtain⟨d0,hd0⟩: ∃d0,d0=(madeD t.sites[i] id a n bd).1:=⟨_,rfl⟩
 obtain⟨d1,hd1⟩: ∃d1,d1=(madeD t.sites[i] id a n bd).2:=⟨_,rfl⟩
 obtain⟨E9,hE9⟩: ∃E9,E9=madeE t.sites[i] id a n bd:=⟨_,rfl⟩
 obtain⟨s9,hs9⟩: ∃s9,s9=madeS t.sites[i] id a n bd:=⟨_,rfl⟩
 have HMK:=jD (fun (wx:World) (hx:SiteAt wx b gi t.sites[i])=>show Calls Tryz.prog 17 #[.pointer (some ⟨gi,0,none⟩), .string id, .agg #[.int .i64 a, .int .i64 n], .int .i64 bd] wx fun e w'=>e= .returned (.tuple #[.agg #[.int .i64 d0, .int .i64 d1], .int .i64 E9])∧SiteAt w' b gi s9∧Stp (fun q=>q=gi) wx w' from
  (smake_c gi b t.sites[i] id a n bd wx hx).mono fun e w' hh=>by
   obtain⟨h1,h2,h3⟩:=hh
   refine⟨?_,by rw[hs9];exact h2,h3⟩
   rw[h1,hd0,hd1,hE9]
   unfold madeD
   by_cases e:madeE t.sites[i] id a n bd=0
   ·rw[if_pos e,if_pos e,if_pos e]
   ·rw[if_neg e,if_neg e,if_neg e])
 have HSET:=jD (fun (w':World) (hs:Stp (fun q=>q=gi) wz w') (hn:SiteAt w' b gi s9)=>show TownAt w' b T g (makeT t i hi id a n bd) from by
  unfold makeT;rw [←hs9];exact hset w' s9 hs hn (by rw[hs9];exact (madeS_me _ _ _ _ _).1))
 rw[←hd0,←hd1,←hE9]
 have HTI:=jD hTi
 have HBK:=jD hblk
 have HSI:=jD hS
 have HGI:=jD hS.lt
 have HNE:=jD hne
 have HQ:=jD hq
 have hi0:decide ((0:Int)≤(i:Int))=true:=by simp
 have hin:decide ((i:Int) < (t.sites.length:Int))=true:=by simp;omega
 clear h hblk hS hset hTi hne hqg hq hqs hd0 hd1 hE9 hs9
 obtain⟨BP,hBP⟩: ∃B,B=wz.heap.size:=⟨_,rfl⟩
 obtain⟨W0,hW0⟩: ∃W0,W0=(wz.alloc (.cells #[.int .i64 a, .int .i64 n] 39)).alloc (.cells #[.int .i64 0, .int .i64 0] 41):=⟨_,rfl⟩
 have HPB:=jD (show W0.heap[BP]? =some (Obj.cells #[.int .i64 a, .int .i64 n] 39 (0,0)) by rw[hW0];exact alloc_keep _ (alloc_new _ _ _ _ hBP))
 have HDB:=jD (show W0.heap[BP+1]? =some (Obj.cells #[.int .i64 0, .int .i64 0] 41 (0,0)) by rw[hW0];exact alloc_new _ _ _ _ (by rw[World.size_alloc,hBP]))
 have HB0:=jD (show Below wz.heap.size wz W0 by rw[hW0];exact (bal _).alloc (by simp) _)
 go_enter Tryz.func18,Tryz.ntmps18
 go_wp2_with fail
 rw[←hBP,←hW0]
 have HBPE:=jD hBP
 clear hW0 hBP
 have HBK0:=jD (below_keep HB0.out HBK.out)
 (with_reducible refine(tis_in hi W0 HBK0.out).mono ?_)
 rintro e w1 ⟨rfl,hb⟩
 have HB1:=jD (bstep HB0.out hb)
 have HP0:=jD (cell_of_block (j:=0) (below_keep hb HPB.out) rfl:w1.cell? ⟨BP,0,none⟩=some (.int .i64 a))
 have HP1:=jD (cell_of_block (j:=1) (below_keep hb HPB.out) rfl:w1.cell? ⟨BP,1,none⟩=some (.int .i64 n))
 have HD:=jD (below_keep hb HDB.out)
 have HC0:=jD (cell_of_block (j:=0) (below_keep HB1.out HBK.out) rfl:w1.cell? ⟨g,0,none⟩=some (.slice (some ⟨qs,0,none⟩) t.sites.length cap))
 have HCQ:=jD (ckeep HB1.out HQ.out)
 have HS1:=jD (HSI.out.below HB1.out)
 have HLT:=jD (show gi < BP+1 by have:=HGI.out;have:=HBPE.out;omega)
 clear hb
 go_wp2_with fail
 refine Cl3.region0 30 rfl (fun u=>match u with | 0=>[10,13] | _=>[13]) (fun u ww=>match u with | 0=>Below w1.heap.size w1 ww | _=>ww.heap[BP+1]? =some (Obj.cells #[.int .i64 0, .int .i64 0] 41 (0,0))) (fun _=>[]) (fun jq v ww=>match jq with | 0=>v= .pointer (some ⟨g,0,none⟩) | 1=>v= .pointer (some ⟨g,0,none⟩) | 2=>v= .pointer (some ⟨g,0,none⟩) | 3=>v= .slice (some ⟨qs,0,none⟩) t.sites.length cap | 4=>v= .int .i64 (i:Nat) | 5=>v= .pointer (some ⟨qs,i,none⟩) | 6=>v= .pointer (some ⟨gi,0,none⟩) | 7=>v= .string id | 8=>v= .agg #[.int .i64 a, .int .i64 n] | 9=>v= .int .i64 bd | 10=>SiteAt ww b gi s9∧v= .tuple #[.agg #[.int .i64 d0, .int .i64 d1], .int .i64 E9] | 11=>v= .agg #[.int .i64 d0, .int .i64 d1] | 12=>v= .int .i64 E9 | 13=>ww.heap[BP+1]? =some (Obj.cells #[.int .i64 d0, .int .i64 d1] 41 (0,0)) | 14=>v= .int .i64 E9 | _=>True) (fun ww=>Stp (fun q=>q=gi) wz ww) (fun jq ww ww'=>(jq≠10→jq≠13→Below ww.heap.size ww ww')∧(jq=10→Stp (fun q=>q=gi) ww ww')∧(jq=13→DotSet (BP+1) ww ww')) Tryz.mixed (by decide+kernel) (Stp.of_below HB1.out).drew (fun u=>match u with | 0=>(Below.refl _ _).drew | _+1=>HD.out) ?_ (fun jq ww ww' u hk h hR=>match u,hk,h with | 0,hk,h=>(bstep h (hR.1 (by intro e;simp [e] at hk) (by intro e;simp [e] at hk))) | _+1,hk,h=>(by by_cases e:jq=10;exact (hR.2.1 e).block h (by have:=HLT.out;omega);exact below_keep (hR.1 e (by simpa using hk)) h)) ?_ ?_
 ·intro q r v w w' hne hk hlt h hR
  match r,hk,hlt,h,hne with
  | 0,_,_,h,_=>exact h
  | 1,_,_,h,_=>exact h
  | 2,_,_,h,_=>exact h
  | 3,_,_,h,_=>exact h
  | 4,_,_,h,_=>exact h
  | 5,_,_,h,_=>exact h
  | 6,_,_,h,_=>exact h
  | 7,_,_,h,_=>exact h
  | 8,_,_,h,_=>exact h
  | 9,_,_,h,_=>exact h
  | 10,hk,hlt,h,hne=>
   by_cases e:q=13
   ·exact⟨h.1.dot (hR.2.2 e) (by exact HLT.out),h.2⟩
   ·exact⟨h.1.below (hR.1 (by exact hne) e),h.2⟩
  | 11,_,_,h,_=>exact h
  | 12,_,_,h,_=>exact h
  | 13,hk,hlt,h,hne=>
   by_cases e:q=10
   ·subst e;exact absurd hlt (by decide+kernel)
   ·exact below_keep (hR.1 e (by exact hne)) h
  | 14,_,_,h,_=>exact h
  | _+15,_,_,_,_=>trivial
 ·refine⟨?_, ?_, ?_, ?_, ?_, ?_, ?_, ?_, ?_, ?_, ?_, ?_, ?_, ?_, ?_,trivial⟩
  ·intro x wx hG
   have f0:=hG.o 0
   replace hG:=hG.good
   go_wp2
   exact⟨_,rfl,rfl,hG,⟨fun _ _=>Below.refl _ _,fun h=>zd h,fun h=>zd h⟩⟩
  ·intro x wx hG
   have g0:(x.tmps.getD 17 undef)= .pointer (some ⟨g,0,none⟩):=hG.c 0 _ rfl
   have g0b:=gd g0
   replace hG:=hG.good
   go_wp2
   exact⟨_,rfl,rfl,hG,⟨fun _ _=>Below.refl _ _,fun h=>zd h,fun h=>zd h⟩⟩
  ·intro x wx hG
   have g1:(x.tmps.getD 18 undef)= .pointer (some ⟨g,0,none⟩):=hG.c 1 _ rfl
   have g1b:=gd g1
   replace hG:=hG.good
   go_wp2
   exact⟨_,rfl,rfl,hG,⟨fun _ _=>Below.refl _ _,fun h=>zd h,fun h=>zd h⟩⟩
  ·intro x wx hG
   have g2:(x.tmps.getD 19 undef)= .pointer (some ⟨g,0,none⟩):=hG.c 2 _ rfl
   have g2b:=gd g2
   have hp0:=hG.p 0
   replace hG:=hG.good
   have c_HC0:=ckeep hp0 HC0.out
   go_wp2
   exact⟨_,rfl,rfl,hG,⟨fun _ _=>Below.refl _ _,fun h=>zd h,fun h=>zd h⟩⟩
  ·intro x wx hG
   have f1:=hG.o 1
   replace hG:=hG.good
   go_wp2
   exact⟨_,rfl,rfl,hG,⟨fun _ _=>Below.refl _ _,fun h=>zd h,fun h=>zd h⟩⟩
  ·intro x wx hG
   have g3:(x.tmps.getD 20 undef)= .slice (some ⟨qs,0,none⟩) t.sites.length cap:=hG.c 3 _ rfl
   have g3b:=gd g3
   have g4:(x.tmps.getD 21 undef)= .int .i64 (i:Nat):=hG.c 4 _ rfl
   have g4b:=gd g4
   replace hG:=hG.good
   go_wp2
   exact⟨_,rfl,rfl,hG,⟨fun _ _=>Below.refl _ _,fun h=>zd h,fun h=>zd h⟩⟩
  ·intro x wx hG
   have g5:(x.tmps.getD 22 undef)= .pointer (some ⟨qs,i,none⟩):=hG.c 5 _ rfl
   have g5b:=gd g5
   have hp0:=hG.p 0
   replace hG:=hG.good
   have c_HCQ:=ckeep hp0 HCQ.out
   go_wp2
   exact⟨_,rfl,rfl,hG,⟨fun _ _=>Below.refl _ _,fun h=>zd h,fun h=>zd h⟩⟩
  ·intro x wx hG
   have f2:=hG.o 2
   replace hG:=hG.good
   go_wp2
   exact⟨_,rfl,rfl,hG,⟨fun _ _=>Below.refl _ _,fun h=>zd h,fun h=>zd h⟩⟩
  ·intro x wx hG
   have f8:=hG.o 8
   have hp0:=hG.p 0
   replace hG:=hG.good
   have c_HP0:=ckeep hp0 HP0.out
   have c_HP1:=ckeep hp0 HP1.out
   go_wp2
   exact⟨_,rfl,rfl,hG,⟨fun _ _=>Below.refl _ _,fun h=>zd h,fun h=>zd h⟩⟩
  ·intro x wx hG
   have f4:=hG.o 4
   replace hG:=hG.good
   go_wp2
   exact⟨_,rfl,rfl,hG,⟨fun _ _=>Below.refl _ _,fun h=>zd h,fun h=>zd h⟩⟩
  ·intro x wx hG
   have g6:(x.tmps.getD 23 undef)= .pointer (some ⟨gi,0,none⟩):=hG.c 6 _ rfl
   have g6b:=gd g6
   have g7:(x.tmps.getD 24 undef)= .string id:=hG.c 7 _ rfl
   have g7b:=gd g7
   have g8:(x.tmps.getD 25 undef)= .agg #[.int .i64 a, .int .i64 n]:=hG.c 8 _ rfl
   have g8b:=gd g8
   have g9:(x.tmps.getD 26 undef)= .int .i64 bd:=hG.c 9 _ rfl
   have g9b:=gd g9
   have hp0:=hG.p 0
   replace hG:=hG.good
   have HN:=jD (HMK.out wx (HS1.out.below hp0))
   go_wp2_with fail
   (with_reducible refine(HN.out).mono ?_)
   rintro e wq ⟨rfl,h1,h2⟩
   have H1:=jD h1
   have H2:=jD h2
   clear h1 h2 HN
   go_wp2
   exact⟨_,rfl,⟨H1.out,rfl⟩,hG.trans H2.out,⟨fun h _=>absurd rfl h,fun _=>H2.out,fun h=>zd h⟩⟩
  ·intro x wx hG
   have g10:SiteAt wx b gi s9∧(x.tmps.getD 27 undef)= .tuple #[.agg #[.int .i64 d0, .int .i64 d1], .int .i64 E9]:=hG.c 10 _ rfl
   replace hG:=hG.good
   have g10v:=g10.2
   have g10vb:=g10v
   rw[Array.getD_eq_getD_getElem?] at g10vb
   go_wp2
   exact⟨_,rfl,rfl,hG,⟨fun _ _=>Below.refl _ _,fun h=>zd h,fun h=>zd h⟩⟩
  ·intro x wx hG
   have g10:SiteAt wx b gi s9∧(x.tmps.getD 27 undef)= .tuple #[.agg #[.int .i64 d0, .int .i64 d1], .int .i64 E9]:=hG.c 10 _ rfl
   replace hG:=hG.good
   have g10v:=g10.2
   have g10vb:=g10v
   rw[Array.getD_eq_getD_getElem?] at g10vb
   go_wp2
   exact⟨_,rfl,rfl,hG,⟨fun _ _=>Below.refl _ _,fun h=>zd h,fun h=>zd h⟩⟩
  ·intro x wx hG
   have f10:=hG.o 10
   have g11:(x.tmps.getD 28 undef)= .agg #[.int .i64 d0, .int .i64 d1]:=hG.c 11 _ rfl
   have g11b:=gd g11
   have g10:SiteAt wx b gi s9∧(x.tmps.getD 27 undef)= .tuple #[.agg #[.int .i64 d0, .int .i64 d1], .int .i64 E9]:=hG.c 10 _ rfl
   have hp1:=hG.p 1
   replace hG:=hG.good
   obtain⟨g10, -⟩:=g10
   have gxb:=g11
   rw[Array.getD_eq_getD_getElem?] at gxb
   have r0:=cell_of_block (j:=0) hp1 rfl
   have r1:=cell_of_block (j:=1) hp1 rfl
   have q0:=free_of_block (j:=0) hp1
   have q1:=free_of_block (j:=1) hp1
   have hRl:=hlt_of hp1
   have HQ1:=jD hp1
   have HG:=jD hG
   clear hp1 hG g10
   go_wp2
   exact⟨undef,rfl,(heap_set_same (heap_set_same HQ1.out)).trans rfl,DotSet.stp HG.out ⟨BP+1,_,_,by have:=HBPE.out;omega,HQ1.out,rfl⟩,⟨fun _ h=>absurd rfl h,fun h=>zd h,fun _=>⟨BP+1,_,_,Nat.le_refl _,HQ1.out,rfl⟩⟩⟩
  ·intro x wx hG
   have g12:(x.tmps.getD 29 undef)= .int .i64 E9:=hG.c 12 _ rfl
   have g12b:=gd g12
   replace hG:=hG.good
   go_wp2
   exact⟨_,rfl,rfl,hG,⟨fun _ _=>Below.refl _ _,fun h=>zd h,fun h=>zd h⟩⟩
 ·intro vals w2 hg hF
  obtain⟨g0,g1,g2,g3,g4,g5,g6,g7,g8,g9,g10,g11,g12,g13,g14, -⟩:=hF
  have e0:=gq (vals 0) g0
  have e1:=gq (vals 1) g1
  have e2:=gq (vals 2) g2
  have e3:=gq (vals 3) g3
  have e4:=gq (vals 4) g4
  have e5:=gq (vals 5) g5
  have e6:=gq (vals 6) g6
  have e7:=gq (vals 7) g7
  have e8:=gq (vals 8) g8
  have e9:=gq (vals 9) g9
  replace g10:SiteAt w2 b gi s9∧(vals 10)= .tuple #[.agg #[.int .i64 d0, .int .i64 d1], .int .i64 E9]:=g10 rfl
  have e11:=gq (vals 11) g11
  have e12:=gq (vals 12) g12
  replace g13:w2.heap[BP+1]? =some (Obj.cells #[.int .i64 d0, .int .i64 d1] 41 (0,0)):=g13 rfl
  have e14:=gq (vals 14) g14
  simp only[Cl3.puts,e0,e1,e2,e3,e4,e5,e6,e7,e8,e9,e11,e12,e14]
  clear e0 e1 e2 e3 e4 e5 e6 e7 e8 e9 e11 e12 e14 g0 g1 g2 g3 g4 g5 g6 g7 g8 g9 g11 g12 g14
  go_simp
  generalize vals 10=mk9 at*
  have HST:=jD hg
  have HSN:=jD g10.1
  have r0:=cell_of_block (j:=0) g13 rfl
  have r1:=cell_of_block (j:=1) g13 rfl
  clear g10 g13 hg
  go_wp2
  refine bodyPost_ret (v:= .tuple #[.agg #[.int .i64 d0, .int .i64 d1], .int .i64 E9]) (by simp[results,Tryz.results18,go_sem, *]) rfl ?_
  exact⟨rfl,HSET.out _ HST.out HSN.out,HST.out.mono fun k hk=>by rw[hk];exact HTI.out⟩
end Go.Proofs.YtgkgdedhicnohaaGreat
