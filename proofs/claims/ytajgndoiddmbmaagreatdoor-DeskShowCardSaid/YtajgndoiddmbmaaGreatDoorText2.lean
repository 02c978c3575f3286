/- The reader of a text: adding a node. Written by a small program (gen/textadd.py). -/
import Derived.Test.YtajgndoiddmbmaaGreatDoorText1
import Derived.Test.YtajgndoiddmbmaaGreatDoorMBase
import Derived.Test.YtajgndoiddmbmaaGreatDoorMClaims
namespace Go.Proofs.YtajgndoiddmbmaaGreatDoor
open Go.RowKit
set_option maxRecDepth 100000 in
theorem NdTy.info:(Tryz.prog.info? 80).map (fun i=>(i.zero,i.size,i.bytes))=some (some (.agg #[.int .i64 0, .int .i64 0, .int .i64 0]),3,24):=by kernel_rfl
theorem Rd.of_kp {w w':World} {R:Nat} {s:ByteArray} {i:Nat} {nv nv':Value} {ns ns':Nds} (h:Rd w R s i nv ns) (hk:w'.heap[R]? =w.heap[R]?) (ho:w'.ownsRow (R+1) 80 3 nv' ns'.length (ndCells ns')):Rd (w'.setCell ⟨R,2,none⟩ nv') R s i nv' ns':=
 ⟨by rw[setCell_blk (hk.trans h.blk)];rfl,owns_keep ho fun k hk=>setCell_out (by have:=(ho.lt k hk).1;omega)⟩
structure AddA (R:Nat) (nv:Value) (ns:Nds) (W:World) (v:Value) (w:World):Prop where
 own:w.ownsRow (R+1) 80 3 v ns.length (ndCells ns)
 kp:Kp R nv v W w
 blk:w.heap[R]? =W.heap[R]?
 lt:R < w.heap.size
theorem AddA.below {R:Nat} {nv:Value} {ns:Nds} {W:World} {v:Value} {w w':World} (h:AddA R nv ns W v w) (hb:Below w.heap.size w w'):AddA R nv ns W v w':=
 ⟨owns_below h.own hb,h.kp.trans (Kp.of_below hb),(hb.block R h.lt).trans h.blk,Nat.lt_of_lt_of_le h.lt hb.size⟩
def NewRow (n:Nd) (v:Value) (w:World):Prop:= ∃g,v= .slice (some ⟨g,0,none⟩) 1 1∧w.heap[g]? =some (Obj.cells #[.int .i64 n.k, .int .i64 n.a, .int .i64 n.b] 80 (0,0))
theorem NewRow.below {n:Nd} {v:Value} {w w':World} (h:NewRow n v w) (hb:Below w.heap.size w w'):NewRow n v w':=by
 obtain⟨g,h1,h2⟩:=h;exact ⟨g,h1,below_keep hb h2⟩
def Added (R:Nat) (s:ByteArray) (i:Nat) (nv:Value) (ns:Nds) (W w:World):Prop:= ∃v,Rd w R s i v ns∧Kp R nv v W w
theorem Added.below {R:Nat} {s:ByteArray} {i:Nat} {nv:Value} {ns:Nds} {W w w':World} (h:Added R s i nv ns W w) (hb:Below w.heap.size w w'):Added R s i nv ns W w':=by
 obtain⟨v,h1,h2⟩:=h;exact ⟨v,h1.below hb,h2.trans (Kp.of_below hb)⟩
theorem kp_grown {R base:Nat} {w w':World} {v v':Value} (hg:w.grownBy w' v.ownBlock) (hl:v'.ownBlock=v.ownBlock∨v'.ownBlock=some w.heap.size):Kp R v v' w w':=
 ⟨hg.os,hg.tape,hg.output,hg.size,fun k hk _ hv=>hg.block k hk (fun e=>hv e.symm),hl.imp id fun e=>⟨_,e,Nat.le_refl _⟩⟩
set_option maxRecDepth 100000 in
set_option maxHeartbeats 4000000 in
theorem add_c (R:Nat) (s:ByteArray) (i:Nat) (nv:Value) (ns:Nds) (n:Nd) (w:World) (h:Rd w R s i nv ns) (hl:ns.length≤400):
  Calls Tryz.prog 32 #[.pointer (some ⟨R,0,none⟩), .agg #[.int .i64 n.k, .int .i64 n.a, .int .i64 n.b]] w fun e w'=>e= .returned (.int .i64 ns.length)∧Added R s i nv (ns++[n]) w w':=by
 have HN:=Lib.hid (show(w.alloc (.cells #[.int .i64 n.k, .int .i64 n.a, .int .i64 n.b] 80)).heap[w.heap.size]? =some (Obj.cells #[.int .i64 n.k, .int .i64 n.a, .int .i64 n.b] 80 (0,0)) from alloc_new _ _ _ _ rfl)
 obtain⟨W,hW⟩: ∃W,W=w.alloc (.cells #[.int .i64 n.k, .int .i64 n.a, .int .i64 n.b] 80):=⟨_,rfl⟩
 have hbW:Below w.heap.size w W:=by rw[hW];exact bal _
 rw[←hW] at HN
 have HR:=Lib.hid (h.below hbW)
 have HBW:=Lib.hid hbW
 have HL:=Lib.hid (show(ndCells (ns++[n]))=ndCells ns++ #[.int .i64 n.k, .int .i64 n.a, .int .i64 n.b].toList by rw[ndCells_append];rfl)
 clear h hbW
 obtain⟨c0,c1,c2,z1,z2⟩:=HR.out.cells
 have C2:=Lib.hid c2
 have Z2:=Lib.hid z2
 clear c0 c1 c2 z1 z2
 go_enter Tryz.func32,Tryz.ntmps32
 go_wp2_with fail
 rw[←hW]
 clear hW
 obtain⟨N,hN⟩: ∃N,N=w.heap.size:=⟨_,rfl⟩
 rw[←hN] at HN ⊢
 clear hN
 refine Cl.region0 21 rfl [7,10] (fun ww=>Below W.heap.size W ww) (fun jq=>match jq with | 6=>[7,10] | 7=>[10] | _=>[]) (fun jq v ww=>match jq with | 0=>v= .pointer (some ⟨R,0,none⟩) | 1=>v= .pointer (some ⟨R,0,none⟩) | 2=>v= .pointer (some ⟨R,0,none⟩) | 3=>v= .pointer (some ⟨R,2,none⟩) | 4=>v=nv | 5=>v= .agg #[.int .i64 n.k, .int .i64 n.a, .int .i64 n.b] | 6=>NewRow n v ww | 7=>AddA R nv (ns++[n]) W v ww | 8=>v= .pointer (some ⟨R,0,none⟩) | 9=>v= .pointer (some ⟨R,2,none⟩) | 10=>Added R s i nv (ns++[n]) W ww | _=>True) (fun ww=>True) (fun jq ww ww'=>jq≠7→jq≠10→Below ww.heap.size ww ww') Tryz.mixed (by decide+kernel) trivial ((Below.refl _ _).drew) ?_ (fun jq ww ww' hk h hR=>bstep h (hR (fun e=>hk (by subst e;simp)) (fun e=>hk (by subst e;simp)))) ?_ ?_
 ·intro q r v w w' hne hk hlt h hR
  match r,hk,hlt,h,hne with
  | 0,_,_,h,_=>exact h
  | 1,_,_,h,_=>exact h
  | 2,_,_,h,_=>exact h
  | 3,_,_,h,_=>exact h
  | 4,_,_,h,_=>exact h
  | 5,_,_,h,_=>exact h
  | 6,hk,_,h,_=>exact NewRow.below h (hR (fun e=>hk (by subst e;simp)) (fun e=>hk (by subst e;simp)))
  | 7,hk,_,h,hne=>exact AddA.below h (hR (by exact hne) (fun e=>hk (by subst e;simp)))
  | 8,_,_,h,_=>exact h
  | 9,_,_,h,_=>exact h
  | 10,_,hlt,h,hne=>exact Added.below h (hR (by intro e;subst e;exact absurd hlt (by decide+kernel)) (by exact hne))
  | _+11,_,_,_,_=>trivial
 ·refine⟨?_, ?_, ?_, ?_, ?_, ?_, ?_, ?_, ?_, ?_, ?_,trivial⟩
  ·intro x wx hG
   have f0:=hG.old 0 (by decide+kernel)
   have hg:=hG.good
   clear hG
   go_wp2
   exact⟨_,rfl,rfl,trivial,fun _ _=>Below.refl _ _⟩
  ·intro x wx hG
   have f0:=hG.old 0 (by decide+kernel)
   have hg:=hG.good
   clear hG
   go_wp2
   exact⟨_,rfl,rfl,trivial,fun _ _=>Below.refl _ _⟩
  ·intro x wx hG
   have g1:(x.tmps.getD 6 undef)= .pointer (some ⟨R,0,none⟩):=hG.claims 1 _ rfl (by decide+kernel) (by decide+kernel)
   have hg:=hG.good
   clear hG
   go_wp2
   exact⟨_,rfl,rfl,trivial,fun _ _=>Below.refl _ _⟩
  ·intro x wx hG
   have g2:(x.tmps.getD 7 undef)= .pointer (some ⟨R,0,none⟩):=hG.claims 2 _ rfl (by decide+kernel) (by decide+kernel)
   have hg:=hG.good
   clear hG
   go_wp2
   exact⟨_,rfl,rfl,trivial,fun _ _=>Below.refl _ _⟩
  ·intro x wx hG
   have g3:(x.tmps.getD 8 undef)= .pointer (some ⟨R,2,none⟩):=hG.claims 3 _ rfl (by decide+kernel) (by decide+kernel)
   have hp:=hG.pre (by decide+kernel)
   have hg:=hG.good
   clear hG
   have c:=ckeep hp C2.out
   go_wp2
   exact⟨_,rfl,rfl,trivial,fun _ _=>Below.refl _ _⟩
  ·intro x wx hG
   have f3:=hG.old 3 (by decide+kernel)
   have hp:=hG.pre (by decide+kernel)
   have hg:=hG.good
   clear hG
   have hN:=below_keep hp HN.out
   have c0:=cell_of_block (j:=0) hN rfl
   have c1:=cell_of_block (j:=1) hN rfl
   have c2:=cell_of_block (j:=2) hN rfl
   clear hN
   go_wp2
   exact⟨_,rfl,rfl,trivial,fun _ _=>Below.refl _ _⟩
  ·intro x wx hG
   have g5:(x.tmps.getD 10 undef)= .agg #[.int .i64 n.k, .int .i64 n.a, .int .i64 n.b]:=hG.claims 5 _ rfl (by decide+kernel) (by decide+kernel)
   have g5b:=g5
   rw[Array.getD_eq_getD_getElem?] at g5b
   have hg:=hG.good
   clear hG
   go_wp2
   exact⟨_,rfl,⟨_,rfl,alloc_new _ _ _ _ rfl⟩,trivial,fun _ _=>bal _⟩
  ·intro x wx hG
   have g4:(x.tmps.getD 9 undef)=nv:=hG.claims 4 _ rfl (by decide+kernel) (by decide+kernel)
   have g6:NewRow n (x.tmps.getD 11 undef) wx:=hG.claims 6 _ rfl (by decide+kernel) (by decide+kernel)
   have hp:=hG.pre (by decide+kernel)
   have hg:=hG.good
   clear hG
   have HRX:=Lib.hid (HR.out.below hp)
   have HP:=Lib.hid hp
   obtain⟨g9,hg9,hr9⟩:=g6
   have HC:=Lib.hid (fun j u (hj:(#[.int .i64 n.k, .int .i64 n.a, .int .i64 n.b].toList)[j]? =some u)=>(show wx.cell? ((⟨g9,0,none⟩:Addr).add j)=some u by rw[Addr.add_lit,Nat.zero_add];exact cell_of_block hr9 (by simpa using hj)))
   have HO:=Lib.hid HRX.out.own
   have HSZ:=Lib.hid (show R+1≤wx.heap.size from HRX.out.lt)
   have hz4:=g4
   have hz6:=hg9
   have g4b:=g4
   rw[Array.getD_eq_getD_getElem?] at g4b
   have g6b:=hg9
   rw[Array.getD_eq_getD_getElem?] at g6b
   clear hr9 hp g4 hg9
   go_wp2_with (at_builtin;refine wpList_append_own' rfl (.tmp 9) (.tmp 11) 23 rfl (R+1) 80 _ 3 24 Tryz.underlying23 NdTy.info rfl (by decide) _ ns.length _ hz4 HO.out ⟨g9,0,none⟩ 1 1 #[.int .i64 n.k, .int .i64 n.a, .int .i64 n.b].toList hz6 rfl HC.out (by intro u hu;simp at hu;rcases hu with rfl | rfl | rfl <;> rfl) (by unfold maxLen;omega) (by omega) HSZ.out ?_)
   intro v9 w9 ho hgr hlc
   have hkp:=(Kp.of_below (R:=R) (v:=nv) HP.out).trans (kp_grown (base:=0) hgr hlc)
   have hbk:w9.heap[R]? =W.heap[R]? :=(hgr.block R HRX.out.lt (fun e=>by have:=(HRX.out.row R e.symm).1;omega)).trans (HP.out.block R HR.out.lt)
   have HA:=Lib.hid (show AddA R nv (ns++[n]) W v9 w9 from⟨by rw[HL.out,List.length_append];exact ho,hkp,hbk,Nat.lt_of_lt_of_le HRX.out.lt hgr.size⟩)
   clear ho hgr hlc hkp hbk
   go_wp2
   exact⟨_,rfl,HA.out,trivial,fun h=>absurd rfl h⟩
  ·intro x wx hG
   have g0:(x.tmps.getD 5 undef)= .pointer (some ⟨R,0,none⟩):=hG.claims 0 _ rfl (by decide+kernel) (by decide+kernel)
   have hg:=hG.good
   clear hG
   go_wp2
   exact⟨_,rfl,rfl,trivial,fun _ _=>Below.refl _ _⟩
  ·intro x wx hG
   have g8:(x.tmps.getD 13 undef)= .pointer (some ⟨R,0,none⟩):=hG.claims 8 _ rfl (by decide+kernel) (by decide+kernel)
   have hg:=hG.good
   clear hG
   go_wp2
   exact⟨_,rfl,rfl,trivial,fun _ _=>Below.refl _ _⟩
  ·intro x wx hG
   have g9:(x.tmps.getD 14 undef)= .pointer (some ⟨R,2,none⟩):=hG.claims 9 _ rfl (by decide+kernel) (by decide+kernel)
   have g7:AddA R nv (ns++[n]) W (x.tmps.getD 12 undef) wx:=hG.claims 7 _ rfl (by decide+kernel) (by decide+kernel)
   have hg:=hG.good
   clear hG
   obtain⟨na,nc,hv⟩:=owns_slice g7.own
   rw[show(ns++[n]).length=ns.length+1 by simp] at hv
   rw[hv] at g7
   have HA:=Lib.hid g7
   have hvb:=hv
   rw[Array.getD_eq_getD_getElem?] at hvb
   clear g7
   have hz:wx.frozen? ⟨R,2,none⟩=false:=free_of_block (HA.out.blk.trans HR.out.blk)
   obtain⟨cc,hcc⟩: ∃cc,wx.cell? ⟨R,2,none⟩=some cc:=⟨_,cell_of_block (HA.out.blk.trans HR.out.blk) rfl⟩
   go_wp2
   exact⟨undef,rfl,⟨_,HR.out.of_kp HA.out.blk HA.out.own,HA.out.kp.trans (Kp.step _ _ _ _ _)⟩,trivial,fun _ h=>absurd rfl h⟩
 ·intro vals w6 hg hF
  obtain⟨g0,g1,g2,g3,g4,g5,g6,g7,g8,g9,g10, -⟩:=hF
  have e0:vals 0= .pointer (some ⟨R,0,none⟩):=g0 rfl
  have e1:vals 1= .pointer (some ⟨R,0,none⟩):=g1 rfl
  have e2:vals 2= .pointer (some ⟨R,0,none⟩):=g2 rfl
  have e3:vals 3= .pointer (some ⟨R,2,none⟩):=g3 rfl
  have e4:vals 4=nv:=g4 rfl
  have e5:vals 5= .agg #[.int .i64 n.k, .int .i64 n.a, .int .i64 n.b]:=g5 rfl
  have e8:vals 8= .pointer (some ⟨R,0,none⟩):=g8 rfl
  have e9:vals 9= .pointer (some ⟨R,2,none⟩):=g9 rfl
  replace g10:Added R s i nv (ns++[n]) W w6:=g10 rfl
  simp only[Cl.puts,e0,e1,e2,e3,e4,e5,e8,e9]
  clear e0 e1 e2 e3 e4 e5 e8 e9 g0 g1 g2 g3 g4 g5 g6 g7 g8 g9
  go_simp
  obtain⟨v6,h6,k6⟩:=g10
  have H6:=Lib.hid h6
  have K6:=Lib.hid k6
  obtain⟨a0,a1,a2, -, -⟩:=h6.cells
  obtain⟨na,nc,hv6⟩:=owns_slice h6.own
  subst hv6
  have hll:(ns++[n]).length=ns.length+1:=by simp
  rw[hll] at a2
  clear h6 k6
  go_wp2
  go_ret
  refine⟨ret_int (by omega),_,H6.out,(Kp.of_below HBW.out).trans K6.out⟩
end Go.Proofs.YtajgndoiddmbmaaGreatDoor
