/- What the desk does with the words of a line; 'show'. -/
import Derived.Test.YtajgndoiddmbmaaGreatDoorDesk1
import Derived.Test.YtajgndoiddmbmaaGreatDoorText11
namespace Go.Proofs.YtajgndoiddmbmaaGreatDoor
open Go.RowKit
abbrev nilV:Value:= .slice none 0 0
structure Wd (w:World) (g:Nat) (v:Value) (all:List ByteArray) (k:Nat):Prop where
 blk:w.heap[g]? =some (.cells #[v, .int .i64 (k:Nat)] 72 (0,0))
 row:w.ownsRow 0 9 1 v all.length (all.map Value.string)
 len:all.length≤1000000
theorem str_one {w:World} {base n k:Nat} {v:Value} {all:List ByteArray} (h:w.ownsRow base 9 1 v n (all.map Value.string)) (hn:n=all.length) (hk:k < all.length): ∃q cap,v= .slice (some ⟨q,0,none⟩) n cap∧n≤cap∧q < w.heap.size∧(∃cs,w.heap[q]? =some (.cells cs 9 (0,0)))∧w.cell? ⟨q,k,none⟩=some (.string all[k]):=by
 rcases h.2 with⟨rfl,h0⟩ | ⟨g,cap,cur,rfl,h2,h3,h4,h5,h6,h7⟩
 ·omega
 ·refine⟨g,cap,rfl,h4,hlt_of h3,⟨_,h3⟩, ?_⟩
  have:=h.cells (g:=g) rfl k (.string all[k]) (by rw[List.getElem?_map,List.getElem?_eq_getElem hk];rfl)
  rw[Addr.add_lit,Nat.zero_add] at this;exact this
theorem owns_kp {w w':World} {g base e size n:Nat} {v:Value} {xs:List Value} {cs:Array Value} {t:TypeId} (h:w.ownsRow base e size v n xs) (hg:w.heap[g]? =some (.cells cs t (0,0))) (hne:t≠e) (hk:Kp g nilV nilV w w'):w'.ownsRow base e size v n xs:=by
 refine⟨h.1, ?_⟩
 rcases h.2 with h0 | ⟨q,cap,cur,h1,h2,h3,h4⟩
 ·exact .inl h0
 ·refine .inr ⟨q,cap,cur,h1,h2, ?_,h4⟩
  rw[hk.keep q (hlt_of h3) ?_ (by simp[Value.ownBlock])]
  ·exact h3
  ·rintro rfl
   rw[hg] at h3
   simp only[Option.some.injEq,Obj.cells.injEq] at h3
   exact hne h3.2.1
theorem Wd.below {w w':World} {g:Nat} {v:Value} {all:List ByteArray} {k:Nat} (h:Wd w g v all k) (hb:Below w.heap.size w w'):Wd w' g v all k:=⟨below_keep hb h.blk,owns_below h.row hb,h.len⟩
set_option maxRecDepth 100000 in
set_option maxHeartbeats 2000000 in
theorem dnext_c (g:Nat) (v:Value) (all:List ByteArray) (k:Nat) (w:World) (h:Wd w g v all k) (hk:k < all.length):
  Calls Tryz.prog 42 #[.pointer (some ⟨g,0,none⟩)] w fun e w'=>e= .returned (.string all[k])∧Wd w' g v all (k+1)∧Kp g nilV nilV w w':=by
 obtain⟨q,cap,rfl,hcap,hq,⟨cq,hcq⟩,hc⟩:=str_one h.row rfl hk
 have hl:=h.len
 have c0:w.cell? ⟨g,0,none⟩=some (.slice (some ⟨q,0,none⟩) all.length cap):=cell_of_block (j:=0) h.blk rfl
 have c1:w.cell? ⟨g,1,none⟩=some (.int .i64 (k:Nat)):=cell_of_block (j:=1) h.blk rfl
 have z1:w.frozen? ⟨g,1,none⟩=false:=free_of_block (j:=1) h.blk
 have hgl:=hlt_of h.blk
 have hne:q≠g:=by
  rintro rfl
  rw[h.blk] at hcq
  simp only[Option.some.injEq,Obj.cells.injEq] at hcq
  exact absurd hcq.2.1 (by decide)
 have hd:((k:Int)==(all.length:Int))=false:=by rw[beq_eq_false_iff_ne];omega
 have H:=Lib.hid h
 clear h hcq
 go_enter Tryz.func42,Tryz.ntmps42
 go_wp2_with fail
 go_quiet (fail)
 go_wp2_with fail
 obtain⟨w2,hw2⟩: ∃x,x=(w.drewN nq).setCell ⟨g,1,none⟩ (.int .i64 ((k:Int)+1)):=⟨_,rfl⟩
 rw[←hw2]
 have HK:=Lib.hid (show Kp g nilV nilV w w2 by rw[hw2];exact (Kp.drewN _ _ _ _).trans (Kp.step _ _ _ _ _))
 have hb2:w2.heap[g]? =some (.cells #[.slice (some ⟨q,0,none⟩) all.length cap, .int .i64 ((k:Int)+1)] 72 (0,0)):=by
  rw[hw2];exact heap_set_same (below_keep (below_drewN (Below.refl _ _) nq) H.out.blk)
 have HW:=Lib.hid (show Wd w2 g (.slice (some ⟨q,0,none⟩) all.length cap) all (k+1) from⟨by rw[hb2];rfl,owns_kp H.out.row H.out.blk (by decide) HK.out,hl⟩)
 obtain⟨q',cap',hv', -,hq2, -,hc2⟩:=str_one HW.out.row rfl hk
 simp only[Value.slice.injEq,Option.some.injEq,Addr.mk.injEq,and_true,true_and] at hv'
 obtain⟨rfl,rfl⟩:=hv'
 have e0:w2.cell? ⟨g,0,none⟩=some (.slice (some ⟨q,0,none⟩) all.length cap):=cell_of_block (j:=0) hb2 rfl
 have e1:w2.cell? ⟨g,1,none⟩=some (.int .i64 ((k:Int)+1)):=cell_of_block (j:=1) hb2 rfl
 have hgl2:=hlt_of hb2
 clear hw2 hb2 c0 c1 z1 hgl hc hq
 go_quiet (fail)
 go_wp2
 go_ret
 exact⟨rfl,⟨by have:=HW.out.blk;exact below_keep (below_drewN (Below.refl _ _) _) this,owns_below HW.out.row (below_drewN (Below.refl _ _) _),hl⟩,HK.out.trans (Kp.drewN _ _ _ _)⟩
set_option maxRecDepth 100000 in
set_option maxHeartbeats 2000000 in
theorem dend_c (g:Nat) (v:Value) (all:List ByteArray) (w:World) (h:Wd w g v all all.length):
  Calls Tryz.prog 30 #[.pointer (some ⟨g,0,none⟩)] w fun e w'=>e= .returned (.tuple #[])∧Below w.heap.size w w':=by
 obtain⟨a,cap,rfl⟩: ∃a cap,v= .slice a all.length cap:=by
  obtain⟨a,c,hv⟩:=owns_slice h.row;exact ⟨a,c,hv⟩
 have hl:=h.len
 have c0:w.cell? ⟨g,0,none⟩=some (.slice a all.length cap):=cell_of_block (j:=0) h.blk rfl
 have c1:w.cell? ⟨g,1,none⟩=some (.int .i64 (all.length:Nat)):=cell_of_block (j:=1) h.blk rfl
 have hgl:=hlt_of h.blk
 have hd:((all.length:Int) != (all.length:Int))=false:=by simp
 clear h
 go_enter Tryz.func30,Tryz.ntmps30
 go_wp2_with fail
 go_quiet (fail)
 go_wp2
 go_end0
 exact⟨rfl,below_drewN (Below.refl _ _) _⟩
set_option maxRecDepth 100000 in
theorem dmust_c (w:World):Calls Tryz.prog 43 #[.int .i64 0] w fun e w'=>e= .returned (.tuple #[])∧w'=w:=by
 go_enter Tryz.func43,Tryz.ntmps43
 go_wp2
 go_end0
 exact⟨rfl,rfl⟩
theorem showS_size {l:Nds} (h:showE l=0):(showS l).size≤400:=by
 unfold showS
 rw[if_pos h]
 unfold showE at h
 split at h
 ·split at h
  ·exact absurd h (by decide)
  ·omega
 ·rename_i h1;exact absurd h h1
def okS (s:ByteArray):ByteArray:=⟨#[111,107,32]⟩++s
set_option maxRecDepth 100000 in
set_option maxHeartbeats 2000000 in
theorem dshow_c (g:Nat) (l:Nds) (u:Value) (w:World) (hg:w.heap[g]? =some (.cells #[u] 23 (0,0))) (hu:NdsAt w u l) (hz:showE l=0):
  Calls Tryz.prog 44 #[.pointer (some ⟨g,0,none⟩)] w fun e w'=>e= .returned (.string (okS (showS l)))∧Below w.heap.size w w':=by
 have HS:=Lib.hid (show_c u l w hu)
 have hsz:=showS_size hz
 rw[hz] at HS
 have c0:w.cell? ⟨g,0,none⟩=some u:=cell_of_block (j:=0) hg rfl
 have hgl:=hlt_of hg
 obtain⟨a,n,c,hus⟩: ∃a n c,u= .slice a n c:=by obtain⟨a,c,h⟩:=CellsAt.shape hu;exact ⟨a,_,c,h⟩
 subst hus
 clear hg hu
 go_enter Tryz.func44,Tryz.ntmps44
 go_wp2_with fail
 (with_reducible refine(HS.out).mono ?_)
 rintro e w1 ⟨rfl,hb⟩
 have HB:=Lib.hid hb
 clear hb HS
 go_wp2_with fail
 (with_reducible refine(dmust_c w1).mono ?_)
 rintro e w2 ⟨rfl,rfl⟩
 go_wp2
 go_ret
 exact⟨rfl,HB.out⟩
theorem Gl.kpD {w w':World} {g:Nat} (h:Gl w g) (hk:Kp g nilV nilV w w') (hg:g < w.heap.size):Gl w' g:=by
 obtain⟨e1,h1,k1⟩:=h.syn
 obtain⟨e2,h2,k2⟩:=h.ran
 have a:=h.ltS
 have b:=h.ltR
 exact⟨⟨e1,(World.cell?_of_block (hk.keep _ (by show atoiLay_ren.g 15 < _;omega) (by show atoiLay_ren.g 15≠_;omega) (by simp[Value.ownBlock]))).trans h1,k1⟩,⟨e2,(World.cell?_of_block (hk.keep _ (by show atoiLay_ren.g 16 < _;omega) (by show atoiLay_ren.g 16≠_;omega) (by simp[Value.ownBlock]))).trans h2,k2⟩,a,b⟩
theorem readE_size {s:ByteArray} (h:readE s=0):s.size≤400:=by
 unfold readE at h
 split at h
 ·exact absurd h (by decide)
 ·omega
set_option maxRecDepth 100000 in
set_option maxHeartbeats 4000000 in
theorem dask_show (d g:Nat) (v:Value) (all:List ByteArray) (k:Nat) (w:World) (h:Wd w g v all k) (hk:k < all.length) (hg0:Gl w g) (hr:readE all[k]=0):
  Calls Tryz.prog 28 #[.pointer (some ⟨d,0,none⟩), .string ⟨#[115,104,111,119]⟩, .pointer (some ⟨g,0,none⟩)] w fun e w'=> ∃B u,e= .returned (.tuple #[.func (.func 44) #[] #[.pointer (some ⟨B,0,none⟩)], .bool true])∧w'.heap[B]? =some (.cells #[u] 23 (0,0))∧NdsAt w' u (readL all[k])∧Wd w' g v all (k+1)∧Kp g nilV nilV w w'∧w.heap.size≤B:=by
 have hmf: ∀(fn:Fn) (first cap:Array Value) (w:World),(Instr.makeFunc fn first cap).run Tryz.prog w= .ok (.func fn first cap) w:=fun _ _ _ _=>rfl
 have hgl:=hlt_of h.blk
 obtain⟨W,hW⟩: ∃W,W=(w.alloc (.cells #[.pointer (some ⟨d,0,none⟩)] 37)).alloc (.cells #[.string ⟨#[115,104,111,119]⟩] 9):=⟨_,rfl⟩
 have hbW:Below w.heap.size w W:=by rw[hW];exact (bal _).alloc (by simp) _
 have HN:=Lib.hid (dnext_c g v all k W (h.below hbW) hk)
 have HB:=Lib.hid hbW
 have c4:W.cell? ⟨w.heap.size+1,0,none⟩=some (.string ⟨#[115,104,111,119]⟩):=by rw[hW];exact cell_of_block (alloc_new _ _ _ _ (by simp)) rfl
 have hl4:w.heap.size+1 < W.heap.size:=by rw[hW];simp
 have HG0:=Lib.hid hg0
 have HR:=Lib.hid hr
 rw[hW] at c4 hl4
 clear h hbW hg0 hr
 go_enter Tryz.func28,Tryz.ntmps28
 go_wp2_with fail
 rw[←hW]
 clear c4 hl4 hW
 (with_reducible refine(HN.out).mono ?_)
 rintro e w1 ⟨rfl,hwd,hkp⟩
 have HK1:=Lib.hid ((Kp.of_below (R:=g) (v:=nilV) HB.out).trans hkp)
 have HWD:=Lib.hid hwd
 have hG1:=Gl.kpD HG0.out HK1.out hgl
 have HRC:=Lib.hid (read_c all[k] w1 (hG1.up (Nat.le_of_lt (hlt_of hwd.blk))) (by have:=readE_size HR.out;omega))
 have HS1:=Lib.hid hkp.size
 clear hwd hkp HN hG1 HG0
 go_wp2_with fail
 (with_reducible refine(HRC.out).mono ?_)
 rintro e w2 ⟨u,rfl,hnd,hb2⟩
 rw[HR.out]
 obtain⟨ua,uc,hus⟩:=CellsAt.shape hnd
 subst hus
 obtain⟨BN,hBN⟩: ∃B,B=w2.heap.size:=⟨_,rfl⟩
 obtain⟨w3,hw3⟩: ∃x,x=w2.alloc (.cells #[.slice ua (readL all[k]).length uc] 23):=⟨_,rfl⟩
 have hb3:Below w2.heap.size w2 w3:=by rw[hw3];exact bal _
 have HBN:=Lib.hid (show w3.heap[BN]? =some (.cells #[.slice ua (readL all[k]).length uc] 23 (0,0)) by rw[hw3];exact alloc_new _ _ _ _ hBN)
 have HND:=Lib.hid (CellsAt.below hnd hb3)
 have HWD3:=Lib.hid (HWD.out.below (bstep hb2 hb3))
 have HK3:=Lib.hid (HK1.out.trans (Kp.of_below (R:=g) (v:=nilV) (bstep hb2 hb3)))
 have HLE:=Lib.hid (show w.heap.size≤BN by rw[hBN];exact Nat.le_trans HB.out.size (Nat.le_trans HS1.out hb2.size))
 clear hnd hb2 hb3 HRC HWD HK1
 go_wp2_with fail
 rw[←hw3,←hBN]
 clear hw3 hBN
 (with_reducible refine(dmust_c w3).mono ?_)
 rintro e w4 ⟨rfl,rfl⟩
 go_wp2
 go_ret2
 exact⟨BN,_,rfl,HBN.out,HND.out,HWD3.out,HK3.out,HLE.out⟩
set_option maxRecDepth 100000 in
theorem dcatch_i (B:Nat) (w:World):
  CallsD Tryz.prog 26 #[.pointer (some ⟨B,0,none⟩)] .returning w fun e u' w'=>e= .returned (.tuple #[])∧u'= .returning∧w'=w:=by
 refine callsD_of_wpS Tryz.func26 rfl fun c₀ cs hu=> ?_
 apply wpS_seq
 apply wpS_region
 simp[wpOpsS,go_sem,recoverD,hu,Tryz.ntmps26,Exit.thenS]
 apply wpS_seq
 apply wpS_region
 simp[wpOpsS,go_sem,Exit.thenS,Array.replicate]
 refine wpS_cond (t:=false) (by simp[Act.eval]) ?_
 simp only[Bool.false_eq_true,if_false]
 refine wpS_of_wp (wp_skip ?_)
 cases c₀
 simp_all only[bodyPostS]
 exact⟨trivial,_,rfl,_,results_none rfl _ _ _,rfl,rfl,trivial⟩
def showW (s:ByteArray):List ByteArray:=[⟨#[115,104,111,119]⟩,s]
set_option maxRecDepth 100000 in
set_option maxHeartbeats 8000000 in
theorem danswer_show (d:Nat) (v:Value) (s:ByteArray) (w:World) (hrow:w.ownsRow 0 9 1 v 2 ((showW s).map Value.string)) (hG:Gl w w.heap.size) (hr:readE s=0):
  Calls Tryz.prog 15 #[.pointer (some ⟨d,0,none⟩),v] w fun e w'=>e= .returned (.string (okS s))∧Below w.heap.size w w':=by
 have hmf: ∀(fn:Fn) (first cap:Array Value) (w:World),(Instr.makeFunc fn first cap).run Tryz.prog w= .ok (.func fn first cap) w:=fun _ _ _ _=>rfl
 obtain⟨q,cap,rfl,hcap,hq, -,hc⟩:=str_one hrow rfl (k:=0) (by show 0 < 2;decide)
 have hc0:w.cell? ⟨q,0,none⟩=some (.string ⟨#[115,104,111,119]⟩):=hc
 obtain⟨hz,hS⟩:=read_shown hr
 have HSS:=Lib.hid (show showS (readL s)=s by unfold showS;rw [if_pos hz];exact hS)
 have HZ:=Lib.hid hz
 have HR:=Lib.hid hr
 obtain⟨B,hB⟩: ∃B,B=w.heap.size:=⟨_,rfl⟩
 obtain⟨W,hW⟩: ∃W,W=(w.alloc (.cells #[.string ⟨#[]⟩] 9)).alloc (.cells #[.slice (some ⟨q,0,none⟩) 2 cap, .int .i64 1] 72):=⟨_,rfl⟩
 have hb1:Below w.heap.size w (w.alloc (.cells #[.string ⟨#[]⟩] 9)):=bal _
 have hbW:Below w.heap.size w W:=by rw[hW];exact hb1.alloc (by simp) _
 have hg:W.heap[B+1]? =some (.cells #[.slice (some ⟨q,0,none⟩) 2 cap, .int .i64 1] 72 (0,0)):=by rw[hW,hB];exact alloc_new _ _ _ _ (by simp)
 have hres:W.heap[B]? =some (.cells #[.string ⟨#[]⟩] 9 (0,0)):=by rw[hW,hB];exact alloc_keep _ (alloc_new _ _ _ _ rfl)
 have HWD:=Lib.hid (show Wd W (B+1) (.slice (some ⟨q,0,none⟩) 2 cap) (showW s) 1 from⟨hg,owns_below hrow hbW,by show 2≤1000000;decide⟩)
 have HG:=Lib.hid (show Gl W (B+1) from(hG.below (hbW.mono (Nat.le_refl _))).up (by omega))
 have HA:=Lib.hid (dask_show d (B+1) _ (showW s) 1 W HWD.out (by show 1 < 2;decide) HG.out hr)
 have HB:=Lib.hid hbW
 have HRES:=Lib.hid hres
 have hqW:W.cell? ⟨q,0,none⟩=some (.string ⟨#[115,104,111,119]⟩):=(World.cell?_of_block (hbW.block _ hq)).trans hc0
 have hqs:q < W.heap.size:=Nat.lt_of_lt_of_le hq hbW.size
 rw[hW] at hqW hqs
 clear hrow hG hr hz hS hb1 hbW hg hres hc hc0
 go_enter_defers Tryz.func15,Tryz.ntmps15
 go_wp2_with fail
 rw[←hW,←hB]
 have HBS:=Lib.hid hB
 clear hW hB hqW hqs hq
 (with_reducible refine(HA.out).mono ?_)
 rintro e w1 ⟨BN,u,rfl,hbn,hnd,hwd,hkp,hle⟩
 have HBN:=Lib.hid hbn
 have HND:=Lib.hid (show NdsAt w1 u (readL s) from hnd)
 have HWD1:=Lib.hid (show Wd w1 (B+1) (.slice (some ⟨q,0,none⟩) 2 cap) (showW s) (showW s).length from hwd)
 have HRES1:=Lib.hid (show w1.heap[B]? =some (.cells #[.string ⟨#[]⟩] 9 (0,0)) by
  rw[hkp.keep B (hlt_of HRES.out) (by omega) (by simp[Value.ownBlock])];exact HRES.out)
 have HB1:=Lib.hid (show Below w.heap.size w w1 from HB.out.trans (hkp.toBelow (fun k h=>by simp[Value.ownBlock] at h) (by rw[←HBS.out];omega) (hlt_of HWD.out.blk)))
 clear hbn hnd hwd hkp hle HA HWD HG HRES HB
 go_wp2_with fail
 (with_reducible refine(dend_c (B+1) _ (showW s) w1 HWD1.out).mono ?_)
 rintro e w2 ⟨rfl,hb2⟩
 have HDS:=Lib.hid (dshow_c BN (readL s) u w2 (below_keep hb2 HBN.out) (CellsAt.below HND.out hb2) HZ.out)
 rw[HSS.out] at HDS
 have HRES2:=Lib.hid (below_keep hb2 HRES1.out)
 have HB2:=Lib.hid (bstep HB1.out hb2)
 clear hb2 HWD1 HRES1 HB1 HBN HND
 go_wp2_with fail
 (with_reducible refine(HDS.out).mono ?_)
 rintro e w3 ⟨rfl,hb3⟩
 have HRES3:=Lib.hid (below_keep hb3 HRES2.out)
 have HB3:=Lib.hid (bstep HB2.out hb3)
 have y0:=cell_of_block (j:=0) HRES3.out rfl
 have f0:=free_of_block (j:=0) HRES3.out
 have g0:=hlt_of HRES3.out
 have HF:=Lib.hid (show Below w.heap.size w (w3.setCell ⟨B,0,none⟩ (.string (okS s))) from HB3.out.setCell (p:=⟨B,0,none⟩) (by rw[←HBS.out];exact Nat.le_refl _) _)
 clear hb3 HDS HRES2 HB2
 go_wp2
 refine leaves_cons (f:=26) (args:= #[.pointer (some ⟨B,0,none⟩)]) (by simp) (by simp[go_sem]) ?_
 refine(dcatch_i B _).mono ?_
 rintro e u' w4 ⟨rfl,rfl,rfl⟩
 simp[Leaves,settle,results,Tryz.results15,go_sem,y0]
 exact HF.out
end Go.Proofs.YtajgndoiddmbmaaGreatDoor
