/- What every law on towns does first: a town of two, an ask and its answer. -/
import Derived.Test.YtgkgdedhicnohaaGreatMTown1
namespace Go.Proofs.YtgkgdedhicnohaaGreat
set_option maxRecDepth 100000
set_option maxHeartbeats 40000000
open Go.RowKit
def boolE:Elt Bool where
 size:=1
 El _ a cs:=cs=[.bool a]
 len:=fun h=>by rw[h];rfl
 one:=fun h=>by rw[h];simp [Value.oneCell']
 sub:=fun h _=>h
 pos:=by decide
theorem boolE_els (w:World): ∀l:List Bool,∃css,Els boolE w l css∧css.flatten=l.map Value.bool
 | []=>⟨[],trivial,rfl⟩
 | b::l=>by
  obtain⟨css,h1,h2⟩:=boolE_els w l
  exact⟨[.bool b]::css,⟨rfl,h1⟩,by rw[List.flatten_cons,h2];rfl⟩
theorem boolE_at {w:World} {v:Value} {l:List Bool} (h:CellsAt w v l.length (l.map Value.bool)):RowAt boolE w v l:=by
 obtain⟨css,h1,h2⟩:=boolE_els w l
 exact⟨css,h1,by rw[h2];exact h⟩
theorem eqBools_c (va vb:Value) (l:List Bool) (w:World) (ha:RowAt boolE w va l) (hb:RowAt boolE w vb l):
  Calls Tryz.prog 60 #[va,vb] w fun e w'=>e= .returned (.bool true)∧Below w.heap.size w w':=by
 obtain⟨xa,ca,rfl,hcap,hm, -,hla⟩:=ha.open_
 obtain⟨xb,cb,rfl,hcapb,hmb, -,hlb⟩:=hb.open_
 have HLA:=jD hla
 have HLB:=jD hlb
 clear ha hb hla hlb
 go_enter Tryz.func60,Tryz.ntmps60
 go_wp2
 go_loopw [13] (fun i wr=> ∃k:Nat,k≤l.length∧i= .int .i64 k∧Below w.heap.size w wr) (fun i _=>l.length - (intOf i).toNat)
 case atStart=>exact ⟨0,Nat.zero_le _,rfl,Below.refl _ _⟩
 case round=>
  obtain⟨k,hk,rfl,hbl⟩:=hrel
  by_cases hlt:k < l.length
  ·rcases HLA.out with hnil | ⟨b0,off,rfl,hb0,hc⟩
   ·rw[hnil] at hlt;simp at hlt
   rcases HLB.out with hnil | ⟨b1,off1,rfl,hb1,hc1⟩
   ·rw[hnil] at hlt;simp at hlt
   obtain⟨c0,rfl,hc0⟩:=hc k hlt
   obtain⟨c1,rfl,hc1⟩:=hc1 k hlt
   have d1:=(hbl.cell (p:=⟨b0,off+k,none⟩) hb0).trans (by have:=hc0 0 _ rfl;simpa [boolE] using this)
   have d2:=(hbl.cell (p:=⟨b1,off1+k,none⟩) hb1).trans (by have:=hc1 0 _ rfl;simpa [boolE] using this)
   generalize l[k]=x at*
   have hx:(x != x)=false:=by simp
   clear hc hc0 hc1
   go_wp2
   go_quiet (fail)
   go_wp2
   go_roundw
   case rel=>exact ⟨k+1,by omega,by go_num,below_drewN hbl _⟩
   case measure=>simp [intOf];omega
  ·go_wp2
   go_ret
   exact⟨rfl,hbl⟩
theorem townBegun_c (w:World):Calls Tryz.prog 48 #[] w fun e w'=>e= .returned (.bool true)∧Below w.heap.size w w':=by
 go_enter Tryz.func48,Tryz.ntmps48
 go_wp2_with fail
 (with_reducible refine(everyS w).mono ?_)
 rintro e w1 ⟨ev,rfl,hev,hb⟩
 obtain⟨ea,ec,hevs⟩:=(hev.at_ok every_chk).shape
 subst hevs
 have HEV:=jD (FOwn.at_ok hev every_chk)
 have HB1:=jD hb
 obtain⟨BS,hBS⟩: ∃BS,BS=w1.heap.size:=⟨_,rfl⟩
 obtain⟨W2,hW2⟩: ∃W2,W2=w1.alloc (.cells #[.slice ea everyB.length ec, .slice none 0 0] 33):=⟨_,rfl⟩
 have hb2:Below w1.heap.size w1 W2:=by rw[hW2];exact bal _
 have HBL:=jD (show W2.heap[BS]? =some (Obj.cells #[.slice ea everyB.length ec, .slice none 0 0] 33 (0,0)) by rw[hW2];exact alloc_new _ _ _ _ hBS)
 have HB2:=jD (bstep HB1.out hb2)
 have HROW:=jD (show RowAt bxsE W2 (.slice (some ⟨BS,0,none⟩) 2 2) [everyB,[]] from by
  refine⟨[[.slice ea everyB.length ec],[.slice none 0 0]],⟨⟨_,rfl,HEV.out.below hb2⟩,⟨_,rfl,BxsAt.nil _⟩,trivial⟩, ?_⟩
  exact CellsAt.mk (Nat.le_refl _) (by decide) (hlt_of HBL.out) fun j x hj=>by rw[Nat.zero_add];exact cell_of_block (j:=j) HBL.out (by simpa using hj))
 clear hev hb hb2
 go_wp2_with fail
 rw[←hW2,←hBS]
 clear hW2 hBS
 have HT:=jD (tnew_c _ _ (fun q=>W2.heap.size≤q) W2 HROW.out (by decide) (by intro F hF;simp only[List.mem_cons,List.not_mem_nil,or_false] at hF;rcases hF with rfl | rfl <;> decide) (fun _ h=>h))
 (with_reducible refine(HT.out).mono ?_)
 rintro e w3 ⟨g,rfl,ht,hb⟩
 have HTW:=jD ht
 have HB3:=jD (bstep HB2.out hb)
 have HSZ:=jD hb.size
 have HW2:=jD HB2.out.size
 clear ht hb HT
 have HS:=jD (show Calls Tryz.prog 19 #[.pointer (some ⟨g,0,none⟩), .int .i64 0, .int .i64 1] w3 _ from tsend_c g W2.heap.size (fun q=>W2.heap.size≤q) _ 0 1 (by decide) (by decide) w3 HTW.out (fun q hq=>Nat.le_trans HSZ.out hq))
 go_wp2_with fail
 (with_reducible refine(HS.out).mono ?_)
 rintro e w4 ⟨rfl,h4,hs4⟩
 have H4:=jD h4
 have HST:=jD hs4
 clear h4 hs4 HS
 have he:sendE (newT [everyB,[]]) 0 1=0:=by decide
 have hsr:sendR (newT [everyB,[]]) 0 (by decide) 1=sendT (newT [everyB,[]]) 0 (by decide) 1:=by unfold sendR;rw [if_pos he]
 rw[he]
 rw[hsr] at H4
 clear he hsr
 have HBR:=jD (show Calls Tryz.prog 20 #[.pointer (some ⟨g,0,none⟩), .int .i64 0] w4 _ from tbring_ask g W2.heap.size (fun q=>W2.heap.size≤q) _ 0 1 _ rfl w4 H4.out (fun q hq=>Nat.le_trans HSZ.out (Nat.le_trans HST.out.size hq)) (by decide) (by decide))
 go_wp2_with fail
 (with_reducible refine(HBR.out).mono ?_)
 rintro e w5 ⟨rfl,h5,hs5⟩
 have H5:=jD h5
 have HS5:=jD (HST.out.trans hs5)
 clear h5 hs5 HBR
 have HWY:=jD (show Calls Tryz.prog 58 #[.pointer (some ⟨g,0,none⟩)] w5 fun e w'=> ∃a c,e= .returned (.slice a 2 c)∧w'.ownsRow w5.heap.size 4 1 (.slice a 2 c) 2 [.bool false, .bool true]∧Below w5.heap.size w5 w' from tway_c g W2.heap.size (fun q=>W2.heap.size≤q) _ w5 H5.out)
 go_wp2_with fail
 (with_reducible refine(HWY.out).mono ?_)
 rintro e w6 ⟨wa,wc,rfl,hw,hb6⟩
 have HB6:=jD (((Stp.of_below (G:=fun q=>W2.heap.size≤q) HB3.out).trans HS5.out).below hb6)
 obtain⟨BL,hBL⟩: ∃BL,BL=w6.heap.size:=⟨_,rfl⟩
 obtain⟨W7,hW7⟩: ∃W7,W7=w6.alloc (.cells #[.bool false, .bool true] 4):=⟨_,rfl⟩
 have hb7:Below w6.heap.size w6 W7:=by rw[hW7];exact bal _
 have HB7:=jD (HB6.out.below hb7)
 have hbl7:W7.heap[BL]? =some (Obj.cells #[.bool false, .bool true] 4 (0,0)):=by rw[hW7];exact alloc_new _ _ _ _ hBL
 have HQ1:=jD (show RowAt boolE W7 (.slice wa 2 wc) [false,true] from boolE_at ((CellsAt.of_owns hw (by decide)).below hb7))
 have HQ2:=jD (show RowAt boolE W7 (.slice (some ⟨BL,0,none⟩) 2 2) [false,true] from boolE_at (CellsAt.mk (Nat.le_refl _) (by decide) (hlt_of hbl7) fun j x hj=>by rw[Nat.zero_add];exact cell_of_block (j:=j) hbl7 (by simpa using hj)))
 clear hw hb6 hb7 hbl7 HWY
 have HEQ:=jD (eqBools_c _ _ _ W7 HQ1.out HQ2.out)
 go_wp2_with fail
 rw[←hW7,←hBL]
 clear hW7 hBL
 (with_reducible refine(HEQ.out).mono ?_)
 rintro e w8 ⟨rfl,hb8⟩
 have HB8:=jD ((HB7.out.below hb8).sp.toBelow (base:=w.heap.size) (fun _ hq=>Nat.le_trans HW2.out hq) (Nat.le_refl _))
 clear hb8
 go_wp2
 go_ret
 exact⟨rfl,HB8.out⟩
end Go.Proofs.YtgkgdedhicnohaaGreat
