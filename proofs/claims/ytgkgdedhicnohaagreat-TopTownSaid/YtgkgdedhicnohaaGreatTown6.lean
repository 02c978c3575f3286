/- What a town's Bring does. Written by a small program (gen/town6.py). -/
import Derived.Test.YtgkgdedhicnohaaGreatMTown1
import Derived.Test.YtgkgdedhicnohaaGreatMClaims
import Derived.Test.YtgkgdedhicnohaaGreatMCl3
namespace Go.Proofs.YtgkgdedhicnohaaGreat
open Go.RowKit
def GvT (w:World) (b:Nat) (bt:BtS) (v:Value):Prop:= ∃(a1:Option Addr) (c1:Nat) (a2:Option Addr) (c2:Nat) (a3:Option Addr) (c3:Nat),v= .tuple #[.agg #[.int .i64 bt.site, .int .i64 bt.stamp, .slice a1 bt.V.length c1, .slice a2 bt.G.length c2, .slice a3 bt.S.length c3], .int .i64 0]∧BtOwn w b (.slice a1 bt.V.length c1) (.slice a2 bt.G.length c2) (.slice a3 bt.S.length c3) bt
def GvA (w:World) (b:Nat) (bt:BtS) (v:Value):Prop:= ∃(a1:Option Addr) (c1:Nat) (a2:Option Addr) (c2:Nat) (a3:Option Addr) (c3:Nat),v= .agg #[.int .i64 bt.site, .int .i64 bt.stamp, .slice a1 bt.V.length c1, .slice a2 bt.G.length c2, .slice a3 bt.S.length c3]∧BtOwn w b (.slice a1 bt.V.length c1) (.slice a2 bt.G.length c2) (.slice a3 bt.S.length c3) bt
theorem GvT.stp {G:Nat→Prop} {w w':World} {b:Nat} {bt:BtS} {v:Value} (h:GvT w b bt v) (hs:Stp G w w'):GvT w' b bt v:=by
 obtain⟨a1,c1,a2,c2,a3,c3,e,ho⟩:=h;exact ⟨a1,c1,a2,c2,a3,c3,e,ho.stp hs⟩
theorem GvA.stp {G:Nat→Prop} {w w':World} {b:Nat} {bt:BtS} {v:Value} (h:GvA w b bt v) (hs:Stp G w w'):GvA w' b bt v:=by
 obtain⟨a1,c1,a2,c2,a3,c3,e,ho⟩:=h;exact ⟨a1,c1,a2,c2,a3,c3,e,ho.stp hs⟩
def BatNew (w:World) (lo:Nat) (v:Value):Prop:= ∃q,v= .pointer (some ⟨q,0,none⟩)∧w.heap[q]? =some (Obj.cells #[.int .i64 0, .int .i64 0, .slice none 0 0, .slice none 0 0, .slice none 0 0] 52 (0,0))∧lo≤q
theorem BatNew.below {w w':World} {lo:Nat} {v:Value} (h:BatNew w lo v) (hb:Below w.heap.size w w'):BatNew w' lo v:=by
 obtain⟨q,e,h1,h2⟩:=h;exact ⟨q,e,below_keep hb h1,h2⟩
def BatIs (w:World) (b lo:Nat) (bt:BtS) (v:Value):Prop:= ∃q,v= .pointer (some ⟨q,0,none⟩)∧BatBk w b q bt∧lo≤q
theorem BatIs.below {w w':World} {b lo:Nat} {bt:BtS} {v:Value} (h:BatIs w b lo bt v) (hb:Below w.heap.size w w'):BatIs w' b lo bt v:=by
 obtain⟨q,e,h1,h2⟩:=h;exact ⟨q,e,h1.stp (G:=fun _=>False) (Stp.of_below hb) fun h=>h,h2⟩
theorem set5 {w:World} {q:Nat} {x0 x1 x2 x3 x4 y0 y1 y2 y3 y4:Value} {t:TypeId} (h:w.heap[q]? =some (Obj.cells #[x0,x1,x2,x3,x4] t (0,0))) (ht:dataT t=false):
  (((((w.setCell ⟨q,0,none⟩ y0).setCell ⟨q,1,none⟩ y1).setCell ⟨q,2,none⟩ y2).setCell ⟨q,3,none⟩ y3).setCell ⟨q,4,none⟩ y4).heap[q]? =some (Obj.cells #[y0,y1,y2,y3,y4] t (0,0))∧Stp (fun k=>k=q) w (((((w.setCell ⟨q,0,none⟩ y0).setCell ⟨q,1,none⟩ y1).setCell ⟨q,2,none⟩ y2).setCell ⟨q,3,none⟩ y3).setCell ⟨q,4,none⟩ y4):=by
 have b0:=heap_set_same (j:=0) (v:=y0) h
 have b1:=heap_set_same (j:=1) (v:=y1) b0
 have b2:=heap_set_same (j:=2) (v:=y2) b1
 have b3:=heap_set_same (j:=3) (v:=y3) b2
 have b4:=heap_set_same (j:=4) (v:=y4) b3
 exact⟨by rw[b4];rfl,((((Stp.set h ht).trans (Stp.set b0 ht)).trans (Stp.set b1 ht)).trans (Stp.set b2 ht)).trans (Stp.set b3 ht)⟩
set_option maxRecDepth 100000 in
set_option maxHeartbeats 16000000 in
theorem tbring_bat (g b:Nat) (T:Nat→Prop) (t:TownS) (j to:Nat) (bt:BtS) (hj:t.way[j]? =some (.bat to bt)) (wz:World) (h:TownAt wz b T g t) (hTn: ∀q,wz.heap.size≤q→T q) (hto0:to < t.sites.length):
  Calls Tryz.prog 20 #[.pointer (some ⟨g,0,none⟩), .int .i64 (j:Nat)] wz fun e w'=>e= .returned (.int .i64 (tookE t.sites[to] bt))∧TownAt w' b T g (takeT t to hto0 bt)∧Stp T wz w':=by
 have h60:=h.ok.lw
 obtain⟨hjl,hje⟩:=List.getElem?_eq_some_iff.1 hj
 have hlo:=h.ok.way _ (List.getElem_mem hjl)
 rw[hje] at hlo
 obtain⟨sv,wv,css,hblk,hlets,hrow,hwT,hset⟩:=h.letters
 obtain⟨qw,wcap,c,rfl,hqw,hck,hla,hcc⟩:=row_let hrow hlets hjl
 rw[hje] at hla
 obtain⟨qb,rfl,vv,gv,pv,hbk,hbo⟩:=hla
 obtain⟨qs,cap,gi,wv2,hblk2,hqs,hq,hS,hTi,hne,hqg,hset2⟩:=h.use hto0
 have he2:=hblk
 rw[hblk2] at he2
 simp only[Option.some.injEq,Obj.cells.injEq,and_true,Array.mk.injEq,List.cons.injEq] at he2
 obtain⟨rfl,rfl⟩:=he2
 have c1:wz.cell? ⟨g,1,none⟩=some (.slice (some ⟨qw,0,none⟩) t.way.length wcap):=cell_of_block (j:=1) hblk rfl
 have l0:=hcc 0 _ rfl
 have l1:=hcc 1 _ rfl
 have l2:=hcc 2 _ rfl
 rw[Nat.add_zero] at l0
 obtain⟨BL,hBL⟩: ∃BL,BL=wz.heap.size:=⟨_,rfl⟩
 obtain⟨W1,hW1⟩: ∃W1,W1=wz.alloc (.cells #[.int .i64 (to:Nat), .pointer none, .pointer (some ⟨qb,0,none⟩)] 136):=⟨_,rfl⟩
 have hb1:Below wz.heap.size wz W1:=by rw[hW1];exact bal _
 have HLB:=Lib.hid (show W1.heap[BL]? =some (Obj.cells #[.int .i64 (to:Nat), .pointer none, .pointer (some ⟨qb,0,none⟩)] 136 (0,0)) by rw[hW1];exact alloc_new _ _ _ _ hBL)
 have HB1:=Lib.hid hb1
 have HTW:=Lib.hid h
 have HTN:=Lib.hid hTn
 have HBLE:=Lib.hid hBL
 obtain⟨va,vc,rfl⟩:=hbo.vers.shape
 obtain⟨ga,gc,rfl⟩:=GOwn.shape hbo.gone
 obtain⟨pa,pc,rfl⟩:=hbo.parts.shape
 have HBK:=Lib.hid (below_keep hb1 hbk)
 have HBO:=Lib.hid (hbo.below hb1)
 have HLO:=Lib.hid hlo
 have HSI:=Lib.hid (hS.below hb1)
 have HGI:=Lib.hid hS.lt
 have HTI:=Lib.hid hTi
 have HC0:=Lib.hid (cell_of_block (j:=0) (below_keep hb1 hblk) rfl:W1.cell? ⟨g,0,none⟩=some (.slice (some ⟨qs,0,none⟩) t.sites.length cap))
 have HCQ:=Lib.hid (ckeep hb1 hq)
 have HL0:=Lib.hid (cell_of_block (j:=0) HLB.out rfl:W1.cell? ⟨BL,0,none⟩=some (.int .i64 (to:Nat)))
 have HL1:=Lib.hid (cell_of_block (j:=1) HLB.out rfl:W1.cell? ⟨BL,1,none⟩=some (.pointer none))
 have HL2:=Lib.hid (cell_of_block (j:=2) HLB.out rfl:W1.cell? ⟨BL,2,none⟩=some (.pointer (some ⟨qb,0,none⟩)))
 have HSET2:=Lib.hid hset2
 have d0:decide ((j:Int) < 0)=false:=by simp
 have d1:decide ((t.way.length:Int)≤(j:Int))=false:=by simp;omega
 have hjn:(j:Int) < (t.way.length:Int):=by omega
 have hin:decide ((to:Int) < (t.sites.length:Int))=true:=by simp;omega
 have H60:=Lib.hid h60
 clear h hTn hj hje hlo hblk hlets hrow hwT hset hck hcc hbk hblk2 hqs hq hS hTi hne hqg hset2 hb1 hbo
 go_enter Tryz.func20,Tryz.ntmps20
 go_wp2_with fail
 rw[←hBL,←hW1]
 clear hW1 hBL l0 l1 l2 c1
 obtain⟨E9,hE9⟩: ∃E9,E9=tookE t.sites[to] bt:=⟨_,rfl⟩
 obtain⟨s9,hs9⟩: ∃s9,s9=tookS t.sites[to] bt:=⟨_,rfl⟩
 have HMK:=Lib.hid (fun (wx:World) (hb:Below W1.heap.size W1 wx)=>show Calls Tryz.prog 23 #[.pointer (some ⟨gi,0,none⟩), .agg #[.int .i64 bt.site, .int .i64 bt.stamp, .slice va bt.V.length vc, .slice ga bt.G.length gc, .slice pa bt.S.length pc]] wx fun e w'=>e= .returned (.int .i64 E9)∧SiteAt w' b gi s9∧Stp (fun q=>q=gi) wx w' from
  (take_bt (HSI.out.below hb) HLO.out.2 (HBO.out.below hb)).mono fun e w' hh=>by
   obtain⟨h1,h2,h3⟩:=hh
   exact⟨by rw[h1,hE9],by rw[hs9];exact h2,h3⟩)
 have HSETS:=Lib.hid (fun (w':World) (hs:Stp (fun q=>q=gi) wz w') (hn:SiteAt w' b gi s9)=>show TownAt w' b T g (takeT t to hto0 bt) from by
  unfold takeT;rw [←hs9];exact HSET2.out w' s9 hs hn (by rw[hs9];exact (tookS_me _ _).1))
 have HK0:=Lib.hid (cell_of_block (j:=0) HBK.out rfl:W1.cell? ⟨qb,0,none⟩=some (.int .i64 bt.site))
 have HK1:=Lib.hid (cell_of_block (j:=1) HBK.out rfl:W1.cell? ⟨qb,1,none⟩=some (.int .i64 bt.stamp))
 have HK2:=Lib.hid (cell_of_block (j:=2) HBK.out rfl:W1.cell? ⟨qb,2,none⟩=some (.slice va bt.V.length vc))
 have HK3:=Lib.hid (cell_of_block (j:=3) HBK.out rfl:W1.cell? ⟨qb,3,none⟩=some (.slice ga bt.G.length gc))
 have HK4:=Lib.hid (cell_of_block (j:=4) HBK.out rfl:W1.cell? ⟨qb,4,none⟩=some (.slice pa bt.S.length pc))
 have HE9:=Lib.hid hE9
 clear hE9 hs9
 refine Cl3.region0 79 rfl (fun u=>[12]) (fun u ww=>Below W1.heap.size W1 ww) (fun _=>[]) (fun jq v ww=>match jq with | 0=>v= .pointer (some ⟨g,0,none⟩) | 1=>v= .pointer (some ⟨g,0,none⟩) | 2=>v= .pointer (some ⟨g,0,none⟩) | 3=>v= .slice (some ⟨qs,0,none⟩) t.sites.length cap | 4=>v= .pointer (some ⟨BL,0,none⟩) | 5=>v= .int .i64 (to:Nat) | 6=>v= .pointer (some ⟨qs,to,none⟩) | 7=>v= .pointer (some ⟨gi,0,none⟩) | 8=>v= .pointer (some ⟨BL,2,none⟩) | 9=>v= .pointer (some ⟨qb,0,none⟩) | 10=>v= .pointer (some ⟨qb,0,none⟩) | 11=>v= .agg #[.int .i64 bt.site, .int .i64 bt.stamp, .slice va bt.V.length vc, .slice ga bt.G.length gc, .slice pa bt.S.length pc] | 12=>SiteAt ww b gi s9∧v= .int .i64 E9 | 13=>v= .int .i64 E9 | _=>True) (fun ww=>Stp (fun q=>q=gi) wz ww) (fun jq ww ww'=>(jq≠12→Below ww.heap.size ww ww')∧(jq=12→Stp (fun q=>q=gi) ww ww')) Tryz.mixed (by decide+kernel) (Stp.of_below HB1.out).drew (fun u=>(Below.refl _ _).drew) ?_ (fun jq ww ww' u hk h hR=>bstep h (hR.1 (by intro e;simp [e] at hk))) ?_ ?_
 ·intro q r v w w' hne hk hlt h hR
  match r,hk,hlt,h,hne with
  | 0,_,_,h,_=>exact h
  | 1,_,_,h,_=>exact h
  | 2,_,_,h,_=>exact h
  | 3,_,_,h,_=>exact h
  | 4,_,_,h,_=>exact h
  | 5,_,_,h,_=>exact h
  | 6,_,_,h,_=>exact h
  | 7,_,_,h,_=>exact h
  | 8,_,_,h,_=>exact h
  | 9,_,_,h,_=>exact h
  | 10,_,_,h,_=>exact h
  | 11,_,_,h,_=>exact h
  | 12,hk,hlt,h,hne=>exact ⟨h.1.below (hR.1 (by exact hne)),h.2⟩
  | 13,_,_,h,_=>exact h
  | _+14,_,_,_,_=>trivial
 ·refine⟨?_, ?_, ?_, ?_, ?_, ?_, ?_, ?_, ?_, ?_, ?_, ?_, ?_, ?_,trivial⟩
  ·intro x wx hG
   have f0:=hG.old 0 (by decide+kernel)
   have hg:=hG.good
   clear hG
   go_wp2
   exact⟨_,rfl,rfl,hg,⟨fun _=>Below.refl _ _,fun h=>absurd h (by decide)⟩⟩
  ·intro x wx hG
   have g0:(x.tmps.getD 29 undef)= .pointer (some ⟨g,0,none⟩):=hG.claims 0 _ rfl (by decide+kernel) (by decide+kernel)
   have g0b:=g0
   rw[Array.getD_eq_getD_getElem?] at g0b
   have hg:=hG.good
   clear hG
   go_wp2
   exact⟨_,rfl,rfl,hg,⟨fun _=>Below.refl _ _,fun h=>absurd h (by decide)⟩⟩
  ·intro x wx hG
   have g1:(x.tmps.getD 30 undef)= .pointer (some ⟨g,0,none⟩):=hG.claims 1 _ rfl (by decide+kernel) (by decide+kernel)
   have g1b:=g1
   rw[Array.getD_eq_getD_getElem?] at g1b
   have hg:=hG.good
   clear hG
   go_wp2
   exact⟨_,rfl,rfl,hg,⟨fun _=>Below.refl _ _,fun h=>absurd h (by decide)⟩⟩
  ·intro x wx hG
   have g2:(x.tmps.getD 31 undef)= .pointer (some ⟨g,0,none⟩):=hG.claims 2 _ rfl (by decide+kernel) (by decide+kernel)
   have g2b:=g2
   rw[Array.getD_eq_getD_getElem?] at g2b
   have hp0:=hG.pre 0 (by decide+kernel)
   have hg:=hG.good
   clear hG
   have c_HC0:=ckeep hp0 HC0.out
   go_wp2
   exact⟨_,rfl,rfl,hg,⟨fun _=>Below.refl _ _,fun h=>absurd h (by decide)⟩⟩
  ·intro x wx hG
   have f5:=hG.old 5 (by decide+kernel)
   have hg:=hG.good
   clear hG
   go_wp2
   exact⟨_,rfl,rfl,hg,⟨fun _=>Below.refl _ _,fun h=>absurd h (by decide)⟩⟩
  ·intro x wx hG
   have g4:(x.tmps.getD 33 undef)= .pointer (some ⟨BL,0,none⟩):=hG.claims 4 _ rfl (by decide+kernel) (by decide+kernel)
   have g4b:=g4
   rw[Array.getD_eq_getD_getElem?] at g4b
   have hp0:=hG.pre 0 (by decide+kernel)
   have hg:=hG.good
   clear hG
   have c_HL0:=ckeep hp0 HL0.out
   go_wp2
   exact⟨_,rfl,rfl,hg,⟨fun _=>Below.refl _ _,fun h=>absurd h (by decide)⟩⟩
  ·intro x wx hG
   have g3:(x.tmps.getD 32 undef)= .slice (some ⟨qs,0,none⟩) t.sites.length cap:=hG.claims 3 _ rfl (by decide+kernel) (by decide+kernel)
   have g3b:=g3
   rw[Array.getD_eq_getD_getElem?] at g3b
   have g5:(x.tmps.getD 34 undef)= .int .i64 (to:Nat):=hG.claims 5 _ rfl (by decide+kernel) (by decide+kernel)
   have g5b:=g5
   rw[Array.getD_eq_getD_getElem?] at g5b
   have hg:=hG.good
   clear hG
   go_wp2
   exact⟨_,rfl,rfl,hg,⟨fun _=>Below.refl _ _,fun h=>absurd h (by decide)⟩⟩
  ·intro x wx hG
   have g6:(x.tmps.getD 35 undef)= .pointer (some ⟨qs,to,none⟩):=hG.claims 6 _ rfl (by decide+kernel) (by decide+kernel)
   have g6b:=g6
   rw[Array.getD_eq_getD_getElem?] at g6b
   have hp0:=hG.pre 0 (by decide+kernel)
   have hg:=hG.good
   clear hG
   have c_HCQ:=ckeep hp0 HCQ.out
   go_wp2
   exact⟨_,rfl,rfl,hg,⟨fun _=>Below.refl _ _,fun h=>absurd h (by decide)⟩⟩
  ·intro x wx hG
   have f5:=hG.old 5 (by decide+kernel)
   have hg:=hG.good
   clear hG
   go_wp2
   exact⟨_,rfl,rfl,hg,⟨fun _=>Below.refl _ _,fun h=>absurd h (by decide)⟩⟩
  ·intro x wx hG
   have g8:(x.tmps.getD 37 undef)= .pointer (some ⟨BL,2,none⟩):=hG.claims 8 _ rfl (by decide+kernel) (by decide+kernel)
   have g8b:=g8
   rw[Array.getD_eq_getD_getElem?] at g8b
   have hp0:=hG.pre 0 (by decide+kernel)
   have hg:=hG.good
   clear hG
   have c_HL2:=ckeep hp0 HL2.out
   go_wp2
   exact⟨_,rfl,rfl,hg,⟨fun _=>Below.refl _ _,fun h=>absurd h (by decide)⟩⟩
  ·intro x wx hG
   have g9:(x.tmps.getD 38 undef)= .pointer (some ⟨qb,0,none⟩):=hG.claims 9 _ rfl (by decide+kernel) (by decide+kernel)
   have g9b:=g9
   rw[Array.getD_eq_getD_getElem?] at g9b
   have hg:=hG.good
   clear hG
   go_wp2
   exact⟨_,rfl,rfl,hg,⟨fun _=>Below.refl _ _,fun h=>absurd h (by decide)⟩⟩
  ·intro x wx hG
   have g10:(x.tmps.getD 39 undef)= .pointer (some ⟨qb,0,none⟩):=hG.claims 10 _ rfl (by decide+kernel) (by decide+kernel)
   have g10b:=g10
   rw[Array.getD_eq_getD_getElem?] at g10b
   have hp0:=hG.pre 0 (by decide+kernel)
   have hg:=hG.good
   clear hG
   have c_HK0:=ckeep hp0 HK0.out
   have c_HK1:=ckeep hp0 HK1.out
   have c_HK2:=ckeep hp0 HK2.out
   have c_HK3:=ckeep hp0 HK3.out
   have c_HK4:=ckeep hp0 HK4.out
   go_wp2
   exact⟨_,rfl,rfl,hg,⟨fun _=>Below.refl _ _,fun h=>absurd h (by decide)⟩⟩
  ·intro x wx hG
   have g7:(x.tmps.getD 36 undef)= .pointer (some ⟨gi,0,none⟩):=hG.claims 7 _ rfl (by decide+kernel) (by decide+kernel)
   have g7b:=g7
   rw[Array.getD_eq_getD_getElem?] at g7b
   have g11:(x.tmps.getD 40 undef)= .agg #[.int .i64 bt.site, .int .i64 bt.stamp, .slice va bt.V.length vc, .slice ga bt.G.length gc, .slice pa bt.S.length pc]:=hG.claims 11 _ rfl (by decide+kernel) (by decide+kernel)
   have g11b:=g11
   rw[Array.getD_eq_getD_getElem?] at g11b
   have hp0:=hG.pre 0 (by decide+kernel)
   have hg:=hG.good
   clear hG
   have HN:=Lib.hid (HMK.out wx hp0)
   go_wp2_with fail
   (with_reducible refine(HN.out).mono ?_)
   rintro e wq ⟨rfl,h1,h2⟩
   have H1:=Lib.hid h1
   have H2:=Lib.hid h2
   clear h1 h2 HN
   go_wp2
   exact⟨_,rfl,⟨H1.out,rfl⟩,hg.trans H2.out,⟨fun h=>absurd rfl h,fun _=>H2.out⟩⟩
  ·intro x wx hG
   have g12:SiteAt wx b gi s9∧(x.tmps.getD 41 undef)= .int .i64 E9:=hG.claims 12 _ rfl (by decide+kernel) (by decide+kernel)
   have hg:=hG.good
   clear hG
   have g12v:=g12.2
   have g12vb:=g12v
   rw[Array.getD_eq_getD_getElem?] at g12vb
   go_wp2
   exact⟨_,rfl,rfl,hg,⟨fun _=>Below.refl _ _,fun h=>absurd h (by decide)⟩⟩
 ·intro vals w2 hg hF
  obtain⟨g0,g1,g2,g3,g4,g5,g6,g7,g8,g9,g10,g11,g12,g13, -⟩:=hF
  have e0:vals 0= .pointer (some ⟨g,0,none⟩):=g0 rfl
  have e1:vals 1= .pointer (some ⟨g,0,none⟩):=g1 rfl
  have e2:vals 2= .pointer (some ⟨g,0,none⟩):=g2 rfl
  have e3:vals 3= .slice (some ⟨qs,0,none⟩) t.sites.length cap:=g3 rfl
  have e4:vals 4= .pointer (some ⟨BL,0,none⟩):=g4 rfl
  have e5:vals 5= .int .i64 (to:Nat):=g5 rfl
  have e6:vals 6= .pointer (some ⟨qs,to,none⟩):=g6 rfl
  have e7:vals 7= .pointer (some ⟨gi,0,none⟩):=g7 rfl
  have e8:vals 8= .pointer (some ⟨BL,2,none⟩):=g8 rfl
  have e9:vals 9= .pointer (some ⟨qb,0,none⟩):=g9 rfl
  have e10:vals 10= .pointer (some ⟨qb,0,none⟩):=g10 rfl
  have e11:vals 11= .agg #[.int .i64 bt.site, .int .i64 bt.stamp, .slice va bt.V.length vc, .slice ga bt.G.length gc, .slice pa bt.S.length pc]:=g11 rfl
  replace g12:SiteAt w2 b gi s9∧(vals 12)= .int .i64 E9:=g12 rfl
  have e13:vals 13= .int .i64 E9:=g13 rfl
  simp only[Cl3.puts,e0,e1,e2,e3,e4,e5,e6,e7,e8,e9,e10,e11,e13]
  clear e0 e1 e2 e3 e4 e5 e6 e7 e8 e9 e10 e11 e13 g0 g1 g2 g3 g4 g5 g6 g7 g8 g9 g10 g11 g13
  go_simp
  generalize vals 12=mk9 at*
  have HST:=Lib.hid hg
  have HSN:=Lib.hid g12.1
  clear g12 hg
  go_wp2
  go_ret
  exact⟨by rw[←HE9.out];rfl,HSETS.out _ HST.out HSN.out,HST.out.mono fun k hk=>by rw[hk];exact HTI.out⟩
set_option maxRecDepth 100000 in
set_option maxHeartbeats 16000000 in
theorem tbring_ask (g b:Nat) (T:Nat→Prop) (t:TownS) (j to:Nat) (ak:AskS) (hj:t.way[j]? =some (.ask to ak)) (wz:World) (h:TownAt wz b T g t) (hTn: ∀q,wz.heap.size≤q→T q) (hto0:to < t.sites.length) (hw60:t.way.length < 60):
  Calls Tryz.prog 20 #[.pointer (some ⟨g,0,none⟩), .int .i64 (j:Nat)] wz fun e w'=>e= .returned (.int .i64 0)∧TownAt w' b T g { t with way:=t.way++[ansT t.sites[to] ak] } ∧Stp T wz w':=by
 have h60:=h.ok.lw
 obtain⟨hjl,hje⟩:=List.getElem?_eq_some_iff.1 hj
 have hlo:=h.ok.way _ (List.getElem_mem hjl)
 rw[hje] at hlo
 obtain⟨sv,wv,css,hblk,hlets,hrow,hwT,hset⟩:=h.letters
 obtain⟨qw,wcap,c,rfl,hqw,hck,hla,hcc⟩:=row_let hrow hlets hjl
 rw[hje] at hla
 obtain⟨qb,rfl,fv,pv,hbk,hfo,hpo⟩:=hla
 obtain⟨qs,cap,gi,wv2,hblk2,hqs,hq,hS,hTi,hne,hqg,hset2⟩:=h.use hto0
 have he2:=hblk
 rw[hblk2] at he2
 simp only[Option.some.injEq,Obj.cells.injEq,and_true,Array.mk.injEq,List.cons.injEq] at he2
 obtain⟨rfl,rfl⟩:=he2
 have c1:wz.cell? ⟨g,1,none⟩=some (.slice (some ⟨qw,0,none⟩) t.way.length wcap):=cell_of_block (j:=1) hblk rfl
 have l0:=hcc 0 _ rfl
 have l1:=hcc 1 _ rfl
 have l2:=hcc 2 _ rfl
 rw[Nat.add_zero] at l0
 obtain⟨BL,hBL⟩: ∃BL,BL=wz.heap.size:=⟨_,rfl⟩
 obtain⟨W1,hW1⟩: ∃W1,W1=wz.alloc (.cells #[.int .i64 (to:Nat), .pointer (some ⟨qb,0,none⟩), .pointer none] 136):=⟨_,rfl⟩
 have hb1:Below wz.heap.size wz W1:=by rw[hW1];exact bal _
 have HLB:=Lib.hid (show W1.heap[BL]? =some (Obj.cells #[.int .i64 (to:Nat), .pointer (some ⟨qb,0,none⟩), .pointer none] 136 (0,0)) by rw[hW1];exact alloc_new _ _ _ _ hBL)
 have HB1:=Lib.hid hb1
 have HTW:=Lib.hid h
 have HTN:=Lib.hid hTn
 have HBLE:=Lib.hid hBL
 obtain⟨fa,fn,fc,rfl⟩:=FO.shape0 hfo
 obtain⟨pa,pc,rfl⟩:=hpo.shape
 have HBK:=Lib.hid (below_keep hb1 hbk)
 have HFO:=Lib.hid (hfo.below hb1)
 have HPO:=Lib.hid (hpo.below hb1)
 have c1a:(wz.alloc (.cells #[.int .i64 (to:Nat), .pointer (some ⟨qb,0,none⟩), .pointer none] 136)).cell? ⟨g,1,none⟩=some (.slice (some ⟨qw,0,none⟩) t.way.length wcap):=by rw[←hW1];exact ckeep hb1 c1
 have hd6:decide ((60:Int)≤(t.way.length:Int))=false:=by simp;omega
 have HLO:=Lib.hid hlo
 have HSI:=Lib.hid (hS.below hb1)
 have HGI:=Lib.hid hS.lt
 have HTI:=Lib.hid hTi
 have HC0:=Lib.hid (cell_of_block (j:=0) (below_keep hb1 hblk) rfl:W1.cell? ⟨g,0,none⟩=some (.slice (some ⟨qs,0,none⟩) t.sites.length cap))
 have HCQ:=Lib.hid (ckeep hb1 hq)
 have HL0:=Lib.hid (cell_of_block (j:=0) HLB.out rfl:W1.cell? ⟨BL,0,none⟩=some (.int .i64 (to:Nat)))
 have HL1:=Lib.hid (cell_of_block (j:=1) HLB.out rfl:W1.cell? ⟨BL,1,none⟩=some (.pointer (some ⟨qb,0,none⟩)))
 have HL2:=Lib.hid (cell_of_block (j:=2) HLB.out rfl:W1.cell? ⟨BL,2,none⟩=some (.pointer none))
 have HSET2:=Lib.hid hset2
 have d0:decide ((j:Int) < 0)=false:=by simp
 have d1:decide ((t.way.length:Int)≤(j:Int))=false:=by simp;omega
 have hjn:(j:Int) < (t.way.length:Int):=by omega
 have hin:decide ((to:Int) < (t.sites.length:Int))=true:=by simp;omega
 have H60:=Lib.hid h60
 clear h hTn hj hje hlo hblk hlets hrow hwT hset hck hcc hbk hblk2 hqs hq hS hTi hne hqg hset2 hb1 hfo hpo
 go_enter Tryz.func20,Tryz.ntmps20
 go_wp2_with fail
 rw[←hBL,←hW1]
 clear hW1 hBL l0 l1 l2 c1 c1a hd6
 obtain⟨bt,hbt⟩: ∃bt,bt=giveB t.sites[to] ak.site ak.stamp ak.P ak.S:=⟨_,rfl⟩
 have HBT:=Lib.hid hbt
 have HBTOK:=Lib.hid (show BtSOk bt by rw[hbt];exact giveB_ok HSI.out.ok HLO.out.2.1.site HLO.out.2.1.stamp _ _)
 have HMK:=Lib.hid (fun (wx:World) (hb:Below W1.heap.size W1 wx)=>show Calls Tryz.prog 21 #[.pointer (some ⟨gi,0,none⟩), .agg #[.int .i64 ak.site, .int .i64 ak.stamp, .slice fa fn fc, .slice pa ak.S.length pc]] wx fun e w'=> ∃v,e= .returned v∧GvT w' b bt v∧Below wx.heap.size wx w' from by
  obtain⟨FF,hF1,hF2,hF3⟩:=HFO.out.below hb
  obtain⟨AP,hA1,hA2,hA3⟩:=HPO.out.below hb
  have hl:=HLO.out.2.1.ls
  have hA30:AP.length≤30:=by rw[←hA3,List.length_map] at hl;exact hl
  refine(sgive_c gi b t.sites[to] ak.site ak.stamp _ _ FF AP wx (HSI.out.below hb) HLO.out.2.1.site HLO.out.2.1.stamp.1 (FOwn.at_ok hF1 hF2) hF2 (hA1.at_ (fun z hz=>(hA2 z hz).1) (by omega)) (ptsChk_zero.2 ⟨hA30,fun z hz=>(hA2 z hz).1⟩)).mono ?_
  rintro e w' ⟨vv,gv,pv,rfl,ho,hb2⟩
  have e2:giveB t.sites[to] ak.site ak.stamp (ptsOf FF) (AP.map sem)=bt:=by
   rw[hbt,hA3]
   exact giveB_congr HSI.out.ok fun t n ht hn=>by rw[ptsOf_in ht hn];exact hF3 t n ht hn
  rw[e2] at ho
  obtain⟨a1,c1,rfl⟩:=ho.vers.shape
  obtain⟨a2,c2,rfl⟩:=GOwn.shape ho.gone
  obtain⟨a3,c3,rfl⟩:=ho.parts.shape
  have e3:ak.site=bt.site∧ak.stamp=bt.stamp:=by rw[hbt];exact ⟨rfl,rfl⟩
  refine⟨_,rfl,⟨a1,c1,a2,c2,a3,c3,by rw[e3.1,e3.2],ho.mono ?_⟩,hb2⟩
  have h1:=HTW.out.ge.1
  have h2:=HTW.out.lt
  have h3:=HB1.out.size
  have h4:=hb.size
  omega)
 have HK0:=Lib.hid (cell_of_block (j:=0) HBK.out rfl:W1.cell? ⟨qb,0,none⟩=some (.int .i64 ak.site))
 have HK1:=Lib.hid (cell_of_block (j:=1) HBK.out rfl:W1.cell? ⟨qb,1,none⟩=some (.int .i64 ak.stamp))
 have HK2:=Lib.hid (cell_of_block (j:=2) HBK.out rfl:W1.cell? ⟨qb,2,none⟩=some (.slice fa fn fc))
 have HK3:=Lib.hid (cell_of_block (j:=3) HBK.out rfl:W1.cell? ⟨qb,3,none⟩=some (.slice pa ak.S.length pc))
 have H6X:=Lib.hid hw60
 clear hbt hw60
 refine Cl2.region0 79 rfl [] (fun _=>True) (fun jq=>match jq with | 16=>[17] | _=>[]) (fun jq v ww=>match jq with | 0=>v= .pointer (some ⟨g,0,none⟩) | 1=>v= .pointer (some ⟨g,0,none⟩) | 2=>v= .pointer (some ⟨g,0,none⟩) | 3=>v= .slice (some ⟨qs,0,none⟩) t.sites.length cap | 4=>v= .pointer (some ⟨BL,0,none⟩) | 5=>v= .int .i64 (to:Nat) | 6=>v= .pointer (some ⟨qs,to,none⟩) | 7=>v= .pointer (some ⟨gi,0,none⟩) | 8=>v= .pointer (some ⟨BL,1,none⟩) | 9=>v= .pointer (some ⟨qb,0,none⟩) | 10=>v= .pointer (some ⟨qb,0,none⟩) | 11=>v= .agg #[.int .i64 ak.site, .int .i64 ak.stamp, .slice fa fn fc, .slice pa ak.S.length pc] | 12=>GvT ww b bt v | 13=>GvT ww b bt v | 14=>GvA ww b bt v | 15=>v= .int .i64 0 | 16=>BatNew ww W1.heap.size v | 17=>BatIs ww b W1.heap.size bt v | 18=>v= .int .i64 0 | _=>True) (fun ww=>Below W1.heap.size W1 ww) (fun jq ww ww'=>(jq≠17→Below ww.heap.size ww ww')∧(jq=17→Stp (fun q=>W1.heap.size≤q) ww ww')) Tryz.mixed (by decide+kernel) (Below.refl _ _).drew trivial ?_ (fun _ _ _ _ _ _=>trivial) ?_ ?_
 ·intro q r v w w' hne hk hlt h hR
  match r,hk,hlt,h,hne with
  | 0,_,_,h,_=>exact h
  | 1,_,_,h,_=>exact h
  | 2,_,_,h,_=>exact h
  | 3,_,_,h,_=>exact h
  | 4,_,_,h,_=>exact h
  | 5,_,_,h,_=>exact h
  | 6,_,_,h,_=>exact h
  | 7,_,_,h,_=>exact h
  | 8,_,_,h,_=>exact h
  | 9,_,_,h,_=>exact h
  | 10,_,_,h,_=>exact h
  | 11,_,_,h,_=>exact h
  | 12,hk,hlt,h,hne=>
   by_cases e:q=17
   ·exact h.stp (hR.2 e)
   ·exact h.stp (Stp.of_below (G:=fun _=>False) (hR.1 e))
  | 13,hk,hlt,h,hne=>
   by_cases e:q=17
   ·exact h.stp (hR.2 e)
   ·exact h.stp (Stp.of_below (G:=fun _=>False) (hR.1 e))
  | 14,hk,hlt,h,hne=>
   by_cases e:q=17
   ·exact h.stp (hR.2 e)
   ·exact h.stp (Stp.of_below (G:=fun _=>False) (hR.1 e))
  | 15,_,_,h,_=>exact h
  | 16,hk,hlt,h,hne=>exact h.below (hR.1 (by simpa using hk))
  | 17,hk,hlt,h,hne=>exact h.below (hR.1 (by exact hne))
  | 18,_,_,h,_=>exact h
  | _+19,_,_,_,_=>trivial
 ·refine⟨?_, ?_, ?_, ?_, ?_, ?_, ?_, ?_, ?_, ?_, ?_, ?_, ?_, ?_, ?_, ?_, ?_, ?_, ?_,trivial⟩
  ·intro x wx hG
   have f0:=hG.old 0 (by decide+kernel)
   have hg:=hG.good
   clear hG
   go_wp2
   exact⟨_,rfl,rfl,hg,⟨fun _=>Below.refl _ _,fun h=>absurd h (by decide)⟩⟩
  ·intro x wx hG
   have g0:(x.tmps.getD 49 undef)= .pointer (some ⟨g,0,none⟩):=hG.claims 0 _ rfl (by decide+kernel) (by decide+kernel)
   have g0b:=g0
   rw[Array.getD_eq_getD_getElem?] at g0b
   have hg:=hG.good
   clear hG
   go_wp2
   exact⟨_,rfl,rfl,hg,⟨fun _=>Below.refl _ _,fun h=>absurd h (by decide)⟩⟩
  ·intro x wx hG
   have g1:(x.tmps.getD 50 undef)= .pointer (some ⟨g,0,none⟩):=hG.claims 1 _ rfl (by decide+kernel) (by decide+kernel)
   have g1b:=g1
   rw[Array.getD_eq_getD_getElem?] at g1b
   have hg:=hG.good
   clear hG
   go_wp2
   exact⟨_,rfl,rfl,hg,⟨fun _=>Below.refl _ _,fun h=>absurd h (by decide)⟩⟩
  ·intro x wx hG
   have g2:(x.tmps.getD 51 undef)= .pointer (some ⟨g,0,none⟩):=hG.claims 2 _ rfl (by decide+kernel) (by decide+kernel)
   have g2b:=g2
   rw[Array.getD_eq_getD_getElem?] at g2b
   have hg:=hG.good
   clear hG
   have c_HC0:=ckeep hg HC0.out
   go_wp2
   exact⟨_,rfl,rfl,hg,⟨fun _=>Below.refl _ _,fun h=>absurd h (by decide)⟩⟩
  ·intro x wx hG
   have f5:=hG.old 5 (by decide+kernel)
   have hg:=hG.good
   clear hG
   go_wp2
   exact⟨_,rfl,rfl,hg,⟨fun _=>Below.refl _ _,fun h=>absurd h (by decide)⟩⟩
  ·intro x wx hG
   have g4:(x.tmps.getD 53 undef)= .pointer (some ⟨BL,0,none⟩):=hG.claims 4 _ rfl (by decide+kernel) (by decide+kernel)
   have g4b:=g4
   rw[Array.getD_eq_getD_getElem?] at g4b
   have hg:=hG.good
   clear hG
   have c_HL0:=ckeep hg HL0.out
   go_wp2
   exact⟨_,rfl,rfl,hg,⟨fun _=>Below.refl _ _,fun h=>absurd h (by decide)⟩⟩
  ·intro x wx hG
   have g3:(x.tmps.getD 52 undef)= .slice (some ⟨qs,0,none⟩) t.sites.length cap:=hG.claims 3 _ rfl (by decide+kernel) (by decide+kernel)
   have g3b:=g3
   rw[Array.getD_eq_getD_getElem?] at g3b
   have g5:(x.tmps.getD 54 undef)= .int .i64 (to:Nat):=hG.claims 5 _ rfl (by decide+kernel) (by decide+kernel)
   have g5b:=g5
   rw[Array.getD_eq_getD_getElem?] at g5b
   have hg:=hG.good
   clear hG
   go_wp2
   exact⟨_,rfl,rfl,hg,⟨fun _=>Below.refl _ _,fun h=>absurd h (by decide)⟩⟩
  ·intro x wx hG
   have g6:(x.tmps.getD 55 undef)= .pointer (some ⟨qs,to,none⟩):=hG.claims 6 _ rfl (by decide+kernel) (by decide+kernel)
   have g6b:=g6
   rw[Array.getD_eq_getD_getElem?] at g6b
   have hg:=hG.good
   clear hG
   have c_HCQ:=ckeep hg HCQ.out
   go_wp2
   exact⟨_,rfl,rfl,hg,⟨fun _=>Below.refl _ _,fun h=>absurd h (by decide)⟩⟩
  ·intro x wx hG
   have f5:=hG.old 5 (by decide+kernel)
   have hg:=hG.good
   clear hG
   go_wp2
   exact⟨_,rfl,rfl,hg,⟨fun _=>Below.refl _ _,fun h=>absurd h (by decide)⟩⟩
  ·intro x wx hG
   have g8:(x.tmps.getD 57 undef)= .pointer (some ⟨BL,1,none⟩):=hG.claims 8 _ rfl (by decide+kernel) (by decide+kernel)
   have g8b:=g8
   rw[Array.getD_eq_getD_getElem?] at g8b
   have hg:=hG.good
   clear hG
   have c_HL1:=ckeep hg HL1.out
   go_wp2
   exact⟨_,rfl,rfl,hg,⟨fun _=>Below.refl _ _,fun h=>absurd h (by decide)⟩⟩
  ·intro x wx hG
   have g9:(x.tmps.getD 58 undef)= .pointer (some ⟨qb,0,none⟩):=hG.claims 9 _ rfl (by decide+kernel) (by decide+kernel)
   have g9b:=g9
   rw[Array.getD_eq_getD_getElem?] at g9b
   have hg:=hG.good
   clear hG
   go_wp2
   exact⟨_,rfl,rfl,hg,⟨fun _=>Below.refl _ _,fun h=>absurd h (by decide)⟩⟩
  ·intro x wx hG
   have g10:(x.tmps.getD 59 undef)= .pointer (some ⟨qb,0,none⟩):=hG.claims 10 _ rfl (by decide+kernel) (by decide+kernel)
   have g10b:=g10
   rw[Array.getD_eq_getD_getElem?] at g10b
   have hg:=hG.good
   clear hG
   have c_HK0:=ckeep hg HK0.out
   have c_HK1:=ckeep hg HK1.out
   have c_HK2:=ckeep hg HK2.out
   have c_HK3:=ckeep hg HK3.out
   go_wp2
   exact⟨_,rfl,rfl,hg,⟨fun _=>Below.refl _ _,fun h=>absurd h (by decide)⟩⟩
  ·intro x wx hG
   have g7:(x.tmps.getD 56 undef)= .pointer (some ⟨gi,0,none⟩):=hG.claims 7 _ rfl (by decide+kernel) (by decide+kernel)
   have g7b:=g7
   rw[Array.getD_eq_getD_getElem?] at g7b
   have g11:(x.tmps.getD 60 undef)= .agg #[.int .i64 ak.site, .int .i64 ak.stamp, .slice fa fn fc, .slice pa ak.S.length pc]:=hG.claims 11 _ rfl (by decide+kernel) (by decide+kernel)
   have g11b:=g11
   rw[Array.getD_eq_getD_getElem?] at g11b
   have hg:=hG.good
   clear hG
   have HN:=Lib.hid (HMK.out wx hg)
   go_wp2_with fail
   (with_reducible refine(HN.out).mono ?_)
   rintro e wq ⟨y9,rfl,h1,hb⟩
   obtain⟨a1,c1,a2,c2,a3,c3,hv,ho⟩:=h1
   subst hv
   have HO:=Lib.hid ho
   have H2:=Lib.hid hb
   clear ho hb HN
   go_wp2
   exact⟨_,rfl,⟨_,_,_,_,_,_,rfl,HO.out⟩,bstep hg H2.out,⟨fun _=>H2.out,fun h=>absurd h (by decide)⟩⟩
  ·intro x wx hG
   have g12:GvT wx b bt (x.tmps.getD 61 undef):=hG.claims 12 _ rfl (by decide+kernel) (by decide+kernel)
   have hg:=hG.good
   clear hG
   obtain⟨a1,c1,a2,c2,a3,c3,hv,ho⟩:=g12
   have hvb:=hv
   rw[Array.getD_eq_getD_getElem?] at hvb
   have HO:=Lib.hid ho
   clear ho
   go_wp2
   exact⟨_,rfl,⟨_,_,_,_,_,_,rfl,HO.out⟩,hg,⟨fun _=>Below.refl _ _,fun h=>absurd h (by decide)⟩⟩
  ·intro x wx hG
   have g13:GvT wx b bt (x.tmps.getD 48 undef):=hG.claims 13 _ rfl (by decide+kernel) (by decide+kernel)
   have hg:=hG.good
   clear hG
   obtain⟨a1,c1,a2,c2,a3,c3,hv,ho⟩:=g13
   have hvb:=hv
   rw[Array.getD_eq_getD_getElem?] at hvb
   have HO:=Lib.hid ho
   clear ho
   go_wp2
   exact⟨_,rfl,⟨_,_,_,_,_,_,rfl,HO.out⟩,hg,⟨fun _=>Below.refl _ _,fun h=>absurd h (by decide)⟩⟩
  ·intro x wx hG
   have g13:GvT wx b bt (x.tmps.getD 48 undef):=hG.claims 13 _ rfl (by decide+kernel) (by decide+kernel)
   have hg:=hG.good
   clear hG
   obtain⟨a1,c1,a2,c2,a3,c3,hv,ho⟩:=g13
   have hvb:=hv
   rw[Array.getD_eq_getD_getElem?] at hvb
   have HO:=Lib.hid ho
   clear ho
   go_wp2
   exact⟨_,rfl,rfl,hg,⟨fun _=>Below.refl _ _,fun h=>absurd h (by decide)⟩⟩
  ·intro x wx hG
   have hg:=hG.good
   clear hG
   go_wp2
   exact⟨_,rfl,⟨_,rfl,alloc_new _ _ _ _ rfl,hg.size⟩,bstep hg (bal _),⟨fun _=>bal _,fun h=>absurd h (by decide)⟩⟩
  ·intro x wx hG
   have g16:BatNew wx W1.heap.size (x.tmps.getD 6 undef):=hG.claims 16 _ rfl (by decide+kernel) (by decide+kernel)
   have g14:GvA wx b bt (x.tmps.getD 62 undef):=hG.claims 14 _ rfl (by decide+kernel) (by decide+kernel)
   have hg:=hG.good
   clear hG
   obtain⟨q,hq1,hq2,hlo⟩:=g16
   have HV:=Lib.hid hq1
   have hq1b:=hq1
   rw[Array.getD_eq_getD_getElem?] at hq1b
   obtain⟨a1,c1,a2,c2,a3,c3,hv,ho⟩:=g14
   have hvb:=hv
   rw[Array.getD_eq_getD_getElem?] at hvb
   have HO:=Lib.hid ho
   clear ho
   have HQ:=Lib.hid hq2
   have HLW:=Lib.hid hlo
   have r0:=cell_of_block (j:=0) hq2 rfl
   have f0:=free_of_block (j:=0) hq2
   have r1:=cell_of_block (j:=1) hq2 rfl
   have f1:=free_of_block (j:=1) hq2
   have r2:=cell_of_block (j:=2) hq2 rfl
   have f2:=free_of_block (j:=2) hq2
   have r3:=cell_of_block (j:=3) hq2 rfl
   have f3:=free_of_block (j:=3) hq2
   have r4:=cell_of_block (j:=4) hq2 rfl
   have f4:=free_of_block (j:=4) hq2
   have hRl:=hlt_of hq2
   have HG:=Lib.hid hg
   clear hq2 hlo hg
   go_wp2
   exact⟨undef,rfl,⟨q,Eq.trans (by kernel_rfl) HV.out,⟨_,_,_,(set5 HQ.out (by decide)).1,HO.out.stp (set5 HQ.out (by decide)).2⟩,HLW.out⟩,((((HG.out.setCell (p:=⟨q,0,none⟩) HLW.out _).setCell (p:=⟨q,1,none⟩) HLW.out _).setCell (p:=⟨q,2,none⟩) HLW.out _).setCell (p:=⟨q,3,none⟩) HLW.out _).setCell (p:=⟨q,4,none⟩) HLW.out _,⟨fun h=>absurd rfl h,fun _=>(set5 HQ.out (by decide)).2.mono fun k hk=>by rw[hk];exact HLW.out⟩⟩
  ·intro x wx hG
   have g15:(x.tmps.getD 63 undef)= .int .i64 0:=hG.claims 15 _ rfl (by decide+kernel) (by decide+kernel)
   have g15b:=g15
   rw[Array.getD_eq_getD_getElem?] at g15b
   have hg:=hG.good
   clear hG
   go_wp2
   exact⟨_,rfl,rfl,hg,⟨fun _=>Below.refl _ _,fun h=>absurd h (by decide)⟩⟩
 ·intro vals w2 hg hF
  obtain⟨g0,g1,g2,g3,g4,g5,g6,g7,g8,g9,g10,g11,g12,g13,g14,g15,g16,g17,g18, -⟩:=hF
  have e0:vals 0= .pointer (some ⟨g,0,none⟩):=g0 rfl
  have e1:vals 1= .pointer (some ⟨g,0,none⟩):=g1 rfl
  have e2:vals 2= .pointer (some ⟨g,0,none⟩):=g2 rfl
  have e3:vals 3= .slice (some ⟨qs,0,none⟩) t.sites.length cap:=g3 rfl
  have e4:vals 4= .pointer (some ⟨BL,0,none⟩):=g4 rfl
  have e5:vals 5= .int .i64 (to:Nat):=g5 rfl
  have e6:vals 6= .pointer (some ⟨qs,to,none⟩):=g6 rfl
  have e7:vals 7= .pointer (some ⟨gi,0,none⟩):=g7 rfl
  have e8:vals 8= .pointer (some ⟨BL,1,none⟩):=g8 rfl
  have e9:vals 9= .pointer (some ⟨qb,0,none⟩):=g9 rfl
  have e10:vals 10= .pointer (some ⟨qb,0,none⟩):=g10 rfl
  have e11:vals 11= .agg #[.int .i64 ak.site, .int .i64 ak.stamp, .slice fa fn fc, .slice pa ak.S.length pc]:=g11 rfl
  have e15:vals 15= .int .i64 0:=g15 rfl
  have g17:=g17 rfl
  have e18:vals 18= .int .i64 0:=g18 rfl
  simp only[Cl2.puts,e0,e1,e2,e3,e4,e5,e6,e7,e8,e9,e10,e11,e15,e18]
  clear e0 e1 e2 e3 e4 e5 e6 e7 e8 e9 e10 e11 e15 e18 g0 g1 g2 g3 g4 g5 g6 g7 g8 g9 g10 g11 g12 g13 g14 g15 g18
  go_simp
  obtain⟨qn,hqn9,hbkn,hlon⟩:=g17
  have hqn:vals 16= .pointer (some ⟨qn,0,none⟩):=Eq.trans (by kernel_rfl) hqn9
  clear hqn9
  have HBKN:=Lib.hid hbkn
  have HB2:=Lib.hid (bstep HB1.out hg)
  have HLN:=Lib.hid hlon
  clear g16 hbkn hg hlon
  rw[hqn]
  clear hqn
  generalize vals 12=j12 at*
  generalize vals 13=j13 at*
  generalize vals 14=j14 at*
  obtain⟨bv,bg,bp,hblkn,hbon⟩:=HBKN.out
  have HNB:=Lib.hid hblkn
  have HTT:=Lib.hid (HTW.out.below HB2.out)
  obtain⟨sv,wv9,css9,hblk,hlets,hrow,hwT,hset⟩:=HTT.out.letters
  obtain⟨wa,wc,rfl⟩:=owns_slice hrow
  have HBKT:=Lib.hid hblk
  have HLETS:=Lib.hid hlets
  have HROW:=Lib.hid hrow
  have HWT:=Lib.hid hwT
  have HSET:=Lib.hid hset
  have HC1:=Lib.hid (cell_of_block (j:=1) hblk rfl:w2.cell? ⟨g,1,none⟩=some (.slice wa t.way.length wc))
  have HN0:=Lib.hid (cell_of_block (j:=0) hblkn rfl:w2.cell? ⟨qn,0,none⟩=some (.int .i64 bt.site))
  have HWS:=Lib.hid (show wz.heap.size≤w2.heap.size from HB2.out.size)
  clear hblk hlets hrow hwT hset hblkn hbon
  go_wp2_with fail
  refine Cl3.region0 79 rfl (fun u=>[9,12]) (fun u ww=>Below w2.heap.size w2 ww) (fun jq=>match jq with | 8=>[9,12] | 9=>[12] | _=>[]) (fun jq v ww=>match jq with | 0=>v= .pointer (some ⟨g,0,none⟩) | 1=>v= .pointer (some ⟨g,0,none⟩) | 2=>v= .pointer (some ⟨g,0,none⟩) | 3=>v= .pointer (some ⟨g,1,none⟩) | 4=>v= .slice wa t.way.length wc | 5=>v= .pointer (some ⟨qn,0,none⟩) | 6=>v= .int .i64 bt.site | 7=>v= .agg #[.int .i64 bt.site, .pointer none, .pointer (some ⟨qn,0,none⟩)] | 8=> ∃q,v= .slice (some ⟨q,0,none⟩) 1 1∧ww.heap[q]? =some (Obj.cells #[.int .i64 bt.site, .pointer none, .pointer (some ⟨qn,0,none⟩)] 136 (0,0)) | 9=> ∃(W4:World) (va:Option Addr) (vc:Nat),v= .slice va (t.way.length+1) vc∧Below w2.heap.size w2 W4∧AppO W4 ww b 136 3 (Value.agg #[.int .i64 0, .pointer none, .pointer none]).cells (.slice wa t.way.length wc) (.slice va (t.way.length+1) vc) t.way.length 1 css9.flatten [.int .i64 bt.site, .pointer none, .pointer (some ⟨qn,0,none⟩)] | 10=>v= .pointer (some ⟨g,0,none⟩) | 11=>v= .pointer (some ⟨g,1,none⟩) | 12=> ∃(W4 w5:World) (va:Option Addr) (vc:Nat),Below w2.heap.size w2 W4∧AppO W4 w5 b 136 3 (Value.agg #[.int .i64 0, .pointer none, .pointer none]).cells (.slice wa t.way.length wc) (.slice va (t.way.length+1) vc) t.way.length 1 css9.flatten [.int .i64 bt.site, .pointer none, .pointer (some ⟨qn,0,none⟩)]∧ww=w5.setCell ⟨g,1,none⟩ (.slice va (t.way.length+1) vc) | _=>True) (fun ww=>True) (fun jq ww ww'=>(jq≠8→jq≠9→jq≠12→ww'=ww)∧(jq=8→Below ww.heap.size ww ww')) Tryz.mixed (by decide+kernel) trivial (fun u=>(Below.refl _ _).drew) ?_ (fun jq ww ww' u hk h hR=>by by_cases e:jq=8;exact bstep h (hR.2 e);rw [hR.1 e (by intro e;simp [e] at hk) (by intro e;simp [e] at hk)];exact h) ?_ ?_
  ·intro q r v w w' hne hk hlt h hR
   match r,hk,hlt,h,hne with
   | 0,_,_,h,_=>exact h
   | 1,_,_,h,_=>exact h
   | 2,_,_,h,_=>exact h
   | 3,_,_,h,_=>exact h
   | 4,_,_,h,_=>exact h
   | 5,_,_,h,_=>exact h
   | 6,_,_,h,_=>exact h
   | 7,_,_,h,_=>exact h
   | 8,hk,hlt,h,hne=>
    have e:=hR.1 (by exact hne) (by intro e;simp [e] at hk) (by intro e;simp [e] at hk)
    rw[e];exact h
   | 9,hk,hlt,h,hne=>
    have e:=hR.1 (by intro e;subst e;exact absurd hlt (by decide+kernel)) (by exact hne) (by intro e;simp [e] at hk)
    rw[e];exact h
   | 10,_,_,h,_=>exact h
   | 11,_,_,h,_=>exact h
   | 12,hk,hlt,h,hne=>
    have e:=hR.1 (by intro e;subst e;exact absurd hlt (by decide+kernel)) (by intro e;subst e;exact absurd hlt (by decide+kernel)) (by exact hne)
    rw[e];exact h
   | _+13,_,_,_,_=>trivial
  ·refine⟨?_, ?_, ?_, ?_, ?_, ?_, ?_, ?_, ?_, ?_, ?_, ?_, ?_,trivial⟩
   ·intro x wx hG
    have f0:=hG.old 0 (by decide+kernel)
    have hg:=hG.good
    clear hG
    go_wp2
    exact⟨_,rfl,rfl,trivial,⟨fun _ _ _=>rfl,fun _=>Below.refl _ _⟩⟩
   ·intro x wx hG
    have f0:=hG.old 0 (by decide+kernel)
    have hg:=hG.good
    clear hG
    go_wp2
    exact⟨_,rfl,rfl,trivial,⟨fun _ _ _=>rfl,fun _=>Below.refl _ _⟩⟩
   ·intro x wx hG
    have g1:(x.tmps.getD 67 undef)= .pointer (some ⟨g,0,none⟩):=hG.claims 1 _ rfl (by decide+kernel) (by decide+kernel)
    have g1b:=g1
    rw[Array.getD_eq_getD_getElem?] at g1b
    have hg:=hG.good
    clear hG
    go_wp2
    exact⟨_,rfl,rfl,trivial,⟨fun _ _ _=>rfl,fun _=>Below.refl _ _⟩⟩
   ·intro x wx hG
    have g2:(x.tmps.getD 68 undef)= .pointer (some ⟨g,0,none⟩):=hG.claims 2 _ rfl (by decide+kernel) (by decide+kernel)
    have g2b:=g2
    rw[Array.getD_eq_getD_getElem?] at g2b
    have hg:=hG.good
    clear hG
    go_wp2
    exact⟨_,rfl,rfl,trivial,⟨fun _ _ _=>rfl,fun _=>Below.refl _ _⟩⟩
   ·intro x wx hG
    have g3:(x.tmps.getD 69 undef)= .pointer (some ⟨g,1,none⟩):=hG.claims 3 _ rfl (by decide+kernel) (by decide+kernel)
    have g3b:=g3
    rw[Array.getD_eq_getD_getElem?] at g3b
    have hp0:=hG.pre 0 (by decide+kernel)
    have hg:=hG.good
    clear hG
    have c_HC1:=ckeep hp0 HC1.out
    go_wp2
    exact⟨_,rfl,rfl,trivial,⟨fun _ _ _=>rfl,fun _=>Below.refl _ _⟩⟩
   ·intro x wx hG
    have f6:=hG.old 6 (by decide+kernel)
    have hg:=hG.good
    clear hG
    go_wp2
    exact⟨_,rfl,rfl,trivial,⟨fun _ _ _=>rfl,fun _=>Below.refl _ _⟩⟩
   ·intro x wx hG
    have g5:(x.tmps.getD 71 undef)= .pointer (some ⟨qn,0,none⟩):=hG.claims 5 _ rfl (by decide+kernel) (by decide+kernel)
    have g5b:=g5
    rw[Array.getD_eq_getD_getElem?] at g5b
    have hp0:=hG.pre 0 (by decide+kernel)
    have hg:=hG.good
    clear hG
    have c_HN0:=ckeep hp0 HN0.out
    go_wp2
    exact⟨_,rfl,rfl,trivial,⟨fun _ _ _=>rfl,fun _=>Below.refl _ _⟩⟩
   ·intro x wx hG
    have f6:=hG.old 6 (by decide+kernel)
    have g6:(x.tmps.getD 72 undef)= .int .i64 bt.site:=hG.claims 6 _ rfl (by decide+kernel) (by decide+kernel)
    have g6b:=g6
    rw[Array.getD_eq_getD_getElem?] at g6b
    have hg:=hG.good
    clear hG
    have f6b:=f6
    rw[Array.getD_eq_getD_getElem?] at f6b
    go_wp2
    exact⟨_,rfl,rfl,trivial,⟨fun _ _ _=>rfl,fun _=>Below.refl _ _⟩⟩
   ·intro x wx hG
    have g7:(x.tmps.getD 73 undef)= .agg #[.int .i64 bt.site, .pointer none, .pointer (some ⟨qn,0,none⟩)]:=hG.claims 7 _ rfl (by decide+kernel) (by decide+kernel)
    have g7b:=g7
    rw[Array.getD_eq_getD_getElem?] at g7b
    have hg:=hG.good
    clear hG
    go_wp2
    exact⟨_,rfl,⟨_,rfl,alloc_new _ _ _ _ rfl⟩,trivial,⟨fun h _ _=>absurd rfl h,fun _=>bal _⟩⟩
   ·intro x wx hG
    have g4:(x.tmps.getD 70 undef)= .slice wa t.way.length wc:=hG.claims 4 _ rfl (by decide+kernel) (by decide+kernel)
    have g4b:=g4
    rw[Array.getD_eq_getD_getElem?] at g4b
    have g8: ∃q,(x.tmps.getD 74 undef)= .slice (some ⟨q,0,none⟩) 1 1∧wx.heap[q]? =some (Obj.cells #[.int .i64 bt.site, .pointer none, .pointer (some ⟨qn,0,none⟩)] 136 (0,0)):=hG.claims 8 _ rfl (by decide+kernel) (by decide+kernel)
    have hp0:=hG.pre 0 (by decide+kernel)
    have hg:=hG.good
    clear hG
    obtain⟨q,hq1,hq2⟩:=g8
    have hq1b:=hq1
    rw[Array.getD_eq_getD_getElem?] at hq1b
    have HP:=Lib.hid hp0
    have HN:=Lib.hid (show ∀j u,([.int .i64 bt.site, .pointer none, .pointer (some ⟨qn,0,none⟩)]:List Value)[j]? =some u→wx.cell? ((⟨q,0,none⟩:Addr).add j)=some u from fun j u hj=>by
     rw[Addr.add_lit,Nat.zero_add]
     exact cell_of_block (j:=j) hq2 (by simpa using hj))
    have HON:=Lib.hid (show ∀u∈([.int .i64 bt.site, .pointer none, .pointer (some ⟨qn,0,none⟩)]:List Value),u.oneCell'=true by intro u hu;simp only[List.mem_cons,List.not_mem_nil,or_false] at hu;rcases hu with rfl | rfl | rfl <;> rfl)
    have HBS:=Lib.hid (show b≤wx.heap.size by have:=HTT.out.ge.1;have:=HTT.out.lt;have:=hp0.size;omega)
    have HR9:=Lib.hid (owns_below HROW.out hp0)
    have g4c:=g4
    have g4cb:=g4
    rw[Array.getD_eq_getD_getElem?] at g4cb
    clear hp0 hq2
    go_wp2_with (at_builtin;apply Classical.byContradiction;intro hcon)
    refine hcon ?_
    (refine wpList_append_ownS rfl (.tmp 70) (.tmp 74) 115 rfl b 136 (.agg #[.int .i64 0, .pointer none, .pointer none]) 3 24 Tryz.underlying115 LetTy.info rfl (by decide) (.slice wa t.way.length wc) t.way.length css9.flatten (by simp[go_sem, *]) HR9.out ⟨q,0,none⟩ 1 1 _ (by simp[go_sem, *]) rfl HN.out HON.out (by unfold maxLen;omega) (by omega) HBS.out ?_)
    intro v9 w9 A
    obtain⟨va,vc,hva⟩:=owns_slice A.own
    subst hva
    have HA:=Lib.hid A
    clear A hcon
    go_wp2
    exact⟨_,rfl,⟨wx,va,vc,rfl,HP.out,HA.out⟩,trivial,⟨fun _ h _=>absurd rfl h,fun h=>absurd h (by decide)⟩⟩
   ·intro x wx hG
    have g0:(x.tmps.getD 66 undef)= .pointer (some ⟨g,0,none⟩):=hG.claims 0 _ rfl (by decide+kernel) (by decide+kernel)
    have g0b:=g0
    rw[Array.getD_eq_getD_getElem?] at g0b
    have hg:=hG.good
    clear hG
    go_wp2
    exact⟨_,rfl,rfl,trivial,⟨fun _ _ _=>rfl,fun _=>Below.refl _ _⟩⟩
   ·intro x wx hG
    have g10:(x.tmps.getD 76 undef)= .pointer (some ⟨g,0,none⟩):=hG.claims 10 _ rfl (by decide+kernel) (by decide+kernel)
    have g10b:=g10
    rw[Array.getD_eq_getD_getElem?] at g10b
    have hg:=hG.good
    clear hG
    go_wp2
    exact⟨_,rfl,rfl,trivial,⟨fun _ _ _=>rfl,fun _=>Below.refl _ _⟩⟩
   ·intro x wx hG
    have g11:(x.tmps.getD 77 undef)= .pointer (some ⟨g,1,none⟩):=hG.claims 11 _ rfl (by decide+kernel) (by decide+kernel)
    have g11b:=g11
    rw[Array.getD_eq_getD_getElem?] at g11b
    have g9: ∃(W4:World) (va:Option Addr) (vc:Nat),(x.tmps.getD 75 undef)= .slice va (t.way.length+1) vc∧Below w2.heap.size w2 W4∧AppO W4 wx b 136 3 (Value.agg #[.int .i64 0, .pointer none, .pointer none]).cells (.slice wa t.way.length wc) (.slice va (t.way.length+1) vc) t.way.length 1 css9.flatten [.int .i64 bt.site, .pointer none, .pointer (some ⟨qn,0,none⟩)]:=hG.claims 9 _ rfl (by decide+kernel) (by decide+kernel)
    have hg:=hG.good
    clear hG
    obtain⟨W4,va,vc,hv,hb4,A⟩:=g9
    have hvb:=hv
    rw[Array.getD_eq_getD_getElem?] at hvb
    have HA:=Lib.hid A
    have HB4:=Lib.hid hb4
    have hg5:=grown_keep (owns_below HROW.out hb4) A.grown (below_keep hb4 HBKT.out) (by decide)
    have r1:=cell_of_block (j:=1) hg5 rfl
    have f1:=free_of_block (j:=1) hg5
    have hRl:=hlt_of hg5
    clear A hb4 hg5
    go_wp2
    exact⟨undef,rfl,⟨W4,wx,va,vc,HB4.out,HA.out,rfl⟩,trivial,⟨fun _ _ h=>absurd rfl h,fun h=>absurd h (by decide)⟩⟩
  ·intro vals w3 hg hF
   obtain⟨g0,g1,g2,g3,g4,g5,g6,g7,g8,g9,g10,g11,g12, -⟩:=hF
   have e0:vals 0= .pointer (some ⟨g,0,none⟩):=g0 rfl
   have e1:vals 1= .pointer (some ⟨g,0,none⟩):=g1 rfl
   have e2:vals 2= .pointer (some ⟨g,0,none⟩):=g2 rfl
   have e3:vals 3= .pointer (some ⟨g,1,none⟩):=g3 rfl
   have e4:vals 4= .slice wa t.way.length wc:=g4 rfl
   have e5:vals 5= .pointer (some ⟨qn,0,none⟩):=g5 rfl
   have e6:vals 6= .int .i64 bt.site:=g6 rfl
   have e7:vals 7= .agg #[.int .i64 bt.site, .pointer none, .pointer (some ⟨qn,0,none⟩)]:=g7 rfl
   have e10:vals 10= .pointer (some ⟨g,0,none⟩):=g10 rfl
   have e11:vals 11= .pointer (some ⟨g,1,none⟩):=g11 rfl
   replace g12: ∃(W4 w5:World) (va:Option Addr) (vc:Nat),Below w2.heap.size w2 W4∧AppO W4 w5 b 136 3 (Value.agg #[.int .i64 0, .pointer none, .pointer none]).cells (.slice wa t.way.length wc) (.slice va (t.way.length+1) vc) t.way.length 1 css9.flatten [.int .i64 bt.site, .pointer none, .pointer (some ⟨qn,0,none⟩)]∧w3=w5.setCell ⟨g,1,none⟩ (.slice va (t.way.length+1) vc):=g12 rfl
   simp only[Cl3.puts,e0,e1,e2,e3,e4,e5,e6,e7,e10,e11]
   clear e0 e1 e2 e3 e4 e5 e6 e7 e10 e11 g0 g1 g2 g3 g4 g5 g6 g7 g8 g9 g10 g11
   go_simp
   obtain⟨W4,w5,va,vc,hb4,A,rfl⟩:=g12
   have e3:((ak.site.toNat:Nat):Int)=bt.site:=by rw[HBT.out];show _=ak.site;have:=HLO.out.2.1.site;omega
   have hx:LetAt w2 b (ansT t.sites[to] ak) [.int .i64 bt.site, .pointer none, .pointer (some ⟨qn,0,none⟩)]:=by
    unfold ansT
    rw[←HBT.out]
    exact⟨qn,by rw[e3],HBKN.out⟩
   have hok:LetOk t.sites.length (ansT t.sites[to] ak):=by
    unfold ansT
    rw[←HBT.out]
    have h1:=HLO.out.2.1.site
    have h2:=HLO.out.2.2
    exact⟨by omega,HBTOK.out⟩
   have HW:=Lib.hid (town_push HTT.out HBKT.out HLETS.out HROW.out HWT.out HSET.out hx hok H6X.out (fun q hq=>HTN.out q (Nat.le_trans HWS.out hq)) hb4 A)
   clear A hb4 hx hok e3 hg
   generalize vals 8=j8 at*
   generalize vals 9=j9 at*
   go_wp2
   go_ret
   exact⟨rfl,HW.out.1,(Stp.of_below HB2.out).trans HW.out.2⟩
end Go.Proofs.YtgkgdedhicnohaaGreat
