/- What part.Copied does. Written by a small program (gen/pcopy.py). What part.under, part.none and filter.Plain do. What part.Few does. What slices.Grow and slices.Concat do at []reedmace/api.Part. Printed by a small program (gen/concat.py). What part.Join and part.Narrow do. -/
import Derived.Test.YtgkgdedhicnohaaGreatMPartO
import Derived.Test.YtgkgdedhicnohaaGreatChecked
import Derived.Lib.AppendZeros
namespace Go.Proofs.YtgkgdedhicnohaaGreat
set_option maxRecDepth 100000
set_option maxHeartbeats 40000000
open Go.RowKit
def CpF (w:World) (base:Nat) (v:Value) (l:Bxs):Prop:= ∃(a:Option Addr) (c:Nat),v= .slice a l.length c∧FOwn w base (.slice a l.length c) l
theorem CpF.below {w w':World} {base:Nat} {v:Value} {l:Bxs} (h:CpF w base v l) (hb:Below w.heap.size w w'):CpF w' base v l:=by
 obtain⟨a,c,h1,h2⟩:=h;exact ⟨a,c,h1,h2.below hb⟩
def CpP (w:World) (base:Nat) (v:Value) (p:Pt):Prop:= ∃(a:Option Addr) (c:Nat) (b:Option Addr) (d:Nat) (e:Option Addr) (m:Nat),v= .agg #[.slice a p.f.length c, .slice b p.k.vec.length d, .slice e p.k.more.length m]∧FOwn w base (.slice a p.f.length c) p.f∧KnOwn w base (.slice b p.k.vec.length d) (.slice e p.k.more.length m) p.k
theorem CpP.below {w w':World} {base:Nat} {v:Value} {p:Pt} (h:CpP w base v p) (hb:Below w.heap.size w w'):CpP w' base v p:=by
 obtain⟨a,c,b,d,e,m,h1,h2,h3⟩:=h;exact ⟨a,c,b,d,e,m,h1,h2.below hb,h3.below hb⟩
def CpB (w:World) (base:Nat) (v:Value) (p:Pt):Prop:= ∃(g:Nat) (f u x:Value),v= .slice (some ⟨g,0,none⟩) 1 1∧w.heap[g]? =some (Obj.cells #[f,u,x] 105 (0,0))∧f.oneCell'=true∧u.oneCell'=true∧x.oneCell'=true∧FOwn w base f p.f∧KnOwn w base u x p.k
theorem CpB.below {w w':World} {base:Nat} {v:Value} {p:Pt} (h:CpB w base v p) (hb:Below w.heap.size w w'):CpB w' base v p:=by
 obtain⟨g,f,u,x,h1,h2,h3,h4,h5,h6,h7⟩:=h;exact ⟨g,f,u,x,h1,below_keep hb h2,h3,h4,h5,h6.below hb,h7.below hb⟩
def CpR (w:World) (base:Nat) (v:Value) (l:List Pt):Prop:= ∃(a:Option Addr) (c:Nat),v= .slice a l.length c∧POwn w base (.slice a l.length c) l
theorem CpR.below {w w':World} {base:Nat} {v:Value} {l:List Pt} (h:CpR w base v l) (hb:Below w.heap.size w w'):CpR w' base v l:=by
 obtain⟨a,c,h1,h2⟩:=h;exact ⟨a,c,h1,h2.below hb⟩
structure PcSt (w:World) (BK:Nat) (ce:Array Value) (ov:Value) (lk:List Pt) (wr:World):Prop where
 blk:wr.heap[BK]? =some (Obj.cells ce 105 (0,0))
 own:POwn wr w.heap.size ov lk
 bel:Below w.heap.size w wr
theorem PcSt.below {w:World} {BK:Nat} {ce:Array Value} {ov:Value} {lk:List Pt} {wr wr':World} (h:PcSt w BK ce ov lk wr) (hb:Below wr.heap.size wr wr'):PcSt w BK ce ov lk wr':=
 ⟨below_keep hb h.blk,h.own.below hb,bstep h.bel hb⟩
theorem POwn.drew {w:World} {base:Nat} {v:Value} {l:List Pt} (h:POwn w base v l):POwn w.drew base v l:=h.below ((Below.refl _ _).drew)
theorem PcSt.drew {w:World} {BK:Nat} {ce:Array Value} {ov:Value} {lk:List Pt} {wr:World} (h:PcSt w BK ce ov lk wr):PcSt w BK ce ov lk wr.drew:=⟨h.blk,h.own.drew,h.bel.drew⟩
theorem pcopied_c (v:Value) (l:List Pt) (w:World) (hv:RowAt partE w v l) (hok: ∀x∈l,PtOk x) (hl:l.length≤1000):
  Calls Tryz.prog 128 #[v] w fun e w'=> ∃ov,e= .returned ov∧POwn w' w.heap.size ov l∧Below w.heap.size w w':=by
 obtain⟨a,cap,rfl,hcap,hlen, -,hvl⟩:=hv.open_
 have HVL:=jD hvl
 have HOK:=jD hok
 clear hv hvl hok
 go_enter Tryz.func128,Tryz.ntmps128
 go_wp2
 go_loopw [3,8] (fun ov i wr=> ∃k:Nat,k≤l.length∧i= .int .i64 k∧POwn wr w.heap.size ov (l.take k)∧Below w.heap.size w wr) (fun _ i _=>l.length - (intOf i).toNat)
 case atStart=>exact ⟨0,Nat.zero_le _,rfl,POwn.nil _ _,Below.refl _ _⟩
 case round=>
  obtain⟨k,hk,rfl,hown,hbl⟩:=hrel
  have HOW:=jD hown
  have HBL:=jD hbl
  clear hown hbl
  by_cases hlt:k < l.length
  ·rcases HVL.out with hnil | ⟨b,off,rfl,hb,hc⟩
   ·rw[hnil] at hlt;simp at hlt
   obtain⟨c,hE,hcc⟩:=hc k hlt
   obtain⟨FF,UU,XX,rfl,hfw,hkw⟩:=hE
   have hcl:=fun (j:Nat) (y:Value) (hy:[FF,UU,XX][j]? =some y)=>row3 (w:=wr) (b:=b) (off:=off) (i:=k) (fun j y hy=>(HBL.out.cell (p:=⟨b,off+(k*partE.size+j),none⟩) hb).trans (hcc j y hy)) hy
   have d0:=hcl 0 _ rfl
   have d1:=hcl 1 _ rfl
   have d2:=hcl 2 _ rfl
   rw[Nat.add_zero] at d0
   obtain⟨fa,fc,rfl⟩:=hfw.shape
   obtain⟨ua,uc,rfl⟩:=hkw.vec.shape
   obtain⟨xa,xc,rfl⟩:=hkw.more.shape
   have HT:=jD (show l.take (k+1)=l.take k++[l[k]] from List.take_succ_eq_append_getElem hlt)
   have htl:(l.take k).length=k:=by rw[List.length_take];omega
   have hpk:=HOK.out _ (List.getElem_mem hlt)
   have HFC:=jD hpk.f
   obtain⟨hko,hk60⟩:=knChk_zero.1 hpk.k
   have hk5:=hko.len
   obtain⟨BK,hBK⟩: ∃BK,BK=wr.heap.size:=⟨_,rfl⟩
   obtain⟨w1,hw1⟩: ∃w1,w1=wr.alloc (.cells #[.slice fa l[k].f.length fc, .slice ua l[k].k.vec.length uc, .slice xa l[k].k.more.length xc] 105):=⟨_,rfl⟩
   have hb1:Below wr.heap.size wr w1:=by rw[hw1];exact bal _
   have HS:=jD (show PcSt w BK #[.slice fa l[k].f.length fc, .slice ua l[k].k.vec.length uc, .slice xa l[k].k.more.length xc] _ (l.take k) w1 from⟨by rw[hw1];exact alloc_new _ _ _ _ hBK,HOW.out.below hb1,bstep HBL.out hb1⟩)
   have HFW:=jD hfw
   have HKW:=jD hkw
   obtain⟨oa,oc,hoo⟩:=HOW.out.shape
   rw[htl] at hoo
   subst hoo
   clear hc hcc hcl hfw hkw hb1 HOW HBL hpk hko
   generalize l[k]=pp at*
   generalize l.take k=lk at*
   subst htl
   obtain⟨ff,kk⟩:=pp
   simp only at*
   go_wp2_with fail
   rw[←hBK,←hw1]
   clear hBK hw1 d0 d1 d2
   refine Cl.region0 24 rfl [9] (fun ww=>PcSt w BK #[.slice fa ff.length fc, .slice ua kk.vec.length uc, .slice xa kk.more.length xc] (.slice oa lk.length oc) lk ww) (fun jq=>match jq with | 3=>[9] | 6=>[9] | 7=>[9] | 8=>[9] | _=>[]) (fun jq v ww=>match jq with | 0=>v= .slice oa lk.length oc | 1=>v= .pointer (some ⟨BK,0,none⟩) | 2=>v= .slice fa ff.length fc | 3=>CpF ww w.heap.size v ff | 4=>v= .pointer (some ⟨BK,1,none⟩) | 5=>v= .agg #[.slice ua kk.vec.length uc, .slice xa kk.more.length xc] | 6=>CpK ww w.heap.size v kk | 7=>CpP ww w.heap.size v ⟨ff,kk⟩ | 8=>CpB ww w.heap.size v ⟨ff,kk⟩ | 9=>CpR ww w.heap.size v (lk++[⟨ff,kk⟩]) | 10=>CpR ww w.heap.size v (lk++[⟨ff,kk⟩]) | _=>True) (fun ww=>Below w.heap.size w ww) (fun jq ww ww'=>jq≠9→Below ww.heap.size ww ww') Tryz.mixed (by decide+kernel) HS.out.drew.bel HS.out.drew ?_ (fun jq ww ww' hk h hR=>h.below (hR (by simpa using hk))) ?_ ?_
   ·intro q r v w w' hne hk hlt h hR
    match r,hk,hlt,h,hne with
    | 0,_,_,h,_=>exact h
    | 1,_,_,h,_=>exact h
    | 2,_,_,h,_=>exact h
    | 3,hk,_,h,_=>exact CpF.below h (hR (by simpa using hk))
    | 4,_,_,h,_=>exact h
    | 5,_,_,h,_=>exact h
    | 6,hk,_,h,_=>exact CpK.below h (hR (by simpa using hk))
    | 7,hk,_,h,_=>exact CpP.below h (hR (by simpa using hk))
    | 8,hk,_,h,_=>exact CpB.below h (hR (by simpa using hk))
    | 9,_,_,h,hne=>exact CpR.below h (hR (by exact hne))
    | 10,_,hlt,h,_=>exact CpR.below h (hR (by intro e;subst e;exact absurd hlt (by decide+kernel)))
    | _+11,_,_,_,_=>trivial
   ·refine⟨?_, ?_, ?_, ?_, ?_, ?_, ?_, ?_, ?_, ?_, ?_,trivial⟩
    ·intro x wx hG
     have f3:=hG.o 3
     have hp:=hG.p
     replace hG:=hG.good
     go_wp2
     exact⟨_,rfl,rfl,hG,fun _=>Below.refl _ _⟩
    ·intro x wx hG
     have f5:=hG.o 5
     have hp:=hG.p
     replace hG:=hG.good
     go_wp2
     exact⟨_,rfl,rfl,hG,fun _=>Below.refl _ _⟩
    ·intro x wx hG
     have g1:(x.tmps.getD 13 undef)= .pointer (some ⟨BK,0,none⟩):=hG.c 1 _ rfl
     have hp:=hG.p
     replace hG:=hG.good
     have hbk:=hp.blk
     have c0:=cell_of_block (j:=0) hbk rfl
     have hbkl:=hlt_of hbk
     clear hbk hp
     go_wp2
     exact⟨_,rfl,rfl,hG,fun _=>Below.refl _ _⟩
    ·intro x wx hG
     have g2:(x.tmps.getD 14 undef)= .slice fa ff.length fc:=hG.c 2 _ rfl
     have hp:=hG.p
     replace hG:=hG.good
     have HX:=jD (copied_c (.slice fa ff.length fc) ff wx (HFW.out.below hp.bel) HFC.out)
     have HPB:=jD hp.bel
     clear hp
     go_wp2_with fail
     (with_reducible refine(HX.out).mono ?_)
     rintro e wq ⟨v9,rfl,h9,hb⟩
     obtain⟨za,zc,hz⟩:=h9.shape
     subst hz
     have H9:=jD (BxsOwn.mono h9 HPB.out.size)
     clear h9
     go_wp2
     exact⟨_,rfl,⟨_,_,rfl,H9.out⟩,bstep hG hb,fun _=>hb⟩
    ·intro x wx hG
     have f5:=hG.o 5
     have hp:=hG.p
     replace hG:=hG.good
     go_wp2
     exact⟨_,rfl,rfl,hG,fun _=>Below.refl _ _⟩
    ·intro x wx hG
     have g4:(x.tmps.getD 16 undef)= .pointer (some ⟨BK,1,none⟩):=hG.c 4 _ rfl
     have hp:=hG.p
     replace hG:=hG.good
     have hbk:=hp.blk
     have c1:=cell_of_block (j:=1) hbk rfl
     have c2:=cell_of_block (j:=2) hbk rfl
     have hbkl:=hlt_of hbk
     clear hbk hp
     go_wp2
     exact⟨_,rfl,rfl,hG,fun _=>Below.refl _ _⟩
    ·intro x wx hG
     have g5:(x.tmps.getD 17 undef)= .agg #[.slice ua kk.vec.length uc, .slice xa kk.more.length xc]:=hG.c 5 _ rfl
     have hp:=hG.p
     replace hG:=hG.good
     have HX:=jD (kcopied_c (.slice ua kk.vec.length uc) (.slice xa kk.more.length xc) kk wx (HKW.out.below hp.bel) hk5 hk60)
     have HPB:=jD hp.bel
     clear hp
     go_wp2_with fail
     (with_reducible refine(HX.out).mono ?_)
     rintro e wq ⟨qa,qc,qb,qd,rfl,h9,hb⟩
     have H9:=jD (h9.mono HPB.out.size)
     clear h9
     go_wp2
     exact⟨_,rfl,⟨_,_,_,_,rfl,H9.out⟩,bstep hG hb,fun _=>hb⟩
    ·intro x wx hG
     have g3:CpF wx w.heap.size (x.tmps.getD 15 undef) ff:=hG.c 3 _ rfl
     have g6:CpK wx w.heap.size (x.tmps.getD 18 undef) kk:=hG.c 6 _ rfl
     have hp:=hG.p
     replace hG:=hG.good
     obtain⟨za,zc,hz1,hz2⟩:=g3
     obtain⟨ya,yc,yb,yd,hy1,hy2⟩:=g6
     have hz1b:=hz1
     rw[Array.getD_eq_getD_getElem?] at hz1b
     have hy1b:=hy1
     rw[Array.getD_eq_getD_getElem?] at hy1b
     have HZ:=jD hz2
     have HY:=jD hy2
     clear hz2 hy2 hp
     go_wp2
     exact⟨_,rfl,⟨_,_,_,_,_,_,rfl,HZ.out,HY.out⟩,hG,fun _=>Below.refl _ _⟩
    ·intro x wx hG
     have g7:CpP wx w.heap.size (x.tmps.getD 19 undef) ⟨ff,kk⟩:=hG.c 7 _ rfl
     have hp:=hG.p
     replace hG:=hG.good
     obtain⟨a1,a2,a3,a4,a5,a6,hz1,hz2,hz3⟩:=g7
     have hz1b:=hz1
     rw[Array.getD_eq_getD_getElem?] at hz1b
     have HZ:=jD hz2
     have HY:=jD hz3
     clear hz2 hz3 hp
     go_wp2
     exact⟨_,rfl,⟨_,_,_,_,rfl,alloc_new _ _ _ _ rfl,rfl,rfl,rfl,HZ.out.below (bal _),HY.out.below (bal _)⟩,hG.alloc hG.size _,fun _=>bal _⟩
    ·intro x wx hG
     have g0:(x.tmps.getD 12 undef)= .slice oa lk.length oc:=hG.c 0 _ rfl
     have g8:CpB wx w.heap.size (x.tmps.getD 20 undef) ⟨ff,kk⟩:=hG.c 8 _ rfl
     have hp:=hG.p
     replace hG:=hG.good
     obtain⟨g9,f9,u9,x9,hz1,hz2,o1,o2,o3,hz3,hz4⟩:=g8
     obtain⟨css,hp1,hp2⟩:=hp.own
     have hz:=g0
     have hzb:=hz
     rw[Array.getD_eq_getD_getElem?] at hzb
     have hz1b:=hz1
     rw[Array.getD_eq_getD_getElem?] at hz1b
     have H9:=jD hp2
     have HE:=jD hp1
     have HF:=jD hz3
     have HK:=jD hz4
     have HON:=jD (show ∀u∈[f9,u9,x9],u.oneCell'=true by intro u hu;simp only[List.mem_cons,List.not_mem_nil,or_false] at hu;rcases hu with rfl | rfl | rfl;exact o1;exact o2;exact o3)
     have HC:=jD (show CellsAt wx (.slice (some ⟨g9,0,none⟩) 1 1) 1 [f9,u9,x9] from CellsAt.mk (Nat.le_refl _) (by decide) (hlt_of hz2) (fun j z hj=>by rw[Nat.zero_add];exact cell_of_block hz2 (by simpa using hj)))
     have HPB:=jD hp.bel
     have hbs:=hp.bel.size
     have hkl:lk.length≤1000:=by omega
     clear hp1 hp2 hz2 hz3 hz4 hp
     go_wp2_with (at_builtin;refine wpList_append_cells2 rfl (.tmp 12) (.tmp 20) 50 rfl w.heap.size 105 _ 3 72 Tryz.underlying50 PartTy.info rfl (by decide) (.slice oa lk.length oc) lk.length _ hz H9.out (.slice (some ⟨g9,0,none⟩) 1 1) 1 _ hz1 HC.out rfl HON.out hbs (by unfold maxLen;omega) (by omega) ?_)
     intro v' wq ho hgr
     obtain⟨qa,qc,hq⟩:=owns_slice ho
     subst hq
     have HO:=jD ho
     have HGR:=jD hgr
     clear ho hgr
     go_wp2
     exact⟨_,rfl,⟨_,_,by rw[List.length_append];rfl,by rw[List.length_append];exact POwn.push HE.out H9.out HF.out HK.out HO.out HGR.out⟩,hG.grown HGR.out hbs (fun k hk=>(H9.out.lt k hk).1),fun h=>absurd rfl h⟩
    ·intro x wx hG
     have g9:CpR wx w.heap.size (x.tmps.getD 21 undef) (lk++[⟨ff,kk⟩]):=hG.c 9 _ rfl
     replace hG:=hG.good
     obtain⟨za,zc,hz,h9⟩:=g9
     have H9:=jD h9
     clear h9
     go_wp2
     exact⟨_,rfl,⟨_,_,by simp,H9.out⟩,hG,fun _=>Below.refl _ _⟩
   ·intro vals w3 hg hF
    obtain⟨g0,g1,g2,g3,g4,g5,g6,g7,g8,g9,g10, -⟩:=hF
    have e0:=gq (vals 0) g0
    have e1:=gq (vals 1) g1
    have e2:=gq (vals 2) g2
    have e4:=gq (vals 4) g4
    have e5:=gq (vals 5) g5
    replace g10:CpR w3 w.heap.size (vals 10) (lk++[⟨ff,kk⟩]):=g10 rfl
    simp only[Cl.puts,e0,e1,e2,e4,e5]
    clear e0 e1 e2 e4 e5 g0 g1 g2 g3 g4 g5 g6 g7 g8 g9
    go_simp
    generalize vals 10=ov2 at*
    obtain⟨a8,c8,rfl,h8⟩:=g10
    have H8:=jD h8
    have HB8:=jD hg
    have hll:(lk++[(⟨ff,kk⟩:Pt)]).length=lk.length+1:=by rw[List.length_append];rfl
    rw[hll] at H8 ⊢
    clear h8 hg
    go_wp2
    go_roundw
    case rel=>exact ⟨lk.length+1,by omega,by go_num,by rw[HT.out];exact H8.out,HB8.out⟩
    case measure=>simp [intOf] <;> omega
  ·obtain rfl:k=l.length:=by omega
   rw[List.take_length] at HOW
   obtain⟨oa,oc,hoo⟩:=HOW.out.shape
   subst hoo
   go_wp2
   go_ret
   exact⟨_,rfl,HOW.out,HBL.out⟩
theorem within_sem {a b:Pt} (ha:PtOk a) (hb:PtOk b):(withinE a.f b.f&&knWithinB a.k b.k)=underS (sem a) (sem b):=by
 unfold withinE knWithinB underS sem
 rw[if_pos (by unfold fTwo;rw [if_pos ha.f,hb.f]),if_pos (knTwo_zero.2 ⟨ha.k,hb.k⟩)]
 congr 1
 refine allPt_congr fun t n ht hn=> ?_
 simp only[ptsOf_in ht hn]
 cases inF a.f t n <;> cases inF b.f t n <;> rfl
theorem under_c (a b:Pt) (f u x g y z:Value) (w:World) (ha:PtOk a) (hb:PtOk b) (h1:BxsAt w f a.f) (h2:KnAt w u x a.k) (h3:BxsAt w g b.f) (h4:KnAt w y z b.k):
  Calls Tryz.prog 170 #[.agg #[f,u,x], .agg #[g,y,z]] w fun e w'=>e= .returned (.bool (underS (sem a) (sem b)))∧Below w.heap.size w w':=by
 obtain⟨fa,fc,rfl⟩:=h1.shape
 obtain⟨ua,uc,rfl⟩:=h2.vec.shape
 obtain⟨xa,xc,rfl⟩:=h2.more.shape
 obtain⟨ga,gc,rfl⟩:=h3.shape
 obtain⟨ya,yc,rfl⟩:=h4.vec.shape
 obtain⟨za,zc,rfl⟩:=h4.more.shape
 obtain⟨W,hW⟩: ∃W,W=(w.alloc (.cells #[.slice fa a.f.length fc, .slice ua a.k.vec.length uc, .slice xa a.k.more.length xc] 105)).alloc (.cells #[.slice ga b.f.length gc, .slice ya b.k.vec.length yc, .slice za b.k.more.length zc] 105):=⟨_,rfl⟩
 have hbel:Below w.heap.size w W:=by rw[hW];exact (bal _).alloc (by simp) _
 have A:=jD (show W.heap[w.heap.size]? =some (Obj.cells #[.slice fa a.f.length fc, .slice ua a.k.vec.length uc, .slice xa a.k.more.length xc] 105 (0,0)) by rw[hW];exact alloc_keep _ (alloc_new _ _ _ _ rfl))
 have B:=jD (show W.heap[w.heap.size+1]? =some (Obj.cells #[.slice ga b.f.length gc, .slice ya b.k.vec.length yc, .slice za b.k.more.length zc] 105 (0,0)) by rw[hW];exact alloc_new _ _ _ _ (by simp))
 have a0:=cell_of_block (j:=0) A.out rfl
 have b0:=cell_of_block (j:=0) B.out rfl
 have HF:=jD (withinf_c _ _ a.f b.f _ (h1.below hbel) (h3.below hbel))
 have HKA:=jD (h2.below hbel)
 have HKB:=jD (h4.below hbel)
 have HBEL:=jD hbel
 have HS:=jD (within_sem ha hb)
 have HT:=jD (show fTwo a.f b.f=0 by unfold fTwo;rw [if_pos ha.f,hb.f])
 have HT2:=jD (show knTwo a.k b.k=0 from knTwo_zero.2 ⟨ha.k,hb.k⟩)
 clear h1 h2 h3 h4 hbel ha hb
 go_enter Tryz.func170,Tryz.ntmps170
 go_wp2_with fail
 rw[←hW]
 clear hW
 (with_reducible refine(HF.out).mono ?_)
 rintro e w1 ⟨rfl,hb1⟩
 replace A:=jD (below_keep hb1 A.out)
 replace B:=jD (below_keep hb1 B.out)
 have a1:=cell_of_block (j:=1) A.out rfl
 have a2:=cell_of_block (j:=2) A.out rfl
 have b1:=cell_of_block (j:=1) B.out rfl
 have b2:=cell_of_block (j:=2) B.out rfl
 have HK:=jD (kwithin_c _ _ _ _ a.k b.k _ (HKA.out.below hb1) (HKB.out.below hb1))
 have HBL:=jD (bstep HBEL.out hb1)
 clear hb1 HF HKA HKB HBEL a0 b0
 generalize withinE a.f b.f=we at*
 generalize fTwo a.f b.f=ft at*
 go_wp2_with fail
 (with_reducible refine(HK.out).mono ?_)
 rintro e w2 ⟨rfl,hb2⟩
 have hbl:=bstep HBL.out hb2
 clear hb2 HBL HK a1 a2 b1 b2
 generalize knWithinB a.k b.k=ke at*
 generalize knTwo a.k b.k=kt at*
 cases we
 ·go_wp2
  go_ret
  exact⟨(by rw[←HS.out];try rfl),hbl⟩
 ·go_wp2
  go_ret
  exact⟨(by rw[←HS.out];try rfl),hbl⟩
theorem none_sem {a:Pt} (ha:PtOk a):(decide (cntE a.f=0) || decide (knCount a.k=0))=noneS (sem a):=by
 have e:cntF (fun x1 x2=>inF a.f x1 x2)=cntF (ptsOf a.f):=cntF_congr fun t n ht hn=>(ptsOf_in ht hn).symm
 unfold cntE noneS sem
 rw[if_pos ha.f,e]
theorem none_c (a:Pt) (f u x:Value) (w:World) (ha:PtOk a) (h1:BxsAt w f a.f) (h2:KnAt w u x a.k):
  Calls Tryz.prog 168 #[.agg #[f,u,x]] w fun e w'=>e= .returned (.bool (noneS (sem a)))∧Below w.heap.size w w':=by
 obtain⟨fa,fc,rfl⟩:=h1.shape
 obtain⟨ua,uc,rfl⟩:=h2.vec.shape
 obtain⟨xa,xc,rfl⟩:=h2.more.shape
 obtain⟨W,hW⟩: ∃W,W=w.alloc (.cells #[.slice fa a.f.length fc, .slice ua a.k.vec.length uc, .slice xa a.k.more.length xc] 105):=⟨_,rfl⟩
 have hbel:Below w.heap.size w W:=by rw[hW];exact bal _
 have A:=jD (show W.heap[w.heap.size]? =some (Obj.cells #[.slice fa a.f.length fc, .slice ua a.k.vec.length uc, .slice xa a.k.more.length xc] 105 (0,0)) by rw[hW];exact alloc_new _ _ _ _ rfl)
 have a0:=cell_of_block (j:=0) A.out rfl
 have HF:=jD (countf_c _ a.f _ (h1.below hbel))
 have HKA:=jD (h2.below hbel)
 have HBEL:=jD hbel
 have HS:=jD (none_sem ha)
 clear h1 h2 hbel ha
 go_enter Tryz.func168,Tryz.ntmps168
 go_wp2_with fail
 rw[←hW]
 clear hW
 (with_reducible refine(HF.out).mono ?_)
 rintro e w1 ⟨rfl,hb1⟩
 replace A:=jD (below_keep hb1 A.out)
 have a1:=cell_of_block (j:=1) A.out rfl
 have a2:=cell_of_block (j:=2) A.out rfl
 have HK:=jD (knCount_c _ _ a.k _ (HKA.out.below hb1))
 have HBL:=jD (bstep HBEL.out hb1)
 clear hb1 HF HKA HBEL a0
 generalize cntE a.f=we at*
 generalize fChk a.f=ft at*
 go_wp2_with fail
 (with_reducible refine(HK.out).mono ?_)
 rintro e w2 ⟨rfl,hb2⟩
 have hbl:=bstep HBL.out hb2
 clear hb2 HBL HK a1 a2
 generalize knCount a.k=ke at*
 generalize knChk a.k=kt at*
 by_cases h0:we=0
 ·subst h0
  go_wp2
  go_ret
  exact⟨(by rw[←HS.out];try rfl),hbl⟩
 ·have hne:(we==0)=false:=by simpa using h0
  have hne2:decide (we=0)=false:=by simpa using h0
  rw[hne2] at HS
  go_wp2
  go_ret
  exact⟨(by rw[←HS.out];try rfl),hbl⟩
theorem plain_c (v:Value) (l:Bxs) (w:World) (hs:BxsAt w v l) (hc:fChk l=0):
  Calls Tryz.prog 83 #[v] w fun e w'=> ∃v' l',e= .returned v'∧FOwn w' w.heap.size v' l'∧FGood l' (fun k n=>inF l k n)∧Below w.heap.size w w':=by
 obtain⟨a,c,rfl⟩:=hs.shape
 have hfo:=(fChk_zero.1 hc).2
 have HT:=jD (tabled_c _ l w hs hfo)
 have HBD:=jD (fun k=>(tabN_good l k hfo).1)
 have HBT:=jD (fun k=>(tabN_good l k hfo).2)
 clear hs hc hfo
 go_enter Tryz.func83,Tryz.ntmps83
 go_wp2_with fail
 (with_reducible refine(HT.out).mono ?_)
 rintro e w1 ⟨rfl,hb1⟩
 have HB:=jD (boxes_c (tabN l) (fun k _=>HBD.out k) w1)
 have HBL:=jD hb1
 clear HT hb1
 go_wp2_with fail
 (with_reducible refine(HB.out).mono ?_)
 rintro e w2 ⟨v',l',rfl,hown,⟨dn,hst⟩,hb2⟩
 have HO:=jD (BxsOwn.mono hown HBL.out.size)
 have HG:=jD (FGood.of_st (p:=fun k n=>inF l k n) hst (fun k _=>HBD.out k) fun k n _ _=>HBT.out k n)
 have HBX:=jD (bstep HBL.out hb2)
 obtain⟨xa,xc,hv⟩:=hown.shape
 subst hv
 clear hown hst hb2 HB HBL
 go_wp2
 go_ret
 exact⟨_,_,rfl,HO.out,HG.out,HBX.out⟩
theorem few1_p (B:Nat) (a:Pt) (f u x:Value) (w:World) (hB:w.heap[B]? =some (Obj.cells #[f,u,x] 105 (0,0))) (ha:PtOk a) (hf:BxsAt w f a.f) (hk:KnAt w u x a.k):
  PredP PtOk 169 #[.pointer (some ⟨B,0,none⟩)] (fun q=>underS (sem a) (sem q)) w:=by
 refine⟨enters_of Tryz.func169 (by kernel_rfl) rfl,fun q g y z W hq hbl hg hk2=> ?_⟩
 show Calls Tryz.prog 169 #[.agg #[g,y,z], .pointer (some ⟨B,0,none⟩)] W _
 have hB1:=below_keep hbl hB
 have hf1:=hf.below hbl
 have hk1:=hk.below hbl
 clear hbl hB hf hk
 obtain⟨fa,fc,hfv⟩:=hf1.shape
 obtain⟨ua,uc,huv⟩:=hk1.vec.shape
 obtain⟨xa,xc,hxv⟩:=hk1.more.shape
 subst hfv huv hxv
 obtain⟨ga,gc,rfl⟩:=hg.shape
 obtain⟨ya,yc,rfl⟩:=hk2.vec.shape
 obtain⟨za,zc,rfl⟩:=hk2.more.shape
 have hbel:=bal (W:=W) (.cells #[.slice ga q.f.length gc, .slice ya q.k.vec.length yc, .slice za q.k.more.length zc] 105)
 have hB2:=below_keep hbel hB1
 have HU:=jD (under_c a q _ _ _ _ _ _ _ ha hq (hf1.below hbel) (hk1.below hbel) (hg.below hbel) (hk2.below hbel))
 have c0:=cell_of_block (j:=0) hB2 rfl
 have c1:=cell_of_block (j:=1) hB2 rfl
 have c2:=cell_of_block (j:=2) hB2 rfl
 have HBL:=jD hbel
 clear hB1 hB2 hf1 hk1 hg hk2 hbel ha hq
 go_enter Tryz.func169,Tryz.ntmps169
 go_wp2_with fail
 (with_reducible refine(HU.out).mono ?_)
 rintro e w1 ⟨rfl,hb1⟩
 have hbl:=bstep HBL.out hb1
 clear hb1 HU HBL c0 c1 c2
 go_wp2
 go_ret
 exact⟨rfl,hbl⟩
theorem few2_p (B:Nat) (a:Pt) (f u x:Value) (w:World) (hB:w.heap[B]? =some (Obj.cells #[f,u,x] 105 (0,0))) (ha:PtOk a) (hf:BxsAt w f a.f) (hk:KnAt w u x a.k):
  PredP PtOk 172 #[.pointer (some ⟨B,0,none⟩)] (fun q=>underS (sem q) (sem a)) w:=by
 refine⟨enters_of Tryz.func172 (by kernel_rfl) rfl,fun q g y z W hq hbl hg hk2=> ?_⟩
 show Calls Tryz.prog 172 #[.agg #[g,y,z], .pointer (some ⟨B,0,none⟩)] W _
 have hB1:=below_keep hbl hB
 have hf1:=hf.below hbl
 have hk1:=hk.below hbl
 clear hbl hB hf hk
 obtain⟨fa,fc,hfv⟩:=hf1.shape
 obtain⟨ua,uc,huv⟩:=hk1.vec.shape
 obtain⟨xa,xc,hxv⟩:=hk1.more.shape
 subst hfv huv hxv
 obtain⟨ga,gc,rfl⟩:=hg.shape
 obtain⟨ya,yc,rfl⟩:=hk2.vec.shape
 obtain⟨za,zc,rfl⟩:=hk2.more.shape
 have hbel:=bal (W:=W) (.cells #[.slice ga q.f.length gc, .slice ya q.k.vec.length yc, .slice za q.k.more.length zc] 105)
 have hB2:=below_keep hbel hB1
 have HU:=jD (under_c q a _ _ _ _ _ _ _ hq ha (hg.below hbel) (hk2.below hbel) (hf1.below hbel) (hk1.below hbel))
 have c0:=cell_of_block (j:=0) hB2 rfl
 have c1:=cell_of_block (j:=1) hB2 rfl
 have c2:=cell_of_block (j:=2) hB2 rfl
 have HBL:=jD hbel
 clear hB1 hB2 hf1 hk1 hg hk2 hbel ha hq
 go_enter Tryz.func172,Tryz.ntmps172
 go_wp2_with fail
 (with_reducible refine(HU.out).mono ?_)
 rintro e w1 ⟨rfl,hb1⟩
 have hbl:=bstep HBL.out hb1
 clear hb1 HU HBL c0 c1 c2
 go_wp2
 go_ret
 exact⟨rfl,hbl⟩
def fewMStep (out:List Pt) (x:Pt):List Pt:=if noneS (sem x) || out.any (fun q=>underS (sem x) (sem q)) then out else(out.filter fun q=> !underS (sem q) (sem x))++[x]
def fewM (l:List Pt):List Pt:=l.foldl fewMStep []
theorem fewM_snoc (l:List Pt) (x:Pt):fewM (l++[x])=fewMStep (fewM l) x:=by simp[fewM]
theorem fewMStep_sem (out:List Pt) (x:Pt):(fewMStep out x).map sem=fewStep (out.map sem) (sem x):=by
 unfold fewMStep fewStep
 rw[List.any_map]
 simp only[Function.comp_def]
 split
 ·rfl
 ·rw[List.map_append,List.filter_map];rfl
theorem fewM_sem (l:List Pt):(fewM l).map sem=fewS (l.map sem):=by
 refine snoc_ind (p:=fun l=>(fewM l).map sem=fewS (l.map sem)) rfl ?_ l
 intro l x ih
 rw[fewM_snoc,fewMStep_sem,ih,List.map_append,List.map_cons,List.map_nil,fewS_snoc]
theorem fewMStep_mem {out:List Pt} {x y:Pt} (h:y∈fewMStep out x):y∈out∨y=x:=by
 unfold fewMStep at h
 split at h
 ·exact .inl h
 ·rw[List.mem_append,List.mem_singleton] at h
  exact h.imp (fun h=>(List.mem_filter.1 h).1) id
theorem fewM_sub (l:List Pt): ∀x∈fewM l,x∈l:=by
 refine snoc_ind (p:=fun l=> ∀x∈fewM l,x∈l) (fun x hx=>by simp[fewM] at hx) ?_ l
 intro l y ih x hx
 rw[fewM_snoc] at hx
 rcases fewMStep_mem hx with h | rfl
 ·exact List.mem_append_left _ (ih x h)
 ·simp
theorem fewM_len (l:List Pt):(fewM l).length≤l.length:=by
 have h1:=congrArg List.length (fewM_sem l)
 have h2:=few_len (l.map sem)
 rw[List.length_map] at h1 h2
 omega
theorem fewM_ok {l:List Pt} (h: ∀x∈l,PtOk x): ∀x∈fewM l,PtOk x:=fun x hx=>h x (fewM_sub l x hx)
structure PlainTo (k:Nat) (m l:List Pt):Prop where
 len:l.length=m.length
 done: ∀j (h:j < m.length) (h':j < l.length),j < k→l[j].k=m[j].k∧FGood l[j].f (fun t n=>inF m[j].f t n)
 rest: ∀j (h:j < m.length) (h':j < l.length),k≤j→l[j]=m[j]
theorem PlainTo.zero (m:List Pt):PlainTo 0 m m:=⟨rfl,fun _ _ _ h=>by omega,fun _ _ _ _=>rfl⟩
theorem PlainTo.step {k:Nat} {m l:List Pt} (h:PlainTo k m l) (hk:k < m.length) {f:Bxs} (hf:FGood f (fun t n=>inF m[k].f t n)):PlainTo (k+1) m (l.set k ⟨f,(l[k]'(by rw[h.len];exact hk)).k⟩):=by
 have hkl:k < l.length:=by rw[h.len];exact hk
 have hlen:(l.set k ⟨f,l[k].k⟩).length=m.length:=by rw[List.length_set];exact h.len
 refine⟨hlen,fun j h1 h2 h3=> ?_,fun j h1 h2 h3=> ?_⟩
 ·rw[List.getElem_set]
  split
  ·rename_i e
   subst e
   exact⟨by rw[h.rest k hk hkl (Nat.le_refl _)],hf⟩
  ·exact h.done j h1 (by rw[h.len];exact h1) (by omega)
 ·rw[List.getElem_set,if_neg (by omega)]
  exact h.rest j h1 (by rw[h.len];exact h1) (by omega)
theorem PlainTo.ok {m l:List Pt} (h:PlainTo m.length m l) (hok: ∀x∈m,PtOk x): ∀p∈l,PtOk p∧p.f.length≤16:=by
 intro p hp
 obtain⟨j,hj,rfl⟩:=List.getElem_of_mem hp
 have hjm:j < m.length:=by rw[←h.len];exact hj
 obtain⟨h1,h2⟩:=h.done j hjm hj hjm
 exact⟨⟨h2.chk,by rw[h1];exact (hok _ (List.getElem_mem hjm)).k⟩,h2.len⟩
theorem PlainTo.sem {m l:List Pt} (h:PlainTo m.length m l):l.map sem=m.map sem:=by
 apply List.ext_getElem
 ·rw[List.length_map,List.length_map,h.len]
 ·intro j h1 h2
  rw[List.length_map] at h1 h2
  obtain⟨h3,h4⟩:=h.done j h2 h1 h2
  rw[List.getElem_map,List.getElem_map]
  unfold Go.Proofs.YtgkgdedhicnohaaGreat.sem
  rw[h3,(ptsOf_rng l[j].f).ext (ptsOf_rng m[j].f) fun t n ht hn=>by rw[ptsOf_in ht hn,ptsOf_in ht hn];exact h4.pts t n ht hn]
theorem PlTy.info:(Tryz.prog.info? 105).map (fun i=>(i.zero,i.size,i.bytes))=some (some (.agg #[.slice none 0 0, .slice none 0 0, .slice none 0 0]),3,72):=by kernel_rfl
theorem PlGrow_c (n:Nat) (hn:n*72≤140737488355328) (w:World):
  Calls Tryz.prog 104 #[.slice none 0 0, .int .i64 n] w fun e w'=> ∃v,e= .returned v∧w'.ownsRow w.heap.size 105 3 v 0 []∧Below w.heap.size w w':=by
 obtain⟨i0,hi,hz0,hz1,hz2⟩:=info_parts PlTy.info
 by_cases h0:n=0
 ·subst h0
  go_enter Tryz.func104,Tryz.ntmps104
  go_wp2
  go_ret
  exact⟨_,rfl,World.ownsRow_nil _ _ _ _,Below.refl _ _⟩
 ·have hpos:0 < n:=by omega
  have hr:=jD (Lib.run_append_nil_zeros (P:=Tryz.prog) w 50 3 50 105 i0 (.agg #[.slice none 0 0, .slice none 0 0, .slice none 0 0]) .i64 .i64 Tryz.underlying50 Tryz.underlying3 hi hz0 n hpos (by omega) (by omega) (by rw[hz2];omega))
  have hge:=grownCap_ge w n 0 105
  have hcm:=grownCap_le_maxLen w n 0 105 (by unfold maxLen;omega)
  go_enter Tryz.func104,Tryz.ntmps104
  go_wp2_with (at_builtin;refine Lib.wpList_append_run _ rfl (.tmp 20) (.tmp 21) _ _ rfl _ _ rfl rfl _ _ hr.out ?_)
  go_wp2
  go_ret
  exact⟨_,rfl,World.ownsRow_made w.drew _ _ (Nat.le_refl _) hcm (by simp only[Array.size_append,size_zeroCells];rw [←Nat.add_mul];show _*3=_;congr 1;omega),(Below.refl _ _).drew.alloc (Nat.le_refl _) _⟩
theorem PlConcat_c (v:Value) (rs:Rows3) (w:World) (hs:RowsAt w v rs) (hl: ∀r∈rs,r.2.2.length=r.2.1*3) (h1: ∀r∈rs,∀u∈r.2.2,u.oneCell'=true) (hsum:tot rs*72≤140737488355328):
  Calls Tryz.prog 54 #[v] w fun e w'=> ∃v',e= .returned v'∧w'.ownsRow w.heap.size 105 3 v' (tot rs) (flat rs)∧Below w.heap.size w w':=by
 obtain⟨hc,hr⟩:=hs
 obtain⟨a,cap,rfl,hcap,hm, -,hcs⟩:=hc
 go_enter Tryz.func54,Tryz.ntmps54
 go_wp2
 go_loop [3,11] (fun u i=> ∃k:Nat,k≤rs.length∧i= .int .i64 k∧u= .int .i64 (tot (rs.take k))) (fun _ i=>rs.length - (intOf i).toNat)
 case atStart=>exact ⟨0,Nat.zero_le _,rfl,rfl⟩
 case round=>
  obtain⟨k,hk,rfl,rfl⟩:=hrel
  by_cases hlt:k < rs.length
  ·have ht:=tot_take rs k hlt
   have hle:=tot_le rs (k+1)
   rcases hcs with hnil | ⟨b,off,rfl,hb,hcc⟩
   ·simp at hnil;subst hnil;simp at hlt
   have d1:=hcc k rs[k].1 (by simp[hlt])
   obtain⟨xa,xc,hv⟩:=(hr _ (List.getElem_mem hlt)).shape
   rw[hv] at d1
   clear hcc
   have HT:=jD ht
   have hb0:(tot (rs.take k):Int)+(rs[k].2.1:Int)≤140737488355328:=by have:=ht;omega
   clear ht hv hr h1 hl
   generalize rs[k].2.1=n at*
   generalize tot (rs.take k)=s at*
   go_wp2
   go_round
   case rel=>exact ⟨k+1,by omega,by go_num,by rw[HT.out];go_num⟩
   case measure=>simp [intOf];omega
  ·obtain rfl:k=rs.length:=by omega
   rw[List.take_length]
   go_wp2_with fail
   refine(PlGrow_c (tot rs) hsum _).mono ?_
   rintro e w1 ⟨v1,rfl,hown,hb1⟩
   have HR:=jD (show ∀r∈rs,∀W,Below w.heap.size w W→CellsAt W r.1 r.2.1 r.2.2 from fun r h W hW=>(hr r h).below hW)
   clear hr
   go_wp2
   go_loopw [6,27] (fun u i wr=> ∃k:Nat,k≤rs.length∧i= .int .i64 k∧wr.ownsRow w.heap.size 105 3 u (tot (rs.take k)) (flat (rs.take k))∧Below w.heap.size w wr) (fun _ i _=>rs.length - (intOf i).toNat)
   case atStart=>exact ⟨0,Nat.zero_le _,rfl,hown,hb1⟩
   case round=>
    obtain⟨k,hk,rfl,hown',hbl⟩:=hrel
    clear hown hb1
    by_cases hlt:k < rs.length
    ·have ht:=tot_take rs k hlt
     have hle:=tot_le rs (k+1)
     rcases hcs with hnil | ⟨b,off,rfl,hb,hcc⟩
     ·simp at hnil;subst hnil;simp at hlt
     have d1:=(hbl.cell (p:=⟨b,off+k,none⟩) hb).trans (hcc k rs[k].1 (by simp[hlt]))
     have HC:=jD (HR.out _ (List.getElem_mem hlt) _ hbl)
     have HL:=jD (hl _ (List.getElem_mem hlt))
     have H1:=jD (h1 _ (List.getElem_mem hlt))
     have HF:=jD (flat_take rs k hlt)
     have HT:=jD ht
     have HO:=jD hown'
     have HS:=jD (show(tot (rs.take k)+rs[k].2.1)*72≤140737488355328 by rw[←ht];exact Nat.le_trans (Nat.mul_le_mul_right _ hle) hsum)
     clear hcc ht hl h1 hown'
     generalize rs[k].1=v0 at*
     generalize rs[k].2.1=n at*
     generalize rs[k].2.2=ys at*
     go_wp2_with (at_builtin;refine wpList_append_cells (w0:=w) rfl (.tmp 31) (.tmp 32) 50 rfl w.heap.size 105 (.agg #[.slice none 0 0, .slice none 0 0, .slice none 0 0]) 3 72 Tryz.underlying50 PlTy.info rfl (by decide) _ _ _ rfl HO.out v0 n ys rfl HC.out HL.out H1.out hbl hbl.size (by have:=HS.out;unfold maxLen;omega) HS.out ?_)
     intro v' w2 hown2 hbl2
     go_wp2
     go_roundw
     case rel=>exact ⟨k+1,by omega,by go_num,by rw[HT.out,HF.out];exact hown2,hbl2⟩
     case measure=>simp [intOf];omega
    ·obtain rfl:k=rs.length:=by omega
     rw[List.take_length] at hown'
     go_wp2
     go_ret
     exact⟨_,rfl,hown',hbl⟩
theorem CatP.lit2 {w:World} {a b:Value} {l1 l2:List Pt} (h1:RowAt partE w a l1) (h2:RowAt partE w b l2) (t:TypeId): ∃rs:Rows3,RowsAt (w.alloc (.cells #[a,b] t)) (.slice (some ⟨w.heap.size,0,none⟩) 2 2) rs∧(∀r∈rs,r.2.2.length=r.2.1*3)∧(∀r∈rs,∀u∈r.2.2,u.oneCell'=true)∧ ∃css,Els partE w (l1++l2) css∧flat rs=css.flatten∧tot rs=(l1++l2).length:=by
 obtain⟨c1,k1,m1⟩:=h1
 obtain⟨c2,k2,m2⟩:=h2
 have hb:=bal (W:=w) (.cells #[a,b] t)
 refine⟨[(a,l1.length,c1.flatten),(b,l2.length,c2.flatten)],⟨?_, ?_⟩, ?_, ?_,c1++c2,k1.append k2, ?_, ?_⟩
 ·exact CellsAt.mk (Nat.le_refl _) (by decide) (by simp) fun j x hj=>by rw[Nat.zero_add,World.cell?_alloc_at _ _ _ _ rfl];simpa using hj
 ·intro r hr
  simp only[List.mem_cons,List.not_mem_nil,or_false] at hr
  rcases hr with rfl | rfl
  ·exact m1.below hb
  ·exact m2.below hb
 ·intro r hr
  simp only[List.mem_cons,List.not_mem_nil,or_false] at hr
  rcases hr with rfl | rfl
  ·exact k1.flat
  ·exact k2.flat
 ·intro r hr
  simp only[List.mem_cons,List.not_mem_nil,or_false] at hr
  rcases hr with rfl | rfl
  ·exact k1.one
  ·exact k2.one
 ·rw[List.flatten_append];simp [flat]
 ·rw[List.length_append];simp [tot]
theorem pconcat_c {a b:Value} {l1 l2:List Pt} (w:World) (h1:RowAt partE w a l1) (h2:RowAt partE w b l2) (t:TypeId) (hl:(l1++l2).length≤1000):
  Calls Tryz.prog 54 #[.slice (some ⟨w.heap.size,0,none⟩) 2 2] (w.alloc (.cells #[a,b] t)) fun e w'=> ∃v',e= .returned v'∧RowAt partE w' v' (l1++l2)∧Below (w.alloc (.cells #[a,b] t)).heap.size (w.alloc (.cells #[a,b] t)) w':=by
 obtain⟨rs,k1,k2,k3,css,k4,k5,k6⟩:=CatP.lit2 h1 h2 t
 refine(PlConcat_c _ rs _ k1 k2 k3 (by rw[k6];omega)).mono ?_
 rintro e w' ⟨v',rfl,h7,hb⟩
 rw[k5,k6] at h7
 exact⟨v',rfl,⟨css,k4.sub (Sub.of_below (ba1 hb)),CellsAt.of_owns h7 (by omega)⟩,hb⟩
def pjE (a b:List Pt):Int:=if ptsChk a≠0 then ptsChk a else if ptsChk b≠0 then ptsChk b else if 30 < (fewS ((a++b).map sem)).length then 2 else 0
def pnE (l:List Pt) (f:Bxs):Int:=if ptsChk l≠0 then ptsChk l else fChk f
structure MeetTo (g:Bxs) (k:Nat) (m l:List Pt):Prop where
 len:l.length=m.length
 done: ∀j (h:j < m.length) (h':j < l.length),j < k→l[j].k=m[j].k∧FGood l[j].f (fun t n=>inF m[j].f t n&&inF g t n)
 rest: ∀j (h:j < m.length) (h':j < l.length),k≤j→l[j]=m[j]
theorem MeetTo.zero (g:Bxs) (m:List Pt):MeetTo g 0 m m:=⟨rfl,fun _ _ _ h=>by omega,fun _ _ _ _=>rfl⟩
theorem MeetTo.step {g:Bxs} {k:Nat} {m l:List Pt} (h:MeetTo g k m l) (hk:k < m.length) {f:Bxs} (hf:FGood f (fun t n=>inF m[k].f t n&&inF g t n)):MeetTo g (k+1) m (l.set k ⟨f,(l[k]'(by rw[h.len];exact hk)).k⟩):=by
 have hkl:k < l.length:=by rw[h.len];exact hk
 have hlen:(l.set k ⟨f,l[k].k⟩).length=m.length:=by rw[List.length_set];exact h.len
 refine⟨hlen,fun j h1 h2 h3=> ?_,fun j h1 h2 h3=> ?_⟩
 ·rw[List.getElem_set]
  split
  ·rename_i e
   subst e
   exact⟨by rw[h.rest k hk hkl (Nat.le_refl _)],hf⟩
  ·exact h.done j h1 (by rw[h.len];exact h1) (by omega)
 ·rw[List.getElem_set,if_neg (by omega)]
  exact h.rest j h1 (by rw[h.len];exact h1) (by omega)
theorem MeetTo.ok {g:Bxs} {m l:List Pt} (h:MeetTo g m.length m l) (hok: ∀x∈m,PtOk x): ∀p∈l,PtOk p:=by
 intro p hp
 obtain⟨j,hj,rfl⟩:=List.getElem_of_mem hp
 have hjm:j < m.length:=by rw[←h.len];exact hj
 obtain⟨h1,h2⟩:=h.done j hjm hj hjm
 exact⟨h2.chk,by rw[h1];exact (hok _ (List.getElem_mem hjm)).k⟩
theorem MeetTo.sem {g:Bxs} {m l:List Pt} (h:MeetTo g m.length m l):l.map sem=(m.map sem).map fun x=>⟨fun t n=>x.p t n&&ptsOf g t n,x.k⟩:=by
 apply List.ext_getElem
 ·rw[List.length_map,List.length_map,List.length_map,h.len]
 ·intro j h1 h2
  rw[List.length_map] at h1
  rw[List.length_map,List.length_map] at h2
  obtain⟨h3,h4⟩:=h.done j h2 h1 h2
  rw[List.getElem_map,List.getElem_map,List.getElem_map]
  unfold Go.Proofs.YtgkgdedhicnohaaGreat.sem
  rw[h3]
  congr 1
  refine(ptsOf_rng l[j].f).ext (fun t n hr=>by simp only;rw [ptsOf_out hr];rfl) fun t n ht hn=> ?_
  simp only
  rw[ptsOf_in ht hn,ptsOf_in ht hn,ptsOf_in ht hn];exact h4.pts t n ht hn
end Go.Proofs.YtgkgdedhicnohaaGreat
