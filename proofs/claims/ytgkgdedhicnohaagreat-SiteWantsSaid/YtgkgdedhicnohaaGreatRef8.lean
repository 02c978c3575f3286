/- What the reference's Mean does. Written by a small program (gen/mean.py). -/
import Derived.Test.YtgkgdedhicnohaaGreatRef7
namespace Go.Proofs.YtgkgdedhicnohaaGreat
set_option maxRecDepth 100000
set_option maxHeartbeats 40000000
open Go.RowKit
def MeanOf (x:Pt) (a:Mn):Prop:=a.p=pF x.f∧DWord a.m∧Has1 a.m (allP x.k)
def mnF (l:List Mn):List Value:=(l.map fun a=>(mnC a).toList).flatten
theorem mnF_snoc (l:List Mn) (a:Mn):mnF (l++[a])=mnF l++(mnC a).toList:=by simp[mnF]
def AllV (x:Pt) (v:Value):Prop:= ∃m,v= .agg (dotC m)∧DWord m∧Has1 m (allP x.k)
def MnV (x:Pt) (v:Value):Prop:= ∃a,v= .agg (mnC a)∧MeanOf x a
def MnRow (x:Pt) (w:World) (v:Value):Prop:= ∃a q,v= .slice (some ⟨q,0,none⟩) 1 1∧w.heap[q]? =some (Obj.cells (mnC a) 165 (0,0))∧MeanOf x a
theorem MnRow.below {x:Pt} {w w':World} {v:Value} (h:MnRow x w v) (hb:Below w.heap.size w w'):MnRow x w' v:=by
 obtain⟨a,q,h1,h2,h3⟩:=h;exact ⟨a,q,h1,below_keep hb h2,h3⟩
def MnApp (x:Pt) (base:Nat) (l:List Mn) (w:World) (v:Value):Prop:= ∃a sa sc,v= .slice sa (l.length+1) sc∧w.ownsRow base 165 592 (.slice sa (l.length+1) sc) (l.length+1) (mnF (l++[a]))∧MeanOf x a
theorem MnApp.below {x:Pt} {base:Nat} {l:List Mn} {w w':World} {v:Value} (h:MnApp x base l w v) (hb:Below w.heap.size w w'):MnApp x base l w' v:=by
 obtain⟨a,sa,sc,h1,h2,h3⟩:=h;exact ⟨a,sa,sc,h1,owns_below h2 hb,h3⟩
theorem PtOk.good {x:Pt} (h:PtOk x): ∀b∈x.f,BxGood b:=fun b hb=>by
 have h1:=(fChk_zero.1 h.f).2 b hb
 unfold bxChk at h1
 by_cases hc:cubeChk b.y b.n=0
 ·rw[if_pos hc] at h1
  have h2:=(spansChk_bounds h1).2
  unfold cubeChk at hc
  split at hc
  ·rename_i ht
   simp only[tagsB,Bool.and_eq_true,decide_eq_true_eq] at ht
   exact⟨ht.1,ht.2,h2⟩
  ·exact absurd hc (by decide)
 ·rw[if_neg hc] at h1;exact absurd h1 hc
theorem mn_els (w:World): ∀L:List Mn,Els mnE w L (L.map fun a=>(mnC a).toList)
 | []=>trivial
 | a::L=>⟨rfl,mn_els w L⟩
theorem mn_info:(Tryz.prog.info? 165).map (fun i=>(i.zero,i.size,i.bytes))=some (some (.agg Tryz.zeroCells165),592,1152):=by kernel_rfl
theorem mn_row {wr:World} {base:Nat} {v:Value} {L:List Mn} (h:wr.ownsRow base 165 592 v L.length (mnF L)) (hl:L.length≤30):RowAt mnE wr v L:=
 RowOwn.at_ (w0:=wr) (base:=base) (e:=165) ⟨_,mn_els wr L,by exact h⟩ (Sub.refl _) (by omega)
theorem rmean_o (pv:Value) (A:List Pt) (wz:World) (hA:RowAt partE wz pv A) (hok: ∀x∈A,PtOk x) (h30:A.length≤30):
  Calls Tryz.prog 44 #[pv] wz fun e w'=> ∃a c L,e= .returned (.slice a L.length c)∧w'.ownsRow wz.heap.size 165 592 (.slice a L.length c) L.length (mnF L)∧L.length=A.length∧(∀i (h:i < L.length) (h2:i < A.length),MeanOf A[i] L[i])∧Below wz.heap.size wz w':=by
 obtain⟨pa,pc,rfl,hcap,hlen, -,hvl⟩:=hA.open_
 have HVL:=jD hvl
 have HOK:=jD hok
 clear hvl hok hA
 go_enter Tryz.func44,Tryz.ntmps44
 have M0:=jD (show wz.ownsRow wz.heap.size 165 592 (.slice none 0 0) ([]:List Mn).length (mnF []) from World.ownsRow_nil _ _ _ _)
 go_wp2
 go_loopw [8,3] (fun i ov wr=> ∃k:Nat,k≤A.length∧i= .int .i64 k∧ ∃L,wr.ownsRow wz.heap.size 165 592 ov L.length (mnF L)∧L.length=k∧(∀i (h:i < L.length) (h2:i < A.length),MeanOf A[i] L[i])∧Below wz.heap.size wz wr) (fun i _ _=>A.length - (intOf i).toNat)
 case atStart=>exact ⟨0,Nat.zero_le _,rfl,[],M0.out,rfl,fun i h=>absurd h (by simp),Below.refl _ _⟩
 case round=>
  clear M0
  obtain⟨k,hk,rfl,L,hown,hLk,hmean,hbl⟩:=hrel
  obtain⟨oa,oc,hov⟩:=owns_slice hown
  subst hov
  have HOW:=jD hown
  have HME:=jD hmean
  have HBL:=jD hbl
  have HLK:=jD hLk
  clear hown hmean hLk
  by_cases hlt:k < A.length
  rotate_left
  ·obtain rfl:k=A.length:=by omega
   have hkb:decide ((A.length:Int) < (A.length:Int))=false:=by simp
   clear hbl
   go_wp2
   go_ret
   exact⟨oa,oc,L,rfl,HOW.out,HLK.out,HME.out,HBL.out⟩
  have hkb:decide ((k:Int) < (A.length:Int))=true:=by simp;omega
  rcases HVL.out with hnil | ⟨b7,off,rfl,hb,hc⟩
  ·rw[hnil] at hlt;simp at hlt
  obtain⟨cs,⟨fv,u,x,rfl,hf,hkn⟩,hcc⟩:=hc k hlt
  have c0:=(hbl.cell (p:=⟨b7,off+(k*partE.size+0),none⟩) hb).trans (hcc 0 _ rfl)
  have c1:=(hbl.cell (p:=⟨b7,off+(k*partE.size+1),none⟩) hb).trans (hcc 1 _ rfl)
  have c2:=(hbl.cell (p:=⟨b7,off+(k*partE.size+2),none⟩) hb).trans (hcc 2 _ rfl)
  rw[show off+(k*partE.size+0)=off+k*3 from rfl] at c0
  rw[show off+(k*partE.size+1)=off+k*3+1 from rfl] at c1
  rw[show off+(k*partE.size+2)=off+k*3+2 from rfl] at c2
  obtain⟨fa,fc,rfl⟩:=hf.shape
  obtain⟨ua,uc,rfl⟩:=hkn.vec.shape
  obtain⟨xa,xc,rfl⟩:=hkn.more.shape
  have HF:=jD (hf.below hbl)
  have HKN:=jD (hkn.below hbl)
  have HOKK:=jD (HOK.out _ (List.getElem_mem hlt))
  have HX:=jD (show ∀a,MeanOf A[k] a→ ∀i (h:i < (L++[a]).length) (h2:i < A.length),MeanOf A[i] (L++[a])[i] from fun a ha i h h2=>by
   by_cases hi:i < L.length
   ·rw[List.getElem_append_left hi];exact HME.out i hi h2
   ·have hik:i=k:=by rw[List.length_append,List.length_singleton] at h;have:=HLK.out;omega
    subst hik
    rw[List.getElem_append_right (by omega)]
    simp only[HLK.out,Nat.sub_self,List.getElem_singleton]
    exact ha)
  clear hc hcc hf hkn HME
  generalize A[k]=pt at*
  obtain⟨BV,hBV⟩: ∃BV,BV=wr.heap.size:=⟨_,rfl⟩
  obtain⟨W1,hW1⟩: ∃W1,W1=wr.alloc (.cells #[.slice fa pt.f.length fc, .slice ua pt.k.vec.length uc, .slice xa pt.k.more.length xc] 105):=⟨_,rfl⟩
  have hb1:Below wr.heap.size wr W1:=by rw[hW1];exact bal _
  have HV1:=jD (show W1.heap[BV]? =some (Obj.cells #[.slice fa pt.f.length fc, .slice ua pt.k.vec.length uc, .slice xa pt.k.more.length xc] 105 (0,0)) by rw[hW1];exact alloc_new _ _ _ _ hBV)
  replace HF:=jD (HF.out.below hb1)
  replace HKN:=jD (HKN.out.below hb1)
  replace HOW:=jD (owns_below HOW.out hb1)
  replace HBL:=jD (bstep HBL.out hb1)
  have HP0:=jD (cell_of_block (j:=0) HV1.out rfl)
  have HP1:=jD (cell_of_block (j:=1) HV1.out rfl)
  have HP2:=jD (cell_of_block (j:=2) HV1.out rfl)
  have hlv:L.length≤30:=by have:=HLK.out;omega
  clear hb1 hbl
  go_wp2_with fail
  rw[←hW1,←hBV]
  clear hW1 hBV c0 c1 c2
  refine Cl.region0 24 rfl [9] (fun w=>Below W1.heap.size W1 w) (fun jq=>match jq with | 8=>[9] | _=>[]) (fun jq v ww=>match jq with | 0=>v= .slice oa L.length oc | 1=>v= .pointer (some ⟨BV,0,none⟩) | 2=>v= .slice fa pt.f.length fc | 3=>v= .agg (boolC 512 (pF pt.f)) | 4=>v= .pointer (some ⟨BV,1,none⟩) | 5=>v= .agg #[.slice ua pt.k.vec.length uc, .slice xa pt.k.more.length xc] | 6=>AllV pt v | 7=>MnV pt v | 8=>MnRow pt ww v | 9=>MnApp pt wz.heap.size L ww v | 10=>MnApp pt wz.heap.size L ww v | _=>True) (fun ww=>Below wz.heap.size wz ww) (fun jq ww ww'=>jq≠9→Below ww.heap.size ww ww') Tryz.mixed (by decide+kernel) HBL.out.drew ((Below.refl _ _).drew) ?_ (fun q w w' hk h hR=>bstep h (hR (by simpa using hk))) ?_ ?_
  ·intro q r v w w' hne hk hlt h hR
   match r,hk,hlt,h,hne with
   | 0,_,_,h,_=>exact h
   | 1,_,_,h,_=>exact h
   | 2,_,_,h,_=>exact h
   | 3,_,_,h,_=>exact h
   | 4,_,_,h,_=>exact h
   | 5,_,_,h,_=>exact h
   | 6,_,_,h,_=>exact h
   | 7,_,_,h,_=>exact h
   | 8,hk,_,h,_=>exact h.below (hR (by simpa using hk))
   | 9,_,_,h,hne=>exact h.below (hR (by exact hne))
   | 10,_,hlt,h,_=>exact h.below (hR (by intro e;subst e;exact absurd hlt (by decide+kernel)))
   | _+11,_,_,_,_=>trivial
  ·refine⟨?_, ?_, ?_, ?_, ?_, ?_, ?_, ?_, ?_, ?_, ?_,trivial⟩
   ·intro x wx hG
    have f3:=hG.o 3
    replace hG:=hG.good
    go_wp2
    exact⟨_,rfl,rfl,hG,fun _=>Below.refl _ _⟩
   ·intro x wx hG
    have f5:=hG.o 5
    replace hG:=hG.good
    go_wp2
    exact⟨_,rfl,rfl,hG,fun _=>Below.refl _ _⟩
   ·intro x wx hG
    have g1:(x.tmps.getD 13 undef)= .pointer (some ⟨BV,0,none⟩):=hG.c 1 _ rfl
    have g1b:=gd g1
    have hp:=hG.p
    replace hG:=hG.good
    have c_HP0:=ckeep hp HP0.out
    go_wp2
    exact⟨_,rfl,rfl,hG,fun _=>Below.refl _ _⟩
   ·intro x wx hG
    have g2:(x.tmps.getD 14 undef)= .slice fa pt.f.length fc:=hG.c 2 _ rfl
    have g2b:=gd g2
    have hp:=hG.p
    replace hG:=hG.good
    have HN:=jD (rof_c _ pt.f wx (HF.out.below hp) HOKK.out.good)
    go_wp2_with fail
    (with_reducible refine(HN.out).mono ?_)
    rintro e wq ⟨rfl,hb⟩
    have HBQ:=jD hb
    clear hb HN
    go_wp2
    exact⟨_,rfl,rfl,bstep hG HBQ.out,fun _=>HBQ.out⟩
   ·intro x wx hG
    have f5:=hG.o 5
    replace hG:=hG.good
    go_wp2
    exact⟨_,rfl,rfl,hG,fun _=>Below.refl _ _⟩
   ·intro x wx hG
    have g4:(x.tmps.getD 16 undef)= .pointer (some ⟨BV,1,none⟩):=hG.c 4 _ rfl
    have g4b:=gd g4
    have hp:=hG.p
    replace hG:=hG.good
    have c_HP1:=ckeep hp HP1.out
    have c_HP2:=ckeep hp HP2.out
    go_wp2
    exact⟨_,rfl,rfl,hG,fun _=>Below.refl _ _⟩
   ·intro x wx hG
    have g5:(x.tmps.getD 17 undef)= .agg #[.slice ua pt.k.vec.length uc, .slice xa pt.k.more.length xc]:=hG.c 5 _ rfl
    have g5b:=gd g5
    have hp:=hG.p
    replace hG:=hG.good
    have HN:=jD (dall_c _ _ pt.k wx (HKN.out.below hp) (knChk_zero.1 HOKK.out.k).1 (knChk_zero.1 HOKK.out.k).2)
    go_wp2_with fail
    (with_reducible refine(HN.out).mono ?_)
    rintro e wq ⟨m,rfl,h1,h2,hb⟩
    have HBQ:=jD hb
    have H1:=jD h1
    have H2:=jD h2
    clear hb h1 h2 HN
    go_wp2
    exact⟨_,rfl,⟨m,rfl,H1.out,H2.out⟩,bstep hG HBQ.out,fun _=>HBQ.out⟩
   ·intro x wx hG
    have g3:(x.tmps.getD 15 undef)= .agg (boolC 512 (pF pt.f)):=hG.c 3 _ rfl
    have g3b:=gd g3
    have g6:AllV pt (x.tmps.getD 18 undef):=hG.c 6 _ rfl
    replace hG:=hG.good
    obtain⟨m,g6,h1,h2⟩:=g6
    have g6b:=gd g6
    have H1:=jD h1
    have H2:=jD h2
    clear h1 h2
    go_wp2_with (first | (with_reducible refine wpList_buildMn rfl (.tmp 15) (.tmp 18) rfl (pF pt.f) m ?hx ?hy ?_) | fail)
    case hx=>first | exact g3 | exact g3b
    case hy=>first | exact g6 | exact g6b
    exact⟨_,rfl,⟨⟨pF pt.f,m⟩,rfl,rfl,H1.out,H2.out⟩,hG,fun _=>Below.refl _ _⟩
   ·intro x wx hG
    have g7:MnV pt (x.tmps.getD 19 undef):=hG.c 7 _ rfl
    replace hG:=hG.good
    obtain⟨a9,g7,h1⟩:=g7
    have g7b:=gd g7
    have H1:=jD h1
    clear h1
    have HG:=jD hG
    clear hG
    go_wp2_with (first | (with_reducible refine wpList_rowMn rfl (.tmp 19) rfl a9 ?hx ?_) | fail)
    case hx=>first | exact g7 | exact g7b
    exact⟨_,rfl,⟨a9,_,rfl,alloc_new _ _ _ _ rfl,H1.out⟩,HG.out.alloc HG.out.size _,fun _=>bal _⟩
   ·intro x wx hG
    have g0:(x.tmps.getD 12 undef)= .slice oa L.length oc:=hG.c 0 _ rfl
    have g0b:=gd g0
    have g8:MnRow pt wx (x.tmps.getD 20 undef):=hG.c 8 _ rfl
    have hp:=hG.p
    replace hG:=hG.good
    obtain⟨a9,q9,g8,hq,h1⟩:=g8
    have g8b:=gd g8
    have H1:=jD h1
    have H9:=jD (owns_below HOW.out hp)
    have HCL:=jD (show CellsAt wx (.slice (some ⟨q9,0,none⟩) 1 1) 1 (mnC a9).toList from CellsAt.mk (Nat.le_refl _) (by decide) (hlt_of hq) fun j y hj=>by rw[Nat.zero_add];exact cell_of_block hq (by simpa using hj))
    have hbs:=hG.size
    have HG:=jD hG
    have hz0:=g0b
    clear h1 hG hp hq
    go_wp2_with (at_builtin;apply Classical.byContradiction;intro hcon)
    refine hcon ?_
    refine wpList_append_cells (w0:=wz) rfl (.tmp 12) (.tmp 20) 90 rfl wz.heap.size 165 (.agg Tryz.zeroCells165) 592 1152 Tryz.underlying90 mn_info zero_part (by decide) (.slice oa L.length oc) L.length (mnF L) g0 H9.out (.slice (some ⟨q9,0,none⟩) 1 1) 1 (mnC a9).toList g8 HCL.out (by rw[mnC_len]) (mnC_one' a9) HG.out hbs (by unfold maxLen;omega) (by omega) ?_
    intro v' wq ho hgr
    obtain⟨qa,qc,hq⟩:=owns_slice ho
    subst hq
    have HO:=jD ho
    have HGR:=jD hgr
    clear ho hgr
    go_wp2
    exact⟨_,rfl,⟨a9,qa,qc,rfl,by rw[mnF_snoc];exact HO.out,H1.out⟩,HGR.out,fun h=>absurd rfl h⟩
   ·intro x wx hG
    have g9:MnApp pt wz.heap.size L wx (x.tmps.getD 21 undef):=hG.c 9 _ rfl
    replace hG:=hG.good
    have H9:=jD g9
    clear g9
    go_wp2
    exact⟨_,rfl,by have:=H9.out;rw [Array.getD_eq_getD_getElem?] at this;exact this,hG,fun _=>Below.refl _ _⟩
  ·intro vals w9 hg hF
   obtain⟨g0,g1,g2,g3,g4,g5,g6,g7,g8,g9,g10, -⟩:=hF
   have e0:=gq (vals 0) g0
   have e1:=gq (vals 1) g1
   have e2:=gq (vals 2) g2
   have e3:=gq (vals 3) g3
   have e4:=gq (vals 4) g4
   have e5:=gq (vals 5) g5
   replace g10:MnApp pt wz.heap.size L w9 (vals 10):=g10 rfl
   simp only[Cl.puts,e0,e1,e2,e3,e4,e5]
   clear e0 e1 e2 e3 e4 e5 g0 g1 g2 g3 g4 g5 g6 g7 g8 g9
   go_simp
   generalize vals 10=X at*
   obtain⟨a9,qa,qc,hX,ho,hm9⟩:=g10
   have hX9:=hX
   clear hX
   have HO:=jD ho
   have HXX:=jD (HX.out a9 hm9)
   have HG:=jD hg
   clear ho hm9 hg
   rw[hX9]
   clear hX9
   go_wp2
   go_roundw
   case rel=>exact ⟨k+1,by omega,by go_num,L++[a9],by rw[List.length_append];exact HO.out,by rw[List.length_append,HLK.out];rfl,HXX.out,HG.out⟩
   case measure=>simp [intOf] <;> omega
theorem rmean_c (pv:Value) (A:List Pt) (wz:World) (hA:RowAt partE wz pv A) (hok: ∀x∈A,PtOk x) (h30:A.length≤30):
  Calls Tryz.prog 44 #[pv] wz fun e w'=> ∃a c L,e= .returned (.slice a L.length c)∧RowAt mnE w' (.slice a L.length c) L∧L.length=A.length∧(∀i (h:i < L.length) (h2:i < A.length),MeanOf A[i] L[i])∧Below wz.heap.size wz w':=
 (rmean_o pv A wz hA hok h30).mono fun e w' hh=>by
  obtain⟨a,c,L,h1,h2,h3,h4,h5⟩:=hh
  exact⟨a,c,L,h1,mn_row h2 (by omega),h3,h4,h5⟩
end Go.Proofs.YtgkgdedhicnohaaGreat
