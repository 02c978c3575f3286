/- What formula.Filter does. Written by a small program (gen/formfilter.py). -/
import Derived.Test.YtdljflabokhedaaDoorForm3
import Derived.Test.YtdljflabokhedaaDoorMClaims
namespace Go.Proofs.YtdljflabokhedaaDoor
open Go.RowKit
set_option maxRecDepth 100000 in
theorem BxsTy.info:(Tryd.prog.info? 27).map (fun i=>(i.zero,i.size,i.bytes))=some (some (.slice none 0 0),1,24):=by kernel_rfl
structure AllSt (l:Nds) (g:Nat) (k:Nat) (xs:List Value) (w:World):Prop where
 len:xs.length=l.length
 own:w.ownsRow g 27 1 (.slice (some ⟨g,0,none⟩) l.length l.length) l.length xs
 ok: ∀j (h:j < xs.length),j < k→FO w (g+1) xs[j] (ndPts l j)
theorem AllSt.get {l:Nds} {g k:Nat} {xs:List Value} {w:World} (h:AllSt l g k xs w) (j:Nat) (hj:j < l.length):w.cell? ⟨g,j,none⟩=some (xs[j]'(by rw[h.len];exact hj)):=by
 rw[h.own.cellAt j (by omega)];exact List.getElem?_eq_getElem _
theorem AllSt.below {l:Nds} {g k:Nat} {xs:List Value} {w w':World} (h:AllSt l g k xs w) (hb:Below w.heap.size w w'):AllSt l g k xs w':=
 ⟨h.len,owns_below h.own hb,fun j hj hk=>(h.ok j hj hk).below hb⟩
theorem AllSt.put {l:Nds} {g k:Nat} {xs:List Value} {w:World} {v:Value} (h:AllSt l g k xs w) (hk:k < l.length) (hv:FO w (g+1) v (ndPts l k)):AllSt l g (k+1) (xs.set k v) (w.setCell ⟨g,k,none⟩ v):=by
 refine⟨by simp[h.len],(h.own.stored k v).1,fun j hj hjk=> ?_⟩
 by_cases e:j=k
 ·subst e;simp only[List.getElem_set_self];exact hv.low (Nat.lt_succ_self _)
 ·rw[List.getElem_set_ne (fun e2=>e e2.symm)]
  exact(h.ok j (by simpa using hj) (by omega)).low (Nat.lt_succ_self _)
theorem setCell_comm (w:World) {g h i j:Nat} {u v:Value} (e:g≠h):(w.setCell ⟨g,i,none⟩ u).setCell ⟨h,j,none⟩ v=(w.setCell ⟨h,j,none⟩ v).setCell ⟨g,i,none⟩ u:=by
 unfold World.setCell
 congr 1
 apply Array.ext
 ·simp
 ·intro q h1 h2
  simp only[Array.getElem_modify]
  by_cases e1:h=q
  ·subst e1;rw [if_pos rfl,if_pos rfl,if_neg e,if_neg e]
  ·rw[if_neg e1,if_neg e1]
set_option maxRecDepth 100000 in
set_option maxHeartbeats 8000000 in
theorem formFilter_c (v:Value) (l:Nds) (w:World) (hs:NdsAt w v l):
  Calls Tryd.prog 7 #[v] w fun e w'=> ∃u,e= .returned (.tuple #[u, .int .i64 (formChk l)])∧(formChk l=0→FO w' w.heap.size u (fun t n=>formVal l t n))∧(formChk l≠0→u= .slice none 0 0)∧Below w.heap.size w w':=by
 go_enter Tryd.func7,Tryd.ntmps7
 go_wp2_with fail
 (with_reducible refine(formChk_c _ l _ hs).mono ?_)
 rintro e w1 ⟨rfl,hb⟩
 have hs1:=hs.below hb
 have hbel:=hb
 clear hs hb
 cases hc:(formChk l==0)
 ·have H:=Lib.hid (show formChk l≠0 by simpa using hc)
  have h':(formChk l != 0)=true:=by simp[bne,hc]
  clear hc hs1
  go_wp2
  go_ret2
  exact⟨_,rfl,fun h=>absurd h H.out,fun _=>rfl,hbel⟩
 have h0:formChk l=0:=by simpa using hc
 have H0:=Lib.hid h0
 rw[h0]
 clear h0 hc
 obtain⟨a,cap,rfl,hcap,hm, -,hl⟩:=hs1.open_
 clear hs1
 obtain⟨hpos,h30,hall⟩:=formChk_all H0.out
 have HALL:=Lib.hid hall
 clear hall
 obtain⟨w2,hmk,hown,hbm⟩:=mk_slice (P:=Tryd.prog) w1 47 27 (.slice none 0 0) 1 24 Tryd.underlying47 BxsTy.info l.length (by omega) (by unfold maxLen;omega)
 rw[madeCells_one _ rfl] at hown
 have HO:=Lib.hid hown
 have hbel2:=bstep hbel hbm
 clear hown
 go_wp2
 clear hmk
 have hg1:=hbel.size
 generalize hg:w1.heap.size=g at*
 go_loopw [18] (fun i wr=> ∃(k:Nat) (xs:List Value),k≤l.length∧i= .int .i64 k∧AllSt l g k xs wr∧Below w.heap.size w wr∧Below g w1 wr) (fun i _=>l.length - (intOf i).toNat)
 case atStart=>exact ⟨0,_,Nat.zero_le _,rfl,⟨by simp,HO.out,fun j _ h=>by omega⟩,hbel2,hbm⟩
 case round=>
  clear hbel2 hbm HO
  obtain⟨k,xs,hk,rfl,st,hbel3,hbg⟩:=hrel
  obtain⟨w3,hw3⟩: ∃w3,w3=wr:=⟨_,rfl⟩
  subst hw3
  have ST:=Lib.hid st
  have hgw:g < w3.heap.size:=blt' st.own hpos
  clear st
  by_cases hlt:k < l.length
  ·rcases hl with rfl | ⟨b,off,rfl,hb,hc⟩
   ·simp at hlt
   obtain⟨d1,d2,d3⟩:=hc k hlt
   replace d1:=(hbg.cell (p:=⟨b,off+k*3,none⟩) hb).trans d1
   replace d2:=(hbg.cell (p:=⟨b,off+k*3+1,none⟩) hb).trans d2
   replace d3:=(hbg.cell (p:=⟨b,off+k*3+2,none⟩) hb).trans d3
   have hq:=ndChk_zero (HALL.out k hlt)
   have ld:=blt d1
   have e0:=ST.out.get k hlt
   have f0:=ST.out.own.frozenAt k
   have HP:=Lib.hid (fun t n=>ndPts_eq l k t n)
   have hget:l.getD k ⟨0,0,0⟩=l[k]:=by simp[List.getD,hlt]
   rw[hget] at HP
   clear hget hc
   generalize hx:l[k]=x at*
   obtain⟨kk,aa,bb⟩:=x
   clear hx
   simp only at hq d1 d2 d3
   have E0:=Lib.hid e0
   have F0:=Lib.hid f0
   clear e0 f0
   rcases hq with rfl | ⟨rfl,ha0,ha1⟩ | ⟨rfl,ha0,ha1,hb1⟩ | ⟨rfl,ha0,ha1⟩ | ⟨hk5,ha0,ha1,hb0,hb1⟩
   ·go_wp2_with fail
    (with_reducible refine(everyX _).mono ?_)
    rintro e w4 ⟨gs,gb,rfl,hgs,hgb,hne,h1,h2,hb4⟩
    rw[World.size_alloc] at hgs hgb
    have HBW:=Lib.hid (ba1 hb4)
    have hz4:w3.heap.size < w4.heap.size:=by have:=hb4.size;simp at this;omega
    have HFO:=Lib.hid (every_fo (base:=g+1) (by omega) (by omega) h1 h2)
    have e0:=ckeep HBW.out E0.out
    have f0:=fkeep HBW.out E0.out F0.out
    clear h1 h2 hb4 hne
    go_wp2
    go_roundw
    case rel=>
     exact⟨k+1,_,by omega,by go_num,((ST.out.below HBW.out).put hlt (HFO.out.congr fun t n _ _=>by rw[HP.out];simp [ndVal])),hbel3.trans (HBW.out.mono hbel3.size) |>.setCell (by have:=hg1;exact this) _,(hbg.trans (HBW.out.mono (Nat.le_of_lt hgw))).setCell (Nat.le_refl _) _⟩
    case measure=>first | (simp[intOf];done) | (simp[intOf];omega)
   ·obtain⟨a,rfl⟩:=Int.eq_ofNat_of_zero_le ha0
    have ha4:a < 4:=by omega
    obtain⟨w4,hw4⟩: ∃w4,w4=w3.alloc (.cells #[.int .i64 2, .int .i64 a, .int .i64 bb] 37):=⟨_,rfl⟩
    have hb4:Below w3.heap.size w3 w4:=by rw[hw4];exact bal _
    have n1:w4.cell? ⟨w3.heap.size,1,none⟩=some (.int .i64 a):=by rw[hw4];exact cat _ _ _ 1 _ rfl _ rfl
    have hz4:w3.heap.size < w4.heap.size:=by rw[hw4];simp
    have ST4:=Lib.hid (ST.out.below hb4)
    have N1:=Lib.hid n1
    have hbel4:=Lib.hid (hbel3.trans (hb4.mono hbel3.size))
    have hbg4:=Lib.hid (hbg.trans (hb4.mono (Nat.le_of_lt hgw)))
    clear n1 hb4
    go_wp2_with fail
    rw[←hw4]
    clear hw4
    (with_reducible refine(everyX _).mono ?_)
    rintro e w5 ⟨gs,gb,rfl,hgs,hgb,hne,h1,h2,hb5⟩
    have hz5:=hb5.size
    have hgb5:gb < w5.heap.size:=(Array.getElem?_eq_some_iff.1 h2).1
    have S5:=Lib.hid (ST4.out.below hb5)
    have e0:=S5.out.get k hlt
    have f0:=S5.out.own.frozenAt k
    have n5:=ckeep hb5 N1.out
    have hga:g≠gb:=by omega
    have hgb3:w3.heap.size≠g:=by omega
    obtain⟨w6,hw6⟩: ∃w6,w6=w5.setCell ⟨g,k,none⟩ (.slice (some ⟨gb,0,none⟩) 1 1):=⟨_,rfl⟩
    have m1:w6.cell? ⟨g,k,none⟩=some (.slice (some ⟨gb,0,none⟩) 1 1):=by rw[hw6];exact World.cell?_setCell_same _ _ _ e0
    have m2:w6.cell? ⟨w3.heap.size,1,none⟩=some (.int .i64 a):=by rw[hw6];exact (cell_set_other hgb3).trans n5
    have m3:w6.heap[gb]? =some (.cells #[.int .i64 0, .int .i64 0, .slice (some ⟨gs,0,none⟩) 1 1] 52 (0,0)):=by rw[hw6];exact (heap_set_other (Ne.symm hga)).trans h2
    have M4:=Lib.hid (cell_of_block (j:=0) (v:= .int .i64 0) m3 rfl)
    have M5:=Lib.hid (free_of_block (j:=0) m3)
    have M1:=Lib.hid m1
    have M2:=Lib.hid m2
    have HW:=Lib.hid hw6
    have H1:=Lib.hid h1
    have H2:=Lib.hid h2
    have HB5:=Lib.hid hb5
    clear m1 m2 m3 h1 h2 hb5 n5
    go_wp2
    rw[←hw6]
    clear hw6 e0 f0
    refine Cl.region0 121 rfl [10] (fun ww=>ww=w6.drew) (fun _=>[]) (fun jq v ww=>match jq with | 0=>v= .slice (some ⟨g,0,none⟩) l.length l.length | 1=>v= .int .i64 (k:Nat) | 2=>v= .pointer (some ⟨g,k,none⟩) | 3=>v= .slice (some ⟨gb,0,none⟩) 1 1 | 4=>v= .pointer (some ⟨w3.heap.size,1,none⟩) | 5=>v= .int .i64 (a:Nat) | 6=>v= .int .i64 ((2:Int)^a) | 7=>v= .pointer (some ⟨gb,0,none⟩) | 8=>v= .pointer (some ⟨gb,0,none⟩) | 9=>v= .pointer (some ⟨gb,0,none⟩) | 10=>ww=w6.drew.setCell ⟨gb,0,none⟩ (.int .i64 ((2:Int)^a)) | _=>True) (fun ww=>True) (fun jq ww ww'=>jq≠10→ww'=ww) Tryd.mixed (by decide+kernel) trivial rfl ?_ (fun jq ww ww' hk h hR=>(hR (by simpa using hk)).trans h) ?_ ?_
    ·intro q r v w w' hne hk hlt h hR
     match r,hk,hlt,h,hne with
     | 0,_,_,h,_=>exact h
     | 1,_,_,h,_=>exact h
     | 2,_,_,h,_=>exact h
     | 3,_,_,h,_=>exact h
     | 4,_,_,h,_=>exact h
     | 5,_,_,h,_=>exact h
     | 6,_,_,h,_=>exact h
     | 7,_,_,h,_=>exact h
     | 8,_,_,h,_=>exact h
     | 9,_,_,h,_=>exact h
     | 10,_,_,h,hne=>exact (hR (by exact hne)).trans h
     | _+11,_,_,_,_=>trivial
    ·refine⟨?_, ?_, ?_, ?_, ?_, ?_, ?_, ?_, ?_, ?_, ?_,trivial⟩
     ·intro x wx hG
      have f5:=hG.old 5 (by decide+kernel)
      have hg:=hG.good
      clear hG
      go_wp2
      exact⟨_,rfl,rfl,hg,fun _=>rfl⟩
     ·intro x wx hG
      have f6:=hG.old 6 (by decide+kernel)
      have hg:=hG.good
      clear hG
      go_wp2
      exact⟨_,rfl,rfl,hg,fun _=>rfl⟩
     ·intro x wx hG
      have g0:(x.tmps.getD 37 undef)= .slice (some ⟨g,0,none⟩) l.length l.length:=hG.claims 0 _ rfl (by decide+kernel) (by decide+kernel)
      have g1:(x.tmps.getD 38 undef)= .int .i64 (k:Nat):=hG.claims 1 _ rfl (by decide+kernel) (by decide+kernel)
      have hg:=hG.good
      clear hG
      go_wp2
      exact⟨_,rfl,rfl,hg,fun _=>rfl⟩
     ·intro x wx hG
      have g2:(x.tmps.getD 39 undef)= .pointer (some ⟨g,k,none⟩):=hG.claims 2 _ rfl (by decide+kernel) (by decide+kernel)
      have hp:=hG.pre (by decide+kernel)
      have hg:=hG.good
      clear hG
      subst hp
      have c:w6.drew.cell? ⟨g,k,none⟩=some (.slice (some ⟨gb,0,none⟩) 1 1):=M1.out
      go_wp2
      exact⟨_,rfl,rfl,hg,fun _=>rfl⟩
     ·intro x wx hG
      have f7:=hG.old 7 (by decide+kernel)
      have hg:=hG.good
      clear hG
      go_wp2
      exact⟨_,rfl,rfl,hg,fun _=>rfl⟩
     ·intro x wx hG
      have g4:(x.tmps.getD 41 undef)= .pointer (some ⟨w3.heap.size,1,none⟩):=hG.claims 4 _ rfl (by decide+kernel) (by decide+kernel)
      have hp:=hG.pre (by decide+kernel)
      have hg:=hG.good
      clear hG
      subst hp
      have c:w6.drew.cell? ⟨w3.heap.size,1,none⟩=some (.int .i64 a):=M2.out
      go_wp2
      exact⟨_,rfl,rfl,hg,fun _=>rfl⟩
     ·intro x wx hG
      have g5:(x.tmps.getD 42 undef)= .int .i64 (a:Nat):=hG.claims 5 _ rfl (by decide+kernel) (by decide+kernel)
      have hg:=hG.good
      clear hG
      have hcase:a=0∨a=1∨a=2∨a=3:=by omega
      rcases hcase with rfl | rfl | rfl | rfl <;> go_wp2
      all_goals exact⟨_,rfl,rfl,hg,fun _=>rfl⟩
     ·intro x wx hG
      have g3:(x.tmps.getD 40 undef)= .slice (some ⟨gb,0,none⟩) 1 1:=hG.claims 3 _ rfl (by decide+kernel) (by decide+kernel)
      have hg:=hG.good
      clear hG
      go_wp2
      exact⟨_,rfl,rfl,hg,fun _=>rfl⟩
     ·intro x wx hG
      have g7:(x.tmps.getD 44 undef)= .pointer (some ⟨gb,0,none⟩):=hG.claims 7 _ rfl (by decide+kernel) (by decide+kernel)
      have hg:=hG.good
      clear hG
      go_wp2
      exact⟨_,rfl,rfl,hg,fun _=>rfl⟩
     ·intro x wx hG
      have g8:(x.tmps.getD 45 undef)= .pointer (some ⟨gb,0,none⟩):=hG.claims 8 _ rfl (by decide+kernel) (by decide+kernel)
      have hg:=hG.good
      clear hG
      go_wp2
      exact⟨_,rfl,rfl,hg,fun _=>rfl⟩
     ·intro x wx hG
      have g6:(x.tmps.getD 43 undef)= .int .i64 ((2:Int)^a):=hG.claims 6 _ rfl (by decide+kernel) (by decide+kernel)
      have g9:(x.tmps.getD 46 undef)= .pointer (some ⟨gb,0,none⟩):=hG.claims 9 _ rfl (by decide+kernel) (by decide+kernel)
      have hp:=hG.pre (by decide+kernel)
      have hg:=hG.good
      clear hG
      subst hp
      have c:w6.drew.cell? ⟨gb,0,none⟩=some (.int .i64 0):=M4.out
      have d:w6.drew.frozen? ⟨gb,0,none⟩=false:=M5.out
      go_wp2
      exact⟨undef,rfl,rfl,trivial,fun h=>absurd rfl h⟩
    ·intro vals w7 hg hF
     obtain⟨g0,g1,g2,g3,g4,g5,g6,g7,g8,g9,g10, -⟩:=hF
     have e0:vals 0= .slice (some ⟨g,0,none⟩) l.length l.length:=g0 rfl
     have e1:vals 1= .int .i64 (k:Nat):=g1 rfl
     have e2:vals 2= .pointer (some ⟨g,k,none⟩):=g2 rfl
     have e3:vals 3= .slice (some ⟨gb,0,none⟩) 1 1:=g3 rfl
     have e4:vals 4= .pointer (some ⟨w3.heap.size,1,none⟩):=g4 rfl
     have e5:vals 5= .int .i64 (a:Nat):=g5 rfl
     have e6:vals 6= .int .i64 ((2:Int)^a):=g6 rfl
     have e7:vals 7= .pointer (some ⟨gb,0,none⟩):=g7 rfl
     have e8:vals 8= .pointer (some ⟨gb,0,none⟩):=g8 rfl
     have e9:vals 9= .pointer (some ⟨gb,0,none⟩):=g9 rfl
     replace g10:w7=w6.drew.setCell ⟨gb,0,none⟩ (.int .i64 ((2:Int)^a)):=g10 rfl
     simp only[Cl.puts,e0,e1,e2,e3,e4,e5,e6,e7,e8,e9]
     clear e0 e1 e2 e3 e4 e5 e6 e7 e8 e9 g0 g1 g2 g3 g4 g5 g6 g7 g8 g9
     go_simp
     have hz:(w6.setCell ⟨gb,0,none⟩ (.int .i64 ((2:Int)^a))).drew=((w5.drew.setCell ⟨gb,0,none⟩ (.int .i64 ((2:Int)^a))).setCell ⟨g,k,none⟩ (.slice (some ⟨gb,0,none⟩) 1 1)):=by rw[HW.out];exact setCell_comm w5.drew hga
     clear g10 M1 M2 M4 M5 HW
     have hb6:=HB5.out.drew.setCell (p:=⟨gb,0,none⟩) (by exact hgb) (.int .i64 ((2:Int)^a))
     have y2:=heap_set_same (W:=w5.drew) (j:=0) (v:= .int .i64 ((2:Int)^a)) H2.out
     have y1:=(heap_set_other (W:=w5.drew) (j:=0) (v:= .int .i64 ((2:Int)^a)) hne).trans H1.out
     have hfo:=tag_fo (base:=g+1) ha4 (by omega) (by omega) y1 y2
     have hst:=(ST4.out.below hb6).put hlt (hfo.congr fun t n _ _=>by rw[HP.out];simp [ndVal])
     have hx1:=(hbel4.out.trans (hb6.mono hbel4.out.size)).setCell (p:=⟨g,k,none⟩) (by exact hg1) (.slice (some ⟨gb,0,none⟩) 1 1)
     have hx2:=(hbg4.out.trans (hb6.mono (by omega))).setCell (p:=⟨g,k,none⟩) (Nat.le_refl _) (.slice (some ⟨gb,0,none⟩) 1 1)
     rw[←hz] at hst hx1 hx2
     have HST:=Lib.hid hst
     have HX1:=Lib.hid hx1
     have HX2:=Lib.hid hx2
     clear hst hb6 hfo y1 y2 hx1 hx2 hz
     go_wp2
     go_roundw
     case rel=>exact ⟨k+1,_,by omega,by go_num,HST.out,HX1.out,HX2.out⟩
     case measure=>first | (simp[intOf];done) | (simp[intOf];omega)
   ·have hb7:Below w3.heap.size w3 (((w3.alloc (.cells #[.int .i64 3, .int .i64 aa, .int .i64 bb] 37)).alloc (.cells #[.int .i64 aa, .int .i64 bb] 54)).alloc (.cells #[.int .i64 0, .int .i64 0, .slice (some ⟨w3.heap.size+1,0,none⟩) 1 1] 52)):=((bal _).alloc (by simp) _).alloc (by simp;omega) _
    have k1:(((w3.alloc (.cells #[.int .i64 3, .int .i64 aa, .int .i64 bb] 37)).alloc (.cells #[.int .i64 aa, .int .i64 bb] 54)).alloc (.cells #[.int .i64 0, .int .i64 0, .slice (some ⟨w3.heap.size+1,0,none⟩) 1 1] 52)).heap[w3.heap.size+1]? =some (.cells #[.int .i64 aa, .int .i64 bb] 54 (0,0)):=by
     have h:=heap_alloc_new (w3.alloc (.cells #[.int .i64 3, .int .i64 aa, .int .i64 bb] 37)) (.cells #[.int .i64 aa, .int .i64 bb] 54)
     simp only[World.size_alloc] at h
     exact(heap_alloc_old _ _ (by simp)).trans h
    have k2:(((w3.alloc (.cells #[.int .i64 3, .int .i64 aa, .int .i64 bb] 37)).alloc (.cells #[.int .i64 aa, .int .i64 bb] 54)).alloc (.cells #[.int .i64 0, .int .i64 0, .slice (some ⟨w3.heap.size+1,0,none⟩) 1 1] 52)).heap[w3.heap.size+1+1]? =some (.cells #[.int .i64 0, .int .i64 0, .slice (some ⟨w3.heap.size+1,0,none⟩) 1 1] 52 (0,0)):=by
     have h:=heap_alloc_new ((w3.alloc (.cells #[.int .i64 3, .int .i64 aa, .int .i64 bb] 37)).alloc (.cells #[.int .i64 aa, .int .i64 bb] 54)) (.cells #[.int .i64 0, .int .i64 0, .slice (some ⟨w3.heap.size+1,0,none⟩) 1 1] 52)
     simp only[World.size_alloc] at h
     exact h
    have hfo:=in_fo (base:=g+1) ha0 ha1 hb1 (by omega) (by omega) k1 k2
    have hst:=(ST.out.below hb7).put hlt (hfo.congr fun t n _ _=>by rw[HP.out];simp [ndVal])
    rw[World.setCell_alloc_past _ _ _ _ (by simp;omega),World.setCell_alloc_past _ _ _ _ (by simp;omega),World.setCell_alloc_past _ _ _ _ hgw] at hst
    have hx1:=(hbel3.trans (hb7.mono hbel3.size)).setCell (p:=⟨g,k,none⟩) (by exact hg1) (.slice (some ⟨w3.heap.size+1+1,0,none⟩) 1 1)
    have hx2:=(hbg.trans (hb7.mono (Nat.le_of_lt hgw))).setCell (p:=⟨g,k,none⟩) (Nat.le_refl _) (.slice (some ⟨w3.heap.size+1+1,0,none⟩) 1 1)
    rw[World.setCell_alloc_past _ _ _ _ (by simp;omega),World.setCell_alloc_past _ _ _ _ (by simp;omega),World.setCell_alloc_past _ _ _ _ hgw] at hx1 hx2
    have HST:=Lib.hid hst
    have HX1:=Lib.hid hx1
    have HX2:=Lib.hid hx2
    have e0:=E0.out
    have f0:=F0.out
    clear hb7 k1 k2 hfo hst hx1 hx2
    have hgw1:g < w3.heap.size+1:=by omega
    have hgw2:g < w3.heap.size+1+1:=by omega
    go_wp2
    go_roundw
    case rel=>exact ⟨k+1,_,by omega,by go_num,HST.out,HX1.out,HX2.out⟩
    case measure=>first | (simp[intOf];done) | (simp[intOf];omega)
   ·obtain⟨ja,rfl⟩:=Int.eq_ofNat_of_zero_le ha0
    obtain⟨w4,hw4⟩: ∃w4,w4=w3.alloc (.cells #[.int .i64 4, .int .i64 ja, .int .i64 bb] 37):=⟨_,rfl⟩
    have hb4:Below w3.heap.size w3 w4:=by rw[hw4];exact bal _
    have n1:w4.cell? ⟨w3.heap.size,1,none⟩=some (.int .i64 ja):=by rw[hw4];exact cat _ _ _ 1 _ rfl _ rfl
    have ST4:=Lib.hid (ST.out.below hb4)
    have N1:=Lib.hid n1
    have hz4:g < w4.heap.size:=by have:=hb4.size;omega
    have hja:ja < k:=by omega
    have hla:ja < xs.length:=by rw[ST.out.len];omega
    obtain⟨XA,hXA⟩: ∃X,X=xs[ja]:=⟨_,rfl⟩
    have A1:=Lib.hid (show w4.cell? ⟨g,ja,none⟩=some XA by rw[hXA];exact ST4.out.get ja (by omega))
    have A2:=Lib.hid (show FV w4 XA (ndPts l ja) by rw[hXA];exact (ST4.out.ok ja hla hja).fv)
    clear hXA
    have hbel4:=Lib.hid (hbel3.trans (hb4.mono hbel3.size))
    have hbg4:=Lib.hid (hbg.trans (hb4.mono (Nat.le_of_lt hgw)))
    clear n1 hb4
    go_wp2_with fail
    rw[←hw4]
    clear hw4
    refine Cl.region0 121 rfl [13] (fun ww=>Below w4.heap.size w4 ww) (fun _=>[]) (fun jq v ww=>match jq with | 0=>v= .slice (some ⟨g,0,none⟩) l.length l.length | 1=>v= .int .i64 (k:Nat) | 2=>FO ww (g+1) v (fun _ _=>true) | 3=>v= .slice (some ⟨g,0,none⟩) l.length l.length | 4=>v= .pointer (some ⟨w3.heap.size,1,none⟩) | 5=>v= .int .i64 (ja:Nat) | 6=>v= .pointer (some ⟨g,ja,none⟩) | 7=>v=XA | 8=> ∃u,v= .tuple #[u, .int .i64 0]∧FO ww (g+1) u (fun t n=>true&& !ndPts l ja t n) | 9=> ∃u,v= .tuple #[u, .int .i64 0]∧FO ww (g+1) u (fun t n=>true&& !ndPts l ja t n) | 10=>FO ww (g+1) v (fun t n=>true&& !ndPts l ja t n) | 11=>v= .int .i64 0 | 12=>v= .pointer (some ⟨g,k,none⟩) | 13=> ∃ys,AllSt l g (k+1) ys ww | _=>True) (fun ww=>Below g w4 ww) (fun jq ww ww'=>(jq≠13→Below ww.heap.size ww ww')∧(jq=13→ ∃u,ww'=ww.setCell ⟨g,k,none⟩ u)) Tryd.mixed (by decide+kernel) (Below.refl _ _).drew ((Below.refl _ _).drew) ?_ (fun q w w' hk h hR=>bstep h (hR.1 (by simpa using hk))) ?_ ?_
    ·intro q r v w w' hne hk hlt h hR
     match r,hk,hlt,h,hne with
     | 0,_,_,h,_=>exact h
     | 1,_,_,h,_=>exact h
     | 2,_,_,h,_=>
      by_cases hq:q=13
      ·obtain⟨u,rfl⟩:=hR.2 hq;exact FO.low h (Nat.lt_succ_self _)
      ·exact FO.below h (hR.1 hq)
     | 3,_,_,h,_=>exact h
     | 4,_,_,h,_=>exact h
     | 5,_,_,h,_=>exact h
     | 6,_,_,h,_=>exact h
     | 7,_,_,h,_=>exact h
     | 8,_,_,h,_=>
      obtain⟨uu,hu1,hu2⟩:=h
      by_cases hq:q=13
      ·obtain⟨u,rfl⟩:=hR.2 hq;exact ⟨uu,hu1,FO.low hu2 (Nat.lt_succ_self _)⟩
      ·exact⟨uu,hu1,FO.below hu2 (hR.1 hq)⟩
     | 9,_,_,h,_=>
      obtain⟨uu,hu1,hu2⟩:=h
      by_cases hq:q=13
      ·obtain⟨u,rfl⟩:=hR.2 hq;exact ⟨uu,hu1,FO.low hu2 (Nat.lt_succ_self _)⟩
      ·exact⟨uu,hu1,FO.below hu2 (hR.1 hq)⟩
     | 10,_,_,h,_=>
      by_cases hq:q=13
      ·obtain⟨u,rfl⟩:=hR.2 hq;exact FO.low h (Nat.lt_succ_self _)
      ·exact FO.below h (hR.1 hq)
     | 11,_,_,h,_=>exact h
     | 12,_,_,h,_=>exact h
     | 13,_,_,h,hne=>exact (let ⟨ys,h1⟩:=h;⟨ys,h1.below (hR.1 (by exact hne))⟩)
     | _+14,_,_,_,_=>trivial
    ·refine⟨?_, ?_, ?_, ?_, ?_, ?_, ?_, ?_, ?_, ?_, ?_, ?_, ?_, ?_,trivial⟩
     ·intro x wx hG
      have f5:=hG.old 5 (by decide+kernel)
      have hg:=hG.good
      clear hG
      have hg2:=hg
      clear hg
      go_wp2
      exact⟨_,rfl,rfl,hg2,⟨fun _=>Below.refl _ _,fun h=>absurd h (by decide)⟩⟩
     ·intro x wx hG
      have f6:=hG.old 6 (by decide+kernel)
      have hg:=hG.good
      clear hG
      have hg2:=hg
      clear hg
      go_wp2
      exact⟨_,rfl,rfl,hg2,⟨fun _=>Below.refl _ _,fun h=>absurd h (by decide)⟩⟩
     ·intro x wx hG
      have hp:=hG.pre (by decide+kernel)
      have hg:=hG.good
      clear hG
      have hg2:=hg
      clear hg
      have hz:=hp.size
      clear hp
      go_wp2_with fail
      (with_reducible refine(everyX _).mono ?_)
      rintro e w5 ⟨gs,gb,rfl,hgs,hgb,hne,h1,h2,hb5⟩
      have HFO:=Lib.hid (every_fo (base:=g+1) (by omega) (by omega) h1 h2)
      clear h1 h2
      go_wp2
      exact⟨_,rfl,HFO.out,hg2.trans (hb5.mono (by omega)),⟨fun _=>hb5,fun h=>absurd h (by decide)⟩⟩
     ·intro x wx hG
      have f5:=hG.old 5 (by decide+kernel)
      have hg:=hG.good
      clear hG
      have hg2:=hg
      clear hg
      go_wp2
      exact⟨_,rfl,rfl,hg2,⟨fun _=>Below.refl _ _,fun h=>absurd h (by decide)⟩⟩
     ·intro x wx hG
      have f7:=hG.old 7 (by decide+kernel)
      have hg:=hG.good
      clear hG
      have hg2:=hg
      clear hg
      go_wp2
      exact⟨_,rfl,rfl,hg2,⟨fun _=>Below.refl _ _,fun h=>absurd h (by decide)⟩⟩
     ·intro x wx hG
      have g4:(x.tmps.getD 67 undef)= .pointer (some ⟨w3.heap.size,1,none⟩):=hG.claims 4 _ rfl (by decide+kernel) (by decide+kernel)
      have hp:=hG.pre (by decide+kernel)
      have hg:=hG.good
      clear hG
      have hg2:=hg
      clear hg
      have c:=ckeep hp N1.out
      clear hp
      go_wp2
      exact⟨_,rfl,rfl,hg2,⟨fun _=>Below.refl _ _,fun h=>absurd h (by decide)⟩⟩
     ·intro x wx hG
      have g3:(x.tmps.getD 66 undef)= .slice (some ⟨g,0,none⟩) l.length l.length:=hG.claims 3 _ rfl (by decide+kernel) (by decide+kernel)
      have g5:(x.tmps.getD 68 undef)= .int .i64 (ja:Nat):=hG.claims 5 _ rfl (by decide+kernel) (by decide+kernel)
      have hg:=hG.good
      clear hG
      have hg2:=hg
      clear hg
      go_wp2
      exact⟨_,rfl,rfl,hg2,⟨fun _=>Below.refl _ _,fun h=>absurd h (by decide)⟩⟩
     ·intro x wx hG
      have g6:(x.tmps.getD 69 undef)= .pointer (some ⟨g,ja,none⟩):=hG.claims 6 _ rfl (by decide+kernel) (by decide+kernel)
      have hp:=hG.pre (by decide+kernel)
      have hg:=hG.good
      clear hG
      have hg2:=hg
      clear hg
      have c:=ckeep hp A1.out
      clear hp
      go_wp2
      exact⟨_,rfl,rfl,hg2,⟨fun _=>Below.refl _ _,fun h=>absurd h (by decide)⟩⟩
     ·intro x wx hG
      have g2:FO wx (g+1) (x.tmps.getD 65 undef) (fun _ _=>true):=hG.claims 2 _ rfl (by decide+kernel) (by decide+kernel)
      have g7:(x.tmps.getD 70 undef)=XA:=hG.claims 7 _ rfl (by decide+kernel) (by decide+kernel)
      have hp:=hG.pre (by decide+kernel)
      have hg:=hG.good
      clear hG
      have hg2:=hg
      clear hg
      have fa:=g2.fv
      have fb:=A2.out.below hp
      have hz:=hp.size
      clear hp
      clear g2
      generalize hx:x.tmps.getD 65 undef=xa at*
      have FA:=Lib.hid fa
      have FB:=Lib.hid fb
      clear fa fb
      go_wp2_with fail
      (with_reducible refine(lessO _ _ _ _ _ FA.out FB.out).mono ?_)
      rintro e w5 ⟨u5,rfl,ho,hb5⟩
      have HO5:=Lib.hid ho
      clear ho
      go_wp2
      exact⟨_,rfl,⟨_,rfl,HO5.out.mono (by omega)⟩,hg2.trans (hb5.mono (by omega)),⟨fun _=>hb5,fun h=>absurd h (by decide)⟩⟩
     ·intro x wx hG
      have g8: ∃u,(x.tmps.getD 71 undef)= .tuple #[u, .int .i64 0]∧FO wx (g+1) u (fun t n=>true&& !ndPts l ja t n):=hG.claims 8 _ rfl (by decide+kernel) (by decide+kernel)
      have hg:=hG.good
      clear hG
      have hg2:=hg
      clear hg
      obtain⟨u,g8,hu⟩:=g8
      have g8b:=g8
      rw[Array.getD_eq_getD_getElem?] at g8b
      have HU:=Lib.hid hu
      clear hu
      go_wp2
      exact⟨_,rfl,⟨_,rfl,HU.out⟩,hg2,⟨fun _=>Below.refl _ _,fun h=>absurd h (by decide)⟩⟩
     ·intro x wx hG
      have g9: ∃u,(x.tmps.getD 62 undef)= .tuple #[u, .int .i64 0]∧FO wx (g+1) u (fun t n=>true&& !ndPts l ja t n):=hG.claims 9 _ rfl (by decide+kernel) (by decide+kernel)
      have hg:=hG.good
      clear hG
      have hg2:=hg
      clear hg
      obtain⟨u,g9,hu⟩:=g9
      have g9b:=g9
      rw[Array.getD_eq_getD_getElem?] at g9b
      have HU:=Lib.hid hu
      clear hu
      go_wp2
      exact⟨_,rfl,HU.out,hg2,⟨fun _=>Below.refl _ _,fun h=>absurd h (by decide)⟩⟩
     ·intro x wx hG
      have g9: ∃u,(x.tmps.getD 62 undef)= .tuple #[u, .int .i64 0]∧FO wx (g+1) u (fun t n=>true&& !ndPts l ja t n):=hG.claims 9 _ rfl (by decide+kernel) (by decide+kernel)
      have hg:=hG.good
      clear hG
      have hg2:=hg
      clear hg
      obtain⟨u,g9,hu⟩:=g9
      have g9b:=g9
      rw[Array.getD_eq_getD_getElem?] at g9b
      have HU:=Lib.hid hu
      clear hu
      go_wp2
      exact⟨_,rfl,rfl,hg2,⟨fun _=>Below.refl _ _,fun h=>absurd h (by decide)⟩⟩
     ·intro x wx hG
      have g0:(x.tmps.getD 63 undef)= .slice (some ⟨g,0,none⟩) l.length l.length:=hG.claims 0 _ rfl (by decide+kernel) (by decide+kernel)
      have g1:(x.tmps.getD 64 undef)= .int .i64 (k:Nat):=hG.claims 1 _ rfl (by decide+kernel) (by decide+kernel)
      have hg:=hG.good
      clear hG
      have hg2:=hg
      clear hg
      go_wp2
      exact⟨_,rfl,rfl,hg2,⟨fun _=>Below.refl _ _,fun h=>absurd h (by decide)⟩⟩
     ·intro x wx hG
      have g10:FO wx (g+1) (x.tmps.getD 72 undef) (fun t n=>true&& !ndPts l ja t n):=hG.claims 10 _ rfl (by decide+kernel) (by decide+kernel)
      have g12:(x.tmps.getD 74 undef)= .pointer (some ⟨g,k,none⟩):=hG.claims 12 _ rfl (by decide+kernel) (by decide+kernel)
      have hp:=hG.pre (by decide+kernel)
      have hg:=hG.good
      clear hG
      have hg2:=hg
      clear hg
      obtain⟨ra,rn,rc,hr⟩:=FO.shape g10
      have hrb:=hr
      rw[Array.getD_eq_getD_getElem?] at hrb
      rw[hr] at g10
      have GF:=Lib.hid g10
      clear g10
      have s5:=ST4.out.below hp
      have S5:=Lib.hid s5
      have e0:=S5.out.get k hlt
      have f0:=S5.out.own.frozenAt k
      clear hp s5
      go_wp2
      exact⟨undef,rfl,⟨_,S5.out.put hlt (GF.out.congr fun t n _ _=>by rw[HP.out];simp only[ndVal];rw [if_neg (by decide),if_neg (by decide),if_neg (by decide),if_pos trivial,Int.toNat_natCast,ndPts_prev _ _ _ hja];simp)⟩,hg2.setCell (Nat.le_refl _) _,⟨fun h=>absurd rfl h,fun _=>⟨_,rfl⟩⟩⟩
    ·intro vals w6 hg hF
     obtain⟨g0,g1,g2,g3,g4,g5,g6,g7,g8,g9,g10,g11,g12,g13, -⟩:=hF
     have e0:vals 0= .slice (some ⟨g,0,none⟩) l.length l.length:=g0 rfl
     have e1:vals 1= .int .i64 (k:Nat):=g1 rfl
     have e3:vals 3= .slice (some ⟨g,0,none⟩) l.length l.length:=g3 rfl
     have e4:vals 4= .pointer (some ⟨w3.heap.size,1,none⟩):=g4 rfl
     have e5:vals 5= .int .i64 (ja:Nat):=g5 rfl
     have e6:vals 6= .pointer (some ⟨g,ja,none⟩):=g6 rfl
     have e7:vals 7=XA:=g7 rfl
     have e11:vals 11= .int .i64 0:=g11 rfl
     have e12:vals 12= .pointer (some ⟨g,k,none⟩):=g12 rfl
     replace g13: ∃ys,AllSt l g (k+1) ys w6:=g13 rfl
     simp only[Cl.puts,e0,e1,e3,e4,e5,e6,e7,e11,e12]
     clear e0 e1 e3 e4 e5 e6 e7 e11 e12 g0 g1 g2 g3 g4 g5 g6 g7 g8 g9 g10 g11 g12
     go_simp
     obtain⟨ys,hys⟩:=g13
     have HYS:=Lib.hid hys
     clear hys
     go_wp2
     go_roundw
     case rel=>exact ⟨k+1,ys,by omega,by go_num,HYS.out,hbel4.out.trans (hg.mono hg1),hbg4.out.trans hg⟩
     case measure=>first | (simp[intOf];done) | (simp[intOf];omega)
   ·rcases hk5 with rfl | rfl
    ·obtain⟨ja,rfl⟩:=Int.eq_ofNat_of_zero_le ha0
     obtain⟨jb,rfl⟩:=Int.eq_ofNat_of_zero_le hb0
     obtain⟨w4,hw4⟩: ∃w4,w4=w3.alloc (.cells #[.int .i64 5, .int .i64 ja, .int .i64 jb] 37):=⟨_,rfl⟩
     have hb4:Below w3.heap.size w3 w4:=by rw[hw4];exact bal _
     have n1:w4.cell? ⟨w3.heap.size,1,none⟩=some (.int .i64 ja):=by rw[hw4];exact cat _ _ _ 1 _ rfl _ rfl
     have n2:w4.cell? ⟨w3.heap.size,2,none⟩=some (.int .i64 jb):=by rw[hw4];exact cat _ _ _ 2 _ rfl _ rfl
     have ST4:=Lib.hid (ST.out.below hb4)
     have N1:=Lib.hid n1
     have N2:=Lib.hid n2
     have hz4:g < w4.heap.size:=by have:=hb4.size;omega
     have hja:ja < k:=by omega
     have hjb:jb < k:=by omega
     have hla:ja < xs.length:=by rw[ST.out.len];omega
     have hlb:jb < xs.length:=by rw[ST.out.len];omega
     obtain⟨XA,hXA⟩: ∃X,X=xs[ja]:=⟨_,rfl⟩
     have A1:=Lib.hid (show w4.cell? ⟨g,ja,none⟩=some XA by rw[hXA];exact ST4.out.get ja (by omega))
     have A2:=Lib.hid (show FV w4 XA (ndPts l ja) by rw[hXA];exact (ST4.out.ok ja hla hja).fv)
     clear hXA
     obtain⟨XB,hXB⟩: ∃X,X=xs[jb]:=⟨_,rfl⟩
     have B1:=Lib.hid (show w4.cell? ⟨g,jb,none⟩=some XB by rw[hXB];exact ST4.out.get jb (by omega))
     have B2:=Lib.hid (show FV w4 XB (ndPts l jb) by rw[hXB];exact (ST4.out.ok jb hlb hjb).fv)
     clear hXB
     have hbel4:=Lib.hid (hbel3.trans (hb4.mono hbel3.size))
     have hbg4:=Lib.hid (hbg.trans (hb4.mono (Nat.le_of_lt hgw)))
     clear n1 hb4 n2
     go_wp2_with fail
     rw[←hw4]
     clear hw4
     refine Cl.region0 121 rfl [17] (fun ww=>Below w4.heap.size w4 ww) (fun _=>[]) (fun jq v ww=>match jq with | 0=>v= .slice (some ⟨g,0,none⟩) l.length l.length | 1=>v= .int .i64 (k:Nat) | 2=>v= .slice (some ⟨g,0,none⟩) l.length l.length | 3=>v= .pointer (some ⟨w3.heap.size,1,none⟩) | 4=>v= .int .i64 (ja:Nat) | 5=>v= .pointer (some ⟨g,ja,none⟩) | 6=>v=XA | 7=>v= .slice (some ⟨g,0,none⟩) l.length l.length | 8=>v= .pointer (some ⟨w3.heap.size,2,none⟩) | 9=>v= .int .i64 (jb:Nat) | 10=>v= .pointer (some ⟨g,jb,none⟩) | 11=>v=XB | 12=> ∃u,v= .tuple #[u, .int .i64 0]∧FO ww (g+1) u (fun t n=>ndPts l ja t n&&ndPts l jb t n) | 13=> ∃u,v= .tuple #[u, .int .i64 0]∧FO ww (g+1) u (fun t n=>ndPts l ja t n&&ndPts l jb t n) | 14=>FO ww (g+1) v (fun t n=>ndPts l ja t n&&ndPts l jb t n) | 15=>v= .int .i64 0 | 16=>v= .pointer (some ⟨g,k,none⟩) | 17=> ∃ys,AllSt l g (k+1) ys ww | _=>True) (fun ww=>Below g w4 ww) (fun jq ww ww'=>(jq≠17→Below ww.heap.size ww ww')∧(jq=17→ ∃u,ww'=ww.setCell ⟨g,k,none⟩ u)) Tryd.mixed (by decide+kernel) (Below.refl _ _).drew ((Below.refl _ _).drew) ?_ (fun q w w' hk h hR=>bstep h (hR.1 (by simpa using hk))) ?_ ?_
     ·intro q r v w w' hne hk hlt h hR
      match r,hk,hlt,h,hne with
      | 0,_,_,h,_=>exact h
      | 1,_,_,h,_=>exact h
      | 2,_,_,h,_=>exact h
      | 3,_,_,h,_=>exact h
      | 4,_,_,h,_=>exact h
      | 5,_,_,h,_=>exact h
      | 6,_,_,h,_=>exact h
      | 7,_,_,h,_=>exact h
      | 8,_,_,h,_=>exact h
      | 9,_,_,h,_=>exact h
      | 10,_,_,h,_=>exact h
      | 11,_,_,h,_=>exact h
      | 12,_,_,h,_=>
       obtain⟨uu,hu1,hu2⟩:=h
       by_cases hq:q=17
       ·obtain⟨u,rfl⟩:=hR.2 hq;exact ⟨uu,hu1,FO.low hu2 (Nat.lt_succ_self _)⟩
       ·exact⟨uu,hu1,FO.below hu2 (hR.1 hq)⟩
      | 13,_,_,h,_=>
       obtain⟨uu,hu1,hu2⟩:=h
       by_cases hq:q=17
       ·obtain⟨u,rfl⟩:=hR.2 hq;exact ⟨uu,hu1,FO.low hu2 (Nat.lt_succ_self _)⟩
       ·exact⟨uu,hu1,FO.below hu2 (hR.1 hq)⟩
      | 14,_,_,h,_=>
       by_cases hq:q=17
       ·obtain⟨u,rfl⟩:=hR.2 hq;exact FO.low h (Nat.lt_succ_self _)
       ·exact FO.below h (hR.1 hq)
      | 15,_,_,h,_=>exact h
      | 16,_,_,h,_=>exact h
      | 17,_,_,h,hne=>exact (let ⟨ys,h1⟩:=h;⟨ys,h1.below (hR.1 (by exact hne))⟩)
      | _+18,_,_,_,_=>trivial
     ·refine⟨?_, ?_, ?_, ?_, ?_, ?_, ?_, ?_, ?_, ?_, ?_, ?_, ?_, ?_, ?_, ?_, ?_, ?_,trivial⟩
      ·intro x wx hG
       have f5:=hG.old 5 (by decide+kernel)
       have hg:=hG.good
       clear hG
       have hg2:=hg
       clear hg
       go_wp2
       exact⟨_,rfl,rfl,hg2,⟨fun _=>Below.refl _ _,fun h=>absurd h (by decide)⟩⟩
      ·intro x wx hG
       have f6:=hG.old 6 (by decide+kernel)
       have hg:=hG.good
       clear hG
       have hg2:=hg
       clear hg
       go_wp2
       exact⟨_,rfl,rfl,hg2,⟨fun _=>Below.refl _ _,fun h=>absurd h (by decide)⟩⟩
      ·intro x wx hG
       have f5:=hG.old 5 (by decide+kernel)
       have hg:=hG.good
       clear hG
       have hg2:=hg
       clear hg
       go_wp2
       exact⟨_,rfl,rfl,hg2,⟨fun _=>Below.refl _ _,fun h=>absurd h (by decide)⟩⟩
      ·intro x wx hG
       have f7:=hG.old 7 (by decide+kernel)
       have hg:=hG.good
       clear hG
       have hg2:=hg
       clear hg
       go_wp2
       exact⟨_,rfl,rfl,hg2,⟨fun _=>Below.refl _ _,fun h=>absurd h (by decide)⟩⟩
      ·intro x wx hG
       have g3:(x.tmps.getD 81 undef)= .pointer (some ⟨w3.heap.size,1,none⟩):=hG.claims 3 _ rfl (by decide+kernel) (by decide+kernel)
       have hp:=hG.pre (by decide+kernel)
       have hg:=hG.good
       clear hG
       have hg2:=hg
       clear hg
       have c:=ckeep hp N1.out
       clear hp
       go_wp2
       exact⟨_,rfl,rfl,hg2,⟨fun _=>Below.refl _ _,fun h=>absurd h (by decide)⟩⟩
      ·intro x wx hG
       have g2:(x.tmps.getD 80 undef)= .slice (some ⟨g,0,none⟩) l.length l.length:=hG.claims 2 _ rfl (by decide+kernel) (by decide+kernel)
       have g4:(x.tmps.getD 82 undef)= .int .i64 (ja:Nat):=hG.claims 4 _ rfl (by decide+kernel) (by decide+kernel)
       have hg:=hG.good
       clear hG
       have hg2:=hg
       clear hg
       go_wp2
       exact⟨_,rfl,rfl,hg2,⟨fun _=>Below.refl _ _,fun h=>absurd h (by decide)⟩⟩
      ·intro x wx hG
       have g5:(x.tmps.getD 83 undef)= .pointer (some ⟨g,ja,none⟩):=hG.claims 5 _ rfl (by decide+kernel) (by decide+kernel)
       have hp:=hG.pre (by decide+kernel)
       have hg:=hG.good
       clear hG
       have hg2:=hg
       clear hg
       have c:=ckeep hp A1.out
       clear hp
       go_wp2
       exact⟨_,rfl,rfl,hg2,⟨fun _=>Below.refl _ _,fun h=>absurd h (by decide)⟩⟩
      ·intro x wx hG
       have f5:=hG.old 5 (by decide+kernel)
       have hg:=hG.good
       clear hG
       have hg2:=hg
       clear hg
       go_wp2
       exact⟨_,rfl,rfl,hg2,⟨fun _=>Below.refl _ _,fun h=>absurd h (by decide)⟩⟩
      ·intro x wx hG
       have f7:=hG.old 7 (by decide+kernel)
       have hg:=hG.good
       clear hG
       have hg2:=hg
       clear hg
       go_wp2
       exact⟨_,rfl,rfl,hg2,⟨fun _=>Below.refl _ _,fun h=>absurd h (by decide)⟩⟩
      ·intro x wx hG
       have g8:(x.tmps.getD 86 undef)= .pointer (some ⟨w3.heap.size,2,none⟩):=hG.claims 8 _ rfl (by decide+kernel) (by decide+kernel)
       have hp:=hG.pre (by decide+kernel)
       have hg:=hG.good
       clear hG
       have hg2:=hg
       clear hg
       have c:=ckeep hp N2.out
       clear hp
       go_wp2
       exact⟨_,rfl,rfl,hg2,⟨fun _=>Below.refl _ _,fun h=>absurd h (by decide)⟩⟩
      ·intro x wx hG
       have g7:(x.tmps.getD 85 undef)= .slice (some ⟨g,0,none⟩) l.length l.length:=hG.claims 7 _ rfl (by decide+kernel) (by decide+kernel)
       have g9:(x.tmps.getD 87 undef)= .int .i64 (jb:Nat):=hG.claims 9 _ rfl (by decide+kernel) (by decide+kernel)
       have hg:=hG.good
       clear hG
       have hg2:=hg
       clear hg
       go_wp2
       exact⟨_,rfl,rfl,hg2,⟨fun _=>Below.refl _ _,fun h=>absurd h (by decide)⟩⟩
      ·intro x wx hG
       have g10:(x.tmps.getD 88 undef)= .pointer (some ⟨g,jb,none⟩):=hG.claims 10 _ rfl (by decide+kernel) (by decide+kernel)
       have hp:=hG.pre (by decide+kernel)
       have hg:=hG.good
       clear hG
       have hg2:=hg
       clear hg
       have c:=ckeep hp B1.out
       clear hp
       go_wp2
       exact⟨_,rfl,rfl,hg2,⟨fun _=>Below.refl _ _,fun h=>absurd h (by decide)⟩⟩
      ·intro x wx hG
       have g6:(x.tmps.getD 84 undef)=XA:=hG.claims 6 _ rfl (by decide+kernel) (by decide+kernel)
       have g11:(x.tmps.getD 89 undef)=XB:=hG.claims 11 _ rfl (by decide+kernel) (by decide+kernel)
       have hp:=hG.pre (by decide+kernel)
       have hg:=hG.good
       clear hG
       have hg2:=hg
       clear hg
       have fa:=A2.out.below hp
       have fb:=B2.out.below hp
       have hz:=hp.size
       clear hp
       have FA:=Lib.hid fa
       have FB:=Lib.hid fb
       clear fa fb
       go_wp2_with fail
       (with_reducible refine(meetO _ _ _ _ _ FA.out FB.out).mono ?_)
       rintro e w5 ⟨u5,rfl,ho,hb5⟩
       have HO5:=Lib.hid ho
       clear ho
       go_wp2
       exact⟨_,rfl,⟨_,rfl,HO5.out.mono (by omega)⟩,hg2.trans (hb5.mono (by omega)),⟨fun _=>hb5,fun h=>absurd h (by decide)⟩⟩
      ·intro x wx hG
       have g12: ∃u,(x.tmps.getD 90 undef)= .tuple #[u, .int .i64 0]∧FO wx (g+1) u (fun t n=>ndPts l ja t n&&ndPts l jb t n):=hG.claims 12 _ rfl (by decide+kernel) (by decide+kernel)
       have hg:=hG.good
       clear hG
       have hg2:=hg
       clear hg
       obtain⟨u,g12,hu⟩:=g12
       have g12b:=g12
       rw[Array.getD_eq_getD_getElem?] at g12b
       have HU:=Lib.hid hu
       clear hu
       go_wp2
       exact⟨_,rfl,⟨_,rfl,HU.out⟩,hg2,⟨fun _=>Below.refl _ _,fun h=>absurd h (by decide)⟩⟩
      ·intro x wx hG
       have g13: ∃u,(x.tmps.getD 77 undef)= .tuple #[u, .int .i64 0]∧FO wx (g+1) u (fun t n=>ndPts l ja t n&&ndPts l jb t n):=hG.claims 13 _ rfl (by decide+kernel) (by decide+kernel)
       have hg:=hG.good
       clear hG
       have hg2:=hg
       clear hg
       obtain⟨u,g13,hu⟩:=g13
       have g13b:=g13
       rw[Array.getD_eq_getD_getElem?] at g13b
       have HU:=Lib.hid hu
       clear hu
       go_wp2
       exact⟨_,rfl,HU.out,hg2,⟨fun _=>Below.refl _ _,fun h=>absurd h (by decide)⟩⟩
      ·intro x wx hG
       have g13: ∃u,(x.tmps.getD 77 undef)= .tuple #[u, .int .i64 0]∧FO wx (g+1) u (fun t n=>ndPts l ja t n&&ndPts l jb t n):=hG.claims 13 _ rfl (by decide+kernel) (by decide+kernel)
       have hg:=hG.good
       clear hG
       have hg2:=hg
       clear hg
       obtain⟨u,g13,hu⟩:=g13
       have g13b:=g13
       rw[Array.getD_eq_getD_getElem?] at g13b
       have HU:=Lib.hid hu
       clear hu
       go_wp2
       exact⟨_,rfl,rfl,hg2,⟨fun _=>Below.refl _ _,fun h=>absurd h (by decide)⟩⟩
      ·intro x wx hG
       have g0:(x.tmps.getD 78 undef)= .slice (some ⟨g,0,none⟩) l.length l.length:=hG.claims 0 _ rfl (by decide+kernel) (by decide+kernel)
       have g1:(x.tmps.getD 79 undef)= .int .i64 (k:Nat):=hG.claims 1 _ rfl (by decide+kernel) (by decide+kernel)
       have hg:=hG.good
       clear hG
       have hg2:=hg
       clear hg
       go_wp2
       exact⟨_,rfl,rfl,hg2,⟨fun _=>Below.refl _ _,fun h=>absurd h (by decide)⟩⟩
      ·intro x wx hG
       have g14:FO wx (g+1) (x.tmps.getD 91 undef) (fun t n=>ndPts l ja t n&&ndPts l jb t n):=hG.claims 14 _ rfl (by decide+kernel) (by decide+kernel)
       have g16:(x.tmps.getD 93 undef)= .pointer (some ⟨g,k,none⟩):=hG.claims 16 _ rfl (by decide+kernel) (by decide+kernel)
       have hp:=hG.pre (by decide+kernel)
       have hg:=hG.good
       clear hG
       have hg2:=hg
       clear hg
       obtain⟨ra,rn,rc,hr⟩:=FO.shape g14
       have hrb:=hr
       rw[Array.getD_eq_getD_getElem?] at hrb
       rw[hr] at g14
       have GF:=Lib.hid g14
       clear g14
       have s5:=ST4.out.below hp
       have S5:=Lib.hid s5
       have e0:=S5.out.get k hlt
       have f0:=S5.out.own.frozenAt k
       clear hp s5
       go_wp2
       exact⟨undef,rfl,⟨_,S5.out.put hlt (GF.out.congr fun t n _ _=>by rw[HP.out];simp only[ndVal];rw [if_neg (by decide),if_neg (by decide),if_neg (by decide),if_neg (by decide),if_pos trivial,Int.toNat_natCast,Int.toNat_natCast,ndPts_prev _ _ _ hja,ndPts_prev _ _ _ hjb])⟩,hg2.setCell (Nat.le_refl _) _,⟨fun h=>absurd rfl h,fun _=>⟨_,rfl⟩⟩⟩
     ·intro vals w6 hg hF
      obtain⟨g0,g1,g2,g3,g4,g5,g6,g7,g8,g9,g10,g11,g12,g13,g14,g15,g16,g17, -⟩:=hF
      have e0:vals 0= .slice (some ⟨g,0,none⟩) l.length l.length:=g0 rfl
      have e1:vals 1= .int .i64 (k:Nat):=g1 rfl
      have e2:vals 2= .slice (some ⟨g,0,none⟩) l.length l.length:=g2 rfl
      have e3:vals 3= .pointer (some ⟨w3.heap.size,1,none⟩):=g3 rfl
      have e4:vals 4= .int .i64 (ja:Nat):=g4 rfl
      have e5:vals 5= .pointer (some ⟨g,ja,none⟩):=g5 rfl
      have e6:vals 6=XA:=g6 rfl
      have e7:vals 7= .slice (some ⟨g,0,none⟩) l.length l.length:=g7 rfl
      have e8:vals 8= .pointer (some ⟨w3.heap.size,2,none⟩):=g8 rfl
      have e9:vals 9= .int .i64 (jb:Nat):=g9 rfl
      have e10:vals 10= .pointer (some ⟨g,jb,none⟩):=g10 rfl
      have e11:vals 11=XB:=g11 rfl
      have e15:vals 15= .int .i64 0:=g15 rfl
      have e16:vals 16= .pointer (some ⟨g,k,none⟩):=g16 rfl
      replace g17: ∃ys,AllSt l g (k+1) ys w6:=g17 rfl
      simp only[Cl.puts,e0,e1,e2,e3,e4,e5,e6,e7,e8,e9,e10,e11,e15,e16]
      clear e0 e1 e2 e3 e4 e5 e6 e7 e8 e9 e10 e11 e15 e16 g0 g1 g2 g3 g4 g5 g6 g7 g8 g9 g10 g11 g12 g13 g14 g15 g16
      go_simp
      obtain⟨ys,hys⟩:=g17
      have HYS:=Lib.hid hys
      clear hys
      go_wp2
      go_roundw
      case rel=>exact ⟨k+1,ys,by omega,by go_num,HYS.out,hbel4.out.trans (hg.mono hg1),hbg4.out.trans hg⟩
      case measure=>first | (simp[intOf];done) | (simp[intOf];omega)
    ·obtain⟨ja,rfl⟩:=Int.eq_ofNat_of_zero_le ha0
     obtain⟨jb,rfl⟩:=Int.eq_ofNat_of_zero_le hb0
     obtain⟨w4,hw4⟩: ∃w4,w4=w3.alloc (.cells #[.int .i64 6, .int .i64 ja, .int .i64 jb] 37):=⟨_,rfl⟩
     have hb4:Below w3.heap.size w3 w4:=by rw[hw4];exact bal _
     have n1:w4.cell? ⟨w3.heap.size,1,none⟩=some (.int .i64 ja):=by rw[hw4];exact cat _ _ _ 1 _ rfl _ rfl
     have n2:w4.cell? ⟨w3.heap.size,2,none⟩=some (.int .i64 jb):=by rw[hw4];exact cat _ _ _ 2 _ rfl _ rfl
     have ST4:=Lib.hid (ST.out.below hb4)
     have N1:=Lib.hid n1
     have N2:=Lib.hid n2
     have hz4:g < w4.heap.size:=by have:=hb4.size;omega
     have hja:ja < k:=by omega
     have hjb:jb < k:=by omega
     have hla:ja < xs.length:=by rw[ST.out.len];omega
     have hlb:jb < xs.length:=by rw[ST.out.len];omega
     obtain⟨XA,hXA⟩: ∃X,X=xs[ja]:=⟨_,rfl⟩
     have A1:=Lib.hid (show w4.cell? ⟨g,ja,none⟩=some XA by rw[hXA];exact ST4.out.get ja (by omega))
     have A2:=Lib.hid (show FV w4 XA (ndPts l ja) by rw[hXA];exact (ST4.out.ok ja hla hja).fv)
     clear hXA
     obtain⟨XB,hXB⟩: ∃X,X=xs[jb]:=⟨_,rfl⟩
     have B1:=Lib.hid (show w4.cell? ⟨g,jb,none⟩=some XB by rw[hXB];exact ST4.out.get jb (by omega))
     have B2:=Lib.hid (show FV w4 XB (ndPts l jb) by rw[hXB];exact (ST4.out.ok jb hlb hjb).fv)
     clear hXB
     have hbel4:=Lib.hid (hbel3.trans (hb4.mono hbel3.size))
     have hbg4:=Lib.hid (hbg.trans (hb4.mono (Nat.le_of_lt hgw)))
     clear n1 hb4 n2
     go_wp2_with fail
     rw[←hw4]
     clear hw4
     refine Cl.region0 121 rfl [17] (fun ww=>Below w4.heap.size w4 ww) (fun _=>[]) (fun jq v ww=>match jq with | 0=>v= .slice (some ⟨g,0,none⟩) l.length l.length | 1=>v= .int .i64 (k:Nat) | 2=>v= .slice (some ⟨g,0,none⟩) l.length l.length | 3=>v= .pointer (some ⟨w3.heap.size,1,none⟩) | 4=>v= .int .i64 (ja:Nat) | 5=>v= .pointer (some ⟨g,ja,none⟩) | 6=>v=XA | 7=>v= .slice (some ⟨g,0,none⟩) l.length l.length | 8=>v= .pointer (some ⟨w3.heap.size,2,none⟩) | 9=>v= .int .i64 (jb:Nat) | 10=>v= .pointer (some ⟨g,jb,none⟩) | 11=>v=XB | 12=> ∃u,v= .tuple #[u, .int .i64 0]∧FO ww (g+1) u (fun t n=>ndPts l ja t n || ndPts l jb t n) | 13=> ∃u,v= .tuple #[u, .int .i64 0]∧FO ww (g+1) u (fun t n=>ndPts l ja t n || ndPts l jb t n) | 14=>FO ww (g+1) v (fun t n=>ndPts l ja t n || ndPts l jb t n) | 15=>v= .int .i64 0 | 16=>v= .pointer (some ⟨g,k,none⟩) | 17=> ∃ys,AllSt l g (k+1) ys ww | _=>True) (fun ww=>Below g w4 ww) (fun jq ww ww'=>(jq≠17→Below ww.heap.size ww ww')∧(jq=17→ ∃u,ww'=ww.setCell ⟨g,k,none⟩ u)) Tryd.mixed (by decide+kernel) (Below.refl _ _).drew ((Below.refl _ _).drew) ?_ (fun q w w' hk h hR=>bstep h (hR.1 (by simpa using hk))) ?_ ?_
     ·intro q r v w w' hne hk hlt h hR
      match r,hk,hlt,h,hne with
      | 0,_,_,h,_=>exact h
      | 1,_,_,h,_=>exact h
      | 2,_,_,h,_=>exact h
      | 3,_,_,h,_=>exact h
      | 4,_,_,h,_=>exact h
      | 5,_,_,h,_=>exact h
      | 6,_,_,h,_=>exact h
      | 7,_,_,h,_=>exact h
      | 8,_,_,h,_=>exact h
      | 9,_,_,h,_=>exact h
      | 10,_,_,h,_=>exact h
      | 11,_,_,h,_=>exact h
      | 12,_,_,h,_=>
       obtain⟨uu,hu1,hu2⟩:=h
       by_cases hq:q=17
       ·obtain⟨u,rfl⟩:=hR.2 hq;exact ⟨uu,hu1,FO.low hu2 (Nat.lt_succ_self _)⟩
       ·exact⟨uu,hu1,FO.below hu2 (hR.1 hq)⟩
      | 13,_,_,h,_=>
       obtain⟨uu,hu1,hu2⟩:=h
       by_cases hq:q=17
       ·obtain⟨u,rfl⟩:=hR.2 hq;exact ⟨uu,hu1,FO.low hu2 (Nat.lt_succ_self _)⟩
       ·exact⟨uu,hu1,FO.below hu2 (hR.1 hq)⟩
      | 14,_,_,h,_=>
       by_cases hq:q=17
       ·obtain⟨u,rfl⟩:=hR.2 hq;exact FO.low h (Nat.lt_succ_self _)
       ·exact FO.below h (hR.1 hq)
      | 15,_,_,h,_=>exact h
      | 16,_,_,h,_=>exact h
      | 17,_,_,h,hne=>exact (let ⟨ys,h1⟩:=h;⟨ys,h1.below (hR.1 (by exact hne))⟩)
      | _+18,_,_,_,_=>trivial
     ·refine⟨?_, ?_, ?_, ?_, ?_, ?_, ?_, ?_, ?_, ?_, ?_, ?_, ?_, ?_, ?_, ?_, ?_, ?_,trivial⟩
      ·intro x wx hG
       have f5:=hG.old 5 (by decide+kernel)
       have hg:=hG.good
       clear hG
       have hg2:=hg
       clear hg
       go_wp2
       exact⟨_,rfl,rfl,hg2,⟨fun _=>Below.refl _ _,fun h=>absurd h (by decide)⟩⟩
      ·intro x wx hG
       have f6:=hG.old 6 (by decide+kernel)
       have hg:=hG.good
       clear hG
       have hg2:=hg
       clear hg
       go_wp2
       exact⟨_,rfl,rfl,hg2,⟨fun _=>Below.refl _ _,fun h=>absurd h (by decide)⟩⟩
      ·intro x wx hG
       have f5:=hG.old 5 (by decide+kernel)
       have hg:=hG.good
       clear hG
       have hg2:=hg
       clear hg
       go_wp2
       exact⟨_,rfl,rfl,hg2,⟨fun _=>Below.refl _ _,fun h=>absurd h (by decide)⟩⟩
      ·intro x wx hG
       have f7:=hG.old 7 (by decide+kernel)
       have hg:=hG.good
       clear hG
       have hg2:=hg
       clear hg
       go_wp2
       exact⟨_,rfl,rfl,hg2,⟨fun _=>Below.refl _ _,fun h=>absurd h (by decide)⟩⟩
      ·intro x wx hG
       have g3:(x.tmps.getD 100 undef)= .pointer (some ⟨w3.heap.size,1,none⟩):=hG.claims 3 _ rfl (by decide+kernel) (by decide+kernel)
       have hp:=hG.pre (by decide+kernel)
       have hg:=hG.good
       clear hG
       have hg2:=hg
       clear hg
       have c:=ckeep hp N1.out
       clear hp
       go_wp2
       exact⟨_,rfl,rfl,hg2,⟨fun _=>Below.refl _ _,fun h=>absurd h (by decide)⟩⟩
      ·intro x wx hG
       have g2:(x.tmps.getD 99 undef)= .slice (some ⟨g,0,none⟩) l.length l.length:=hG.claims 2 _ rfl (by decide+kernel) (by decide+kernel)
       have g4:(x.tmps.getD 101 undef)= .int .i64 (ja:Nat):=hG.claims 4 _ rfl (by decide+kernel) (by decide+kernel)
       have hg:=hG.good
       clear hG
       have hg2:=hg
       clear hg
       go_wp2
       exact⟨_,rfl,rfl,hg2,⟨fun _=>Below.refl _ _,fun h=>absurd h (by decide)⟩⟩
      ·intro x wx hG
       have g5:(x.tmps.getD 102 undef)= .pointer (some ⟨g,ja,none⟩):=hG.claims 5 _ rfl (by decide+kernel) (by decide+kernel)
       have hp:=hG.pre (by decide+kernel)
       have hg:=hG.good
       clear hG
       have hg2:=hg
       clear hg
       have c:=ckeep hp A1.out
       clear hp
       go_wp2
       exact⟨_,rfl,rfl,hg2,⟨fun _=>Below.refl _ _,fun h=>absurd h (by decide)⟩⟩
      ·intro x wx hG
       have f5:=hG.old 5 (by decide+kernel)
       have hg:=hG.good
       clear hG
       have hg2:=hg
       clear hg
       go_wp2
       exact⟨_,rfl,rfl,hg2,⟨fun _=>Below.refl _ _,fun h=>absurd h (by decide)⟩⟩
      ·intro x wx hG
       have f7:=hG.old 7 (by decide+kernel)
       have hg:=hG.good
       clear hG
       have hg2:=hg
       clear hg
       go_wp2
       exact⟨_,rfl,rfl,hg2,⟨fun _=>Below.refl _ _,fun h=>absurd h (by decide)⟩⟩
      ·intro x wx hG
       have g8:(x.tmps.getD 105 undef)= .pointer (some ⟨w3.heap.size,2,none⟩):=hG.claims 8 _ rfl (by decide+kernel) (by decide+kernel)
       have hp:=hG.pre (by decide+kernel)
       have hg:=hG.good
       clear hG
       have hg2:=hg
       clear hg
       have c:=ckeep hp N2.out
       clear hp
       go_wp2
       exact⟨_,rfl,rfl,hg2,⟨fun _=>Below.refl _ _,fun h=>absurd h (by decide)⟩⟩
      ·intro x wx hG
       have g7:(x.tmps.getD 104 undef)= .slice (some ⟨g,0,none⟩) l.length l.length:=hG.claims 7 _ rfl (by decide+kernel) (by decide+kernel)
       have g9:(x.tmps.getD 106 undef)= .int .i64 (jb:Nat):=hG.claims 9 _ rfl (by decide+kernel) (by decide+kernel)
       have hg:=hG.good
       clear hG
       have hg2:=hg
       clear hg
       go_wp2
       exact⟨_,rfl,rfl,hg2,⟨fun _=>Below.refl _ _,fun h=>absurd h (by decide)⟩⟩
      ·intro x wx hG
       have g10:(x.tmps.getD 107 undef)= .pointer (some ⟨g,jb,none⟩):=hG.claims 10 _ rfl (by decide+kernel) (by decide+kernel)
       have hp:=hG.pre (by decide+kernel)
       have hg:=hG.good
       clear hG
       have hg2:=hg
       clear hg
       have c:=ckeep hp B1.out
       clear hp
       go_wp2
       exact⟨_,rfl,rfl,hg2,⟨fun _=>Below.refl _ _,fun h=>absurd h (by decide)⟩⟩
      ·intro x wx hG
       have g6:(x.tmps.getD 103 undef)=XA:=hG.claims 6 _ rfl (by decide+kernel) (by decide+kernel)
       have g11:(x.tmps.getD 108 undef)=XB:=hG.claims 11 _ rfl (by decide+kernel) (by decide+kernel)
       have hp:=hG.pre (by decide+kernel)
       have hg:=hG.good
       clear hG
       have hg2:=hg
       clear hg
       have fa:=A2.out.below hp
       have fb:=B2.out.below hp
       have hz:=hp.size
       clear hp
       have FA:=Lib.hid fa
       have FB:=Lib.hid fb
       clear fa fb
       go_wp2_with fail
       (with_reducible refine(joinO _ _ _ _ _ FA.out FB.out).mono ?_)
       rintro e w5 ⟨u5,rfl,ho,hb5⟩
       have HO5:=Lib.hid ho
       clear ho
       go_wp2
       exact⟨_,rfl,⟨_,rfl,HO5.out.mono (by omega)⟩,hg2.trans (hb5.mono (by omega)),⟨fun _=>hb5,fun h=>absurd h (by decide)⟩⟩
      ·intro x wx hG
       have g12: ∃u,(x.tmps.getD 109 undef)= .tuple #[u, .int .i64 0]∧FO wx (g+1) u (fun t n=>ndPts l ja t n || ndPts l jb t n):=hG.claims 12 _ rfl (by decide+kernel) (by decide+kernel)
       have hg:=hG.good
       clear hG
       have hg2:=hg
       clear hg
       obtain⟨u,g12,hu⟩:=g12
       have g12b:=g12
       rw[Array.getD_eq_getD_getElem?] at g12b
       have HU:=Lib.hid hu
       clear hu
       go_wp2
       exact⟨_,rfl,⟨_,rfl,HU.out⟩,hg2,⟨fun _=>Below.refl _ _,fun h=>absurd h (by decide)⟩⟩
      ·intro x wx hG
       have g13: ∃u,(x.tmps.getD 96 undef)= .tuple #[u, .int .i64 0]∧FO wx (g+1) u (fun t n=>ndPts l ja t n || ndPts l jb t n):=hG.claims 13 _ rfl (by decide+kernel) (by decide+kernel)
       have hg:=hG.good
       clear hG
       have hg2:=hg
       clear hg
       obtain⟨u,g13,hu⟩:=g13
       have g13b:=g13
       rw[Array.getD_eq_getD_getElem?] at g13b
       have HU:=Lib.hid hu
       clear hu
       go_wp2
       exact⟨_,rfl,HU.out,hg2,⟨fun _=>Below.refl _ _,fun h=>absurd h (by decide)⟩⟩
      ·intro x wx hG
       have g13: ∃u,(x.tmps.getD 96 undef)= .tuple #[u, .int .i64 0]∧FO wx (g+1) u (fun t n=>ndPts l ja t n || ndPts l jb t n):=hG.claims 13 _ rfl (by decide+kernel) (by decide+kernel)
       have hg:=hG.good
       clear hG
       have hg2:=hg
       clear hg
       obtain⟨u,g13,hu⟩:=g13
       have g13b:=g13
       rw[Array.getD_eq_getD_getElem?] at g13b
       have HU:=Lib.hid hu
       clear hu
       go_wp2
       exact⟨_,rfl,rfl,hg2,⟨fun _=>Below.refl _ _,fun h=>absurd h (by decide)⟩⟩
      ·intro x wx hG
       have g0:(x.tmps.getD 97 undef)= .slice (some ⟨g,0,none⟩) l.length l.length:=hG.claims 0 _ rfl (by decide+kernel) (by decide+kernel)
       have g1:(x.tmps.getD 98 undef)= .int .i64 (k:Nat):=hG.claims 1 _ rfl (by decide+kernel) (by decide+kernel)
       have hg:=hG.good
       clear hG
       have hg2:=hg
       clear hg
       go_wp2
       exact⟨_,rfl,rfl,hg2,⟨fun _=>Below.refl _ _,fun h=>absurd h (by decide)⟩⟩
      ·intro x wx hG
       have g14:FO wx (g+1) (x.tmps.getD 110 undef) (fun t n=>ndPts l ja t n || ndPts l jb t n):=hG.claims 14 _ rfl (by decide+kernel) (by decide+kernel)
       have g16:(x.tmps.getD 112 undef)= .pointer (some ⟨g,k,none⟩):=hG.claims 16 _ rfl (by decide+kernel) (by decide+kernel)
       have hp:=hG.pre (by decide+kernel)
       have hg:=hG.good
       clear hG
       have hg2:=hg
       clear hg
       obtain⟨ra,rn,rc,hr⟩:=FO.shape g14
       have hrb:=hr
       rw[Array.getD_eq_getD_getElem?] at hrb
       rw[hr] at g14
       have GF:=Lib.hid g14
       clear g14
       have s5:=ST4.out.below hp
       have S5:=Lib.hid s5
       have e0:=S5.out.get k hlt
       have f0:=S5.out.own.frozenAt k
       clear hp s5
       go_wp2
       exact⟨undef,rfl,⟨_,S5.out.put hlt (GF.out.congr fun t n _ _=>by rw[HP.out];simp only[ndVal];rw [if_neg (by decide),if_neg (by decide),if_neg (by decide),if_neg (by decide),if_neg (by decide),Int.toNat_natCast,Int.toNat_natCast,ndPts_prev _ _ _ hja,ndPts_prev _ _ _ hjb])⟩,hg2.setCell (Nat.le_refl _) _,⟨fun h=>absurd rfl h,fun _=>⟨_,rfl⟩⟩⟩
     ·intro vals w6 hg hF
      obtain⟨g0,g1,g2,g3,g4,g5,g6,g7,g8,g9,g10,g11,g12,g13,g14,g15,g16,g17, -⟩:=hF
      have e0:vals 0= .slice (some ⟨g,0,none⟩) l.length l.length:=g0 rfl
      have e1:vals 1= .int .i64 (k:Nat):=g1 rfl
      have e2:vals 2= .slice (some ⟨g,0,none⟩) l.length l.length:=g2 rfl
      have e3:vals 3= .pointer (some ⟨w3.heap.size,1,none⟩):=g3 rfl
      have e4:vals 4= .int .i64 (ja:Nat):=g4 rfl
      have e5:vals 5= .pointer (some ⟨g,ja,none⟩):=g5 rfl
      have e6:vals 6=XA:=g6 rfl
      have e7:vals 7= .slice (some ⟨g,0,none⟩) l.length l.length:=g7 rfl
      have e8:vals 8= .pointer (some ⟨w3.heap.size,2,none⟩):=g8 rfl
      have e9:vals 9= .int .i64 (jb:Nat):=g9 rfl
      have e10:vals 10= .pointer (some ⟨g,jb,none⟩):=g10 rfl
      have e11:vals 11=XB:=g11 rfl
      have e15:vals 15= .int .i64 0:=g15 rfl
      have e16:vals 16= .pointer (some ⟨g,k,none⟩):=g16 rfl
      replace g17: ∃ys,AllSt l g (k+1) ys w6:=g17 rfl
      simp only[Cl.puts,e0,e1,e2,e3,e4,e5,e6,e7,e8,e9,e10,e11,e15,e16]
      clear e0 e1 e2 e3 e4 e5 e6 e7 e8 e9 e10 e11 e15 e16 g0 g1 g2 g3 g4 g5 g6 g7 g8 g9 g10 g11 g12 g13 g14 g15 g16
      go_simp
      obtain⟨ys,hys⟩:=g17
      have HYS:=Lib.hid hys
      clear hys
      go_wp2
      go_roundw
      case rel=>exact ⟨k+1,ys,by omega,by go_num,HYS.out,hbel4.out.trans (hg.mono hg1),hbg4.out.trans hg⟩
      case measure=>first | (simp[intOf];done) | (simp[intOf];omega)
  ·obtain rfl:k=l.length:=by omega
   have hlen:l.length - 1 < xs.length:=by rw[ST.out.len];omega
   obtain⟨XA,hXA⟩: ∃X,X=xs[l.length - 1]:=⟨_,rfl⟩
   have e0:w3.cell? ⟨g,l.length - 1,none⟩=some XA:=by rw[hXA];exact ST.out.get _ (by omega)
   have hfo:FO w3 (g+1) XA (ndPts l (l.length - 1)):=by rw[hXA];exact ST.out.ok _ hlen (by omega)
   have E0:=Lib.hid e0
   have hn1:(l.length:Int) - 1=((l.length - 1:Nat):Int):=by omega
   have FOX:=Lib.hid hfo
   clear hXA e0 hfo ST
   have hidx:0≤(l.length:Int) - 1:=by omega
   obtain⟨ra,rn,rc,hr⟩:=FOX.out.shape
   subst hr
   obtain⟨bl,q1,q2,q3⟩:=FOX.out
   obtain⟨y1,y2⟩:=fChk_zero.1 q2
   have BA:=Lib.hid (q1.at_ (by omega) y2)
   have e0:=E0.out
   have Q2:=Lib.hid q2
   have Q3:=Lib.hid q3
   clear q1 q2 q3 y1 y2 FOX
   go_wp2_with (simp only[hn1])
   (with_reducible refine(copied_c _ _ _ BA.out Q2.out).mono ?_)
   rintro e w4 ⟨v4,rfl,ho4,hb4⟩
   have HO4:=Lib.hid ho4
   clear ho4
   go_wp2
   go_ret2
   refine⟨v4,by rw[H0.out];rfl,fun _=>⟨bl,HO4.out.mono (by have:=hbel3.size;omega),Q2.out,fun t n ht hn=>(Q3.out t n ht hn).trans ?_⟩,fun h=>absurd H0.out h,hbel3.trans (hb4.mono hbel3.size)⟩
   simp only[ndPts,formVal];rw [show l.length - 1+1=l.length by omega]
end Go.Proofs.YtdljflabokhedaaDoor
