/- What shelf.Put does. Written by a small program (gen/shelf13.py). -/
import Derived.Test.YtihpddhngbgcdaaGreatMShelf11
import Derived.Test.YtihpddhngbgcdaaGreatMShelf5
import Derived.Test.YtihpddhngbgcdaaGreatMShelf4
import Derived.Test.YtihpddhngbgcdaaGreatMShelfP
import Derived.Test.YtihpddhngbgcdaaGreatMClaims
import Derived.Deep.QuietTactic
import Derived.BigQuiet
namespace Go.Proofs.YtihpddhngbgcdaaGreat
open Go.RowKit
def LitAt (w:World) (v:Value) (cs:Array Value):Prop:= ∃g,v= .slice (some ⟨g,0,none⟩) 1 1∧w.heap[g]? =some (Obj.cells cs 75 (0,0))
theorem LitAt.below {w w':World} {v:Value} {cs:Array Value} (h:LitAt w v cs) (hb:Below w.heap.size w w'):LitAt w' v cs:=by
 obtain⟨g,h1,h2⟩:=h;exact ⟨g,h1,below_keep hb h2⟩
set_option maxRecDepth 100000 in
theorem vclone_c (v:Value) (l:List Ver) (W w:World) (hv:RowAt verE W v l) (hbl:Below W.heap.size W w) (hl:l.length≤1000):
  Calls Tryz.prog 139 #[v] w fun e w'=> ∃v',e= .returned v'∧RowOwn verE W w' W.heap.size 75 v' l∧Below w.heap.size w w':=by
 obtain⟨css,h1,h2⟩:=hv
 refine(VcClone_c v l.length css.flatten w (h2.below hbl) h1.flat h1.one (by omega)).mono ?_
 rintro e w' ⟨v',rfl,h3,hb⟩
 exact⟨v',rfl,⟨css,h1,owns_mono h3 hbl.size⟩,hb⟩
set_option maxRecDepth 100000 in
theorem vput_c (W w:World) (s:Value) (l:List Ver) (v1:Ver) (u x:Value) (i:Nat) (vb:Nat) (hbl:Below W.heap.size W w) (hown:RowOwn verE W w W.heap.size 75 s l) (hi:i≤l.length) (hn:l.length≤1000) (hk:KnAt W u x v1.past)
  (hvb:w.heap[vb]? =some (Obj.cells (verC v1 u x) 75 (0,0))):
  Calls Tryz.prog 138 #[s, .int .i64 i, .slice (some ⟨vb,0,none⟩) 1 1] w fun e w'=> ∃s',e= .returned s'∧RowOwn verE W w' W.heap.size 75 s' (l.take i++v1::l.drop i)∧Below W.heap.size W w':=by
 obtain⟨css,h1,h2⟩:=hown
 have hE:verE.El W v1 (verC v1 u x).toList:=⟨u,x,rfl,hk⟩
 refine(vins_c W.heap.size W w s l.length i css.flatten vb (verC v1 u x).toList 75 hbl hbl.size h2 hi hn h1.one (by simpa using hvb) rfl (verE.one hE)).mono ?_
 rintro e w' ⟨s',rfl,h3,hb⟩
 refine⟨s',rfl,⟨css.take i++((verC v1 u x).toList::css.drop i),(h1.take i).append (Els.append (Els.single hE) (h1.drop i)), ?_⟩,hb⟩
 have e1:(l.take i++v1::l.drop i).length=l.length+1:=by rw[List.length_append,List.length_cons,List.length_take,List.length_drop];omega
 have hlens:=h1.lens
 rw[e1,List.flatten_append,List.flatten_cons,css_take (n:=8) hlens,css_drop (n:=8) hlens,←List.append_assoc]
 exact h3
structure PutSt (W:World) (w0:World) (lv:Value) (l:List Ver) (v1:Ver) (u x:Value) (w:World):Prop where
 blk:w.heap[w0.heap.size]? =some (Obj.cells (verC v1 u x) 75 (0,0))
 row:RowAt verE w lv l
 kn:KnAt w u x v1.past
 bel:Below w0.heap.size w0 w
theorem PutSt.below {W w0:World} {lv:Value} {l:List Ver} {v1:Ver} {u x:Value} {w w':World} (h:PutSt W w0 lv l v1 u x w) (hb:Below w.heap.size w w'):PutSt W w0 lv l v1 u x w':=
 ⟨below_keep hb h.blk,h.row.below hb,h.kn.below hb,bstep h.bel hb⟩
def putR (l:List Ver) (v:Ver):List Ver:=if putE l v=0 then putL l v else []
theorem putR_ok {l:List Ver} {v:Ver} (h:putE l v=0):putR l v=putL l v:=by unfold putR;rw [if_pos h]
theorem putR_bad {l:List Ver} {v:Ver} (h:putE l v≠0):putR l v=[]:=by unfold putR;rw [if_neg h]
set_option maxRecDepth 100000 in
set_option maxHeartbeats 4000000 in
theorem put_c (lv:Value) (l:List Ver) (v1:Ver) (u x:Value) (w:World) (hl:RowAt verE w lv l) (hk:KnAt w u x v1.past):
  Calls Tryz.prog 84 #[lv, .agg (verC v1 u x)] w fun e w'=> ∃ov,e= .returned (.tuple #[ov, .int .i64 (putE l v1)])∧VOwn w' w.heap.size ov (putR l v1)∧Below w.heap.size w w':=by
 obtain⟨a,cap,rfl⟩:=hl.shape
 obtain⟨ua,uc,rfl⟩:=hk.vec.shape
 obtain⟨xa,xc,rfl⟩:=hk.more.shape
 obtain⟨W,hW⟩: ∃W,W=w.alloc (.cells (verC v1 (.slice ua v1.past.vec.length uc) (.slice xa v1.past.more.length xc)) 75):=⟨_,rfl⟩
 have hbx:Below w.heap.size w W:=by rw[hW];exact bal _
 have M:=Lib.hid (show PutSt W w (.slice a l.length cap) l v1 (.slice ua v1.past.vec.length uc) (.slice xa v1.past.more.length xc) W from⟨by rw[hW];exact alloc_new _ _ _ _ rfl,hl.below hbx,hk.below hbx,hbx⟩)
 have HC:=Lib.hid (shelfChk_c _ l W M.out.row)
 have HE1:=Lib.hid (show shelfChk l≠0→putE l v1=shelfChk l from fun h=>by unfold putE;rw [if_pos h])
 have HE2:=Lib.hid (show shelfChk l=0→verChk v1≠0→putE l v1=verChk v1 from fun h h2=>by unfold putE;rw [if_neg (by omega),if_pos h2])
 have HE3:=Lib.hid (show shelfChk l=0→verChk v1=0→putE l v1=if 60 < (putL l v1).length then 2 else 0 from fun h h2=>by unfold putE;rw [if_neg (by omega),if_neg (by omega)])
 have HCZ:=Lib.hid (shelfChk_zero (l:=l))
 have HVZ:=Lib.hid (verChk_zero (v:=v1))
 clear hl hk hbx
 unfold verC at hW ⊢
 go_enter Tryz.func84,Tryz.ntmps84
 go_wp2_with fail
 rw[←hW]
 clear hW
 (with_reducible refine(HC.out).mono ?_)
 rintro e w1 ⟨rfl,hb1⟩
 replace M:=Lib.hid (M.out.below hb1)
 clear hb1 HC
 by_cases h0:shelfChk l=0
 rotate_left
 ·have H:=Lib.hid (HE1.out h0)
  have H0:=Lib.hid h0
  have hne:decide (shelfChk l=0)=false:=by simpa using h0
  generalize shelfChk l=sc at*
  go_wp2
  go_ret2
  exact⟨_,ret_ve H.out.symm,by rw[putR_bad (by rw[H.out];exact H0.out)];exact own_nilV _ _,M.out.bel⟩
 have HS:=Lib.hid (HCZ.out.1 h0)
 have HE2':=Lib.hid (HE2.out h0)
 have HE3':=Lib.hid (HE3.out h0)
 rw[h0]
 clear h0 HE1 HE2 HE3 HCZ
 have HO:=Lib.hid (one_c v1 _ _ _ M.out.kn)
 unfold verC at HO
 obtain⟨c0,c1,c2,c3,c4,c5,c6,c7⟩:=verAt8 M.out.blk
 go_wp2_with fail
 (with_reducible refine(HO.out).mono ?_)
 rintro e w2 ⟨rfl,hb1⟩
 replace M:=Lib.hid (M.out.below hb1)
 clear hb1 HO c0 c1 c2 c3 c4 c5 c6 c7
 by_cases h0:verChk v1=0
 rotate_left
 ·have H:=Lib.hid (HE2'.out h0)
  have H0:=Lib.hid h0
  have hne:decide (verChk v1=0)=false:=by simpa using h0
  generalize verChk v1=sc at*
  go_wp2
  go_ret2
  exact⟨_,ret_ve H.out.symm,by rw[putR_bad (by rw[H.out];exact H0.out)];exact own_nilV _ _,M.out.bel⟩
 have HV:=Lib.hid (HVZ.out.1 h0)
 have HE:=Lib.hid (HE3'.out h0)
 rw[h0]
 clear h0 HE2' HE3' HVZ
 have HSR:=Lib.hid (vsearch_c _ l v1 _ _ _ M.out.row M.out.kn HV.out.dot (fun v hv=>(HS.out.ok v hv).dot) (mono_of HS.out.ord v1))
 unfold verC at HSR
 obtain⟨c0,c1,c2,c3,c4,c5,c6,c7⟩:=verAt8 M.out.blk
 go_wp2_with fail
 (with_reducible refine(HSR.out).mono ?_)
 rintro e w3 ⟨i,b,rfl,hf,hb1⟩
 replace M:=Lib.hid (M.out.below hb1)
 have HF:=Lib.hid hf
 have HB:=Lib.hid (found_any hf HS.out.ord)
 have HI:=Lib.hid (found_ins hf)
 have hile:=hf.le
 have hl60:=HS.out.len
 clear hb1 HSR c0 c1 c2 c3 c4 c5 c6 c7 hf
 cases b
 rotate_left
 ·have hpl:putL l v1=l:=by
   unfold putL;rw [if_pos];unfold putB;rw [HB.out];rfl
  have H:=Lib.hid (show putE l v1=0 by rw[HE.out,hpl,if_neg (by omega)])
  have HPL:=Lib.hid hpl
  have HCP:=Lib.hid (vcopied_c _ l _ M.out.row (shok_bd HS.out.ok) (by omega))
  clear hpl
  go_wp2_with fail
  (with_reducible refine(HCP.out).mono ?_)
  rintro e w4 ⟨ov,rfl,ho,hb1⟩
  have HOV:=Lib.hid (ho.mono M.out.bel.size)
  replace M:=Lib.hid (M.out.below hb1)
  clear hb1 ho HCP
  go_wp2
  go_ret2
  exact⟨_,ret_ve H.out.symm,by rw[putR_ok H.out,HPL.out];exact HOV.out,M.out.bel⟩
 have HCF:=Lib.hid (containsV_c VerOk _ l 137 #[.pointer (some ⟨w.heap.size,0,none⟩)] (fun x=>verOver x v1) _ M.out.row HS.out.ok (put1_p w.heap.size v1 _ _ _ M.out.blk M.out.kn HV.out.dot))
 go_wp2_with fail
 (with_reducible refine(HCF.out).mono ?_)
 rintro e w4 ⟨rfl,hb1⟩
 replace M:=Lib.hid (M.out.below hb1)
 clear hb1 HCF
 cases hany:l.any fun x=>verOver x v1
 rotate_left
 ·have hpl:putL l v1=l:=by
   unfold putL;rw [if_pos];unfold putB;rw [hany,Bool.or_true]
  have H:=Lib.hid (show putE l v1=0 by rw[HE.out,hpl,if_neg (by omega)])
  have HPL:=Lib.hid hpl
  have HCP:=Lib.hid (vcopied_c _ l _ M.out.row (shok_bd HS.out.ok) (by omega))
  clear hpl hany
  go_wp2_with fail
  (with_reducible refine(HCP.out).mono ?_)
  rintro e w5 ⟨ov,rfl,ho,hb1⟩
  have HOV:=Lib.hid (ho.mono M.out.bel.size)
  replace M:=Lib.hid (M.out.below hb1)
  clear hb1 ho HCP
  go_wp2
  go_ret2
  exact⟨_,ret_ve H.out.symm,by rw[putR_ok H.out,HPL.out];exact HOV.out,M.out.bel⟩
 have HPL:=Lib.hid (show putL l v1=(l.take i++v1::l.drop i).filter fun w=> !verOver v1 w by
  unfold putL;rw [if_neg,HI.out];unfold putB;rw [hany,HB.out];decide)
 obtain⟨LI,hLI⟩: ∃LI,LI=l.take i++v1::l.drop i:=⟨_,rfl⟩
 rw[←hLI] at HPL
 have HLI:=Lib.hid hLI
 clear hany HB HI hLI
 obtain⟨c0,c1,c2,c3,c4,c5,c6,c7⟩:=verAt8 M.out.blk
 have C0:=Lib.hid c0
 have C1:=Lib.hid c1
 have C2:=Lib.hid c2
 have C3:=Lib.hid c3
 have C4:=Lib.hid c4
 have C5:=Lib.hid c5
 have C6:=Lib.hid c6
 have C7:=Lib.hid c7
 clear c0 c1 c2 c3 c4 c5 c6 c7
 go_wp2_with fail
 refine Cl.region0 49 rfl [5] (fun w=>Below w4.heap.size w4 w) (fun jq=>match jq with | 1=>[5] | 4=>[5] | _=>[]) (fun jq v ww=>match jq with | 0=>v= .slice a l.length cap | 1=>RowOwn verE w4 ww w4.heap.size 75 v l | 2=>v= .int .i64 (i:Nat) | 3=>v= .agg #[.string v1.id, .int .i64 v1.ds, .int .i64 v1.dc, .int .i64 v1.tg, .int .i64 v1.nm, .int .i64 v1.bd, .slice ua v1.past.vec.length uc, .slice xa v1.past.more.length xc] | 4=>LitAt ww v (verC v1 (.slice ua v1.past.vec.length uc) (.slice xa v1.past.more.length xc)) | 5=>RowOwn verE w4 ww w4.heap.size 75 v LI | 6=>RowOwn verE w4 ww w4.heap.size 75 v LI | _=>True) (fun ww=>Below w4.heap.size w4 ww) (fun jq ww ww'=>jq≠5→Below ww.heap.size ww ww') Tryz.mixed (by decide+kernel) (Below.refl _ _).drew ((Below.refl _ _).drew) ?_ (fun q w w' hk h hR=>bstep h (hR (by simpa using hk))) ?_ ?_
 ·intro q r v w w' hne hk hlt h hR
  match r,hk,hlt,h,hne with
  | 0,_,_,h,_=>exact h
  | 1,hk,_,h,_=>exact RowOwn.below h (hR (by simpa using hk))
  | 2,_,_,h,_=>exact h
  | 3,_,_,h,_=>exact h
  | 4,hk,_,h,_=>exact LitAt.below h (hR (by simpa using hk))
  | 5,_,_,h,hne=>exact RowOwn.below h (hR (by exact hne))
  | 6,_,hlt,h,_=>exact RowOwn.below h (hR (by intro e;subst e;exact absurd hlt (by decide+kernel)))
  | _+7,_,_,_,_=>trivial
 ·refine⟨?_, ?_, ?_, ?_, ?_, ?_, ?_,trivial⟩
  ·intro x wx hG
   have f0:=hG.old 0 (by decide+kernel)
   have hg:=hG.good
   clear hG
   go_wp2
   exact⟨_,rfl,rfl,hg,fun _=>Below.refl _ _⟩
  ·intro x wx hG
   have g0:(x.tmps.getD 35 undef)= .slice a l.length cap:=hG.claims 0 _ rfl (by decide+kernel) (by decide+kernel)
   have hg:=hG.good
   clear hG
   go_wp2_with fail
   (with_reducible refine(vclone_c _ l w4 _ M.out.row hg (by omega)).mono ?_)
   rintro e wq ⟨v9,rfl,h9,hb⟩
   have H9:=Lib.hid h9
   clear h9
   go_wp2
   exact⟨_,rfl,H9.out,bstep hg hb,fun _=>hb⟩
  ·intro x wx hG
   have f8:=hG.old 8 (by decide+kernel)
   have hg:=hG.good
   clear hG
   go_wp2
   exact⟨_,rfl,rfl,hg,fun _=>Below.refl _ _⟩
  ·intro x wx hG
   have f3:=hG.old 3 (by decide+kernel)
   have hg:=hG.good
   clear hG
   have c_C0:=ckeep hg C0.out
   have c_C1:=ckeep hg C1.out
   have c_C2:=ckeep hg C2.out
   have c_C3:=ckeep hg C3.out
   have c_C4:=ckeep hg C4.out
   have c_C5:=ckeep hg C5.out
   have c_C6:=ckeep hg C6.out
   have c_C7:=ckeep hg C7.out
   go_wp2
   exact⟨_,rfl,rfl,hg,fun _=>Below.refl _ _⟩
  ·intro x wx hG
   have g3:(x.tmps.getD 38 undef)= .agg #[.string v1.id, .int .i64 v1.ds, .int .i64 v1.dc, .int .i64 v1.tg, .int .i64 v1.nm, .int .i64 v1.bd, .slice ua v1.past.vec.length uc, .slice xa v1.past.more.length xc]:=hG.claims 3 _ rfl (by decide+kernel) (by decide+kernel)
   have g3b:=g3
   rw[Array.getD_eq_getD_getElem?] at g3b
   have hg:=hG.good
   clear hG
   go_wp2
   exact⟨_,rfl,⟨_,rfl,alloc_new _ _ _ _ rfl⟩,hg.alloc hg.size _,fun _=>bal _⟩
  ·intro x wx hG
   have g1:RowOwn verE w4 wx w4.heap.size 75 (x.tmps.getD 36 undef) l:=hG.claims 1 _ rfl (by decide+kernel) (by decide+kernel)
   have g2:(x.tmps.getD 37 undef)= .int .i64 (i:Nat):=hG.claims 2 _ rfl (by decide+kernel) (by decide+kernel)
   have g4:LitAt wx (x.tmps.getD 39 undef) (verC v1 (.slice ua v1.past.vec.length uc) (.slice xa v1.past.more.length xc)):=hG.claims 4 _ rfl (by decide+kernel) (by decide+kernel)
   have hp:=hG.pre (by decide+kernel)
   have hg:=hG.good
   clear hG
   obtain⟨sa,sc,hs1⟩:=g1.shape
   obtain⟨gb,hs2,hlit⟩:=g4
   rw[hs1] at g1
   have hs1b:=hs1
   have hs2b:=hs2
   rw[Array.getD_eq_getD_getElem?] at hs1b hs2b
   have G1:=Lib.hid g1
   have HLIT:=Lib.hid hlit
   clear g1 hlit
   go_wp2_with fail
   (with_reducible refine(vput_c w4 _ _ l v1 _ _ i gb hg G1.out hile (by omega) M.out.kn HLIT.out).mono ?_)
   rintro e wq ⟨v9,rfl,h9,hb⟩
   rw[←HLI.out] at h9
   have H9:=Lib.hid h9
   clear h9
   go_wp2
   exact⟨_,rfl,H9.out,hb,fun h=>absurd rfl h⟩
  ·intro x wx hG
   have g5:RowOwn verE w4 wx w4.heap.size 75 (x.tmps.getD 40 undef) LI:=hG.claims 5 _ rfl (by decide+kernel) (by decide+kernel)
   have hg:=hG.good
   clear hG
   obtain⟨sa,sc,hs1⟩:=g5.shape
   rw[hs1] at g5
   have hs1b:=hs1
   rw[Array.getD_eq_getD_getElem?] at hs1b
   have G5:=Lib.hid g5
   clear g5
   go_wp2
   exact⟨_,rfl,G5.out,hg,fun _=>Below.refl _ _⟩
 ·intro vals w5 hg hF
  obtain⟨g0,g1,g2,g3,g4,g5,g6, -⟩:=hF
  have e0:vals 0= .slice a l.length cap:=g0 rfl
  have e2:vals 2= .int .i64 (i:Nat):=g2 rfl
  have e3:vals 3= .agg #[.string v1.id, .int .i64 v1.ds, .int .i64 v1.dc, .int .i64 v1.tg, .int .i64 v1.nm, .int .i64 v1.bd, .slice ua v1.past.vec.length uc, .slice xa v1.past.more.length xc]:=g3 rfl
  replace g6:RowOwn verE w4 w5 w4.heap.size 75 (vals 6) LI:=g6 rfl
  simp only[Cl.puts,e0,e2,e3]
  clear e0 e2 e3 g0 g1 g2 g3 g4 g5
  go_simp
  generalize vals 6=s5 at*
  have hin: ∀v∈LI,VerOk v:=fun v hv=>by
   rw[HLI.out] at hv
   rcases List.mem_append.1 hv with hv | hv
   ·exact HS.out.ok v (List.mem_of_mem_take hv)
   ·rcases List.mem_cons.1 hv with rfl | hv
    ·exact HV.out
    ·exact HS.out.ok v (List.mem_of_mem_drop hv)
  have hll:LI.length≤1000:=by rw[HLI.out,List.length_append,List.length_cons,List.length_take,List.length_drop];omega
  have HDL:=Lib.hid (vdel_c VerOk w4 w5 s5 LI 140 #[.pointer (some ⟨w.heap.size,0,none⟩)] (fun w=>verOver v1 w) hg g6 hll hin (put2_p w.heap.size v1 _ _ _ M.out.blk M.out.kn HV.out.past))
  have HOK:=Lib.hid (show ∀v∈putL l v1,VerOk v from fun v hv=>hin v (by rw[HPL.out] at hv;exact (List.mem_filter.1 hv).1))
  rw[←HPL.out] at HDL
  clear hin hll g6 hg HF HS HPL C0 C1 C2 C3 C4 C5 C6 C7 HV
  go_wp2_with fail
  (with_reducible refine(HDL.out).mono ?_)
  rintro e w6 ⟨s6,rfl,h6,hb6⟩
  obtain⟨sa,sc,rfl⟩:=h6.shape
  have H6:=Lib.hid h6
  have HB6:=Lib.hid hb6
  clear h6 hb6 HDL
  by_cases h60:60 < (putL l v1).length
  ·have H:=Lib.hid (show putE l v1=2 by rw[HE.out,if_pos h60])
   have h60b:decide ((60:Int) < ((putL l v1).length:Int))=true:=by simp;omega
   clear HE
   generalize putL l v1=pl at*
   go_wp2
   go_ret2
   exact⟨_,ret_ve H.out.symm,by rw[putR_bad (by rw[H.out];decide)];exact own_nilV _ _,M.out.bel.trans (HB6.out.mono M.out.bel.size)⟩
  have H:=Lib.hid (show putE l v1=0 by rw[HE.out,if_neg h60])
  have HR:=Lib.hid (putR_ok H.out)
  have hl2:(putL l v1).length≤60:=by omega
  have HCP:=Lib.hid (vcopied_c _ (putL l v1) w6 (H6.out.at_ (Sub.of_below HB6.out) (by omega)) (shok_bd HOK.out) (by omega))
  have h60b:decide ((60:Int) < ((putL l v1).length:Int))=false:=by simp;omega
  clear HE HOK
  generalize putL l v1=pl at*
  go_wp2_with fail
  (with_reducible refine(HCP.out).mono ?_)
  rintro e w7 ⟨ov,rfl,ho,hb1⟩
  have hbe:=M.out.bel.trans (HB6.out.mono M.out.bel.size)
  have HOV:=Lib.hid (ho.mono hbe.size)
  have HBE:=Lib.hid (bstep hbe hb1)
  clear hb1 ho HCP hbe
  go_wp2
  go_ret2
  exact⟨_,ret_ve H.out.symm,by rw[HR.out];exact HOV.out,HBE.out⟩
end Go.Proofs.YtihpddhngbgcdaaGreat
