/- What shelf.Put does. Written by a small program (gen/shelf13.py). What shelf.Get and shelf.Drop do. What shelf.Past does. Written by a small program (gen/gath.py). -/
import Derived.Test.YtgkgdedhicnohaaGreatMShelf11
import Derived.Test.YtgkgdedhicnohaaGreatMShelfP
import Derived.Deep.QuietTactic
import Derived.BigQuiet
import Derived.Test.YtgkgdedhicnohaaGreatMGath
namespace Go.Proofs.YtgkgdedhicnohaaGreat
set_option maxRecDepth 100000
set_option maxHeartbeats 40000000
open Go.RowKit
def LitAt (w:World) (v:Value) (cs:Array Value):Prop:= ∃g,v= .slice (some ⟨g,0,none⟩) 1 1∧w.heap[g]? =some (Obj.cells cs 75 (0,0))
theorem LitAt.below {w w':World} {v:Value} {cs:Array Value} (h:LitAt w v cs) (hb:Below w.heap.size w w'):LitAt w' v cs:=by
 obtain⟨g,h1,h2⟩:=h;exact ⟨g,h1,below_keep hb h2⟩
theorem vclone_c (v:Value) (l:List Ver) (W w:World) (hv:RowAt verE W v l) (hbl:Below W.heap.size W w) (hl:l.length≤1000):
  Calls Tryz.prog 117 #[v] w fun e w'=> ∃v',e= .returned v'∧RowOwn verE W w' W.heap.size 75 v' l∧Below w.heap.size w w':=by
 obtain⟨css,h1,h2⟩:=hv
 refine(VcClone_c v l.length css.flatten w (h2.below hbl) h1.flat h1.one (by omega)).mono ?_
 rintro e w' ⟨v',rfl,h3,hb⟩
 exact⟨v',rfl,⟨css,h1,owns_mono h3 hbl.size⟩,hb⟩
theorem vput_c (W w:World) (s:Value) (l:List Ver) (v1:Ver) (u x:Value) (i:Nat) (vb:Nat) (hbl:Below W.heap.size W w) (hown:RowOwn verE W w W.heap.size 75 s l) (hi:i≤l.length) (hn:l.length≤1000) (hk:KnAt W u x v1.past)
  (hvb:w.heap[vb]? =some (Obj.cells (verC v1 u x) 75 (0,0))):
  Calls Tryz.prog 116 #[s, .int .i64 i, .slice (some ⟨vb,0,none⟩) 1 1] w fun e w'=> ∃s',e= .returned s'∧RowOwn verE W w' W.heap.size 75 s' (l.take i++v1::l.drop i)∧Below W.heap.size W w':=by
 obtain⟨css,h1,h2⟩:=hown
 have hE:verE.El W v1 (verC v1 u x).toList:=⟨u,x,rfl,hk⟩
 refine(vins_c W.heap.size W w s l.length i css.flatten vb (verC v1 u x).toList 75 hbl hbl.size h2 hi hn h1.one (by simpa using hvb) rfl (verE.one hE)).mono ?_
 rintro e w' ⟨s',rfl,h3,hb⟩
 refine⟨s',rfl,⟨css.take i++((verC v1 u x).toList::css.drop i),(h1.take i).append (Els.append (Els.single hE) (h1.drop i)), ?_⟩,hb⟩
 have e1:(l.take i++v1::l.drop i).length=l.length+1:=by rw[List.length_append,List.length_cons,List.length_take,List.length_drop];omega
 have hlens:=h1.lens
 rw[e1,List.flatten_append,List.flatten_cons,css_take (n:=8) hlens,css_drop (n:=8) hlens,←List.append_assoc]
 exact h3
structure PutSt (W:World) (w0:World) (lv:Value) (l:List Ver) (v1:Ver) (u x:Value) (w:World):Prop where
 blk:w.heap[w0.heap.size]? =some (Obj.cells (verC v1 u x) 75 (0,0))
 row:RowAt verE w lv l
 kn:KnAt w u x v1.past
 bel:Below w0.heap.size w0 w
theorem PutSt.below {W w0:World} {lv:Value} {l:List Ver} {v1:Ver} {u x:Value} {w w':World} (h:PutSt W w0 lv l v1 u x w) (hb:Below w.heap.size w w'):PutSt W w0 lv l v1 u x w':=
 ⟨below_keep hb h.blk,h.row.below hb,h.kn.below hb,bstep h.bel hb⟩
def putR (l:List Ver) (v:Ver):List Ver:=if putE l v=0 then putL l v else []
theorem putR_ok {l:List Ver} {v:Ver} (h:putE l v=0):putR l v=putL l v:=by unfold putR;rw [if_pos h]
theorem putR_bad {l:List Ver} {v:Ver} (h:putE l v≠0):putR l v=[]:=by unfold putR;rw [if_neg h]
theorem put_c (lv:Value) (l:List Ver) (v1:Ver) (u x:Value) (w:World) (hl:RowAt verE w lv l) (hk:KnAt w u x v1.past):
  Calls Tryz.prog 65 #[lv, .agg (verC v1 u x)] w fun e w'=> ∃ov,e= .returned (.tuple #[ov, .int .i64 (putE l v1)])∧VOwn w' w.heap.size ov (putR l v1)∧Below w.heap.size w w':=by
 obtain⟨a,cap,rfl⟩:=hl.shape
 obtain⟨ua,uc,rfl⟩:=hk.vec.shape
 obtain⟨xa,xc,rfl⟩:=hk.more.shape
 obtain⟨W,hW⟩: ∃W,W=w.alloc (.cells (verC v1 (.slice ua v1.past.vec.length uc) (.slice xa v1.past.more.length xc)) 75):=⟨_,rfl⟩
 have hbx:Below w.heap.size w W:=by rw[hW];exact bal _
 have M:=jD (show PutSt W w (.slice a l.length cap) l v1 (.slice ua v1.past.vec.length uc) (.slice xa v1.past.more.length xc) W from⟨by rw[hW];exact alloc_new _ _ _ _ rfl,hl.below hbx,hk.below hbx,hbx⟩)
 have HC:=jD (shelfChk_c _ l W M.out.row)
 have HE1:=jD (show shelfChk l≠0→putE l v1=shelfChk l from fun h=>by unfold putE;rw [if_pos h])
 have HE2:=jD (show shelfChk l=0→verChk v1≠0→putE l v1=verChk v1 from fun h h2=>by unfold putE;rw [if_neg (by omega),if_pos h2])
 have HE3:=jD (show shelfChk l=0→verChk v1=0→putE l v1=if 60 < (putL l v1).length then 2 else 0 from fun h h2=>by unfold putE;rw [if_neg (by omega),if_neg (by omega)])
 have HCZ:=jD (shelfChk_zero (l:=l))
 have HVZ:=jD (verChk_zero (v:=v1))
 clear hl hk hbx
 unfold verC at hW ⊢
 go_enter Tryz.func65,Tryz.ntmps65
 go_wp2_with fail
 rw[←hW]
 clear hW
 (with_reducible refine(HC.out).mono ?_)
 rintro e w1 ⟨rfl,hb1⟩
 replace M:=jD (M.out.below hb1)
 clear hb1 HC
 by_cases h0:shelfChk l=0
 rotate_left
 ·have H:=jD (HE1.out h0)
  have H0:=jD h0
  have hne:decide (shelfChk l=0)=false:=by simpa using h0
  generalize shelfChk l=sc at*
  go_wp2
  go_ret2
  exact⟨_,ret_ve H.out.symm,by rw[putR_bad (by rw[H.out];exact H0.out)];exact own_nilV _ _,M.out.bel⟩
 have HS:=jD (HCZ.out.1 h0)
 have HE2':=jD (HE2.out h0)
 have HE3':=jD (HE3.out h0)
 rw[h0]
 clear h0 HE1 HE2 HE3 HCZ
 have HO:=jD (one_c v1 _ _ _ M.out.kn)
 unfold verC at HO
 obtain⟨c0,c1,c2,c3,c4,c5,c6,c7⟩:=verAt8 M.out.blk
 go_wp2_with fail
 (with_reducible refine(HO.out).mono ?_)
 rintro e w2 ⟨rfl,hb1⟩
 replace M:=jD (M.out.below hb1)
 clear hb1 HO c0 c1 c2 c3 c4 c5 c6 c7
 by_cases h0:verChk v1=0
 rotate_left
 ·have H:=jD (HE2'.out h0)
  have H0:=jD h0
  have hne:decide (verChk v1=0)=false:=by simpa using h0
  generalize verChk v1=sc at*
  go_wp2
  go_ret2
  exact⟨_,ret_ve H.out.symm,by rw[putR_bad (by rw[H.out];exact H0.out)];exact own_nilV _ _,M.out.bel⟩
 have HV:=jD (HVZ.out.1 h0)
 have HE:=jD (HE3'.out h0)
 rw[h0]
 clear h0 HE2' HE3' HVZ
 have HSR:=jD (vsearch_c _ l v1 _ _ _ M.out.row M.out.kn HV.out.dot (fun v hv=>(HS.out.ok v hv).dot) (mono_of HS.out.ord v1))
 unfold verC at HSR
 obtain⟨c0,c1,c2,c3,c4,c5,c6,c7⟩:=verAt8 M.out.blk
 go_wp2_with fail
 (with_reducible refine(HSR.out).mono ?_)
 rintro e w3 ⟨i,b,rfl,hf,hb1⟩
 replace M:=jD (M.out.below hb1)
 have HF:=jD hf
 have HB:=jD (found_any hf HS.out.ord)
 have HI:=jD (found_ins hf)
 have hile:=hf.le
 have hl60:=HS.out.len
 clear hb1 HSR c0 c1 c2 c3 c4 c5 c6 c7 hf
 cases b
 rotate_left
 ·have hpl:putL l v1=l:=by
   unfold putL;rw [if_pos];unfold putB;rw [HB.out];rfl
  have H:=jD (show putE l v1=0 by rw[HE.out,hpl,if_neg (by omega)])
  have HPL:=jD hpl
  have HCP:=jD (vcopied_c _ l _ M.out.row (shok_bd HS.out.ok) (by omega))
  clear hpl
  go_wp2_with fail
  (with_reducible refine(HCP.out).mono ?_)
  rintro e w4 ⟨ov,rfl,ho,hb1⟩
  have HOV:=jD (ho.mono M.out.bel.size)
  replace M:=jD (M.out.below hb1)
  clear hb1 ho HCP
  go_wp2
  go_ret2
  exact⟨_,ret_ve H.out.symm,by rw[putR_ok H.out,HPL.out];exact HOV.out,M.out.bel⟩
 have HCF:=jD (containsV_c VerOk _ l 114 #[.pointer (some ⟨w.heap.size,0,none⟩)] (fun x=>verOver x v1) _ M.out.row HS.out.ok (put1_p w.heap.size v1 _ _ _ M.out.blk M.out.kn HV.out.dot))
 go_wp2_with fail
 (with_reducible refine(HCF.out).mono ?_)
 rintro e w4 ⟨rfl,hb1⟩
 replace M:=jD (M.out.below hb1)
 clear hb1 HCF
 cases hany:l.any fun x=>verOver x v1
 rotate_left
 ·have hpl:putL l v1=l:=by
   unfold putL;rw [if_pos];unfold putB;rw [hany,Bool.or_true]
  have H:=jD (show putE l v1=0 by rw[HE.out,hpl,if_neg (by omega)])
  have HPL:=jD hpl
  have HCP:=jD (vcopied_c _ l _ M.out.row (shok_bd HS.out.ok) (by omega))
  clear hpl hany
  go_wp2_with fail
  (with_reducible refine(HCP.out).mono ?_)
  rintro e w5 ⟨ov,rfl,ho,hb1⟩
  have HOV:=jD (ho.mono M.out.bel.size)
  replace M:=jD (M.out.below hb1)
  clear hb1 ho HCP
  go_wp2
  go_ret2
  exact⟨_,ret_ve H.out.symm,by rw[putR_ok H.out,HPL.out];exact HOV.out,M.out.bel⟩
 have HPL:=jD (show putL l v1=(l.take i++v1::l.drop i).filter fun w=> !verOver v1 w by
  unfold putL;rw [if_neg,HI.out];unfold putB;rw [hany,HB.out];decide)
 obtain⟨LI,hLI⟩: ∃LI,LI=l.take i++v1::l.drop i:=⟨_,rfl⟩
 rw[←hLI] at HPL
 have HLI:=jD hLI
 clear hany HB HI hLI
 obtain⟨c0,c1,c2,c3,c4,c5,c6,c7⟩:=verAt8 M.out.blk
 have C0:=jD c0
 have C1:=jD c1
 have C2:=jD c2
 have C3:=jD c3
 have C4:=jD c4
 have C5:=jD c5
 have C6:=jD c6
 have C7:=jD c7
 clear c0 c1 c2 c3 c4 c5 c6 c7
 go_wp2_with fail
 refine Cl.region0 49 rfl [5] (fun w=>Below w4.heap.size w4 w) (fun jq=>match jq with | 1=>[5] | 4=>[5] | _=>[]) (fun jq v ww=>match jq with | 0=>v= .slice a l.length cap | 1=>RowOwn verE w4 ww w4.heap.size 75 v l | 2=>v= .int .i64 (i:Nat) | 3=>v= .agg #[.string v1.id, .int .i64 v1.ds, .int .i64 v1.dc, .int .i64 v1.tg, .int .i64 v1.nm, .int .i64 v1.bd, .slice ua v1.past.vec.length uc, .slice xa v1.past.more.length xc] | 4=>LitAt ww v (verC v1 (.slice ua v1.past.vec.length uc) (.slice xa v1.past.more.length xc)) | 5=>RowOwn verE w4 ww w4.heap.size 75 v LI | 6=>RowOwn verE w4 ww w4.heap.size 75 v LI | _=>True) (fun ww=>Below w4.heap.size w4 ww) (fun jq ww ww'=>jq≠5→Below ww.heap.size ww ww') Tryz.mixed (by decide+kernel) (Below.refl _ _).drew ((Below.refl _ _).drew) ?_ (fun q w w' hk h hR=>bstep h (hR (by simpa using hk))) ?_ ?_
 ·intro q r v w w' hne hk hlt h hR
  match r,hk,hlt,h,hne with
  | 0,_,_,h,_=>exact h
  | 1,hk,_,h,_=>exact RowOwn.below h (hR (by simpa using hk))
  | 2,_,_,h,_=>exact h
  | 3,_,_,h,_=>exact h
  | 4,hk,_,h,_=>exact LitAt.below h (hR (by simpa using hk))
  | 5,_,_,h,hne=>exact RowOwn.below h (hR (by exact hne))
  | 6,_,hlt,h,_=>exact RowOwn.below h (hR (by intro e;subst e;exact absurd hlt (by decide+kernel)))
  | _+7,_,_,_,_=>trivial
 ·refine⟨?_, ?_, ?_, ?_, ?_, ?_, ?_,trivial⟩
  ·intro x wx hG
   have f0:=hG.o 0
   replace hG:=hG.good
   go_wp2
   exact⟨_,rfl,rfl,hG,fun _=>Below.refl _ _⟩
  ·intro x wx hG
   have g0:(x.tmps.getD 35 undef)= .slice a l.length cap:=hG.c 0 _ rfl
   replace hG:=hG.good
   go_wp2_with fail
   (with_reducible refine(vclone_c _ l w4 _ M.out.row hG (by omega)).mono ?_)
   rintro e wq ⟨v9,rfl,h9,hb⟩
   have H9:=jD h9
   clear h9
   go_wp2
   exact⟨_,rfl,H9.out,bstep hG hb,fun _=>hb⟩
  ·intro x wx hG
   have f8:=hG.o 8
   replace hG:=hG.good
   go_wp2
   exact⟨_,rfl,rfl,hG,fun _=>Below.refl _ _⟩
  ·intro x wx hG
   have f3:=hG.o 3
   replace hG:=hG.good
   have c_C0:=ckeep hG C0.out
   have c_C1:=ckeep hG C1.out
   have c_C2:=ckeep hG C2.out
   have c_C3:=ckeep hG C3.out
   have c_C4:=ckeep hG C4.out
   have c_C5:=ckeep hG C5.out
   have c_C6:=ckeep hG C6.out
   have c_C7:=ckeep hG C7.out
   go_wp2
   exact⟨_,rfl,rfl,hG,fun _=>Below.refl _ _⟩
  ·intro x wx hG
   have g3:(x.tmps.getD 38 undef)= .agg #[.string v1.id, .int .i64 v1.ds, .int .i64 v1.dc, .int .i64 v1.tg, .int .i64 v1.nm, .int .i64 v1.bd, .slice ua v1.past.vec.length uc, .slice xa v1.past.more.length xc]:=hG.c 3 _ rfl
   have g3b:=gd g3
   replace hG:=hG.good
   go_wp2
   exact⟨_,rfl,⟨_,rfl,alloc_new _ _ _ _ rfl⟩,hG.alloc hG.size _,fun _=>bal _⟩
  ·intro x wx hG
   have g1:RowOwn verE w4 wx w4.heap.size 75 (x.tmps.getD 36 undef) l:=hG.c 1 _ rfl
   have g2:(x.tmps.getD 37 undef)= .int .i64 (i:Nat):=hG.c 2 _ rfl
   have g4:LitAt wx (x.tmps.getD 39 undef) (verC v1 (.slice ua v1.past.vec.length uc) (.slice xa v1.past.more.length xc)):=hG.c 4 _ rfl
   have hp:=hG.p
   replace hG:=hG.good
   obtain⟨sa,sc,hs1⟩:=g1.shape
   obtain⟨gb,hs2,hlit⟩:=g4
   rw[hs1] at g1
   have hs1b:=hs1
   have hs2b:=hs2
   rw[Array.getD_eq_getD_getElem?] at hs1b hs2b
   have G1:=jD g1
   have HLIT:=jD hlit
   clear g1 hlit
   go_wp2_with fail
   (with_reducible refine(vput_c w4 _ _ l v1 _ _ i gb hG G1.out hile (by omega) M.out.kn HLIT.out).mono ?_)
   rintro e wq ⟨v9,rfl,h9,hb⟩
   rw[←HLI.out] at h9
   have H9:=jD h9
   clear h9
   go_wp2
   exact⟨_,rfl,H9.out,hb,fun h=>absurd rfl h⟩
  ·intro x wx hG
   have g5:RowOwn verE w4 wx w4.heap.size 75 (x.tmps.getD 40 undef) LI:=hG.c 5 _ rfl
   replace hG:=hG.good
   obtain⟨sa,sc,hs1⟩:=g5.shape
   rw[hs1] at g5
   have hs1b:=hs1
   rw[Array.getD_eq_getD_getElem?] at hs1b
   have G5:=jD g5
   clear g5
   go_wp2
   exact⟨_,rfl,G5.out,hG,fun _=>Below.refl _ _⟩
 ·intro vals w5 hg hF
  obtain⟨g0,g1,g2,g3,g4,g5,g6, -⟩:=hF
  have e0:=gq (vals 0) g0
  have e2:=gq (vals 2) g2
  have e3:=gq (vals 3) g3
  replace g6:RowOwn verE w4 w5 w4.heap.size 75 (vals 6) LI:=g6 rfl
  simp only[Cl.puts,e0,e2,e3]
  clear e0 e2 e3 g0 g1 g2 g3 g4 g5
  go_simp
  generalize vals 6=s5 at*
  have hin: ∀v∈LI,VerOk v:=fun v hv=>by
   rw[HLI.out] at hv
   rcases List.mem_append.1 hv with hv | hv
   ·exact HS.out.ok v (List.mem_of_mem_take hv)
   ·rcases List.mem_cons.1 hv with rfl | hv
    ·exact HV.out
    ·exact HS.out.ok v (List.mem_of_mem_drop hv)
  have hll:LI.length≤1000:=by rw[HLI.out,List.length_append,List.length_cons,List.length_take,List.length_drop];omega
  have HDL:=jD (vdel_c VerOk w4 w5 s5 LI 118 #[.pointer (some ⟨w.heap.size,0,none⟩)] (fun w=>verOver v1 w) hg g6 hll hin (put2_p w.heap.size v1 _ _ _ M.out.blk M.out.kn HV.out.past))
  have HOK:=jD (show ∀v∈putL l v1,VerOk v from fun v hv=>hin v (by rw[HPL.out] at hv;exact (List.mem_filter.1 hv).1))
  rw[←HPL.out] at HDL
  clear hin hll g6 hg HF HS HPL C0 C1 C2 C3 C4 C5 C6 C7 HV
  go_wp2_with fail
  (with_reducible refine(HDL.out).mono ?_)
  rintro e w6 ⟨s6,rfl,h6,hb6⟩
  obtain⟨sa,sc,rfl⟩:=h6.shape
  have H6:=jD h6
  have HB6:=jD hb6
  clear h6 hb6 HDL
  by_cases h60:60 < (putL l v1).length
  ·have H:=jD (show putE l v1=2 by rw[HE.out,if_pos h60])
   have h60b:decide ((60:Int) < ((putL l v1).length:Int))=true:=by simp;omega
   clear HE
   generalize putL l v1=pl at*
   go_wp2
   go_ret2
   exact⟨_,ret_ve H.out.symm,by rw[putR_bad (by rw[H.out];decide)];exact own_nilV _ _,M.out.bel.trans (HB6.out.mono M.out.bel.size)⟩
  have H:=jD (show putE l v1=0 by rw[HE.out,if_neg h60])
  have HR:=jD (putR_ok H.out)
  have hl2:(putL l v1).length≤60:=by omega
  have HCP:=jD (vcopied_c _ (putL l v1) w6 (H6.out.at_ (Sub.of_below HB6.out) (by omega)) (shok_bd HOK.out) (by omega))
  have h60b:decide ((60:Int) < ((putL l v1).length:Int))=false:=by simp;omega
  clear HE HOK
  generalize putL l v1=pl at*
  go_wp2_with fail
  (with_reducible refine(HCP.out).mono ?_)
  rintro e w7 ⟨ov,rfl,ho,hb1⟩
  have hbe:=M.out.bel.trans (HB6.out.mono M.out.bel.size)
  have HOV:=jD (ho.mono hbe.size)
  have HBE:=jD (bstep hbe hb1)
  clear hb1 ho HCP hbe
  go_wp2
  go_ret2
  exact⟨_,ret_ve H.out.symm,by rw[HR.out];exact HOV.out,HBE.out⟩
def getL (l:List Ver) (id:ByteArray):List Ver:=l.filter fun v=>decide (v.id=id)
structure GetSt (w0:World) (lv:Value) (l:List Ver) (t:TypeId) (cs:Array Value) (w:World):Prop where
 blk:w.heap[w0.heap.size]? =some (Obj.cells cs t (0,0))
 row:RowAt verE w lv l
 bel:Below w0.heap.size w0 w
theorem GetSt.below {w0:World} {lv:Value} {l:List Ver} {t:TypeId} {cs:Array Value} {w w':World} (h:GetSt w0 lv l t cs w) (hb:Below w.heap.size w w'):GetSt w0 lv l t cs w':=
 ⟨below_keep hb h.blk,h.row.below hb,bstep h.bel hb⟩
def underB (id:ByteArray) (k:Kn) (v:Ver):Bool:=decide (v.id=id)&&knIn k v.ds v.dc
def dropL (l:List Ver) (id:ByteArray) (k:Kn):List Ver:=l.filter fun v=> !underB id k v
def dropE (l:List Ver) (id:ByteArray) (k:Kn):Int:=if shelfChk l≠0 then shelfChk l else if idOk id=false then 3 else knChk k
def dropR (l:List Ver) (id:ByteArray) (k:Kn):List Ver:=if dropE l id k=0 then dropL l id k else []
theorem dropR_ok {l:List Ver} {id:ByteArray} {k:Kn} (h:dropE l id k=0):dropR l id k=dropL l id k:=by unfold dropR;rw [if_pos h]
theorem dropR_bad {l:List Ver} {id:ByteArray} {k:Kn} (h:dropE l id k≠0):dropR l id k=[]:=by unfold dropR;rw [if_neg h]
theorem drop1_p (B:Nat) (id:ByteArray) (k:Kn) (y z:Value) (w:World) (hB:w.heap[B]? =some (Obj.cells #[.string id,y,z] 101 (0,0))) (hk:KnAt w y z k) (hok:KnOk k):
  PredV VerOk 133 #[.pointer (some ⟨B,0,none⟩)] (underB id k) w:=by
 refine⟨enters_of Tryz.func133 (by kernel_rfl) rfl,fun a u x W hv hbl ha=> ?_⟩
 show Calls Tryz.prog 133 #[.agg (verC a u x), .pointer (some ⟨B,0,none⟩)] W _
 have hB1:=below_keep hbl hB
 have hkW:=hk.below hbl
 clear hbl hB hk
 obtain⟨xa,ca,rfl⟩:=ha.vec.shape
 obtain⟨ya,da,rfl⟩:=ha.more.shape
 obtain⟨xb,cb,hxb⟩:=hkW.vec.shape
 obtain⟨yb,db,hyb⟩:=hkW.more.shape
 subst hxb hyb
 have hbel:=bal (W:=W) (.cells (verC a (.slice xa a.past.vec.length ca) (.slice ya a.past.more.length da)) 75)
 have c0:=cell_of_block (j:=0) hB1 rfl
 have c1:=cell_of_block (j:=1) hB1 rfl
 have c2:=cell_of_block (j:=2) hB1 rfl
 have hBl:=hlt_of hB1
 have hids:=ids_eq a.id id
 obtain⟨⟨d0,d5⟩,d1,d2⟩:=dotOk_iff.1 hv.dot
 simp only at d0 d5 d1 d2
 have HBD:=jD (dotBd_of (l:=[(a.ds,a.dc)]) fun d hx=>by simp only[List.mem_singleton] at hx;rw [hx];exact hv.dot)
 have HBM:=jD (dotBd_of fun d hd=>(hok.dots d hd).1)
 have HKI:=jD (knIn_c _ _ k a.ds a.dc _ (hkW.below hbel) d0 hok.ord HBM.out HBD.out)
 have HU:=jD (show underB id k a=(decide (a.id=id)&&knIn k a.ds a.dc) from rfl)
 clear ha hB1 hkW hv hok
 unfold verC at*
 cases hd:decide (a.id=id)
 ·have H:=jD (show underB id k a=false by rw[HU.out,hd];rfl)
  rw[hd] at hids
  clear hd
  go_enter Tryz.func133,Tryz.ntmps133
  go_wp2
  go_ret
  exact⟨by rw[H.out];rfl,hbel⟩
 ·have H:=jD (show underB id k a=knIn k a.ds a.dc by rw[HU.out,hd];rfl)
  rw[hd] at hids
  clear hd
  go_enter Tryz.func133,Tryz.ntmps133
  go_wp2_with fail
  (with_reducible refine(HKI.out).mono ?_)
  rintro e w1 ⟨rfl,hb1⟩
  replace hbel:=bstep hbel hb1
  clear hb1 HKI c0 c1 c2
  go_wp2
  go_ret
  exact⟨by rw[H.out];rfl,hbel⟩
theorem drop_c (lv:Value) (l:List Ver) (id:ByteArray) (k:Kn) (u x:Value) (w:World) (hl:RowAt verE w lv l) (hk:KnAt w u x k):
  Calls Tryz.prog 75 #[lv, .agg #[.string id,u,x]] w fun e w'=> ∃ov,e= .returned (.tuple #[ov, .int .i64 (dropE l id k)])∧VOwn w' w.heap.size ov (dropR l id k)∧Below w.heap.size w w':=by
 obtain⟨a,cap,rfl⟩:=hl.shape
 obtain⟨ua,uc,rfl⟩:=hk.vec.shape
 obtain⟨xa,xc,rfl⟩:=hk.more.shape
 obtain⟨W,hW⟩: ∃W,W=w.alloc (.cells #[.string id, .slice ua k.vec.length uc, .slice xa k.more.length xc] 101):=⟨_,rfl⟩
 have hbx:Below w.heap.size w W:=by rw[hW];exact bal _
 have M:=jD (show GetSt w (.slice a l.length cap) l 101 #[.string id, .slice ua k.vec.length uc, .slice xa k.more.length xc] W from⟨by rw[hW];exact alloc_new _ _ _ _ rfl,hl.below hbx,hbx⟩)
 have HK:=jD hk
 have HC:=jD (shelfChk_c _ l W M.out.row)
 have HE1:=jD (show shelfChk l≠0→dropE l id k=shelfChk l from fun h=>by unfold dropE;rw [if_pos h])
 have HE2:=jD (show shelfChk l=0→dropE l id k=if idOk id=false then 3 else knChk k from fun h=>by unfold dropE;rw [if_neg (by omega)])
 have HCZ:=jD (shelfChk_zero (l:=l))
 have HKZ:=jD (knChk_zero (k:=k))
 clear hl hk hbx
 go_enter Tryz.func75,Tryz.ntmps75
 go_wp2_with fail
 rw[←hW]
 clear hW
 (with_reducible refine(HC.out).mono ?_)
 rintro e w1 ⟨rfl,hb1⟩
 replace M:=jD (M.out.below hb1)
 clear hb1 HC
 by_cases h0:shelfChk l=0
 rotate_left
 ·have H:=jD (HE1.out h0)
  have H0:=jD h0
  have hne:decide (shelfChk l=0)=false:=by simpa using h0
  generalize shelfChk l=sc at*
  go_wp2
  go_ret2
  exact⟨_,ret_ve H.out.symm,by rw[dropR_bad (by rw[H.out];exact H0.out)];exact own_nilV _ _,M.out.bel⟩
 have HS:=jD (HCZ.out.1 h0)
 have HE:=jD (HE2.out h0)
 rw[h0]
 clear h0 HE1 HE2 HCZ
 have hl60:=HS.out.len
 have c0:=cell_of_block (j:=0) M.out.blk rfl
 go_wp2_with fail
 (with_reducible refine(id_c id _).mono ?_)
 rintro e w2 ⟨rfl,rfl⟩
 clear c0
 cases hid:idOk id
 ·have H:=jD (show dropE l id k=3 by rw[HE.out,if_pos hid])
  clear hid HE
  go_wp2
  go_ret2
  exact⟨_,ret_ve H.out.symm,by rw[dropR_bad (by rw[H.out];decide)];exact own_nilV _ _,M.out.bel⟩
 have HEK:=jD (show dropE l id k=knChk k by rw[HE.out,if_neg (by rw[hid];decide)])
 have HKC:=jD (knChk_c _ _ k _ (HK.out.below M.out.bel))
 have c1:=cell_of_block (j:=1) M.out.blk rfl
 have c2:=cell_of_block (j:=2) M.out.blk rfl
 clear hid HE
 go_wp2_with fail
 (with_reducible refine(HKC.out).mono ?_)
 rintro e w2 ⟨rfl,hb1⟩
 replace M:=jD (M.out.below hb1)
 clear hb1 HKC c1 c2
 by_cases hkz:knChk k=0
 rotate_left
 ·have H0:=jD hkz
  have hne:decide (knChk k=0)=false:=by simpa using hkz
  generalize knChk k=sc at*
  go_wp2
  go_ret2
  exact⟨_,ret_ve HEK.out.symm,by rw[dropR_bad (by rw[HEK.out];exact H0.out)];exact own_nilV _ _,M.out.bel⟩
 have HKO:=jD (HKZ.out.1 hkz).1
 rw[hkz] at HEK ⊢
 clear hkz HKZ
 have HCL:=jD (vclone_c _ l w2 w2 M.out.row (Below.refl _ _) (by omega))
 go_wp2_with fail
 (with_reducible refine(HCL.out).mono ?_)
 rintro e w3 ⟨cv,rfl,hcv,hb1⟩
 obtain⟨ca,cc,rfl⟩:=hcv.shape
 have HDL:=jD (vdel_c VerOk w2 w3 _ l 133 #[.pointer (some ⟨w.heap.size,0,none⟩)] (underB id k) hb1 hcv (by omega) HS.out.ok (drop1_p w.heap.size id k _ _ _ M.out.blk (HK.out.below M.out.bel) HKO.out))
 rw[show(l.filter fun v=> !underB id k v)=dropL l id k from rfl] at HDL
 clear hcv hb1 HCL
 go_wp2_with fail
 (with_reducible refine(HDL.out).mono ?_)
 rintro e w4 ⟨s3,rfl,h3,hb3⟩
 obtain⟨sa,sc,rfl⟩:=h3.shape
 have H3:=jD h3
 have HB3:=jD (M.out.bel.trans (hb3.mono M.out.bel.size))
 have HB3':=jD hb3
 have HOK:=jD (show ∀v∈dropL l id k,VerOk v from fun v hv=>HS.out.ok v (List.mem_filter.1 hv).1)
 have hll:(dropL l id k).length≤60:=Nat.le_trans (List.length_filter_le _ _) hl60
 clear h3 hb3 HDL
 have HR:=jD (dropR_ok HEK.out)
 have HCP:=jD (vcopied_c _ (dropL l id k) w4 (H3.out.at_ (Sub.of_below HB3'.out) (by omega)) (shok_bd HOK.out) (by omega))
 clear HOK
 generalize dropL l id k=pl at*
 go_wp2_with fail
 (with_reducible refine(HCP.out).mono ?_)
 rintro e w5 ⟨ov,rfl,ho,hb1⟩
 have HOV:=jD (ho.mono HB3.out.size)
 have HBE:=jD (bstep HB3.out hb1)
 clear hb1 ho HCP
 go_wp2
 go_ret2
 exact⟨_,ret_ve HEK.out.symm,by rw[HR.out];exact HOV.out,HBE.out⟩
def pastK (l:List Ver):List Kn:=l.map Ver.past
def pastD (l:List Ver):Dots:=l.flatMap fun v=>v.past.more++[(v.ds,v.dc)]
theorem getL_snoc (l:List Ver) (v:Ver) (id:ByteArray):getL (l++[v]) id=if decide (v.id=id)=true then getL l id++[v] else getL l id:=by
 unfold getL
 by_cases h:v.id=id <;> simp[List.filter_append,h]
theorem pastD_snoc (l:List Ver) (v:Ver):pastD (l++[v])=pastD l++(v.past.more++[(v.ds,v.dc)]):=by simp[pastD]
theorem past_gather (l:List Ver) {s c:Int} (hc:1≤c):(decide (c≤vmaxAt ((pastK l).map Kn.vec) s) || decide ((s,c)∈pastD l))=pastP l s c:=by
 rw[vmax_any _ hc,Bool.eq_iff_iff]
 simp only[Bool.or_eq_true,List.any_eq_true,decide_eq_true_eq,List.mem_flatMap,pastD,pastK,List.mem_map,List.mem_append,List.mem_singleton,Prod.mk.injEq,pastP_iff,knIn]
 constructor
 ·rintro(⟨k,⟨v,hv,rfl⟩,h⟩ | ⟨v,hv,h | ⟨h1,h2⟩⟩)
  ·exact⟨v,hv, .inl (.inl h)⟩
  ·exact⟨v,hv, .inl (.inr h)⟩
  ·exact⟨v,hv, .inr ⟨h1.symm,h2.symm⟩⟩
 ·rintro⟨v,hv,(h | h) | ⟨h1,h2⟩⟩
  ·exact .inl ⟨_,⟨v,hv,rfl⟩,h⟩
  ·exact .inr ⟨v,hv, .inl h⟩
  ·exact .inr ⟨v,hv, .inr ⟨h1.symm,h2.symm⟩⟩
theorem pastD_len {l:List Ver} (h: ∀v∈l,v.past.more.length≤60):(pastD l).length≤l.length*61:=by
 induction l with
 | nil=>simp [pastD]
 | cons v l ih=>
  have h1:=h v (by simp)
  have h2:=ih fun x hx=>h x (by simp[hx])
  unfold pastD at*
  simp only[List.flatMap_cons,List.length_append,List.length_cons,List.length_nil]
  omega
theorem pastD_ok {l:List Ver} (h: ∀v∈l,VerOk v): ∀d∈pastD l,dotOk d=true:=by
 intro d hd
 obtain⟨v,hv,hd⟩:=List.mem_flatMap.1 hd
 rcases List.mem_append.1 hd with hd | hd
 ·exact((h v hv).past.dots d hd).1
 ·rw[List.mem_singleton] at hd;rw [hd];exact (h v hv).dot
def pastF (l:List Ver) (id:ByteArray):Kn:=formK (pastP (getL l id))
def pastE (l:List Ver) (id:ByteArray):Int:=if shelfChk l≠0 then shelfChk l else kE (pastF l id)
structure PaSt (w:World) (vv dv:Value) (ls:List Ver) (wr:World):Prop where
 res:wr.heap[w.heap.size]? =some (Obj.cells #[.slice none 0 0, .slice none 0 0] 73 (0,0))
 vec:RowOwn vecE w wr w.heap.size 35 vv ((pastK ls).map Kn.vec)
 dot:wr.ownsRow w.heap.size 41 2 dv (pastD ls).length (spansCells (pastD ls))
 bel:Below w.heap.size w wr
theorem PaSt.below {w:World} {vv dv:Value} {ls:List Ver} {wr wr':World} (h:PaSt w vv dv ls wr) (hb:Below wr.heap.size wr wr'):PaSt w vv dv ls wr':=
 ⟨below_keep hb h.res,h.vec.below hb,owns_below h.dot hb,bstep h.bel hb⟩
theorem past_c (lv:Value) (l:List Ver) (id:ByteArray) (w:World) (hl:RowAt verE w lv l):
  Calls Tryz.prog 64 #[lv, .string id] w fun e w'=> ∃x y,e= .returned (.tuple #[.agg #[x,y], .int .i64 (pastE l id)])∧KnRes w' w.heap.size x y (pastE l id) (pastF l id)∧Below w.heap.size w w':=by
 have HL:=jD hl
 obtain⟨a,cap,rfl,hcap,hlen, -,hvl⟩:=hl.open_
 have HVL:=jD hvl
 obtain⟨W,hW⟩: ∃W,W=w.alloc (.cells #[.slice none 0 0, .slice none 0 0] 73):=⟨_,rfl⟩
 have H0:=jD (show PaSt w (.slice none 0 0) (.slice none 0 0) (getL (l.take 0) id) W from
  ⟨by rw[hW];exact alloc_new _ _ _ _ rfl,RowOwn.nil _ _ _ _,World.ownsRow_nil _ _ _ _,by rw[hW];exact bal _⟩)
 have HCK:=jD (shelfChk_c _ l W (HL.out.below (by rw[hW];exact bal _)))
 have HE1:=jD (show shelfChk l≠0→pastE l id=shelfChk l from fun h=>by unfold pastE;rw [if_pos h])
 have HE2:=jD (show shelfChk l=0→pastE l id=kE (pastF l id) from fun h=>by unfold pastE;rw [if_neg (by omega)])
 have HCZ:=jD (shelfChk_zero (l:=l))
 clear hl hvl
 go_enter Tryz.func64,Tryz.ntmps64
 go_wp2_with fail
 rw[←hW]
 clear hW
 (with_reducible refine(HCK.out).mono ?_)
 rintro e wa ⟨rfl,hb1⟩
 replace H0:=jD (H0.out.below hb1)
 clear hb1 HCK
 by_cases h0:shelfChk l=0
 rotate_left
 ·have H:=jD (HE1.out h0)
  have HN:=jD h0
  have hne:decide (shelfChk l=0)=false:=by simpa using h0
  have hnb:(shelfChk l != 0)=true:=bne_iff_ne.2 h0
  have HR:=jD H0.out.res
  have HB:=jD H0.out.bel
  have r0:=cell_of_block (j:=0) HR.out rfl
  have r1:=cell_of_block (j:=1) HR.out rfl
  have f0:=free_of_block (j:=0) HR.out
  have f1:=free_of_block (j:=1) HR.out
  have hRl:=hlt_of HR.out
  generalize shelfChk l=sc at*
  clear h0 HE1 HE2 HCZ
  go_wp2
  refine bodyPost_ret (v:= .tuple #[.agg #[_,_],_]) (by simp[results,Tryz.results64,go_sem, *];first | exact⟨⟨rfl,rfl⟩,rfl⟩ | exact⟨rfl,rfl⟩ | rfl) rfl ?_
  exact⟨_,_,by rw[H.out], .inr ⟨by rw[H.out];exact HN.out,rfl,rfl⟩,(HB.out.setCell (by simp) _).setCell (by simp) _⟩
 have HS0:=jD (HCZ.out.1 h0)
 have HE:=jD (HE2.out h0)
 rw[h0]
 clear h0 HE1 HE2 HCZ
 go_wp2
 go_loopw [7,8,20] (fun vv dv i wr=> ∃k:Nat,k≤l.length∧i= .int .i64 k∧PaSt w vv dv (getL (l.take k) id) wr) (fun _ _ i _=>l.length - (intOf i).toNat)
 case atStart=>exact ⟨0,Nat.zero_le _,rfl,H0.out⟩
 case round=>
  obtain⟨k,hk,rfl,hst⟩:=hrel
  have HS:=jD hst
  clear hst H0
  by_cases hlt:k < l.length
  ·rcases HVL.out with hnil | ⟨b,off,rfl,hb,hc⟩
   ·rw[hnil] at hlt;simp at hlt
   obtain⟨c,hE,hcc⟩:=hc k hlt
   obtain⟨UU,XX,rfl,hkw⟩:=hE
   have hcl:=fun (j:Nat) (y:Value) (hy:(verC l[k] UU XX).toList[j]? =some y)=>row8 (w:=wr) (b:=b) (off:=off) (i:=k) (fun j y hy=>(HS.out.bel.cell (p:=⟨b,off+(k*verE.size+j),none⟩) hb).trans (hcc j y hy)) hy
   have d0:=hcl 0 _ rfl
   have d1:=hcl 1 _ rfl
   have d2:=hcl 2 _ rfl
   have d3:=hcl 3 _ rfl
   have d4:=hcl 4 _ rfl
   have d5:=hcl 5 _ rfl
   have d6:=hcl 6 _ rfl
   have d7:=hcl 7 _ rfl
   rw[Nat.add_zero] at d0
   obtain⟨ua,uc,rfl⟩:=hkw.vec.shape
   obtain⟨xa,xc,rfl⟩:=hkw.more.shape
   have HT:=jD (show getL (l.take (k+1)) id=if decide (l[k].id=id)=true then getL (l.take k) id++[l[k]] else getL (l.take k) id by rw[List.take_succ_eq_append_getElem hlt,getL_snoc])
   have hk60:l[k].past.more.length≤60:=(HS0.out.ok _ (List.getElem_mem hlt)).len
   have HKS:=jD (show(pastK (getL (l.take k) id)).length≤60∧(pastD (getL (l.take k) id)).length≤60000 by
    have h1:(getL (l.take k) id).length≤(l.take k).length:=List.length_filter_le _ _
    rw[List.length_take] at h1
    have h3:=HS0.out.len
    have h2:=pastD_len (l:=getL (l.take k) id) fun v hv=>(HS0.out.ok v (List.mem_of_mem_take (List.mem_filter.1 hv).1)).len
    unfold pastK
    rw[List.length_map]
    omega)
   have hids:=ids_eq l[k].id id
   obtain⟨BK,hBK⟩: ∃BK,BK=wr.heap.size:=⟨_,rfl⟩
   obtain⟨w1,hw1⟩: ∃w1,w1=wr.alloc (.cells (verC l[k] (.slice ua l[k].past.vec.length uc) (.slice xa l[k].past.more.length xc)) 75):=⟨_,rfl⟩
   have hb1:Below wr.heap.size wr w1:=by rw[hw1];exact bal _
   have HB1:=jD (show w1.heap[BK]? =some (Obj.cells (verC l[k] (.slice ua l[k].past.vec.length uc) (.slice xa l[k].past.more.length xc)) 75 (0,0)) by rw[hw1];exact alloc_new _ _ _ _ hBK)
   replace HS:=jD (HS.out.below hb1)
   have HKW:=jD hkw
   clear hc hcc hcl hkw hb1
   generalize l[k]=vv1 at*
   obtain⟨vid,ds,dcc,tg,nm,bd,kk⟩:=vv1
   simp only at*
   generalize getL (l.take k) id=ls at*
   have e0:w1.cell? ⟨BK,0,none⟩=some (.string vid):=cell_of_block HB1.out rfl
   unfold verC at hw1
   cases hdd:decide (vid=id)
   ·have HN:=jD (show getL (l.take (k+1)) id=ls by rw[HT.out,hdd];rfl)
    rw[hdd] at hids
    clear hdd HB1 HKS
    rw[hBK,hw1] at e0
    rw[hw1] at HS
    go_wp2
    go_roundw
    case rel=>exact ⟨k+1,by omega,by go_num,by rw[HN.out];exact HS.out⟩
    case measure=>simp [intOf] <;> omega
   ·have HN:=jD (show getL (l.take (k+1)) id=ls++[⟨vid,ds,dcc,tg,nm,bd,kk⟩] by rw[HT.out,hdd];rfl)
    rw[hdd] at hids
    clear hdd
    obtain⟨va,vc,hvv⟩:=HS.out.vec.shape
    obtain⟨da,dc,hdv⟩:=owns_slice HS.out.dot
    subst hvv hdv
    have hV1:((pastK ls).map Kn.vec).length≤1000:=by rw[List.length_map];have:=HKS.out.1;omega
    have hD1:(pastD ls).length≤60000:=HKS.out.2
    have HVM:=jD (show(pastK (ls++[⟨vid,ds,dcc,tg,nm,bd,kk⟩])).map Kn.vec=(pastK ls).map Kn.vec++[kk.vec] by simp[pastK])
    have HDM:=jD (pastD_snoc ls ⟨vid,ds,dcc,tg,nm,bd,kk⟩)
    have HV:=jD HS.out.vec
    have HD:=jD HS.out.dot
    obtain⟨w2,hw2⟩: ∃w2,w2=w1:=⟨_,rfl⟩
    obtain⟨EX,hEX⟩: ∃EX:List (Nat×Array Value×TypeId),EX=[(BK,(verC ⟨vid,ds,dcc,tg,nm,bd,kk⟩ (.slice ua kk.vec.length uc) (.slice xa kk.more.length xc)),75),(w.heap.size, #[.slice none 0 0, .slice none 0 0],73)]:=⟨_,rfl⟩
    have HGS:=jD (show GSt w.heap.size w EX (.slice da (pastD ls).length dc) w1 from⟨HS.out.bel,by
     rw[hEX];intro b hb
     simp only[List.mem_cons,List.not_mem_nil,or_false] at hb
     rcases hb with rfl | rfl
     ·exact⟨HB1.out,(by decide:75≠35),(by decide:75≠41)⟩
     ·exact⟨HS.out.res,(by decide:73≠35),(by decide:73≠41)⟩,fun k hk=>(HS.out.dot.lt k hk).2⟩)
    have HEX:=jD (fun (wz:World) (h:GSt w.heap.size w EX (.slice da (pastD ls).length dc) wz)=>(show wz.heap[BK]? =some (Obj.cells (verC ⟨vid,ds,dcc,tg,nm,bd,kk⟩ (.slice ua kk.vec.length uc) (.slice xa kk.more.length xc)) 75 (0,0)) by rw[hEX] at h;exact h.blk))
    have HEQ:=jD (fun (wz:World) (h:GSt w.heap.size w EX (.slice da (pastD ls).length dc) wz)=>(show wz.heap[w.heap.size]? =some (Obj.cells #[.slice none 0 0, .slice none 0 0] 73 (0,0)) by rw[hEX] at h;exact (h.ex (w.heap.size, #[.slice none 0 0, .slice none 0 0],73) (by simp)).1))
    clear hEX
    generalize (pastK ls).map Kn.vec=V at*
    generalize pastD ls=D at*
    clear HS HB1
    rw[hBK,hw1] at e0
    go_wp2_with fail
    rw[←hw1]
    rw[←hBK]
    clear hBK hw1 hw2 e0 d0 d1 d2 d3 d4 d5 d6 d7
    refine Cl3.region0 53 rfl (fun u=>match u with | 0=>[5] | _=>[10,14]) (fun u ww=>match u with | 0=>RowOwn vecE w ww w.heap.size 35 (.slice va V.length vc) V | _=>ww.ownsRow w.heap.size 41 2 (.slice da D.length dc) D.length (spansCells D)) (fun jq=>match jq with | 4=>[5] | 10=>[14] | 13=>[14] | _=>[]) (fun jq v ww=>match jq with | 0=>v= .slice va V.length vc | 1=>v= .pointer (some ⟨BK,6,none⟩) | 2=>v= .pointer (some ⟨BK,6,none⟩) | 3=>v= .slice ua kk.vec.length uc | 4=> ∃g,v= .slice (some ⟨g,0,none⟩) 1 1∧ww.heap[g]? =some (Obj.cells #[.slice ua kk.vec.length uc] 35 (0,0)) | 5=> ∃a cc,v= .slice a (V.length+1) cc∧RowOwn vecE w ww w.heap.size 35 (.slice a (V.length+1) cc) (V++[kk.vec]) | 6=>v= .slice da D.length dc | 7=>v= .pointer (some ⟨BK,6,none⟩) | 8=>v= .pointer (some ⟨BK,7,none⟩) | 9=>v= .slice xa kk.more.length xc | 10=> ∃a cc,v= .slice a (D.length+kk.more.length) cc∧ww.ownsRow w.heap.size 41 2 (.slice a (D.length+kk.more.length) cc) (D.length+kk.more.length) (spansCells (D++kk.more)) | 11=>v= .pointer (some ⟨BK,1,none⟩) | 12=>v= .agg #[.int .i64 ds, .int .i64 dcc] | 13=> ∃g,v= .slice (some ⟨g,0,none⟩) 1 1∧ww.heap[g]? =some (Obj.cells #[.int .i64 ds, .int .i64 dcc] 41 (0,0))∧((.slice da D.length dc):Value).ownBlock≠some g | 14=> ∃a cc,v= .slice a (D.length+kk.more.length+1) cc∧ww.ownsRow w.heap.size 41 2 (.slice a (D.length+kk.more.length+1) cc) (D.length+kk.more.length+1) (spansCells (D++(kk.more++[(ds,dcc)]))) | 15=> ∃a cc,v= .slice a (V.length+1) cc∧RowOwn vecE w ww w.heap.size 35 (.slice a (V.length+1) cc) (V++[kk.vec]) | 16=> ∃a cc,v= .slice a (D.length+kk.more.length+1) cc∧ww.ownsRow w.heap.size 41 2 (.slice a (D.length+kk.more.length+1) cc) (D.length+kk.more.length+1) (spansCells (D++(kk.more++[(ds,dcc)]))) | _=>True) (fun ww=>GSt w.heap.size w EX (.slice da D.length dc) ww) (fun jq ww ww'=>(jq≠5→jq≠10→jq≠14→Below ww.heap.size ww ww')∧(jq=5→AppV w.heap.size 35 1 (.slice va V.length vc) ww ww')∧(jq=10→AppV w.heap.size 41 2 (.slice da D.length dc) ww ww')∧(jq=14→AppR w.heap.size 41 2 ww ww')) Tryz.mixed (by decide+kernel) HGS.out.drew (fun u=>match u with | 0=>HV.out | _+1=>HD.out) ?_ (fun jq ww ww' u hk h hR=>match u,hk,h with | 0,hk,h=>(by obtain⟨css,h1,h2⟩:=h;refine ⟨css,h1, ?_⟩;by_cases e:jq=10;exact (hR.2.2.1 e).other h2 (by decide);by_cases e2:jq=14;exact (hR.2.2.2 e2).other h2 (by decide);exact owns_below h2 (hR.1 (by simpa using hk) e e2)) | _+1,hk,h=>(by by_cases e:jq=5;exact (hR.2.1 e).other h (by decide);by_cases e2:jq=14;(subst e2;exact absurd hk (by simp));exact owns_below h (hR.1 e (by intro e3;subst e3;exact hk (by simp)) e2))) ?_ ?_
    ·intro q r v w w' hne hk hlt h hR
     match r,hk,hlt,h,hne with
     | 0,_,_,h,_=>exact h
     | 1,_,_,h,_=>exact h
     | 2,_,_,h,_=>exact h
     | 3,_,_,h,_=>exact h
     | 4,hk,hlt,h,hne=>
      by_cases h5:q=5
      ·exact absurd h5 (by intro e;subst e;first | exact absurd hlt (by decide+kernel) | exact absurd rfl hne | simp at hk)
      by_cases h10:q=10
      ·exact(let ⟨g,h1,h2⟩:=h;⟨g,h1,((hR.2.2.1 h10).keep h2 (by decide))⟩)
      by_cases h14:q=14
      ·exact(let ⟨g,h1,h2⟩:=h;⟨g,h1,((hR.2.2.2 h14).keep h2 (by decide))⟩)
      have hb:=hR.1 h5 h10 h14
      exact(let ⟨g,h1,h2⟩:=h;⟨g,h1,below_keep hb h2⟩)
     | 5,hk,hlt,h,hne=>
      by_cases h5:q=5
      ·exact absurd h5 (by intro e;subst e;first | exact absurd hlt (by decide+kernel) | exact absurd rfl hne | simp at hk)
      by_cases h10:q=10
      ·exact(let ⟨a,cc,h1,css,h2,h3⟩:=h;⟨a,cc,h1,css,h2,((hR.2.2.1 h10).other h3 (by decide))⟩)
      by_cases h14:q=14
      ·exact(let ⟨a,cc,h1,css,h2,h3⟩:=h;⟨a,cc,h1,css,h2,((hR.2.2.2 h14).other h3 (by decide))⟩)
      have hb:=hR.1 h5 h10 h14
      exact(let ⟨a,cc,h1,css,h2,h3⟩:=h;⟨a,cc,h1,css,h2,owns_below h3 hb⟩)
     | 6,_,_,h,_=>exact h
     | 7,_,_,h,_=>exact h
     | 8,_,_,h,_=>exact h
     | 9,_,_,h,_=>exact h
     | 10,hk,hlt,h,hne=>
      by_cases h5:q=5
      ·exact(let ⟨a,cc,h1,h2⟩:=h;⟨a,cc,h1,((hR.2.1 h5).other h2 (by decide))⟩)
      by_cases h10:q=10
      ·exact absurd h10 (by intro e;subst e;first | exact absurd hlt (by decide+kernel) | exact absurd rfl hne | simp at hk)
      by_cases h14:q=14
      ·exact absurd h14 (by intro e;subst e;first | exact absurd hlt (by decide+kernel) | exact absurd rfl hne | simp at hk)
      have hb:=hR.1 h5 h10 h14
      exact(let ⟨a,cc,h1,h2⟩:=h;⟨a,cc,h1,owns_below h2 hb⟩)
     | 11,_,_,h,_=>exact h
     | 12,_,_,h,_=>exact h
     | 13,hk,hlt,h,hne=>
      by_cases h5:q=5
      ·exact(let ⟨g,h1,h2,h3⟩:=h;⟨g,h1,((hR.2.1 h5).keep h2 (by decide)),h3⟩)
      by_cases h10:q=10
      ·exact(let ⟨g,h1,h2,h3⟩:=h;⟨g,h1,((hR.2.2.1 h10).apart h2 h3),h3⟩)
      by_cases h14:q=14
      ·exact absurd h14 (by intro e;subst e;first | exact absurd hlt (by decide+kernel) | exact absurd rfl hne | simp at hk)
      have hb:=hR.1 h5 h10 h14
      exact(let ⟨g,h1,h2,h3⟩:=h;⟨g,h1,below_keep hb h2,h3⟩)
     | 14,hk,hlt,h,hne=>
      by_cases h5:q=5
      ·exact(let ⟨a,cc,h1,h2⟩:=h;⟨a,cc,h1,((hR.2.1 h5).other h2 (by decide))⟩)
      by_cases h10:q=10
      ·exact absurd h10 (by intro e;subst e;first | exact absurd hlt (by decide+kernel) | exact absurd rfl hne | simp at hk)
      by_cases h14:q=14
      ·exact absurd h14 (by intro e;subst e;first | exact absurd hlt (by decide+kernel) | exact absurd rfl hne | simp at hk)
      have hb:=hR.1 h5 h10 h14
      exact(let ⟨a,cc,h1,h2⟩:=h;⟨a,cc,h1,owns_below h2 hb⟩)
     | 15,hk,hlt,h,hne=>
      by_cases h5:q=5
      ·exact absurd h5 (by intro e;subst e;first | exact absurd hlt (by decide+kernel) | exact absurd rfl hne | simp at hk)
      by_cases h10:q=10
      ·exact(let ⟨a,cc,h1,css,h2,h3⟩:=h;⟨a,cc,h1,css,h2,((hR.2.2.1 h10).other h3 (by decide))⟩)
      by_cases h14:q=14
      ·exact(let ⟨a,cc,h1,css,h2,h3⟩:=h;⟨a,cc,h1,css,h2,((hR.2.2.2 h14).other h3 (by decide))⟩)
      have hb:=hR.1 h5 h10 h14
      exact(let ⟨a,cc,h1,css,h2,h3⟩:=h;⟨a,cc,h1,css,h2,owns_below h3 hb⟩)
     | 16,hk,hlt,h,hne=>
      by_cases h5:q=5
      ·exact(let ⟨a,cc,h1,h2⟩:=h;⟨a,cc,h1,((hR.2.1 h5).other h2 (by decide))⟩)
      by_cases h10:q=10
      ·exact absurd h10 (by intro e;subst e;first | exact absurd hlt (by decide+kernel) | exact absurd rfl hne | simp at hk)
      by_cases h14:q=14
      ·exact absurd h14 (by intro e;subst e;first | exact absurd hlt (by decide+kernel) | exact absurd rfl hne | simp at hk)
      have hb:=hR.1 h5 h10 h14
      exact(let ⟨a,cc,h1,h2⟩:=h;⟨a,cc,h1,owns_below h2 hb⟩)
     | _+17,_,_,_,_=>trivial
    ·refine⟨?_, ?_, ?_, ?_, ?_, ?_, ?_, ?_, ?_, ?_, ?_, ?_, ?_, ?_, ?_, ?_, ?_,trivial⟩
     ·intro x wx hG
      have f7:=hG.o 7
      replace hG:=hG.good
      go_wp2
      exact⟨_,rfl,rfl,hG,⟨fun _ _ _=>Below.refl _ _,fun h=>zd h,fun h=>zd h,fun h=>zd h⟩⟩
     ·intro x wx hG
      have f10:=hG.o 10
      replace hG:=hG.good
      go_wp2
      exact⟨_,rfl,rfl,hG,⟨fun _ _ _=>Below.refl _ _,fun h=>zd h,fun h=>zd h,fun h=>zd h⟩⟩
     ·intro x wx hG
      have g1:(x.tmps.getD 29 undef)= .pointer (some ⟨BK,6,none⟩):=hG.c 1 _ rfl
      replace hG:=hG.good
      go_wp2
      exact⟨_,rfl,rfl,hG,⟨fun _ _ _=>Below.refl _ _,fun h=>zd h,fun h=>zd h,fun h=>zd h⟩⟩
     ·intro x wx hG
      have g2:(x.tmps.getD 30 undef)= .pointer (some ⟨BK,6,none⟩):=hG.c 2 _ rfl
      replace hG:=hG.good
      have hbk:=HEX.out _ hG
      have c6:=cell_of_block (j:=6) hbk rfl
      have hbl:=hlt_of hbk
      clear hbk
      go_wp2
      exact⟨_,rfl,rfl,hG,⟨fun _ _ _=>Below.refl _ _,fun h=>zd h,fun h=>zd h,fun h=>zd h⟩⟩
     ·intro x wx hG
      have g3:(x.tmps.getD 31 undef)= .slice ua kk.vec.length uc:=hG.c 3 _ rfl
      have g3b:=gd g3
      replace hG:=hG.good
      go_wp2
      exact⟨_,rfl,⟨_,rfl,alloc_new _ _ _ _ rfl⟩,hG.alloc (Nat.le_refl _) _,⟨fun _ _ _=>bal _,fun h=>zd h,fun h=>zd h,fun h=>zd h⟩⟩
     ·intro x wx hG
      have g0:(x.tmps.getD 28 undef)= .slice va V.length vc:=hG.c 0 _ rfl
      have g4: ∃g,(x.tmps.getD 32 undef)= .slice (some ⟨g,0,none⟩) 1 1∧wx.heap[g]? =some (Obj.cells #[.slice ua kk.vec.length uc] 35 (0,0)):=hG.c 4 _ rfl
      have hp0:=hG.p 0
      replace hG:=hG.good
      obtain⟨g9,hg1,hg2⟩:=g4
      obtain⟨css,hp1,hp2⟩:=hp0
      have hz:=g0
      have hzb:=hz
      rw[Array.getD_eq_getD_getElem?] at hzb
      have hg1b:=hg1
      rw[Array.getD_eq_getD_getElem?] at hg1b
      have H9:=jD (show wx.ownsRow w.heap.size 35 1 (.slice va V.length vc) V.length css.flatten from hp2)
      have HE:=jD hp1
      have HC:=jD (show CellsAt wx (.slice (some ⟨g9,0,none⟩) 1 1) 1 [.slice ua kk.vec.length uc] from CellsAt.mk (Nat.le_refl _) (by decide) (hlt_of hg2) (fun j z hj=>by rw[Nat.zero_add];exact cell_of_block hg2 (by simpa using hj)))
      have HG:=jD hG
      have hbs:=hG.bel.size
      clear hp1 hp2 hg2
      go_wp2_with (at_builtin;refine wpList_append_cells2 rfl (.tmp 28) (.tmp 32) 23 rfl w.heap.size 35 (.slice none 0 0) 1 24 Tryz.underlying23 WlTy.info rfl (by decide) (.slice va V.length vc) V.length _ hz H9.out (.slice (some ⟨g9,0,none⟩) 1 1) 1 _ hg1 HC.out rfl (by intro u hu;simp only[List.mem_singleton] at hu;subst hu;rfl) hbs (by unfold maxLen;omega) (by omega) ?_)
      intro v' wq ho hgr
      obtain⟨qa,qc,hq⟩:=owns_slice ho
      subst hq
      have HO:=jD ho
      have HGR:=jD hgr
      have HA:=jD (show AppV w.heap.size 35 1 (.slice va V.length vc) wx wq from⟨_,_,H9.out,hgr⟩)
      clear ho hgr
      go_wp2
      exact⟨_,rfl,⟨_,_,rfl,⟨css++[[.slice ua kk.vec.length uc]],HE.out.append (Els.single ⟨_,rfl,HKW.out.vec⟩),by rw[List.length_append,List.flatten_append];exact HO.out⟩⟩,HG.out.app (Nat.le_refl _) (.inl rfl) H9.out HGR.out,⟨fun h _ _=>absurd rfl h,fun _=>HA.out,fun h=>zd h,fun h=>zd h⟩⟩
     ·intro x wx hG
      have f8:=hG.o 8
      replace hG:=hG.good
      go_wp2
      exact⟨_,rfl,rfl,hG,⟨fun _ _ _=>Below.refl _ _,fun h=>zd h,fun h=>zd h,fun h=>zd h⟩⟩
     ·intro x wx hG
      have f10:=hG.o 10
      replace hG:=hG.good
      go_wp2
      exact⟨_,rfl,rfl,hG,⟨fun _ _ _=>Below.refl _ _,fun h=>zd h,fun h=>zd h,fun h=>zd h⟩⟩
     ·intro x wx hG
      have g7:(x.tmps.getD 35 undef)= .pointer (some ⟨BK,6,none⟩):=hG.c 7 _ rfl
      replace hG:=hG.good
      go_wp2
      exact⟨_,rfl,rfl,hG,⟨fun _ _ _=>Below.refl _ _,fun h=>zd h,fun h=>zd h,fun h=>zd h⟩⟩
     ·intro x wx hG
      have g8:(x.tmps.getD 36 undef)= .pointer (some ⟨BK,7,none⟩):=hG.c 8 _ rfl
      replace hG:=hG.good
      have hbk:=HEX.out _ hG
      have c7:=cell_of_block (j:=7) hbk rfl
      have hbl:=hlt_of hbk
      clear hbk
      go_wp2
      exact⟨_,rfl,rfl,hG,⟨fun _ _ _=>Below.refl _ _,fun h=>zd h,fun h=>zd h,fun h=>zd h⟩⟩
     ·intro x wx hG
      have g6:(x.tmps.getD 34 undef)= .slice da D.length dc:=hG.c 6 _ rfl
      have g9:(x.tmps.getD 37 undef)= .slice xa kk.more.length xc:=hG.c 9 _ rfl
      have hp1:=hG.p 1
      replace hG:=hG.good
      have hz:=g6
      have hzb:=hz
      rw[Array.getD_eq_getD_getElem?] at hzb
      have g9b:=gd g9
      have H9:=jD hp1
      have HC:=jD (show CellsAt wx (.slice xa kk.more.length xc) kk.more.length (spansCells kk.more) from HKW.out.more.below (hG.bel))
      have HG:=jD hG
      have hbs:=hG.bel.size
      clear hp1
      go_wp2_with (at_builtin;refine wpList_append_cells2 rfl (.tmp 34) (.tmp 37) 71 rfl w.heap.size 41 _ 2 16 Tryz.underlying71 DcTy.info rfl (by decide) (.slice da D.length dc) D.length _ hz H9.out (.slice xa kk.more.length xc) kk.more.length _ g9 HC.out (spansCells_length _) (spansCells_one _) hbs (by unfold maxLen;omega) (by omega) ?_)
      intro v' wq ho hgr
      obtain⟨qa,qc,hq⟩:=owns_slice ho
      subst hq
      have HO:=jD ho
      have HGR:=jD hgr
      have HA:=jD (show AppV w.heap.size 41 2 (.slice da D.length dc) wx wq from⟨_,_,H9.out,hgr⟩)
      clear ho hgr
      go_wp2
      exact⟨_,rfl,⟨_,_,rfl,by rw[spansCells_append];exact HO.out⟩,HG.out.app (Nat.le_refl _) (.inr rfl) H9.out HGR.out,⟨fun _ h _=>absurd rfl h,fun h=>zd h,fun _=>HA.out,fun h=>zd h⟩⟩
     ·intro x wx hG
      have f10:=hG.o 10
      replace hG:=hG.good
      go_wp2
      exact⟨_,rfl,rfl,hG,⟨fun _ _ _=>Below.refl _ _,fun h=>zd h,fun h=>zd h,fun h=>zd h⟩⟩
     ·intro x wx hG
      have g11:(x.tmps.getD 39 undef)= .pointer (some ⟨BK,1,none⟩):=hG.c 11 _ rfl
      replace hG:=hG.good
      have hbk:=HEX.out _ hG
      have c1:=cell_of_block (j:=1) hbk rfl
      have c2:=cell_of_block (j:=2) hbk rfl
      have hbl:=hlt_of hbk
      clear hbk
      go_wp2
      exact⟨_,rfl,rfl,hG,⟨fun _ _ _=>Below.refl _ _,fun h=>zd h,fun h=>zd h,fun h=>zd h⟩⟩
     ·intro x wx hG
      have g12:(x.tmps.getD 40 undef)= .agg #[.int .i64 ds, .int .i64 dcc]:=hG.c 12 _ rfl
      have g12b:=gd g12
      replace hG:=hG.good
      go_wp2
      exact⟨_,rfl,⟨_,rfl,alloc_new _ _ _ _ rfl,fun e=>by have:=hG.low _ e;omega⟩,hG.alloc (Nat.le_refl _) _,⟨fun _ _ _=>bal _,fun h=>zd h,fun h=>zd h,fun h=>zd h⟩⟩
     ·intro x wx hG
      have g10: ∃a cc,(x.tmps.getD 38 undef)= .slice a (D.length+kk.more.length) cc∧wx.ownsRow w.heap.size 41 2 (.slice a (D.length+kk.more.length) cc) (D.length+kk.more.length) (spansCells (D++kk.more)):=hG.c 10 _ rfl
      have g13: ∃g,(x.tmps.getD 41 undef)= .slice (some ⟨g,0,none⟩) 1 1∧wx.heap[g]? =some (Obj.cells #[.int .i64 ds, .int .i64 dcc] 41 (0,0))∧((.slice da D.length dc):Value).ownBlock≠some g:=hG.c 13 _ rfl
      replace hG:=hG.good
      obtain⟨za,zc,hz,h9⟩:=g10
      have hzb:=hz
      rw[Array.getD_eq_getD_getElem?] at hzb
      obtain⟨g9,hg1,hg2, -⟩:=g13
      have hg1b:=hg1
      rw[Array.getD_eq_getD_getElem?] at hg1b
      have H9:=jD h9
      have HC:=jD (show CellsAt wx (.slice (some ⟨g9,0,none⟩) 1 1) 1 [.int .i64 ds, .int .i64 dcc] from CellsAt.mk (Nat.le_refl _) (by decide) (hlt_of hg2) (fun j z hj=>by rw[Nat.zero_add];exact cell_of_block hg2 (by simpa using hj)))
      have HG:=jD hG
      have hbs:=hG.bel.size
      clear h9 hg2
      go_wp2_with (at_builtin;refine wpList_append_cells2 rfl (.tmp 38) (.tmp 41) 71 rfl w.heap.size 41 _ 2 16 Tryz.underlying71 DcTy.info rfl (by decide) (.slice za (D.length+kk.more.length) zc) (D.length+kk.more.length) _ hz H9.out (.slice (some ⟨g9,0,none⟩) 1 1) 1 _ hg1 HC.out rfl (by intro u hu;simp at hu;rcases hu with rfl | rfl <;> rfl) hbs (by unfold maxLen;omega) (by omega) ?_)
      intro v' wq ho hgr
      obtain⟨qa,qc,hq⟩:=owns_slice ho
      subst hq
      have HO:=jD ho
      have HGR:=jD hgr
      have HA:=jD (show AppR w.heap.size 41 2 wx wq from⟨_,_,_,H9.out,hgr⟩)
      clear ho hgr
      go_wp2
      exact⟨_,rfl,⟨_,_,rfl,by rw[←List.append_assoc,spansCells_append];exact HO.out⟩,HG.out.app (Nat.le_refl _) (.inr rfl) H9.out HGR.out,⟨fun _ _ h=>absurd rfl h,fun h=>zd h,fun h=>zd h,fun _=>HA.out⟩⟩
     ·intro x wx hG
      have g5: ∃a cc,(x.tmps.getD 33 undef)= .slice a (V.length+1) cc∧RowOwn vecE w wx w.heap.size 35 (.slice a (V.length+1) cc) (V++[kk.vec]):=hG.c 5 _ rfl
      replace hG:=hG.good
      obtain⟨za,zc,hz,h9⟩:=g5
      have H9:=jD h9
      clear h9
      go_wp2
      exact⟨_,rfl,⟨_,_,rfl,H9.out⟩,hG,⟨fun _ _ _=>Below.refl _ _,fun h=>zd h,fun h=>zd h,fun h=>zd h⟩⟩
     ·intro x wx hG
      have g14: ∃a cc,(x.tmps.getD 42 undef)= .slice a (D.length+kk.more.length+1) cc∧wx.ownsRow w.heap.size 41 2 (.slice a (D.length+kk.more.length+1) cc) (D.length+kk.more.length+1) (spansCells (D++(kk.more++[(ds,dcc)]))):=hG.c 14 _ rfl
      replace hG:=hG.good
      obtain⟨za,zc,hz,h9⟩:=g14
      have H9:=jD h9
      clear h9
      go_wp2
      exact⟨_,rfl,⟨_,_,rfl,H9.out⟩,hG,⟨fun _ _ _=>Below.refl _ _,fun h=>zd h,fun h=>zd h,fun h=>zd h⟩⟩
    ·intro vals w3 hg hF
     obtain⟨g0,g1,g2,g3,g4,g5,g6,g7,g8,g9,g10,g11,g12,g13,g14,g15,g16, -⟩:=hF
     have e0:=gq (vals 0) g0
     have e1:=gq (vals 1) g1
     have e2:=gq (vals 2) g2
     have e3:=gq (vals 3) g3
     have e6:=gq (vals 6) g6
     have e7:=gq (vals 7) g7
     have e8:=gq (vals 8) g8
     have e9:=gq (vals 9) g9
     have e11:=gq (vals 11) g11
     have e12:=gq (vals 12) g12
     replace g15: ∃a cc,(vals 15)= .slice a (V.length+1) cc∧RowOwn vecE w w3 w.heap.size 35 (.slice a (V.length+1) cc) (V++[kk.vec]):=g15 rfl
     replace g16: ∃a cc,(vals 16)= .slice a (D.length+kk.more.length+1) cc∧w3.ownsRow w.heap.size 41 2 (.slice a (D.length+kk.more.length+1) cc) (D.length+kk.more.length+1) (spansCells (D++(kk.more++[(ds,dcc)]))):=g16 rfl
     simp only[Cl3.puts,e0,e1,e2,e3,e6,e7,e8,e9,e11,e12]
     clear e0 e1 e2 e3 e6 e7 e8 e9 e11 e12 g0 g1 g2 g3 g4 g5 g6 g7 g8 g9 g10 g11 g12 g13 g14
     go_simp
     generalize vals 15=vv2 at*
     generalize vals 16=dv2 at*
     obtain⟨a8,c8,rfl,h8⟩:=g15
     obtain⟨a9,c9,rfl,h9⟩:=g16
     have H8:=jD h8
     have H9:=jD h9
     have HG3:=jD hg
     clear h8 h9 hg
     go_wp2
     go_roundw
     case rel=>exact ⟨k+1,by omega,by go_num,by rw[HN.out];exact ⟨HEQ.out _ HG3.out,by rw[HVM.out];exact H8.out,by rw[HDM.out,List.length_append,List.length_append,←Nat.add_assoc];exact H9.out,HG3.out.bel⟩⟩
     case measure=>simp [intOf] <;> omega
  ·obtain rfl:k=l.length:=by omega
   rw[List.take_length] at HS
   have hks: ∀v∈getL l id,VerOk v:=fun v hv=>HS0.out.ok v (List.mem_filter.1 hv).1
   have h1:(getL l id).length≤60:=Nat.le_trans (List.length_filter_le _ _) HS0.out.len
   have h2:=pastD_len (l:=getL l id) fun v hv=>(hks v hv).len
   have hm:=made_f _ _ ((pastK (getL l id)).map Kn.vec) (pastD (getL l id)) (pastP (getL l id)) wr (HS.out.vec.at_ (Sub.of_below HS.out.bel) (by unfold pastK;rw [List.length_map,List.length_map];omega)) (CellsAt.of_owns HS.out.dot (by omega)) (gvecs_ok fun kk hkk=>by obtain⟨v,hv,rfl⟩:=List.mem_map.1 hkk;exact (hks v hv).past) (pastD_ok hks) (by omega)
    (fun s c h0 h5 h3 h4=>past_gather _ h3)
   have HM:=jD hm
   have HRES:=jD HS.out.res
   have HBEL:=jD HS.out.bel
   have HF:=jD (show formK (pastP (getL l id))=pastF l id from rfl)
   have HKE:=jD (show kE (pastF l id)=if 60 < (pastF l id).more.length then 2 else 0 from rfl)
   have hml:(pastF l id).more.length≤5005:=formM_len _
   obtain⟨va,vc,hvv⟩:=HS.out.vec.shape
   obtain⟨da,dc,hdv⟩:=owns_slice HS.out.dot
   subst hvv hdv
   clear hks h1 h2 hm HS HVL HS0
   rw[HF.out] at HM
   clear HF
   generalize (pastK (getL l id)).map Kn.vec=V at*
   generalize pastD (getL l id)=D at*
   generalize hkf:pastF l id=kf at*
   have HKF:=jD hkf
   clear hkf
   go_wp2_with fail
   (with_reducible refine(HM.out).mono ?_)
   rintro e w3 ⟨u,x,rfl,hko,hb3⟩
   obtain⟨B2,hB2⟩: ∃B2,B2=w3.heap.size:=⟨_,rfl⟩
   obtain⟨ua,uc,hu⟩:=owns_slice hko.vec
   obtain⟨xa,xc,hx⟩:=owns_slice hko.more
   subst hu hx
   obtain⟨w4,hw4⟩: ∃w4,w4=w3.alloc (.cells #[.slice ua kf.vec.length uc, .slice xa kf.more.length xc] 73):=⟨_,rfl⟩
   have hb4:Below w3.heap.size w3 w4:=by rw[hw4];exact bal _
   have HK4:=jD ((hko.mono HBEL.out.size).below hb4)
   have HB4:=jD (show w4.heap[B2]? =some (Obj.cells #[.slice ua kf.vec.length uc, .slice xa kf.more.length xc] 73 (0,0)) by rw[hw4];exact alloc_new _ _ _ _ hB2)
   have HR:=jD (below_keep hb4 (below_keep hb3 HRES.out))
   have HBL:=jD (bstep (bstep HBEL.out hb3) hb4)
   have hne:w.heap.size≠B2:=by have:=hlt_of (below_keep hb3 HRES.out);omega
   clear hko hb3 hb4 HM HRES HBEL
   have e0:=cell_of_block (j:=0) HB4.out rfl
   have e1:=cell_of_block (j:=1) HB4.out rfl
   have hBl:=hlt_of HB4.out
   have r0:=cell_of_block (j:=0) HR.out rfl
   have r1:=cell_of_block (j:=1) HR.out rfl
   have f0:=free_of_block (j:=0) HR.out
   have f1:=free_of_block (j:=1) HR.out
   have hRl:=hlt_of HR.out
   subst hw4
   subst hB2
   by_cases h60:60 < kf.more.length
   ·have H:=jD (show pastE l id=2 by rw[HE.out,HKE.out,if_pos h60])
    have hb60:decide ((60:Int) < (kf.more.length:Int))=true:=by rw[decide_eq_true_eq];omega
    clear HE HKE
    go_wp2
    refine bodyPost_ret (v:= .tuple #[.agg #[_,_],_]) (by simp[results,Tryz.results64,go_sem, *];first | exact⟨⟨rfl,rfl⟩,rfl⟩ | exact⟨rfl,rfl⟩ | rfl) rfl ?_
    exact⟨_,_,by rw[H.out], .inr ⟨by rw[H.out];decide,rfl,rfl⟩,(HBL.out.setCell (by simp) _).setCell (by simp) _⟩
   ·have H:=jD (show pastE l id=0 by rw[HE.out,HKE.out,if_neg h60])
    have hb60:decide ((60:Int) < (kf.more.length:Int))=false:=by rw[decide_eq_false_iff_not];omega
    clear HE HKE
    go_wp2
    refine bodyPost_ret (v:= .tuple #[.agg #[_,_],_]) (by simp[results,Tryz.results64,go_sem, *];first | exact⟨⟨rfl,rfl⟩,rfl⟩ | exact⟨rfl,rfl⟩ | rfl) rfl ?_
    exact⟨.slice ua kf.vec.length uc, .slice xa kf.more.length xc,by rw[H.out],by rw[HKF.out];exact .inl ⟨H.out,⟨own_set (own_set HK4.out.vec HR.out (by decide)) (heap_set_same HR.out) (by decide),own_set (own_set HK4.out.more HR.out (by decide)) (heap_set_same HR.out) (by decide)⟩⟩,(HBL.out.setCell (by simp) _).setCell (by simp) _⟩
end Go.Proofs.YtgkgdedhicnohaaGreat
