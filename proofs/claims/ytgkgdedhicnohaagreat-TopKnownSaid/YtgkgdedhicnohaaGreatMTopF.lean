/- What reedtop begins with: begun, filters. Written by a small program (gen/topf.py). What slices.Clone does at [][]reedmace/api.Box. Written by a small program (gen/clone.py). The filters of a town and one more: cloned, appended. What reedtop.sites does. Written by a small program (gen/tops.py). -/
import Derived.Test.YtgkgdedhicnohaaGreatMTownF
import Derived.Test.YtgkgdedhicnohaaGreatChecked
namespace Go.Proofs.YtgkgdedhicnohaaGreat
set_option maxRecDepth 100000
set_option maxHeartbeats 40000000
open Go.RowKit
theorem every_cnt:cntE everyB=512:=by decide+kernel
theorem topBegun_c (w:World):Calls Tryz.prog 10 #[] w fun e w'=>e= .returned (.bool true)∧Below w.heap.size w w':=by
 go_enter Tryz.func10,Tryz.ntmps10
 go_wp2_with fail
 (with_reducible refine(everyS w).mono ?_)
 rintro e w1 ⟨ev,rfl,hev,hb⟩
 have HEV:=jD (hev.at_ok every_chk)
 have HB1:=jD hb
 obtain⟨ea,ec,hevs⟩:=HEV.out.shape
 subst hevs
 have HC:=jD (countf_c _ everyB w1 HEV.out)
 rw[every_cnt,every_chk] at HC
 clear hev hb
 go_wp2_with fail
 (with_reducible refine(HC.out).mono ?_)
 rintro e w2 ⟨rfl,hb⟩
 have HB2:=jD (bstep HB1.out hb)
 clear hb HC
 go_wp2
 go_ret
 exact⟨rfl,HB2.out⟩
theorem topfilters_c (fv:Value) (l:List Bxs) (w:World) (hl:RowAt bxsE w fv l):Calls Tryz.prog 11 #[fv] w (FltPost w 3 3):=by
 obtain⟨fa,fc,rfl,hlc, -, -, -⟩:=hl.open_
 obtain⟨n,hn⟩: ∃n,n=min l.length 3:=⟨_,rfl⟩
 have hn1:n≤l.length:=by omega
 have hn2:n≤3:=by omega
 have hn3:n≤fc:=by omega
 have hmin:min (l.length:Int) 3=(n:Int):=by omega
 have HL:=jD (RowAt.take hl n hn1)
 clear hl hn
 go_enter Tryz.func11,Tryz.ntmps11
 have F0:=jD (show FlSt w w (.slice none 0 0) [] from⟨Below.refl _ _,[],World.ownsRow_nil _ _ _ _,rfl,fun i a=>absurd a (by simp)⟩)
 go_wp2
 go_loopw [12,3] (fun i ov wr=> ∃k:Nat,k≤n∧i= .int .i64 k∧ ∃R,FlSt w wr ov R∧R.length≤k) (fun i _ _=>n - (intOf i).toNat)
 case atStart=>exact ⟨0,Nat.zero_le _,rfl,_,F0.out,by simp⟩
 case round=>
  clear F0
  obtain⟨k,hk,rfl,R,hst,hr2⟩:=hrel
  have HST:=jD hst
  obtain⟨hbl,vs,h2,h3,h4⟩:=hst
  obtain⟨oa,oc,hov⟩:=owns_slice h2
  subst hov
  by_cases hlt:k < n
  rotate_left
  ·have hkb:decide ((k:Int) < (n:Int))=false:=by simp;omega
   clear h2 h3 h4 hbl
   go_wp2
   go_loopw [3] (fun ov wr=> ∃R,FlSt w wr ov R∧R.length≤3) (fun ov _=>3 - sliceLen ov)
   case atStart=>exact ⟨R,HST.out,by omega⟩
   case round=>
    clear HST
    obtain⟨R2,hst,hr4⟩:=hrel
    have HST:=jD hst
    obtain⟨hbl,vs,h2,h3,h4⟩:=hst
    obtain⟨pa,pc,hpv⟩:=owns_slice h2
    subst hpv
    by_cases hl3:R2.length < 3
    rotate_left
    ·have hd:decide ((R2.length:Int) < 3)=false:=by simp;omega
     clear h2 h3 h4 hbl
     go_wp2
     go_ret
     obtain⟨h5,h6⟩:=HST.out.row (by omega)
     exact⟨R2,pa,pc,rfl,h5,h6,by omega,hr4,HST.out.bel⟩
    have hd:decide ((R2.length:Int) < 3)=true:=by simp;omega
    have H2:=jD h2
    have H3:=jD h3
    have H4:=jD h4
    have HBL:=jD hbl
    clear h2 h3 h4 hbl
    go_wp2_with fail
    (with_reducible refine(everyS _).mono ?_)
    rintro e w5 ⟨ev5,rfl,hev5,hb5⟩
    obtain⟨ea5,ec5,hevs⟩:=(hev5.at_ok every_chk).shape
    subst hevs
    have HE5:=jD (show FEl w w5 (.slice ea5 everyB.length ec5) everyB from⟨every_chk,⟨_,_,rfl⟩, .inr (BxsOwn.mono hev5 HBL.out.size)⟩)
    have HR5:=jD (owns_below H2.out hb5)
    have H45:=jD (fun i (a:i < vs.length) (b:i < R2.length)=>(H4.out i a b).tk (TKeep.of_below (T:=fun t=>t != 33) hb5))
    have HB5:=jD (bstep HBL.out hb5)
    have HR6:=jD (owns_below HR5.out (bal (W:=w5) (.cells #[.slice ea5 everyB.length ec5] 33)))
    have HN:=jD (show ∀j u,[Value.slice ea5 everyB.length ec5][j]? =some u→(w5.alloc (.cells #[.slice ea5 everyB.length ec5] 33)).cell? ((⟨w5.heap.size,0,none⟩:Addr).add j)=some u from fun j u hj=>by
     rw[Addr.add_lit,Nat.zero_add]
     exact cell_of_block (j:=j) (alloc_new _ _ _ _ rfl) (by simpa using hj))
    have hbs:w.heap.size≤(w5.alloc (.cells #[.slice ea5 everyB.length ec5] 33)).heap.size:=by have:=HB5.out.size;rw [World.size_alloc];omega
    clear hev5 hb5 HST
    go_wp2_with (at_builtin;refine wpList_append_ownS rfl (.tmp 27) (.tmp 29) 22 rfl w.heap.size 33 (.slice none 0 0) 1 24 Tryz.underlying22 FsTy.info rfl (by decide) _ R2.length vs rfl HR6.out ⟨w5.heap.size,0,none⟩ 1 1 _ rfl rfl HN.out (by intro u hu;simp only[List.mem_singleton] at hu;subst hu;rfl) (by unfold maxLen;omega) (by omega) hbs ?_)
    intro v9 w9 A
    obtain⟨va,vc,hva⟩:=owns_slice A.own
    subst hva
    have HA:=jD A
    clear A hbs
    go_wp2
    go_roundw
    case rel=>exact ⟨R2++[everyB],FlSt.push HB5.out (bal _) HR5.out H3.out H45.out HE5.out HA.out,by simp;omega⟩
    case measure=>simp [sliceLen];omega
  have hkb:decide ((k:Int) < (n:Int))=true:=by simp;omega
  obtain⟨a7,c7,ha7, -, -, -,hvl7⟩:=HL.out.open_
  simp only[Value.slice.injEq] at ha7
  obtain⟨rfl, -,rfl⟩:=ha7
  have hltk:k < (l.take n).length:=by rw[List.length_take];omega
  rcases hvl7 with hnil | ⟨b7,off,rfl,hb7,hc7⟩
  ·rw[hnil] at hltk;simp at hltk
  obtain⟨cc,⟨v,rfl,hv⟩,hcc⟩:=hc7 k hltk
  have c0:=(hbl.cell (p:=⟨b7,off+k,none⟩) hb7).trans (by have:=hcc 0 _ rfl;simpa [bxsE] using this)
  generalize (l.take n)[k]=F at*
  obtain⟨xa,xc,hxv⟩:=hv.shape
  subst hxv
  have HV:=jD hv
  have H2:=jD h2
  have H3:=jD h3
  have H4:=jD h4
  have HBL:=jD hbl
  clear h2 h3 h4 hc7 hcc hv hbl
  go_wp2_with fail
  clear c0
  (with_reducible refine(fChk_c _ F _ (HV.out.below HBL.out)).mono ?_)
  rintro e w5 ⟨rfl,hb5⟩
  have HB5:=jD (bstep HBL.out hb5)
  have HST5:=jD (HST.out.below hb5)
  have HR5:=jD (owns_below H2.out hb5)
  have H45:=jD (fun i (a:i < vs.length) (b:i < R.length)=>(H4.out i a b).tk (TKeep.of_below (T:=fun t=>t != 33) hb5))
  clear hb5
  by_cases hz:fChk F=0
  rotate_left
  ·have hd:(fChk F==0)=false:=by simpa using hz
   have hd2:decide (fChk F=0)=false:=by simpa using hz
   go_wp2
   go_roundw
   case rel=>exact ⟨k+1,by omega,by go_num,R,HST5.out,by omega⟩
   case measure=>simp [intOf] <;> omega
  have HZ:=jD hz
  have HE5:=jD (show FEl w w5 (.slice xa F.length xc) F from⟨hz,⟨_,_,rfl⟩, .inl HV.out⟩)
  rw[hz]
  clear hz
  have HR6:=jD (owns_below HR5.out (bal (W:=w5) (.cells #[.slice xa F.length xc] 33)))
  have HN:=jD (show ∀j u,[Value.slice xa F.length xc][j]? =some u→(w5.alloc (.cells #[.slice xa F.length xc] 33)).cell? ((⟨w5.heap.size,0,none⟩:Addr).add j)=some u from fun j u hj=>by
   rw[Addr.add_lit,Nat.zero_add]
   exact cell_of_block (j:=j) (alloc_new _ _ _ _ rfl) (by simpa using hj))
  have hbs:w.heap.size≤(w5.alloc (.cells #[.slice xa F.length xc] 33)).heap.size:=by have:=HB5.out.size;rw [World.size_alloc];omega
  go_wp2_with (at_builtin;refine wpList_append_ownS rfl (.tmp 19) (.tmp 21) 22 rfl w.heap.size 33 (.slice none 0 0) 1 24 Tryz.underlying22 FsTy.info rfl (by decide) _ R.length vs rfl HR6.out ⟨w5.heap.size,0,none⟩ 1 1 _ rfl rfl HN.out (by intro u hu;simp only[List.mem_singleton] at hu;subst hu;rfl) (by unfold maxLen;omega) (by omega) hbs ?_)
  intro v9 w9 A
  obtain⟨va,vc,hva⟩:=owns_slice A.own
  subst hva
  have HA:=jD A
  clear A hbs
  go_wp2
  go_roundw
  case rel=>exact ⟨k+1,by omega,by go_num,R++[F],FlSt.push HB5.out (bal _) HR5.out H3.out H45.out HE5.out HA.out,by simp;omega⟩
  case measure=>simp [intOf] <;> omega
theorem FsCTy.info:(Tryz.prog.info? 33).map (fun i=>(i.zero,i.size,i.bytes))=some (some (.slice none 0 0),1,24):=by kernel_rfl
theorem FsCClone_c (v:Value) (n:Nat) (xs:List Value) (w:World) (hs:CellsAt w v n xs) (hl:xs.length=n*1) (h1: ∀u∈xs,u.oneCell'=true) (hb:n*24≤140737488355328):
  Calls Tryz.prog 14 #[v] w fun e w'=> ∃v',e= .returned v'∧w'.ownsRow w.heap.size 33 1 v' n xs∧Below w.heap.size w w':=by
 obtain⟨i0,hi,hz0,hz1,hz2⟩:=info_parts FsCTy.info
 have hs0:=hs
 obtain⟨a,cap,rfl,hn,hm,h0,hc⟩:=hs
 cases a with
 | none=>
  obtain rfl:=h0 rfl
  obtain rfl:n=0:=by omega
  obtain rfl:xs=[]:=List.eq_nil_of_length_eq_zero (by simpa using hl)
  clear hc hs0 h0 hn hm hl
  have heq:=Lib.run_eql_slice_nil (P:=Tryz.prog) w 22 33 none 0 0 0 0 Tryz.underlying22
  go_enter Tryz.func14,Tryz.ntmps14
  go_wp2
  go_ret
  exact⟨_,rfl,World.ownsRow_nil _ _ _ _,Below.refl _ _⟩
 | some ad=>
  have HS:=jD (hs0.below (bal (.cells #[] 33)))
  have HO:=jD (litOwn w w.heap.size 1 33 #[] 0 _ rfl (Nat.le_refl _) (by decide) rfl)
  have HL:=jD hl
  clear hc hs0 h0 hl
  have heq:=Lib.run_eql_slice_nil (P:=Tryz.prog) w 22 33 (some ad) n cap 0 0 Tryz.underlying22
  go_enter Tryz.func14,Tryz.ntmps14
  go_wp2_with (at_builtin;refine wpList_append_cells (w0:=w) rfl (.tmp 5) (.tmp 6) 22 rfl w.heap.size 33 (.slice none 0 0) 1 24 Tryz.underlying22 FsCTy.info rfl (by decide) _ 0 [] rfl HO.out _ n xs rfl HS.out HL.out h1 (bal _) (by simp) (by unfold maxLen;omega) (by omega) ?_)
  intro v' w1 hown hb1
  go_wp2
  go_ret
  exact⟨_,rfl,by simpa using hown,hb1⟩
theorem els_vals {w:World} : ∀ {R:List Bxs} {css:List (List Value)},Els bxsE w R css→css.flatten.length=R.length∧(∀u∈css.flatten,u.oneCell'=true)∧ ∀i (h:i < css.flatten.length) (h2:i < R.length),BxsAt w css.flatten[i] R[i]
 | [],[],_=>⟨rfl,by simp,fun i h=>absurd h (by simp)⟩
 | F::R,c::css,h=>by
  obtain⟨⟨v,rfl,hv⟩,h2⟩:=h
  obtain⟨e1,e2,e3⟩:=els_vals h2
  refine⟨by simp[e1],fun u hu=> ?_,fun i a b=> ?_⟩
  ·rcases List.mem_cons.1 (by simpa using hu:u∈v::css.flatten) with rfl | hu
   ·obtain⟨x,y,rfl⟩:=hv.shape;rfl
   ·exact e2 u hu
  ·cases i with
   | zero=>exact hv
   | succ i=>exact e3 i (by simpa using a) (by simpa using b)
theorem row_vals {w:World} {v:Value} {R:List Bxs} (h:RowAt bxsE w v R): ∃vs,vs.length=R.length∧CellsAt w v R.length vs∧(∀u∈vs,u.oneCell'=true)∧ ∀i (h:i < vs.length) (h2:i < R.length),BxsAt w vs[i] R[i]:=by
 obtain⟨css,he,hc⟩:=h
 obtain⟨e1,e2,e3⟩:=els_vals he
 exact⟨css.flatten,e1,hc,e2,e3⟩
theorem cloneF_c (v:Value) (R:List Bxs) (w:World) (hR:RowAt bxsE w v R) (hc: ∀F∈R,fChk F=0) (hn:R.length≤1000):
  Calls Tryz.prog 14 #[v] w fun e w'=> ∃v',e= .returned v'∧FlSt w w' v' R:=by
 obtain⟨vs,h1,h2,h3,h4⟩:=row_vals hR
 refine(FsCClone_c v R.length vs w h2 (by rw[h1,Nat.mul_one]) h3 (by omega)).mono fun e w' hh=> ?_
 obtain⟨v',e1,e2,e3⟩:=hh
 refine⟨v',e1,e3,vs,e2,h1,fun i a b=>⟨hc _ (List.getElem_mem b), ?_, .inl (h4 i a b)⟩⟩
 exact(h4 i a b).shape
theorem topSites_c (fv:Value) (R:List Bxs) (w:World) (hR:RowAt bxsE w fv R) (hc: ∀F∈R,fChk F=0) (h3:R.length=3):
  Calls Tryz.prog 12 #[fv] w fun e w'=> ∃a c gs,e= .returned (.tuple #[.slice a 4 c, .bool true])∧w'.ownsRow w.heap.size 43 1 (.slice a 4 c) 4 (ptrs gs)∧SitesAt w' w.heap.size gs (newL (R++[everyB]))∧Below w.heap.size w w':=by
 have HCL:=jD (cloneF_c fv R w hR hc (by omega))
 obtain⟨fa,fc,rfl⟩:=hR.shape
 have H3:=jD h3
 clear hR hc h3
 go_enter Tryz.func12,Tryz.ntmps12
 go_wp2_with fail
 (with_reducible refine(HCL.out).mono ?_)
 rintro e w1 ⟨v1,rfl,hst⟩
 obtain⟨hbl,vs,q2,q3,q4⟩:=hst
 obtain⟨oa,oc,hov⟩:=owns_slice q2
 subst hov
 have H2:=jD q2
 have HV3:=jD q3
 have H4:=jD q4
 have HBL:=jD hbl
 clear q2 q3 q4 hbl HCL
 go_wp2_with fail
 (with_reducible refine(everyS _).mono ?_)
 rintro e w5 ⟨ev5,rfl,hev5,hb5⟩
 obtain⟨ea5,ec5,hevs⟩:=(hev5.at_ok every_chk).shape
 subst hevs
 have HE5:=jD (show FEl w w5 (.slice ea5 everyB.length ec5) everyB from⟨every_chk,⟨_,_,rfl⟩, .inr (BxsOwn.mono hev5 HBL.out.size)⟩)
 have HR5:=jD (owns_below H2.out hb5)
 have H45:=jD (fun i (a:i < vs.length) (b:i < R.length)=>(H4.out i a b).tk (TKeep.of_below (T:=fun t=>t != 33) hb5))
 have HB5:=jD (bstep HBL.out hb5)
 have HR6:=jD (owns_below HR5.out (bal (W:=w5) (.cells #[.slice ea5 everyB.length ec5] 33)))
 have HN:=jD (show ∀j u,[Value.slice ea5 everyB.length ec5][j]? =some u→(w5.alloc (.cells #[.slice ea5 everyB.length ec5] 33)).cell? ((⟨w5.heap.size,0,none⟩:Addr).add j)=some u from fun j u hj=>by
  rw[Addr.add_lit,Nat.zero_add]
  exact cell_of_block (j:=j) (alloc_new _ _ _ _ rfl) (by simpa using hj))
 have hbs:w.heap.size≤(w5.alloc (.cells #[.slice ea5 everyB.length ec5] 33)).heap.size:=by have:=HB5.out.size;rw [World.size_alloc];omega
 clear hev5 hb5
 go_wp2_with (at_builtin;refine wpList_append_ownS rfl (.tmp 10) (.tmp 12) 22 rfl w.heap.size 33 (.slice none 0 0) 1 24 Tryz.underlying22 FsTy.info rfl (by decide) _ R.length vs rfl HR6.out ⟨w5.heap.size,0,none⟩ 1 1 _ rfl rfl HN.out (by intro u hu;simp only[List.mem_singleton] at hu;subst hu;rfl) (by have:=H3.out;unfold maxLen;omega) (by have:=H3.out;omega) hbs ?_)
 intro v9 w9 A
 obtain⟨va,vc,hva⟩:=owns_slice A.own
 subst hva
 have HFS:=jD (FlSt.push HB5.out (bal _) HR5.out HV3.out H45.out HE5.out A)
 have HB9:=jD HFS.out.bel
 obtain⟨hrow,hchk⟩:=HFS.out.row (by have:=H3.out;simp;omega)
 obtain⟨l,hl⟩: ∃l,l=R++[everyB]:=⟨_,rfl⟩
 have hll:l.length=4:=by rw[hl];simp [H3.out]
 rw[←hl] at hrow hchk
 have HL0:=jD hl
 have hl1:R.length+1=4:=by have:=H3.out;omega
 rw[hl1] at hrow ⊢
 have HLL:=jD hll
 have HC:=jD hchk
 obtain⟨a',c',hac, -, -, -,hvl⟩:=hrow.open_
 simp only[Value.slice.injEq] at hac
 obtain⟨rfl, -,rfl⟩:=hac
 have HVL:=jD hvl
 have M0:=jD (show(∃gs,w9.ownsRow w9.heap.size 43 1 (.slice none 0 0) (l.take 0).length (ptrs gs)∧SitesAt w9 w9.heap.size gs (newL (l.take 0))) from⟨[],World.ownsRow_nil _ _ _ _,SitesAt.nil _ _⟩)
 clear A hbs hvl hrow hchk hl hl1 HFS H2 HV3 H4 HBL HE5 HR5 H45 HB5 HR6 HN
 go_wp2
 go_loopw [15,4] (fun i ov wr=> ∃k:Nat,k≤4∧i= .int .i64 k∧Below w9.heap.size w9 wr∧ ∃gs,wr.ownsRow w9.heap.size 43 1 ov (l.take k).length (ptrs gs)∧SitesAt wr w9.heap.size gs (newL (l.take k))) (fun i _ _=>4 - (intOf i).toNat)
 case atStart=>exact ⟨0,by omega,rfl,Below.refl _ _,M0.out⟩
 case round=>
  clear M0
  obtain⟨k,hk,rfl,hbel,gs,hgr,hgs⟩:=hrel
  obtain⟨sa,sc,hov⟩:=owns_slice hgr
  subst hov
  have HB2:=jD hbel
  have HROW:=jD hgr
  have HSS:=jD hgs
  clear hgr hgs
  by_cases hlt:k < 4
  rotate_left
  ·obtain rfl:k=4:=by omega
   have hkb:decide (((4:Nat):Int) < 4)=false:=by decide
   have htk:l.take 4=l:=List.take_of_length_le (by omega)
   have htl:(l.take 4).length=4:=by rw[htk];exact hll
   rw[htl] at HROW
   clear hbel hll
   go_wp2
   go_ret2
   have h1:=HSS.out
   rw[htk,HL0.out] at h1
   exact⟨sa,sc,gs,by first | rfl | (rw[htl];rfl),⟨HROW.out.1,HROW.out.2.imp id fun ⟨q,cap,cur,e1,e2,e3⟩=>⟨q,cap,cur,e1,Nat.le_trans HB9.out.size e2,e3⟩⟩,⟨h1.len,h1.nd,fun i a b=>SiteAt.mono (h1.each i a b) HB9.out.size⟩,bstep HB9.out HB2.out⟩
  rcases HVL.out with hnil | ⟨b,off,rfl,hb,hcl⟩
  ·rw[hnil] at hll;simp at hll
  have hltl:k < l.length:=by omega
  obtain⟨cc,⟨v,rfl,hv⟩,hcc⟩:=hcl k hltl
  have c0:=hbel.cell (p:=⟨b,off+k,none⟩) hb |>.trans (by have:=hcc 0 _ rfl;simpa [bxsE] using this)
  have HBX:=jD (hv.below hbel)
  have HCK:=jD (HC.out _ (List.getElem_mem hltl))
  have HTK:=jD (show l.take (k+1)=l.take k++[l[k]] from List.take_succ_eq_append_getElem hltl)
  have HTL:=jD (show(l.take k).length=k by rw[List.length_take];omega)
  generalize l[k]=F at*
  generalize l.take k=lk at*
  obtain⟨xa,xc,hvv⟩:=hv.shape
  subst hvv
  have hkb:decide ((k:Int) < 4)=true:=by simp;omega
  clear hbel hv hcl hcc hll hltl
  go_wp2_with fail
  clear c0
  (with_reducible refine(snew_c k _ F wr (by omega) HBX.out HCK.out).mono ?_)
  rintro e w2 ⟨gn,rfl,hs,hb2⟩
  have HS:=jD (SiteAt.mono hs HB2.out.size)
  have HBN:=jD (bstep HB2.out hb2)
  have HGN:=jD (show gn∉gs from fun hm=>by
   obtain⟨i,hi,e⟩:=List.getElem_of_mem hm
   have h4:=(HSS.out.each i hi (by have:=HSS.out.len;omega)).lt
   have h5:=hs.ge
   omega)
  have HROW2:=jD (owns_below HROW.out hb2)
  have HSS2:=jD (HSS.out.below hb2)
  clear hs hb2
  have HN:=jD (show ∀j u,[Value.pointer (some ⟨gn,0,none⟩)][j]? =some u→(w2.alloc (.cells #[.pointer (some ⟨gn,0,none⟩)] 43)).cell? ((⟨w2.heap.size,0,none⟩:Addr).add j)=some u from fun j u hj=>by
   rw[Addr.add_lit,Nat.zero_add]
   exact cell_of_block (j:=j) (alloc_new _ _ _ _ rfl) (by simpa using hj))
  have HR4:=jD (owns_below HROW2.out (bal (W:=w2) (.cells #[.pointer (some ⟨gn,0,none⟩)] 43)))
  have hbs:w9.heap.size≤(w2.alloc (.cells #[.pointer (some ⟨gn,0,none⟩)] 43)).heap.size:=by have:=HBN.out.size;rw [World.size_alloc];omega
  have hl5:lk.length≤4:=by have:=HTL.out;omega
  go_wp2_with (at_builtin;refine wpList_append_ownS rfl (.tmp 28) (.tmp 30) 26 rfl w9.heap.size 43 (.pointer none) 1 8 Tryz.underlying26 PtrTy.info rfl (by decide) _ lk.length (ptrs gs) rfl HR4.out ⟨w2.heap.size,0,none⟩ 1 1 _ rfl rfl HN.out (by intro u hu;simp only[List.mem_singleton] at hu;subst hu;rfl) (by unfold maxLen;omega) (by omega) hbs ?_)
  intro v9 w8 A
  obtain⟨ua,uc,hua⟩:=owns_slice A.own
  subst hua
  have S9:=jD ((Stp.of_below (G:=fun q=>(Value.slice sa lk.length sc).ownBlock=some q) (bal (W:=w2) (.cells #[.pointer (some ⟨gn,0,none⟩)] 43))).trans (A.stp HR4.out (by decide)))
  have HA:=jD A
  have HBZ:=jD ((HBN.out.alloc (by have:=HBN.out.size;omega) _).grown A.grown hbs (fun q hq=>(HR4.out.lt q hq).1))
  clear A hbs
  go_wp2
  go_roundw
  case rel=>
   refine⟨k+1,by omega,by go_num,HBZ.out,gs++[gn], ?_⟩
   rw[HTK.out]
   have hoff: ∀q,q∈gs++[gn]→ ¬(Value.slice sa lk.length sc).ownBlock=some q:=fun q hq he=>by
    have hty: ∃cs,w2.heap[q]? =some (Obj.cells cs 128 (0,0)):=by
     rcases List.mem_append.1 hq with hq | hq
     ·obtain⟨i,hi,rfl⟩:=List.getElem_of_mem hq
      exact(HSS2.out.each i hi (by have:=HSS2.out.len;omega)).ty
     ·rw[List.mem_singleton.1 hq];exact HS.out.ty
    obtain⟨cs,hcs⟩:=hty
    exact own_off HROW2.out hcs (by decide) he
   refine⟨?_, ?_⟩
   ·have e1:ptrs (gs++[gn])=ptrs gs++[.pointer (some ⟨gn,0,none⟩)]:=by unfold ptrs;rw [List.map_append];rfl
    rw[e1,List.length_append,List.length_singleton]
    exact HA.out.own
   ·rw[newL_snoc,show newS ((lk.length:Nat):Int) (ptsOf F)=newS (k:Int) (ptsOf F) by rw[HTL.out]]
    exact(HSS2.out.snoc HS.out HGN.out).stp S9.out hoff
  case measure=>simp [intOf] <;> omega
end Go.Proofs.YtgkgdedhicnohaaGreat
