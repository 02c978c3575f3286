/- What part.at does: all that is known of a point. Written by a small program (gen/gath.py). What part.within and part.Within do. Written by a small program (gen/pwithin.py). What part.Within does. Written by a small program (gen/pwithin2.py). Package part, told by what parts say. -/
import Derived.Test.YtgkgdedhicnohaaGreatMGath
import Derived.Test.YtgkgdedhicnohaaGreatMPart5
namespace Go.Proofs.YtgkgdedhicnohaaGreat
set_option maxRecDepth 100000
set_option maxHeartbeats 40000000
open Go.RowKit
def atK (l:List Pt) (t n:Int):List Kn:=(l.filter fun x=>inF x.f t n).map Pt.k
theorem atK_snoc (l:List Pt) (x:Pt) (t n:Int):atK (l++[x]) t n=if inF x.f t n=true then atK l t n++[x.k] else atK l t n:=by
 unfold atK
 cases h:inF x.f t n <;> simp[List.filter_append,h]
theorem atK_any (l:List Pt) (t n s c:Int):(atK l t n).any (fun k=>knIn k s c)=ptsIn l t n s c:=by
 unfold atK ptsIn
 rw[List.any_map,List.any_filter]
 rfl
theorem atK_mem {l:List Pt} {t n:Int} {k:Kn} (h:k∈atK l t n): ∃x∈l,x.k=k:=by
 unfold atK at h
 obtain⟨x,hx,rfl⟩:=List.mem_map.1 h
 exact⟨x,(List.mem_filter.1 hx).1,rfl⟩
theorem atK_len (l:List Pt) (t n:Int):(atK l t n).length≤l.length:=by
 unfold atK;rw [List.length_map];exact List.length_filter_le _ _
structure AtSt (w:World) (t n:Int) (vv dv:Value) (ks:List Kn) (wr:World):Prop where
 pt:wr.heap[w.heap.size]? =some (Obj.cells #[.int .i64 t, .int .i64 n] 39 (0,0))
 res:wr.heap[w.heap.size+1]? =some (Obj.cells #[.slice none 0 0, .slice none 0 0] 73 (0,0))
 vec:RowOwn vecE w wr w.heap.size 35 vv (ks.map Kn.vec)
 dot:wr.ownsRow w.heap.size 41 2 dv (ks.flatMap Kn.more).length (spansCells (ks.flatMap Kn.more))
 bel:Below w.heap.size w wr
theorem AtSt.below {w:World} {t n:Int} {vv dv:Value} {ks:List Kn} {wr wr':World} (h:AtSt w t n vv dv ks wr) (hb:Below wr.heap.size wr wr'):AtSt w t n vv dv ks wr':=
 ⟨below_keep hb h.pt,below_keep hb h.res,h.vec.below hb,owns_below h.dot hb,bstep h.bel hb⟩
theorem at_c (v:Value) (l:List Pt) (t n:Int) (w:World) (hv:RowAt partE w v l) (hok: ∀x∈l,PtOk x) (hl30:l.length≤1000):
  Calls Tryz.prog 107 #[v, .agg #[.int .i64 t, .int .i64 n]] w fun e w'=> ∃u x,e= .returned (.agg #[u,x])∧KnOwn w' w.heap.size u x (formK fun s c=>ptsIn l t n s c)∧Below w.heap.size w w':=by
 obtain⟨a,cap,rfl,hcap,hlen, -,hvl⟩:=hv.open_
 have HVL:=jD hvl
 have HOK:=jD hok
 obtain⟨W,hW⟩: ∃W,W=(w.alloc (.cells #[.int .i64 t, .int .i64 n] 39)).alloc (.cells #[.slice none 0 0, .slice none 0 0] 73):=⟨_,rfl⟩
 have H0:=jD (show AtSt w t n (.slice none 0 0) (.slice none 0 0) (atK (l.take 0) t n) W from
  ⟨by rw[hW];exact alloc_keep _ (alloc_new _ _ _ _ rfl),by rw[hW];exact alloc_new _ _ _ _ (by simp),RowOwn.nil _ _ _ _,World.ownsRow_nil _ _ _ _,by rw[hW];exact (bal _).alloc (by simp) _⟩)
 clear hv hvl hok
 go_enter Tryz.func107,Tryz.ntmps107
 go_wp2_with fail
 rw[←hW]
 clear hW
 go_loopw [5,6,11] (fun vv dv i wr=> ∃k:Nat,k≤l.length∧i= .int .i64 k∧AtSt w t n vv dv (atK (l.take k) t n) wr) (fun _ _ i _=>l.length - (intOf i).toNat)
 case atStart=>exact ⟨0,Nat.zero_le _,rfl,H0.out⟩
 case round=>
  obtain⟨k,hk,rfl,hst⟩:=hrel
  have HS:=jD hst
  clear hst H0
  by_cases hlt:k < l.length
  ·rcases HVL.out with hnil | ⟨b,off,rfl,hb,hc⟩
   ·rw[hnil] at hlt;simp at hlt
   obtain⟨c,hE,hcc⟩:=hc k hlt
   obtain⟨FF,UU,XX,rfl,hfw,hkw⟩:=hE
   have hcl:=fun (j:Nat) (y:Value) (hy:[FF,UU,XX][j]? =some y)=>row3 (w:=wr) (b:=b) (off:=off) (i:=k) (fun j y hy=>(HS.out.bel.cell (p:=⟨b,off+(k*partE.size+j),none⟩) hb).trans (hcc j y hy)) hy
   have d0:=hcl 0 _ rfl
   have d1:=hcl 1 _ rfl
   have d2:=hcl 2 _ rfl
   rw[Nat.add_zero] at d0
   obtain⟨fa,fc,rfl⟩:=hfw.shape
   obtain⟨ua,uc,rfl⟩:=hkw.vec.shape
   obtain⟨xa,xc,rfl⟩:=hkw.more.shape
   have HT:=jD (show atK (l.take (k+1)) t n=if inF l[k].f t n=true then atK (l.take k) t n++[l[k].k] else atK (l.take k) t n by rw[List.take_succ_eq_append_getElem hlt,atK_snoc])
   have hk60:l[k].k.more.length≤60:=(knChk_zero.1 (HOK.out _ (List.getElem_mem hlt)).k).2
   have HKS:=jD (show(atK (l.take k) t n).length≤1000∧((atK (l.take k) t n).flatMap Kn.more).length≤60000 by
    have h1:=atK_len (l.take k) t n
    rw[List.length_take] at h1
    have h2:=gdots_len (ks:=atK (l.take k) t n) (m:=60) fun kk hkk=>by
     obtain⟨x,hx,rfl⟩:=atK_mem hkk
     exact(knChk_zero.1 (HOK.out _ (List.mem_of_mem_take hx)).k).2
    omega)
   obtain⟨BK,hBK⟩: ∃BK,BK=wr.heap.size:=⟨_,rfl⟩
   obtain⟨w1,hw1⟩: ∃w1,w1=wr.alloc (.cells #[.slice fa l[k].f.length fc, .slice ua l[k].k.vec.length uc, .slice xa l[k].k.more.length xc] 105):=⟨_,rfl⟩
   have hb1:Below wr.heap.size wr w1:=by rw[hw1];exact bal _
   have HB1:=jD (show w1.heap[BK]? =some (Obj.cells #[.slice fa l[k].f.length fc, .slice ua l[k].k.vec.length uc, .slice xa l[k].k.more.length xc] 105 (0,0)) by rw[hw1];exact alloc_new _ _ _ _ hBK)
   replace HS:=jD (HS.out.below hb1)
   have HIN:=jD (inf_c _ l[k].f t n _ (hfw.below HS.out.bel))
   have HKW:=jD hkw
   clear hc hcc hcl hfw hkw hb1
   generalize l[k]=pp at*
   obtain⟨ff,kk⟩:=pp
   simp only at*
   generalize atK (l.take k) t n=ks at*
   have e0:=cell_of_block (j:=0) HB1.out rfl
   have p0:=cell_of_block (j:=0) HS.out.pt rfl
   have p1:=cell_of_block (j:=1) HS.out.pt rfl
   have hPl:=hlt_of HS.out.pt
   rw[hw1] at e0 p0 p1 hPl
   rw[hBK] at e0
   go_wp2_with fail
   rw[←hBK,←hw1]
   clear hBK hw1
   (with_reducible refine(HIN.out).mono ?_)
   rintro e w2 ⟨rfl,hb2⟩
   replace HS:=jD (HS.out.below hb2)
   replace HB1:=jD (below_keep hb2 HB1.out)
   clear hb2 HIN e0 p0 p1 hPl d0 d1 d2
   cases hin:inF ff t n
   ·have HN:=jD (show atK (l.take (k+1)) t n=ks by rw[HT.out,hin];rfl)
    clear hin
    go_wp2
    go_roundw
    case rel=>exact ⟨k+1,by omega,by go_num,by rw[HN.out];exact HS.out⟩
    case measure=>simp [intOf] <;> omega
   ·have HN:=jD (show atK (l.take (k+1)) t n=ks++[kk] by rw[HT.out,hin];rfl)
    clear hin
    obtain⟨va,vc,hvv⟩:=HS.out.vec.shape
    obtain⟨da,dc,hdv⟩:=owns_slice HS.out.dot
    subst hvv hdv
    have hV1:(ks.map Kn.vec).length≤1000:=by rw[List.length_map];exact HKS.out.1
    have hD1:(ks.flatMap Kn.more).length≤60000:=HKS.out.2
    have HVM:=jD (show(ks++[kk]).map Kn.vec=ks.map Kn.vec++[kk.vec] by simp)
    have HDM:=jD (show(ks++[kk]).flatMap Kn.more=ks.flatMap Kn.more++kk.more by simp)
    have HV:=jD HS.out.vec
    have HD:=jD HS.out.dot
    obtain⟨EX,hEX⟩: ∃EX:List (Nat×Array Value×TypeId),EX=[(BK, #[.slice fa ff.length fc, .slice ua kk.vec.length uc, .slice xa kk.more.length xc],105),(w.heap.size, #[.int .i64 t, .int .i64 n],39),(w.heap.size+1, #[.slice none 0 0, .slice none 0 0],73)]:=⟨_,rfl⟩
    have HGS:=jD (show GSt w.heap.size w EX (.slice da (ks.flatMap Kn.more).length dc) w2 from⟨HS.out.bel,by
     rw[hEX];intro b hb
     simp only[List.mem_cons,List.not_mem_nil,or_false] at hb
     rcases hb with rfl | rfl | rfl
     ·exact⟨HB1.out,(by decide:105≠35),(by decide:105≠41)⟩
     ·exact⟨HS.out.pt,(by decide:39≠35),(by decide:39≠41)⟩
     ·exact⟨HS.out.res,(by decide:73≠35),(by decide:73≠41)⟩,fun k hk=>(HS.out.dot.lt k hk).2⟩)
    have HEX:=jD (fun (wz:World) (h:GSt w.heap.size w EX (.slice da (ks.flatMap Kn.more).length dc) wz)=>(show wz.heap[BK]? =some (Obj.cells #[.slice fa ff.length fc, .slice ua kk.vec.length uc, .slice xa kk.more.length xc] 105 (0,0)) by rw[hEX] at h;exact h.blk))
    have HEQ:=jD (fun (wz:World) (h:GSt w.heap.size w EX (.slice da (ks.flatMap Kn.more).length dc) wz)=>(show wz.heap[w.heap.size]? =some (Obj.cells #[.int .i64 t, .int .i64 n] 39 (0,0))∧wz.heap[w.heap.size+1]? =some (Obj.cells #[.slice none 0 0, .slice none 0 0] 73 (0,0)) by rw[hEX] at h;exact ⟨(h.ex (w.heap.size, #[.int .i64 t, .int .i64 n],39) (by simp)).1,(h.ex (w.heap.size+1, #[.slice none 0 0, .slice none 0 0],73) (by simp)).1⟩))
    clear hEX
    generalize ks.map Kn.vec=V at*
    generalize ks.flatMap Kn.more=D at*
    clear HS HB1
    go_wp2_with fail
    refine Cl3.region0 34 rfl (fun u=>match u with | 0=>[5] | _=>[10]) (fun u ww=>match u with | 0=>RowOwn vecE w ww w.heap.size 35 (.slice va V.length vc) V | _=>ww.ownsRow w.heap.size 41 2 (.slice da D.length dc) D.length (spansCells D)) (fun jq=>match jq with | 4=>[5] | _=>[]) (fun jq v ww=>match jq with | 0=>v= .slice va V.length vc | 1=>v= .pointer (some ⟨BK,1,none⟩) | 2=>v= .pointer (some ⟨BK,1,none⟩) | 3=>v= .slice ua kk.vec.length uc | 4=> ∃g,v= .slice (some ⟨g,0,none⟩) 1 1∧ww.heap[g]? =some (Obj.cells #[.slice ua kk.vec.length uc] 35 (0,0)) | 5=> ∃a cc,v= .slice a (V.length+1) cc∧RowOwn vecE w ww w.heap.size 35 (.slice a (V.length+1) cc) (V++[kk.vec]) | 6=>v= .slice da D.length dc | 7=>v= .pointer (some ⟨BK,1,none⟩) | 8=>v= .pointer (some ⟨BK,2,none⟩) | 9=>v= .slice xa kk.more.length xc | 10=> ∃a cc,v= .slice a (D.length+kk.more.length) cc∧ww.ownsRow w.heap.size 41 2 (.slice a (D.length+kk.more.length) cc) (D.length+kk.more.length) (spansCells (D++kk.more)) | 11=> ∃a cc,v= .slice a (V.length+1) cc∧RowOwn vecE w ww w.heap.size 35 (.slice a (V.length+1) cc) (V++[kk.vec]) | 12=> ∃a cc,v= .slice a (D.length+kk.more.length) cc∧ww.ownsRow w.heap.size 41 2 (.slice a (D.length+kk.more.length) cc) (D.length+kk.more.length) (spansCells (D++kk.more)) | _=>True) (fun ww=>GSt w.heap.size w EX (.slice da D.length dc) ww) (fun jq ww ww'=>(jq≠5→jq≠10→Below ww.heap.size ww ww')∧(jq=5→AppV w.heap.size 35 1 (.slice va V.length vc) ww ww')∧(jq=10→AppV w.heap.size 41 2 (.slice da D.length dc) ww ww')) Tryz.mixed (by decide+kernel) HGS.out.drew (fun u=>match u with | 0=>HV.out | _+1=>HD.out) ?_ (fun jq ww ww' u hk h hR=>match u,hk,h with | 0,hk,h=>(by obtain⟨css,h1,h2⟩:=h;refine ⟨css,h1, ?_⟩;by_cases e:jq=10;exact (hR.2.2 e).other h2 (by decide);exact owns_below h2 (hR.1 (by simpa using hk) e)) | _+1,hk,h=>(by by_cases e:jq=5;exact (hR.2.1 e).other h (by decide);exact owns_below h (hR.1 e (by simpa using hk)))) ?_ ?_
    ·intro q r v w w' hne hk hlt h hR
     match r,hk,hlt,h,hne with
     | 0,_,_,h,_=>exact h
     | 1,_,_,h,_=>exact h
     | 2,_,_,h,_=>exact h
     | 3,_,_,h,_=>exact h
     | 4,hk,hlt,h,hne=>
      by_cases h5:q=5
      ·exact absurd h5 (by intro e;subst e;first | exact absurd hlt (by decide+kernel) | exact absurd rfl hne | simp at hk)
      by_cases h10:q=10
      ·exact(let ⟨g,h1,h2⟩:=h;⟨g,h1,((hR.2.2 h10).keep h2 (by decide))⟩)
      have hb:=hR.1 h5 h10
      exact(let ⟨g,h1,h2⟩:=h;⟨g,h1,below_keep hb h2⟩)
     | 5,hk,hlt,h,hne=>
      by_cases h5:q=5
      ·exact absurd h5 (by intro e;subst e;first | exact absurd hlt (by decide+kernel) | exact absurd rfl hne | simp at hk)
      by_cases h10:q=10
      ·exact(let ⟨a,cc,h1,css,h2,h3⟩:=h;⟨a,cc,h1,css,h2,((hR.2.2 h10).other h3 (by decide))⟩)
      have hb:=hR.1 h5 h10
      exact(let ⟨a,cc,h1,css,h2,h3⟩:=h;⟨a,cc,h1,css,h2,owns_below h3 hb⟩)
     | 6,_,_,h,_=>exact h
     | 7,_,_,h,_=>exact h
     | 8,_,_,h,_=>exact h
     | 9,_,_,h,_=>exact h
     | 10,hk,hlt,h,hne=>
      by_cases h5:q=5
      ·exact(let ⟨a,cc,h1,h2⟩:=h;⟨a,cc,h1,((hR.2.1 h5).other h2 (by decide))⟩)
      by_cases h10:q=10
      ·exact absurd h10 (by intro e;subst e;first | exact absurd hlt (by decide+kernel) | exact absurd rfl hne | simp at hk)
      have hb:=hR.1 h5 h10
      exact(let ⟨a,cc,h1,h2⟩:=h;⟨a,cc,h1,owns_below h2 hb⟩)
     | 11,hk,hlt,h,hne=>
      by_cases h5:q=5
      ·exact absurd h5 (by intro e;subst e;first | exact absurd hlt (by decide+kernel) | exact absurd rfl hne | simp at hk)
      by_cases h10:q=10
      ·exact(let ⟨a,cc,h1,css,h2,h3⟩:=h;⟨a,cc,h1,css,h2,((hR.2.2 h10).other h3 (by decide))⟩)
      have hb:=hR.1 h5 h10
      exact(let ⟨a,cc,h1,css,h2,h3⟩:=h;⟨a,cc,h1,css,h2,owns_below h3 hb⟩)
     | 12,hk,hlt,h,hne=>
      by_cases h5:q=5
      ·exact(let ⟨a,cc,h1,h2⟩:=h;⟨a,cc,h1,((hR.2.1 h5).other h2 (by decide))⟩)
      by_cases h10:q=10
      ·exact absurd h10 (by intro e;subst e;first | exact absurd hlt (by decide+kernel) | exact absurd rfl hne | simp at hk)
      have hb:=hR.1 h5 h10
      exact(let ⟨a,cc,h1,h2⟩:=h;⟨a,cc,h1,owns_below h2 hb⟩)
     | _+13,_,_,_,_=>trivial
    ·refine⟨?_, ?_, ?_, ?_, ?_, ?_, ?_, ?_, ?_, ?_, ?_, ?_, ?_,trivial⟩
     ·intro x wx hG
      have f5:=hG.o 5
      replace hG:=hG.good
      go_wp2
      exact⟨_,rfl,rfl,hG,⟨fun _ _=>Below.refl _ _,fun h=>zd h,fun h=>zd h⟩⟩
     ·intro x wx hG
      have f8:=hG.o 8
      replace hG:=hG.good
      go_wp2
      exact⟨_,rfl,rfl,hG,⟨fun _ _=>Below.refl _ _,fun h=>zd h,fun h=>zd h⟩⟩
     ·intro x wx hG
      have g1:(x.tmps.getD 20 undef)= .pointer (some ⟨BK,1,none⟩):=hG.c 1 _ rfl
      replace hG:=hG.good
      go_wp2
      exact⟨_,rfl,rfl,hG,⟨fun _ _=>Below.refl _ _,fun h=>zd h,fun h=>zd h⟩⟩
     ·intro x wx hG
      have g2:(x.tmps.getD 21 undef)= .pointer (some ⟨BK,1,none⟩):=hG.c 2 _ rfl
      replace hG:=hG.good
      have hbk:=HEX.out _ hG
      have c1:=cell_of_block (j:=1) hbk rfl
      have hbl:=hlt_of hbk
      clear hbk
      go_wp2
      exact⟨_,rfl,rfl,hG,⟨fun _ _=>Below.refl _ _,fun h=>zd h,fun h=>zd h⟩⟩
     ·intro x wx hG
      have g3:(x.tmps.getD 22 undef)= .slice ua kk.vec.length uc:=hG.c 3 _ rfl
      have g3b:=gd g3
      replace hG:=hG.good
      go_wp2
      exact⟨_,rfl,⟨_,rfl,alloc_new _ _ _ _ rfl⟩,hG.alloc (Nat.le_refl _) _,⟨fun _ _=>bal _,fun h=>zd h,fun h=>zd h⟩⟩
     ·intro x wx hG
      have g0:(x.tmps.getD 19 undef)= .slice va V.length vc:=hG.c 0 _ rfl
      have g4: ∃g,(x.tmps.getD 23 undef)= .slice (some ⟨g,0,none⟩) 1 1∧wx.heap[g]? =some (Obj.cells #[.slice ua kk.vec.length uc] 35 (0,0)):=hG.c 4 _ rfl
      have hp0:=hG.p 0
      replace hG:=hG.good
      obtain⟨g9,hg1,hg2⟩:=g4
      obtain⟨css,hp1,hp2⟩:=hp0
      have hz:=g0
      have hzb:=hz
      rw[Array.getD_eq_getD_getElem?] at hzb
      have hg1b:=hg1
      rw[Array.getD_eq_getD_getElem?] at hg1b
      have H9:=jD (show wx.ownsRow w.heap.size 35 1 (.slice va V.length vc) V.length css.flatten from hp2)
      have HE:=jD hp1
      have HC:=jD (show CellsAt wx (.slice (some ⟨g9,0,none⟩) 1 1) 1 [.slice ua kk.vec.length uc] from CellsAt.mk (Nat.le_refl _) (by decide) (hlt_of hg2) (fun j z hj=>by rw[Nat.zero_add];exact cell_of_block hg2 (by simpa using hj)))
      have HG:=jD hG
      have hbs:=hG.bel.size
      clear hp1 hp2 hg2
      go_wp2_with (at_builtin;refine wpList_append_cells2 rfl (.tmp 19) (.tmp 23) 23 rfl w.heap.size 35 (.slice none 0 0) 1 24 Tryz.underlying23 WlTy.info rfl (by decide) (.slice va V.length vc) V.length _ hz H9.out (.slice (some ⟨g9,0,none⟩) 1 1) 1 _ hg1 HC.out rfl (by intro u hu;simp only[List.mem_singleton] at hu;subst hu;rfl) hbs (by unfold maxLen;omega) (by omega) ?_)
      intro v' wq ho hgr
      obtain⟨qa,qc,hq⟩:=owns_slice ho
      subst hq
      have HO:=jD ho
      have HGR:=jD hgr
      have HA:=jD (show AppV w.heap.size 35 1 (.slice va V.length vc) wx wq from⟨_,_,H9.out,hgr⟩)
      clear ho hgr
      go_wp2
      exact⟨_,rfl,⟨_,_,rfl,⟨css++[[.slice ua kk.vec.length uc]],HE.out.append (Els.single ⟨_,rfl,HKW.out.vec⟩),by rw[List.length_append,List.flatten_append];exact HO.out⟩⟩,HG.out.app (Nat.le_refl _) (.inl rfl) H9.out HGR.out,⟨fun h _=>absurd rfl h,fun _=>HA.out,fun h=>zd h⟩⟩
     ·intro x wx hG
      have f6:=hG.o 6
      replace hG:=hG.good
      go_wp2
      exact⟨_,rfl,rfl,hG,⟨fun _ _=>Below.refl _ _,fun h=>zd h,fun h=>zd h⟩⟩
     ·intro x wx hG
      have f8:=hG.o 8
      replace hG:=hG.good
      go_wp2
      exact⟨_,rfl,rfl,hG,⟨fun _ _=>Below.refl _ _,fun h=>zd h,fun h=>zd h⟩⟩
     ·intro x wx hG
      have g7:(x.tmps.getD 26 undef)= .pointer (some ⟨BK,1,none⟩):=hG.c 7 _ rfl
      replace hG:=hG.good
      go_wp2
      exact⟨_,rfl,rfl,hG,⟨fun _ _=>Below.refl _ _,fun h=>zd h,fun h=>zd h⟩⟩
     ·intro x wx hG
      have g8:(x.tmps.getD 27 undef)= .pointer (some ⟨BK,2,none⟩):=hG.c 8 _ rfl
      replace hG:=hG.good
      have hbk:=HEX.out _ hG
      have c2:=cell_of_block (j:=2) hbk rfl
      have hbl:=hlt_of hbk
      clear hbk
      go_wp2
      exact⟨_,rfl,rfl,hG,⟨fun _ _=>Below.refl _ _,fun h=>zd h,fun h=>zd h⟩⟩
     ·intro x wx hG
      have g6:(x.tmps.getD 25 undef)= .slice da D.length dc:=hG.c 6 _ rfl
      have g9:(x.tmps.getD 28 undef)= .slice xa kk.more.length xc:=hG.c 9 _ rfl
      have hp1:=hG.p 1
      replace hG:=hG.good
      have hz:=g6
      have hzb:=hz
      rw[Array.getD_eq_getD_getElem?] at hzb
      have g9b:=gd g9
      have H9:=jD hp1
      have HC:=jD (show CellsAt wx (.slice xa kk.more.length xc) kk.more.length (spansCells kk.more) from HKW.out.more.below (hG.bel))
      have HG:=jD hG
      have hbs:=hG.bel.size
      clear hp1
      go_wp2_with (at_builtin;refine wpList_append_cells2 rfl (.tmp 25) (.tmp 28) 71 rfl w.heap.size 41 _ 2 16 Tryz.underlying71 DcTy.info rfl (by decide) (.slice da D.length dc) D.length _ hz H9.out (.slice xa kk.more.length xc) kk.more.length _ g9 HC.out (spansCells_length _) (spansCells_one _) hbs (by unfold maxLen;omega) (by omega) ?_)
      intro v' wq ho hgr
      obtain⟨qa,qc,hq⟩:=owns_slice ho
      subst hq
      have HO:=jD ho
      have HGR:=jD hgr
      have HA:=jD (show AppV w.heap.size 41 2 (.slice da D.length dc) wx wq from⟨_,_,H9.out,hgr⟩)
      clear ho hgr
      go_wp2
      exact⟨_,rfl,⟨_,_,rfl,by rw[spansCells_append];exact HO.out⟩,HG.out.app (Nat.le_refl _) (.inr rfl) H9.out HGR.out,⟨fun _ h=>absurd rfl h,fun h=>zd h,fun _=>HA.out⟩⟩
     ·intro x wx hG
      have g5: ∃a cc,(x.tmps.getD 24 undef)= .slice a (V.length+1) cc∧RowOwn vecE w wx w.heap.size 35 (.slice a (V.length+1) cc) (V++[kk.vec]):=hG.c 5 _ rfl
      replace hG:=hG.good
      obtain⟨za,zc,hz,h9⟩:=g5
      have H9:=jD h9
      clear h9
      go_wp2
      exact⟨_,rfl,⟨_,_,rfl,H9.out⟩,hG,⟨fun _ _=>Below.refl _ _,fun h=>zd h,fun h=>zd h⟩⟩
     ·intro x wx hG
      have g10: ∃a cc,(x.tmps.getD 29 undef)= .slice a (D.length+kk.more.length) cc∧wx.ownsRow w.heap.size 41 2 (.slice a (D.length+kk.more.length) cc) (D.length+kk.more.length) (spansCells (D++kk.more)):=hG.c 10 _ rfl
      replace hG:=hG.good
      obtain⟨za,zc,hz,h9⟩:=g10
      have H9:=jD h9
      clear h9
      go_wp2
      exact⟨_,rfl,⟨_,_,rfl,H9.out⟩,hG,⟨fun _ _=>Below.refl _ _,fun h=>zd h,fun h=>zd h⟩⟩
    ·intro vals w3 hg hF
     obtain⟨g0,g1,g2,g3,g4,g5,g6,g7,g8,g9,g10,g11,g12, -⟩:=hF
     have e0:=gq (vals 0) g0
     have e1:=gq (vals 1) g1
     have e2:=gq (vals 2) g2
     have e3:=gq (vals 3) g3
     have e6:=gq (vals 6) g6
     have e7:=gq (vals 7) g7
     have e8:=gq (vals 8) g8
     have e9:=gq (vals 9) g9
     replace g11: ∃a cc,(vals 11)= .slice a (V.length+1) cc∧RowOwn vecE w w3 w.heap.size 35 (.slice a (V.length+1) cc) (V++[kk.vec]):=g11 rfl
     replace g12: ∃a cc,(vals 12)= .slice a (D.length+kk.more.length) cc∧w3.ownsRow w.heap.size 41 2 (.slice a (D.length+kk.more.length) cc) (D.length+kk.more.length) (spansCells (D++kk.more)):=g12 rfl
     simp only[Cl3.puts,e0,e1,e2,e3,e6,e7,e8,e9]
     clear e0 e1 e2 e3 e6 e7 e8 e9 g0 g1 g2 g3 g4 g5 g6 g7 g8 g9 g10
     go_simp
     generalize vals 11=vv2 at*
     generalize vals 12=dv2 at*
     obtain⟨a8,c8,rfl,h8⟩:=g11
     obtain⟨a9,c9,rfl,h9⟩:=g12
     have H8:=jD h8
     have H9:=jD h9
     have HG3:=jD hg
     clear h8 h9 hg
     go_wp2
     go_roundw
     case rel=>exact ⟨k+1,by omega,by go_num,by rw[HN.out];exact ⟨(HEQ.out _ HG3.out).1,(HEQ.out _ HG3.out).2,by rw[HVM.out];exact H8.out,by rw[HDM.out,List.length_append];exact H9.out,HG3.out.bel⟩⟩
     case measure=>simp [intOf] <;> omega
  ·obtain rfl:k=l.length:=by omega
   rw[List.take_length] at HS
   have hks: ∀kk∈atK l t n,KnOk kk∧kk.more.length≤60:=fun kk hkk=>by
    obtain⟨x,hx,rfl⟩:=atK_mem hkk
    exact knChk_zero.1 (HOK.out x hx).k
   have h1:=atK_len l t n
   have h2:=gdots_len (ks:=atK l t n) (m:=60) fun kk hkk=>(hks kk hkk).2
   have hm:=made_f _ _ ((atK l t n).map Kn.vec) ((atK l t n).flatMap Kn.more) (fun s c=>ptsIn l t n s c) wr (HS.out.vec.at_ (Sub.of_below HS.out.bel) (by rw[List.length_map];omega)) (CellsAt.of_owns HS.out.dot (by omega)) (gvecs_ok fun kk hkk=>(hks kk hkk).1) (gdots_ok fun kk hkk=>(hks kk hkk).1) (by omega)
    (fun s c h0 h5 h3 h4=>(gather _ h3).trans (atK_any l t n s c))
   have HM:=jD hm
   have HRES:=jD HS.out.res
   have HBEL:=jD HS.out.bel
   obtain⟨va,vc,hvv⟩:=HS.out.vec.shape
   obtain⟨da,dc,hdv⟩:=owns_slice HS.out.dot
   subst hvv hdv
   clear hks h1 h2 hm HS HVL HOK
   generalize (atK l t n).map Kn.vec=V at*
   generalize (atK l t n).flatMap Kn.more=D at*
   go_wp2_with fail
   (with_reducible refine(HM.out).mono ?_)
   rintro e w3 ⟨u,x,rfl,hko,hb3⟩
   have hR:=below_keep hb3 HRES.out
   have HR:=jD hR
   obtain⟨ua,uc,hu⟩:=owns_slice hko.vec
   obtain⟨xa,xc,hx⟩:=owns_slice hko.more
   subst hu hx
   have HKO:=jD (hko.mono HBEL.out.size)
   have HB3:=jD (bstep HBEL.out hb3)
   have r0:=cell_of_block (j:=0) hR rfl
   have r1:=cell_of_block (j:=1) hR rfl
   have f0:=free_of_block (j:=0) hR
   have f1:=free_of_block (j:=1) hR
   have hRl:=hlt_of hR
   clear hR hko hb3 HM HRES HBEL
   go_wp2
   refine bodyPost_ret (v:= .agg #[_,_]) (by simp[results,Tryz.results107,go_sem, *];exact ⟨rfl,rfl⟩) rfl ?_
   exact⟨_,_,rfl,⟨own_set (own_set HKO.out.vec HR.out (by decide)) (heap_set_same HR.out) (by decide),own_set (own_set HKO.out.more HR.out (by decide)) (heap_set_same HR.out) (by decide)⟩,(HB3.out.setCell (by simp) _).setCell (by simp) _⟩
theorem concat2' (x u1 u2:Value) (a b:Kn) (w:World) (h:RowsAt w x [(u1,a.more.length,spansCells a.more),(u2,b.more.length,spansCells b.more)]) (ha:a.more.length≤100000) (hb:b.more.length≤100000):
  Calls Tryz.prog 153 #[x] w fun e w'=> ∃v,e= .returned v∧DsAt w' v (a.more++b.more)∧Below w.heap.size w w':=by
 refine(DlConcat_c x _ w h ?_ ?_ ?_).mono ?_
 ·intro r hr
  simp only[List.mem_cons,List.not_mem_nil,or_false] at hr
  rcases hr with rfl | rfl <;> exact spansCells_length _
 ·intro r hr
  simp only[List.mem_cons,List.not_mem_nil,or_false] at hr
  rcases hr with rfl | rfl <;> exact spansCells_one _
 ·simp[tot];omega
 ·rintro e w' ⟨v,rfl,ho,hbl⟩
  refine⟨v,rfl, ?_,hbl⟩
  have e1:tot [(u1,a.more.length,spansCells a.more),(u2,b.more.length,spansCells b.more)]=(a.more++b.more).length:=by simp[tot]
  have e2:flat [(u1,a.more.length,spansCells a.more),(u2,b.more.length,spansCells b.more)]=spansCells (a.more++b.more):=by simp[flat,spansCells_append]
  rw[e1,e2] at ho
  exact CellsAt.of_owns ho (by simp;omega)
def PNew (w:World) (base:Nat) (v:Value):Prop:= ∃g,v= .pointer (some ⟨g,0,none⟩)∧w.heap[g]? =some (Obj.cells #[.slice none 0 0, .slice none 0 0] 73 (0,0))∧base≤g
theorem PNew.below {w w':World} {base:Nat} {v:Value} (h:PNew w base v) (hb:Below w.heap.size w w'):PNew w' base v:=by
 obtain⟨g,h1,h2,h3⟩:=h;exact ⟨g,h1,below_keep hb h2,h3⟩
def PFull (w:World) (base:Nat) (v:Value) (k:Kn):Prop:= ∃(g:Nat) (a:Option Addr) (c:Nat) (b:Option Addr) (d:Nat),v= .pointer (some ⟨g,0,none⟩)∧w.heap[g]? =some (Obj.cells #[.slice a k.vec.length c, .slice b k.more.length d] 73 (0,0))∧KnOwn w base (.slice a k.vec.length c) (.slice b k.more.length d) k
theorem PFull.below {w w':World} {base:Nat} {v:Value} {k:Kn} (h:PFull w base v k) (hb:Below w.heap.size w w'):PFull w' base v k:=by
 obtain⟨g,a,c,b,d,h1,h2,h3⟩:=h;exact ⟨g,a,c,b,d,h1,below_keep hb h2,h3.below hb⟩
def PAgg (w:World) (base:Nat) (v:Value) (k:Kn):Prop:= ∃(a:Option Addr) (c:Nat) (b:Option Addr) (d:Nat),v= .agg #[.slice a k.vec.length c, .slice b k.more.length d]∧KnOwn w base (.slice a k.vec.length c) (.slice b k.more.length d) k
theorem PAgg.below {w w':World} {base:Nat} {v:Value} {k:Kn} (h:PAgg w base v k) (hb:Below w.heap.size w w'):PAgg w' base v k:=by
 obtain⟨a,c,b,d,h1,h3⟩:=h;exact ⟨a,c,b,d,h1,h3.below hb⟩
theorem pwithin1_c (ua va ub vb:Value) (a b:Kn) (w:World) (ha:KnAt w ua va a) (hb:KnAt w ub vb b) (oa:KnOk a) (ob:KnOk b) (la:a.more.length≤100000) (lb:b.more.length≤100000):
  Calls Tryz.prog 106 #[.agg #[ua,va], .agg #[ub,vb]] w fun e w'=>e= .returned (.bool (knWithin a b))∧Below w.heap.size w w':=by
 obtain⟨xa,ca,rfl⟩:=ha.vec.shape
 obtain⟨ya,da,rfl⟩:=ha.more.shape
 obtain⟨xb,cb,rfl⟩:=hb.vec.shape
 obtain⟨yb,db,rfl⟩:=hb.more.shape
 obtain⟨W,hW⟩: ∃W,W=(w.alloc (.cells #[.slice xa a.vec.length ca, .slice ya a.more.length da] 73)).alloc (.cells #[.slice xb b.vec.length cb, .slice yb b.more.length db] 73):=⟨_,rfl⟩
 have hbW:Below w.heap.size w W:=by rw[hW];exact (bal _).alloc (by simp) _
 have A:=jD (show W.heap[w.heap.size]? =some (Obj.cells #[.slice xa a.vec.length ca, .slice ya a.more.length da] 73 (0,0)) by rw[hW];exact alloc_keep _ (alloc_new _ _ _ _ rfl))
 have B:=jD (show W.heap[w.heap.size+1]? =some (Obj.cells #[.slice xb b.vec.length cb, .slice yb b.more.length db] 73 (0,0)) by rw[hW];exact alloc_new _ _ _ _ (by simp))
 have CA0:=jD (cell_of_block (j:=0) A.out rfl)
 have CA1:=jD (cell_of_block (j:=1) A.out rfl)
 have CB0:=jD (cell_of_block (j:=0) B.out rfl)
 have CB1:=jD (cell_of_block (j:=1) B.out rfl)
 have HA1:=jD (ha.below hbW)
 have HB1:=jD (hb.below hbW)
 have HBW:=jD hbW
 have OA:=jD oa
 have OB:=jD ob
 have HKW:=jD (show knWithin a b=decide (formK (orK (knIn a) (knIn b))=b) from rfl)
 have HEQ:=jD (kn_eq (formK (orK (knIn a) (knIn b))) b)
 have HML:=jD (formM_len (orK (knIn a) (knIn b)))
 clear ha hb hbW oa ob
 go_enter Tryz.func106,Tryz.ntmps106
 go_wp2_with fail
 rw[←hW]
 clear hW
 refine Cl2.region0 30 rfl [] (fun _=>True) (fun jq=>match jq with | 4=>[13] | 9=>[13] | 10=>[13] | 11=>[13] | 12=>[13] | _=>[]) (fun jq v ww=>match jq with | 0=>v= .pointer (some ⟨w.heap.size,0,none⟩) | 1=>v= .slice xa a.vec.length ca | 2=>v= .pointer (some ⟨w.heap.size+1,0,none⟩) | 3=>v= .slice xb b.vec.length cb | 4=>RowAt vecE ww v [a.vec,b.vec] | 5=>v= .pointer (some ⟨w.heap.size,1,none⟩) | 6=>v= .slice ya a.more.length da | 7=>v= .pointer (some ⟨w.heap.size+1,1,none⟩) | 8=>v= .slice yb b.more.length db | 9=>RowsAt ww v [(.slice ya a.more.length da,a.more.length,spansCells a.more),(.slice yb b.more.length db,b.more.length,spansCells b.more)] | 10=>DsAt ww v (a.more++b.more) | 11=>PAgg ww w.heap.size v (formK (orK (knIn a) (knIn b))) | 12=>PNew ww W.heap.size v | 13=>PFull ww w.heap.size v (formK (orK (knIn a) (knIn b))) | _=>True) (fun ww=>Below W.heap.size W ww) (fun jq ww ww'=>jq≠13→Below ww.heap.size ww ww') Tryz.mixed (by decide+kernel) (Below.refl _ _).drew trivial ?_ (fun _ _ _ _ _ _=>trivial) ?_ ?_
 ·intro q r v w w' hne hk hlt h hR
  match r,hk,hlt,h,hne with
  | 0,_,_,h,_=>exact h
  | 1,_,_,h,_=>exact h
  | 2,_,_,h,_=>exact h
  | 3,_,_,h,_=>exact h
  | 4,hk,_,h,_=>exact h.below (hR (by simpa using hk))
  | 5,_,_,h,_=>exact h
  | 6,_,_,h,_=>exact h
  | 7,_,_,h,_=>exact h
  | 8,_,_,h,_=>exact h
  | 9,hk,_,h,_=>exact rowsBelow h (hR (by simpa using hk))
  | 10,hk,_,h,_=>exact h.below (hR (by simpa using hk))
  | 11,hk,_,h,_=>exact PAgg.below h (hR (by simpa using hk))
  | 12,hk,_,h,_=>exact PNew.below h (hR (by simpa using hk))
  | 13,_,_,h,hne=>exact PFull.below h (hR (by exact hne))
  | _+14,_,_,_,_=>trivial
 ·refine⟨?_, ?_, ?_, ?_, ?_, ?_, ?_, ?_, ?_, ?_, ?_, ?_, ?_, ?_,trivial⟩
  ·intro x wx hG
   have f2:=hG.o 2
   replace hG:=hG.good
   go_wp2
   exact⟨_,rfl,rfl,hG,fun _=>Below.refl _ _⟩
  ·intro x wx hG
   have g0:(x.tmps.getD 6 undef)= .pointer (some ⟨w.heap.size,0,none⟩):=hG.c 0 _ rfl
   replace hG:=hG.good
   have c_CA0:=ckeep hG CA0.out
   go_wp2
   exact⟨_,rfl,rfl,hG,fun _=>Below.refl _ _⟩
  ·intro x wx hG
   have f3:=hG.o 3
   replace hG:=hG.good
   go_wp2
   exact⟨_,rfl,rfl,hG,fun _=>Below.refl _ _⟩
  ·intro x wx hG
   have g2:(x.tmps.getD 8 undef)= .pointer (some ⟨w.heap.size+1,0,none⟩):=hG.c 2 _ rfl
   replace hG:=hG.good
   have c_CB0:=ckeep hG CB0.out
   go_wp2
   exact⟨_,rfl,rfl,hG,fun _=>Below.refl _ _⟩
  ·intro x wx hG
   have g1:(x.tmps.getD 7 undef)= .slice xa a.vec.length ca:=hG.c 1 _ rfl
   have g1b:=gd g1
   have g3:(x.tmps.getD 9 undef)= .slice xb b.vec.length cb:=hG.c 3 _ rfl
   have g3b:=gd g3
   replace hG:=hG.good
   go_wp2
   exact⟨_,rfl,rowLit2 _ _ _ _ _ _ rfl (HA1.out.below (hG.alloc hG.size _)).vec (HB1.out.below (hG.alloc hG.size _)).vec,hG.alloc hG.size _,fun _=>bal _⟩
  ·intro x wx hG
   have f2:=hG.o 2
   replace hG:=hG.good
   go_wp2
   exact⟨_,rfl,rfl,hG,fun _=>Below.refl _ _⟩
  ·intro x wx hG
   have g5:(x.tmps.getD 11 undef)= .pointer (some ⟨w.heap.size,1,none⟩):=hG.c 5 _ rfl
   replace hG:=hG.good
   have c_CA1:=ckeep hG CA1.out
   go_wp2
   exact⟨_,rfl,rfl,hG,fun _=>Below.refl _ _⟩
  ·intro x wx hG
   have f3:=hG.o 3
   replace hG:=hG.good
   go_wp2
   exact⟨_,rfl,rfl,hG,fun _=>Below.refl _ _⟩
  ·intro x wx hG
   have g7:(x.tmps.getD 13 undef)= .pointer (some ⟨w.heap.size+1,1,none⟩):=hG.c 7 _ rfl
   replace hG:=hG.good
   have c_CB1:=ckeep hG CB1.out
   go_wp2
   exact⟨_,rfl,rfl,hG,fun _=>Below.refl _ _⟩
  ·intro x wx hG
   have g6:(x.tmps.getD 12 undef)= .slice ya a.more.length da:=hG.c 6 _ rfl
   have g6b:=gd g6
   have g8:(x.tmps.getD 14 undef)= .slice yb b.more.length db:=hG.c 8 _ rfl
   have g8b:=gd g8
   replace hG:=hG.good
   go_wp2
   exact⟨_,rfl,rowsLit2 _ _ _ _ _ _ _ _ _ rfl (HA1.out.below (hG.alloc hG.size _)).more (HB1.out.below (hG.alloc hG.size _)).more,hG.alloc hG.size _,fun _=>bal _⟩
  ·intro x wx hG
   have g9:RowsAt wx (x.tmps.getD 15 undef) [(.slice ya a.more.length da,a.more.length,spansCells a.more),(.slice yb b.more.length db,b.more.length,spansCells b.more)]:=hG.c 9 _ rfl
   replace hG:=hG.good
   generalize hx:x.tmps.getD 15 undef=x23 at*
   have G9:=jD g9
   clear g9
   go_wp2_with fail
   (with_reducible refine(concat2' _ _ _ _ _ _ G9.out la lb).mono ?_)
   rintro e wq ⟨v9,rfl,h9,hb⟩
   obtain⟨za,zc,hz⟩:=h9.shape
   generalize (a.more++b.more).length=ln at hz
   subst hz
   have H9:=jD h9
   clear h9
   go_wp2
   exact⟨_,rfl,H9.out,bstep hG hb,fun _=>hb⟩
  ·intro x wx hG
   have g4:RowAt vecE wx (x.tmps.getD 10 undef) [a.vec,b.vec]:=hG.c 4 _ rfl
   have g10:DsAt wx (x.tmps.getD 16 undef) (a.more++b.more):=hG.c 10 _ rfl
   replace hG:=hG.good
   generalize hx:x.tmps.getD 16 undef=x24 at*
   generalize hy:x.tmps.getD 10 undef=x18 at*
   have G10:=jD g10
   have G4:=jD g4
   clear g10 g4
   go_wp2_with fail
   (with_reducible refine(made_f _ _ _ _ (orK (knIn a) (knIn b)) _ G4.out G10.out (vecsOk2 OA.out OB.out) (dotsOk2 OA.out OB.out) (by simp only[List.length_append];omega) (join_mem a b)).mono ?_)
   rintro e wq ⟨u9,v9,rfl,h9,hb⟩
   obtain⟨qa,qc,hq1⟩:=owns_slice h9.vec
   obtain⟨qb,qd,hq2⟩:=owns_slice h9.more
   subst hq1 hq2
   have H9:=jD (h9.mono (base':=w.heap.size) (by have h1:=HBW.out.size;have h2:=hG.size;omega))
   clear h9
   go_wp2
   exact⟨_,rfl,⟨_,_,_,_,rfl,H9.out⟩,bstep hG hb,fun _=>hb⟩
  ·intro x wx hG
   replace hG:=hG.good
   go_wp2
   exact⟨_,rfl,⟨_,rfl,alloc_new _ _ _ _ rfl,hG.size⟩,hG.alloc hG.size _,fun _=>bal _⟩
  ·intro x wx hG
   have g12:PNew wx W.heap.size (x.tmps.getD 5 undef):=hG.c 12 _ rfl
   have g11:PAgg wx w.heap.size (x.tmps.getD 17 undef) (formK (orK (knIn a) (knIn b))):=hG.c 11 _ rfl
   replace hG:=hG.good
   obtain⟨gb,hgb,hnil,hgs⟩:=g12
   obtain⟨qa,qc,qb,qd,hx9,h9⟩:=g11
   have HGB:=jD hgb
   have r0:=cell_of_block (j:=0) hnil rfl
   have r1:=cell_of_block (j:=1) hnil rfl
   have f0:=free_of_block (j:=0) hnil
   have f1:=free_of_block (j:=1) hnil
   have hRl:=hlt_of hnil
   have HN:=jD hnil
   have H9:=jD h9
   have HGS:=jD hgs
   clear hnil h9 hgs
   go_wp2
   exact⟨undef,rfl,⟨_,_,_,_,_,Eq.trans (by kernel_rfl) HGB.out,by rw[heap_set_same (heap_set_same HN.out)];rfl,⟨own_set (own_set H9.out.vec HN.out (by decide)) (heap_set_same HN.out) (by decide),own_set (own_set H9.out.more HN.out (by decide)) (heap_set_same HN.out) (by decide)⟩⟩,(hG.setCell HGS.out _).setCell HGS.out _,fun h=>absurd rfl h⟩
 ·intro vals w2 hg hF
  obtain⟨g0,g1,g2,g3,g4,g5,g6,g7,g8,g9,g10,g11,g12,g13, -⟩:=hF
  have e0:=gq (vals 0) g0
  have e1:=gq (vals 1) g1
  have e2:=gq (vals 2) g2
  have e3:=gq (vals 3) g3
  have e5:=gq (vals 5) g5
  have e6:=gq (vals 6) g6
  have e7:=gq (vals 7) g7
  have e8:=gq (vals 8) g8
  have g13:=g13 rfl
  simp only[Cl2.puts,e0,e1,e2,e3,e5,e6,e7,e8]
  clear e0 e1 e2 e3 e5 e6 e7 e8 g0 g1 g2 g3 g4 g5 g6 g7 g8 g9 g10 g11 g12
  go_simp
  obtain⟨gb,qa,qc,qb,qd,h1,h2,h3⟩:=g13
  have hpt:vals 12= .pointer (some ⟨gb,0,none⟩):=Eq.trans (by kernel_rfl) h1
  rw[hpt]
  have M:=jD h2
  have HM:=jD h3
  have HA2:=jD (below_keep hg A.out)
  have HB2:=jD (below_keep hg B.out)
  have HKB:=jD (HB1.out.below hg)
  have HBL:=jD (HBW.out.trans (hg.mono HBW.out.size))
  have HMA:=jD (formK_at HM.out)
  clear h1 h2 h3 hpt hg A B CA0 CA1 CB0 CB1 HA1 HB1
  have m0:=cell_of_block (j:=0) M.out rfl
  have b0:=cell_of_block (j:=0) HB2.out rfl
  generalize formK (orK (knIn a) (knIn b))=m at*
  go_wp2_with fail
  (with_reducible refine(eqInts_c _ _ _ _ _ HMA.out.vec HKB.out.vec).mono ?_)
  rintro e w3 ⟨rfl,hb3⟩
  have m1:=cell_of_block (j:=1) (below_keep hb3 M.out) rfl
  have b1:=cell_of_block (j:=1) (below_keep hb3 HB2.out) rfl
  have HMA3:=jD (HMA.out.below hb3)
  have HKB3:=jD (HKB.out.below hb3)
  replace HBL:=jD (bstep HBL.out hb3)
  clear hb3 m0 b0
  cases hx:(m.vec==b.vec)
  ·have H:=jD (show knWithin a b=false by rw[HKW.out,HEQ.out,hx];rfl)
   clear hx
   go_wp2
   go_ret
   exact⟨ret_bool H.out.symm,HBL.out⟩
  have H:=jD (show knWithin a b=(m.more==b.more) by rw[HKW.out,HEQ.out,hx];rfl)
  clear hx
  go_wp2_with fail
  (with_reducible refine(eqDots_c _ _ _ _ _ HMA3.out.more HKB3.out.more).mono ?_)
  rintro e w4 ⟨rfl,hb4⟩
  replace HBL:=jD (bstep HBL.out hb4)
  clear hb4 m1 b1
  go_wp2
  go_ret
  exact⟨ret_bool H.out.symm,HBL.out⟩
def atF (l:List Pt) (t n:Int):Kn:=formK fun s c=>ptsIn l t n s c
def wAt (a b:List Pt) (t n:Int):Bool:=knWithin (atF a t n) (atF b t n)
def pwB (a b:List Pt):Bool:=allPt fun t n=>wAt a b t n
def pTwo (a b:List Pt):Int:=if ptsChk a≠0 then ptsChk a else ptsChk b
def pwE (a b:List Pt):Bool:=decide (pTwo a b=0)&&pwB a b
theorem pwB_true {a b:List Pt} (h: ∀t n:Nat,t < 16→n < 32→wAt a b t n=true):pwB a b=true:=(allPt_iff _).2 h
theorem pwB_false {a b:List Pt} {t n:Nat} (ht:t < 16) (hn:n < 32) (h:wAt a b t n=false):pwB a b=false:=by
 cases hp:pwB a b
 ·rfl
 ·rw[(allPt_iff _).1 hp t n ht hn] at h;exact absurd h (by decide)
theorem at_f (v:Value) (l:List Pt) (t n:Int) (w:World) (hv:RowAt partE w v l) (hok: ∀x∈l,PtOk x) (hl:l.length≤1000):
  Calls Tryz.prog 107 #[v, .agg #[.int .i64 t, .int .i64 n]] w fun e w'=> ∃v',e= .returned v'∧PAgg w' w.heap.size v' (atF l t n)∧Below w.heap.size w w':=by
 refine(at_c v l t n w hv hok hl).mono ?_
 rintro e w' ⟨u,x,rfl,ho,hb⟩
 obtain⟨a,c,rfl⟩:=owns_slice ho.vec
 obtain⟨b,d,rfl⟩:=owns_slice ho.more
 exact⟨_,rfl,⟨a,c,b,d,rfl,ho⟩,hb⟩
theorem atF_ok (l:List Pt) (t n:Int):KnOk (atF l t n)∧(atF l t n).more.length≤5005:=⟨formK_ok _,formM_len _⟩
theorem pWithin_c (va vb:Value) (a b:List Pt) (w:World) (ha:RowAt partE w va a) (hb:RowAt partE w vb b):
  Calls Tryz.prog 61 #[va,vb] w fun e w'=>e= .returned (.tuple #[.bool (pwE a b), .int .i64 (pTwo a b)])∧Below w.heap.size w w':=by
 obtain⟨xa,ca,rfl⟩:=ha.shape
 obtain⟨xb,cb,rfl⟩:=hb.shape
 have HA:=jD ha
 have HB:=jD hb
 have HC:=jD (ptsChk_c _ a w ha)
 have HE1:=jD (show ptsChk a≠0→pTwo a b=ptsChk a from fun h=>by unfold pTwo;rw [if_pos h])
 have HE2:=jD (show ptsChk a=0→pTwo a b=ptsChk b from fun h=>by unfold pTwo;rw [if_neg (by omega)])
 have HW:=jD (show pwE a b=(decide (pTwo a b=0)&&pwB a b) from rfl)
 have HZA:=jD (ptsChk_zero (l:=a))
 have HZB:=jD (ptsChk_zero (l:=b))
 clear ha hb
 go_enter Tryz.func61,Tryz.ntmps61
 go_wp2_with fail
 (with_reducible refine(HC.out).mono ?_)
 rintro e w1 ⟨rfl,hb1⟩
 have HBL:=jD hb1
 clear hb1 HC
 by_cases h0:ptsChk a=0
 rotate_left
 ·have H:=jD (HE1.out h0)
  have HF:=jD (show pwE a b=false by rw[HW.out,H.out,decide_eq_false h0];rfl)
  have hne:decide (ptsChk a=0)=false:=by simpa using h0
  have hnb:(ptsChk a != 0)=true:=bne_iff_ne.2 h0
  generalize ptsChk a=sc at*
  clear h0
  go_wp2
  go_ret2
  exact⟨ret_be HF.out.symm H.out.symm,HBL.out⟩
 have HZ:=jD (HZA.out.1 h0)
 replace HE2:=jD (HE2.out h0)
 have HC:=jD (ptsChk_c _ b w1 (HB.out.below HBL.out))
 rw[h0]
 clear h0 HE1 HZA
 go_wp2_with fail
 (with_reducible refine(HC.out).mono ?_)
 rintro e w2 ⟨rfl,hb1⟩
 replace HBL:=jD (bstep HBL.out hb1)
 clear hb1 HC
 by_cases h0:ptsChk b=0
 rotate_left
 ·have HF:=jD (show pwE a b=false by rw[HW.out,HE2.out,decide_eq_false h0];rfl)
  have hne:decide (ptsChk b=0)=false:=by simpa using h0
  have hnb:(ptsChk b != 0)=true:=bne_iff_ne.2 h0
  generalize ptsChk b=sc at*
  clear h0
  go_wp2
  go_ret2
  exact⟨ret_be HF.out.symm HE2.out.symm,HBL.out⟩
 have HY:=jD (HZB.out.1 h0)
 have H0:=jD (HE2.out.trans h0)
 have HPW:=jD (show pwE a b=pwB a b by rw[HW.out,H0.out];rfl)
 rw[h0]
 clear h0 HE2 HZB HW
 have hla:=HZ.out.1
 have hlb:=HY.out.1
 obtain⟨w3,hw3⟩: ∃w3,w3=w2:=⟨_,rfl⟩
 rw[←hw3] at HBL ⊢
 clear hw3 w2
 go_wp2
 go_loopw [21] (fun i wr=> ∃q:Nat,q≤16∧i= .int .i64 q∧(∀t n:Nat,t < q→n < 32→wAt a b t n=true)∧Below w.heap.size w wr) (fun i _=>16 - (intOf i).toNat)
 case atStart=>exact ⟨0,Nat.zero_le _,rfl,fun t n h=>by omega,HBL.out⟩
 case round=>
  obtain⟨q,hq,rfl,hall,hbl⟩:=hrel
  have HALL:=jD hall
  have HB0:=jD hbl
  clear hall hbl HBL
  obtain⟨w4,hw4⟩: ∃w4,w4=wr:=⟨_,rfl⟩
  rw[←hw4] at HB0 ⊢
  clear hw4 wr
  by_cases hql:q < 16
  ·have hqb:decide ((q:Int) < 16)=true:=by rw[decide_eq_true_eq];omega
   go_wp2
   go_loopw [24] (fun i wr=> ∃m:Nat,m≤32∧i= .int .i64 m∧(∀n:Nat,n < m→wAt a b q n=true)∧Below w.heap.size w wr) (fun i _=>32 - (intOf i).toNat)
   case atStart=>exact ⟨0,Nat.zero_le _,rfl,fun n h=>by omega,HB0.out⟩
   case round=>
    obtain⟨m,hm,rfl,hrow,hbl⟩:=hrel
    have HROW:=jD hrow
    have HB1:=jD hbl
    clear hrow hbl HB0
    by_cases hml:m < 32
    ·have hmb:decide ((m:Int) < 32)=true:=by rw[decide_eq_true_eq];omega
     obtain⟨BK,hBK⟩: ∃BK,BK=wr.heap.size:=⟨_,rfl⟩
     obtain⟨w5,hw5⟩: ∃w5,w5=wr.alloc (.cells #[.int .i64 q, .int .i64 m] 39):=⟨_,rfl⟩
     have hb5:Below wr.heap.size wr w5:=by rw[hw5];exact bal _
     have HBK:=jD (show w5.heap[BK]? =some (Obj.cells #[.int .i64 q, .int .i64 m] 39 (0,0)) by rw[hw5];exact alloc_new _ _ _ _ hBK)
     have HB5:=jD (bstep HB1.out hb5)
     have HA5:=jD (HA.out.below HB5.out)
     have HB6:=jD (HB.out.below HB5.out)
     have HWA:=jD (show wAt a b q m=knWithin (atF a q m) (atF b q m) from rfl)
     have C0:=jD (cell_of_block (j:=0) HBK.out rfl)
     have C1:=jD (cell_of_block (j:=1) HBK.out rfl)
     clear hb5 HB1
     go_wp2_with fail
     rw[←hBK,←hw5]
     clear hBK hw5
     go_wp2_with fail
     refine Cl.region0 40 rfl [] (fun _=>True) (fun _=>[]) (fun jq v ww=>match jq with | 0=>v= .slice xa a.length ca | 1=>v= .agg #[.int .i64 (q:Nat), .int .i64 (m:Nat)] | 2=>PAgg ww w.heap.size v (atF a q m) | 3=>v= .slice xb b.length cb | 4=>v= .agg #[.int .i64 (q:Nat), .int .i64 (m:Nat)] | 5=>PAgg ww w.heap.size v (atF b q m) | 6=>v= .bool (wAt a b q m) | 7=>v= .bool (!wAt a b q m) | _=>True) (fun ww=>Below w5.heap.size w5 ww) (fun jq ww ww'=>Below ww.heap.size ww ww') Tryz.mixed (by decide+kernel) (Below.refl _ _).drew trivial ?_ (fun _ _ _ _ _ _=>trivial) ?_ ?_
     ·intro q r v w w' hne hk hlt h hR
      match r,hk,hlt,h,hne with
      | 0,_,_,h,_=>exact h
      | 1,_,_,h,_=>exact h
      | 2,_,_,h,_=>exact PAgg.below h hR
      | 3,_,_,h,_=>exact h
      | 4,_,_,h,_=>exact h
      | 5,_,_,h,_=>exact PAgg.below h hR
      | 6,_,_,h,_=>exact h
      | 7,_,_,h,_=>exact h
      | _+8,_,_,_,_=>trivial
     ·refine⟨?_, ?_, ?_, ?_, ?_, ?_, ?_, ?_,trivial⟩
      ·intro x wx hG
       have f0:=hG.o 0
       replace hG:=hG.good
       go_wp2
       exact⟨_,rfl,rfl,hG,Below.refl _ _⟩
      ·intro x wx hG
       have f10:=hG.o 10
       replace hG:=hG.good
       have c0:=ckeep hG C0.out
       have c1:=ckeep hG C1.out
       have hbk:=blt c0
       go_wp2
       exact⟨_,rfl,rfl,hG,Below.refl _ _⟩
      ·intro x wx hG
       have g0:(x.tmps.getD 30 undef)= .slice xa a.length ca:=hG.c 0 _ rfl
       have g1:(x.tmps.getD 31 undef)= .agg #[.int .i64 (q:Nat), .int .i64 (m:Nat)]:=hG.c 1 _ rfl
       replace hG:=hG.good
       have HX:=jD (at_f _ a q m wx (HA5.out.below hG) HZ.out.2 (by omega))
       have HG:=jD hG
       go_wp2_with fail
       (with_reducible refine(HX.out).mono ?_)
       rintro e wq ⟨v9,rfl,⟨qa,qc,qb,qd,rfl,h9⟩,hb⟩
       have H9:=jD (h9.mono (base':=w.heap.size) (by have h1:=HB5.out.size;have h2:=HG.out.size;omega))
       clear h9
       go_wp2
       exact⟨_,rfl,⟨_,_,_,_,rfl,H9.out⟩,bstep HG.out hb,hb⟩
      ·intro x wx hG
       have f1:=hG.o 1
       replace hG:=hG.good
       go_wp2
       exact⟨_,rfl,rfl,hG,Below.refl _ _⟩
      ·intro x wx hG
       have f10:=hG.o 10
       replace hG:=hG.good
       have c0:=ckeep hG C0.out
       have c1:=ckeep hG C1.out
       have hbk:=blt c0
       go_wp2
       exact⟨_,rfl,rfl,hG,Below.refl _ _⟩
      ·intro x wx hG
       have g3:(x.tmps.getD 33 undef)= .slice xb b.length cb:=hG.c 3 _ rfl
       have g4:(x.tmps.getD 34 undef)= .agg #[.int .i64 (q:Nat), .int .i64 (m:Nat)]:=hG.c 4 _ rfl
       replace hG:=hG.good
       have HX:=jD (at_f _ b q m wx (HB6.out.below hG) HY.out.2 (by omega))
       have HG:=jD hG
       go_wp2_with fail
       (with_reducible refine(HX.out).mono ?_)
       rintro e wq ⟨v9,rfl,⟨qa,qc,qb,qd,rfl,h9⟩,hb⟩
       have H9:=jD (h9.mono (base':=w.heap.size) (by have h1:=HB5.out.size;have h2:=HG.out.size;omega))
       clear h9
       go_wp2
       exact⟨_,rfl,⟨_,_,_,_,rfl,H9.out⟩,bstep HG.out hb,hb⟩
      ·intro x wx hG
       have g2:PAgg wx w.heap.size (x.tmps.getD 32 undef) (atF a q m):=hG.c 2 _ rfl
       have g5:PAgg wx w.heap.size (x.tmps.getD 35 undef) (atF b q m):=hG.c 5 _ rfl
       replace hG:=hG.good
       obtain⟨a1,a2,a3,a4,hz1,hz2⟩:=g2
       obtain⟨b1,b2,b3,b4,hy1,hy2⟩:=g5
       have HX:=jD (pwithin1_c _ _ _ _ (atF a q m) (atF b q m) wx (formK_at hz2) (formK_at hy2) (atF_ok a q m).1 (atF_ok b q m).1 (by have:=(atF_ok a q m).2;omega) (by have:=(atF_ok b q m).2;omega))
       have HG:=jD hG
       clear hz2 hy2
       go_wp2_with fail
       (with_reducible refine(HX.out).mono ?_)
       rintro e wq ⟨rfl,hb⟩
       go_wp2
       exact⟨_,rfl,rfl,bstep HG.out hb,hb⟩
      ·intro x wx hG
       have g6:(x.tmps.getD 36 undef)= .bool (wAt a b q m):=hG.c 6 _ rfl
       replace hG:=hG.good
       go_wp2
       exact⟨_,rfl,rfl,hG,Below.refl _ _⟩
     ·intro vals w6 hg hF
      obtain⟨g0,g1,g2,g3,g4,g5,g6,g7, -⟩:=hF
      have e0:=gq (vals 0) g0
      have e1:=gq (vals 1) g1
      have e3:=gq (vals 3) g3
      have e4:=gq (vals 4) g4
      have e6:=gq (vals 6) g6
      have e7:=gq (vals 7) g7
      simp only[Cl.puts,e0,e1,e3,e4,e6,e7]
      clear e0 e1 e3 e4 e6 e7 g0 g1 g2 g3 g4 g5 g6 g7
      go_simp
      have HB7:=jD (HB5.out.trans (hg.mono HB5.out.size))
      clear hg C0 C1 HBK HA5 HB6 HB5
      cases hwt:wAt a b q m
      ·have H:=jD (pwB_false hql hml hwt)
       clear hwt HWA
       go_wp2
       go_ret2
       exact⟨ret_be (by rw[HPW.out];exact H.out.symm) H0.out.symm,HB7.out⟩
      ·have H:=jD (show ∀n:Nat,n < m+1→wAt a b q n=true from fun n hn=>by
        by_cases e:n=m
        ·rw[e];exact hwt
        ·exact HROW.out n (by omega))
       clear hwt HWA
       go_wp2
       go_roundw
       case rel=>exact ⟨m+1,by omega,by go_num,H.out,HB7.out⟩
       case measure=>simp [intOf] <;> omega
    ·obtain rfl:m=32:=by omega
     have H:=jD (show ∀t n:Nat,t < q+1→n < 32→wAt a b t n=true from fun t n ht hn=>by
      by_cases e:t=q
      ·rw[e];exact HROW.out n hn
      ·exact HALL.out t n (by omega) hn)
     go_wp2
     go_roundw
     case rel=>exact ⟨q+1,by omega,by go_num,H.out,HB1.out⟩
     case measure=>simp [intOf] <;> omega
  ·obtain rfl:q=16:=by omega
   have H:=jD (pwB_true HALL.out)
   go_wp2
   go_ret2
   exact⟨ret_be (by rw[HPW.out];exact H.out.symm) H0.out.symm,HB0.out⟩
theorem pts_knows {l:List Pt} {t n:Nat} (ht:t < 16) (hn:n < 32) (s c:Int):ptsIn l t n s c=knowsS (l.map sem) t n s c:=by
 unfold ptsIn knowsS
 rw[List.any_map]
 congr 1
 funext x
 simp only[Function.comp_apply,ptIn,sem,ptsOf_in ht hn]
theorem atF_in {l:List Pt} {t n:Nat} (ht:t < 16) (hn:n < 32) {s c:Int} (h0:0≤s) (h5:s < 5) (h1:1≤c) (h2:c≤1000):knIn (atF l t n) s c=knowsS (l.map sem) t n s c:=by
 unfold atF
 rw[formK_in _ s c h0 h5 h1 h2,pts_knows ht hn]
theorem wAt_iff {a b:List Pt} {t n:Nat} (ht:t < 16) (hn:n < 32):wAt a b t n=true↔ ∀s c:Int,0≤s→s < 5→1≤c→c≤1000→knowsS (a.map sem) t n s c=true→knowsS (b.map sem) t n s c=true:=by
 unfold wAt
 rw[knWithin_iff (atF_ok b t n).1]
 constructor
 ·intro h s c h0 h5 h1 h2 hk
  rw[←atF_in ht hn h0 h5 h1 h2] at hk ⊢
  exact h s c h0 h5 h1 h2 hk
 ·intro h s c h0 h5 h1 h2 hk
  rw[atF_in ht hn h0 h5 h1 h2] at hk ⊢
  exact h s c h0 h5 h1 h2 hk
theorem pwB_sem (a b:List Pt):pwB a b=withinS (a.map sem) (b.map sem):=by
 rw[Bool.eq_iff_iff,withinS_iff]
 unfold pwB
 rw[allPt_iff]
 constructor
 ·intro h t n ht hn
  exact(wAt_iff ht hn).1 (h t n ht hn)
 ·intro h t n ht hn
  exact(wAt_iff ht hn).2 (h t n ht hn)
theorem PtsSem.chk {l:List Pt} (hok: ∀x∈l,PtOk x) (hl:(l.map sem).length≤30):ptsChk l=0:=ptsChk_zero.2 ⟨by rw[List.length_map] at hl;exact hl,hok⟩
theorem pwithin_s (va vb:Value) (A B:List SP) (w:World) (ha:PtsSem w va A) (hb:PtsSem w vb B) (la:A.length≤30) (lb:B.length≤30):
  Calls Tryz.prog 61 #[va,vb] w fun e w'=>e= .returned (.tuple #[.bool (withinS A B), .int .i64 0])∧Below w.heap.size w w':=by
 obtain⟨a,h1,h2,rfl⟩:=ha
 obtain⟨b,h3,h4,rfl⟩:=hb
 have he:pTwo a b=0:=by
  unfold pTwo
  rw[if_neg (by rw[PtsSem.chk h2 la];decide),PtsSem.chk h4 lb]
 have hw:pwE a b=withinS (a.map sem) (b.map sem):=by unfold pwE;rw [he,pwB_sem];rfl
 refine(pWithin_c va vb a b w h1 h3).mono ?_
 rintro e w' ⟨rfl,hb⟩
 rw[he,hw]
 exact⟨rfl,hb⟩
theorem narrow_congr {A:List SP} {p q:Nat→Nat→Bool} (hA: ∀x∈A,SPOk x) (h: ∀t n,t < 16→n < 32→p t n=q t n):narrowS A p=narrowS A q:=by
 unfold narrowS
 congr 1
 refine List.map_congr_left fun x hx=> ?_
 congr 1
 funext t n
 by_cases hr:t < 16∧n < 32
 ·rw[h t n hr.1 hr.2]
 ·rw[(hA x hx).p t n hr];rfl
theorem pt_rng {t n:Int} (h:ptOk t n=true):0≤t∧t≤15∧0≤n∧n < 32:=by
 simp only[ptOk,tagsB,Bool.and_eq_true,decide_eq_true_eq] at h;omega
theorem pboth_s (va vb:Value) (A B:List SP) (w:World) (ha:PtsSem w va A) (hb:PtsSem w vb B) (la:A.length≤30) (lb:B.length≤30):
  Calls Tryz.prog 56 #[va,vb] w fun e w'=>e= .returned (.bool (withinS A B&&withinS B A))∧Below w.heap.size w w':=by
 obtain⟨xa,ca,rfl⟩:=ha.shape
 obtain⟨xb,cb,rfl⟩:=hb.shape
 have HA:=jD ha
 have HB:=jD hb
 have HW:=jD (pwithin_s _ _ A B w ha hb la lb)
 clear ha hb
 generalize hp:withinS A B=p at*
 have HPP:=jD hp
 go_enter Tryz.func56,Tryz.ntmps56
 go_wp2_with fail
 (with_reducible refine(HW.out).mono ?_)
 rintro e w1 ⟨rfl,hb1⟩
 have HV:=jD (pwithin_s _ _ B A w1 (HB.out.below hb1) (HA.out.below hb1) lb la)
 have HBL:=jD hb1
 clear hb1 HW hp
 generalize hq:withinS B A=q at*
 have HQQ:=jD hq
 clear hq
 go_wp2_with fail
 (with_reducible refine(HV.out).mono ?_)
 rintro e w2 ⟨rfl,hb2⟩
 have hbl:=bstep HBL.out hb2
 clear hb2 HV HBL
 cases p
 ·go_wp2
  go_ret
  exact⟨by first | rfl | (rw[HQQ.out];rfl),hbl⟩
 ·go_wp2
  go_ret
  exact⟨by first | rfl | (rw[HQQ.out];rfl),hbl⟩
end Go.Proofs.YtgkgdedhicnohaaGreat
