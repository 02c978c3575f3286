/- Slices of parts; what part.Check does. Slices of parts: what slices.IndexFunc and slices.ContainsFunc do; part.In and part.Has. What slices.DeleteFunc does to a row of parts of the call's own. -/
import Derived.Test.YtgkgdedhicnohaaGreatMFilter4
import Derived.Test.YtgkgdedhicnohaaGreatMShelf11
namespace Go.Proofs.YtgkgdedhicnohaaGreat
set_option maxRecDepth 100000
set_option maxHeartbeats 40000000
open Go.RowKit
theorem SpansAt.sub {w w':World} {v:Value} {l:Spans} (h:SpansAt w v l) (hs:Sub w w'):SpansAt w' v l:=CellsAt.sub h hs
theorem BxsAt.sub {w w':World} {v:Value} {l:Bxs} (h:BxsAt w v l) (hs:Sub w w'):BxsAt w' v l:=by
 obtain⟨us,h1,h2,h3⟩:=h
 exact⟨us,h1,h2.sub hs,fun i hi hi'=>(h3 i hi hi').sub hs⟩
def partE:Elt Pt where
 size:=3
 El w p cs:= ∃f u x,cs=[f,u,x]∧BxsAt w f p.f∧KnAt w u x p.k
 len:=by rintro w p cs ⟨f,u,x,rfl, -⟩;rfl
 one:=by
  rintro w p cs ⟨f,u,x,rfl,h0,h⟩ z hz
  obtain⟨a,c,rfl⟩:=h.vec.shape
  obtain⟨b,d,rfl⟩:=h.more.shape
  obtain⟨a',c',rfl⟩:=h0.shape
  simp only[List.mem_cons,List.not_mem_nil,or_false] at hz
  rcases hz with rfl | rfl | rfl <;> rfl
 sub:=by rintro w w' v cs ⟨f,u,x,rfl,h0,h⟩ hs;exact ⟨f,u,x,rfl,h0.sub hs,h.sub hs⟩
 pos:=by decide
theorem PartTy.info:(Tryz.prog.info? 105).map (fun i=>(i.zero,i.size,i.bytes))=some (some (.agg #[.slice none 0 0, .slice none 0 0, .slice none 0 0]),3,72):=by kernel_rfl
theorem row3 {w:World} {b off i:Nat} {c:List Value} (h: ∀(j:Nat) (x:Value),c[j]? =some x→w.cell? ⟨b,off+(i*3+j),none⟩=some x) {j:Nat} {x:Value} (hx:c[j]? =some x):w.cell? ⟨b,off+i*3+j,none⟩=some x:=by
 rw[Nat.add_assoc];exact h j x hx
theorem part_cells {w wr:World} {b off i:Nat} {p:Pt} {c:List Value} (hb:b < w.heap.size) (hbl:Below w.heap.size w wr) (hE:partE.El w p c) (hc: ∀j x,c[j]? =some x→w.cell? ⟨b,off+(i*partE.size+j),none⟩=some x):
  ∃f u x,wr.cell? ⟨b,off+i*3,none⟩=some f∧wr.cell? ⟨b,off+i*3+1,none⟩=some u∧wr.cell? ⟨b,off+i*3+2,none⟩=some x∧BxsAt wr f p.f∧KnAt wr u x p.k:=by
 obtain⟨f,u,x,rfl,h0,h1⟩:=hE
 have hk:=fun (j:Nat) (y:Value) (hy:[f,u,x][j]? =some y)=>row3 (w:=wr) (b:=b) (off:=off) (i:=i) (fun j y hy=>(hbl.cell (p:=⟨b,off+(i*3+j),none⟩) hb).trans (hc j y hy)) hy
 have c0:=hk 0 _ rfl
 rw[Nat.add_zero] at c0
 exact⟨f,u,x,c0,hk 1 _ rfl,hk 2 _ rfl,h0.below hbl,h1.below hbl⟩
theorem ptsChk_c (v:Value) (l:List Pt) (w:World) (hs:RowAt partE w v l):
  Calls Tryz.prog 67 #[v] w fun e w'=>e= .returned (.int .i64 (ptsChk l))∧Below w.heap.size w w':=by
 obtain⟨a,cap,rfl,hcap,hm, -,hl⟩:=hs.open_
 clear hs
 by_cases h30:30 < l.length
 ·have H:=jD (show ptsChk l=2 by simp[ptsChk,h30])
  clear hl
  go_enter Tryz.func67,Tryz.ntmps67
  go_wp2
  go_ret
  exact⟨ret_int H.out.symm,Below.refl _ _⟩
 have HF:=jD (show ptsChk l=ptsFrom (l.drop 0) by rw[ptsChk,if_neg h30];rfl)
 have HL:=jD hl
 clear hl
 go_enter Tryz.func67,Tryz.ntmps67
 go_wp2
 go_loopw [12] (fun i wr=> ∃k:Nat,k≤l.length∧i= .int .i64 k∧ptsChk l=ptsFrom (l.drop k)∧Below w.heap.size w wr) (fun i _=>l.length - (intOf i).toNat)
 case atStart=>exact ⟨0,Nat.zero_le _,rfl,HF.out,Below.refl _ _⟩
 case round=>
  obtain⟨k,hk,rfl,hno,hbl⟩:=hrel
  have HN:=jD hno
  clear hno HF
  by_cases hlt:k < l.length
  ·rcases HL.out with hnil | ⟨b,off,rfl,hb,hc⟩
   ·rw[hnil] at hlt;simp at hlt
   obtain⟨c,hE,hcc⟩:=hc k hlt
   obtain⟨f,u,x,d1,d2,d3,hf,hkn⟩:=part_cells hb hbl hE hcc
   have HOK:=jD (fun h=>HN.out.trans (ptsFrom_ok l k hlt h))
   have HBAD:=jD (fun h=>HN.out.trans (ptsFrom_bad l k hlt h))
   clear hc hE hcc
   generalize l[k]=p at*
   obtain⟨pf,pk⟩:=p
   simp only at hf hkn
   obtain⟨fa,fc,rfl⟩:=hf.shape
   obtain⟨ua,uc,rfl⟩:=hkn.vec.shape
   obtain⟨xa,xc,rfl⟩:=hkn.more.shape
   have hbx:=bal (W:=wr) (.cells #[.slice fa pf.length fc, .slice ua pk.vec.length uc, .slice xa pk.more.length xc] 105)
   have HNB:=jD (alloc_new wr #[.slice fa pf.length fc, .slice ua pk.vec.length uc, .slice xa pk.more.length xc] 105 _ rfl)
   have HFC:=jD (fChk_c _ pf _ (hf.below hbx))
   have HKN:=jD (hkn.below hbx)
   have HBX:=jD (bstep hbl hbx)
   clear hf hkn hbx hbl
   go_wp2_with fail
   (with_reducible refine(HFC.out).mono ?_)
   rintro e w1 ⟨rfl,hb1⟩
   have hB1:=below_keep hb1 HNB.out
   have hkn1:=HKN.out.below hb1
   have hbl1:=bstep HBX.out hb1
   clear HFC HNB HKN HBX hb1 d1 d2 d3
   have c1:=cell_of_block (j:=1) hB1 rfl
   have c2:=cell_of_block (j:=2) hB1 rfl
   clear hB1
   by_cases h0:fChk pf=0
   rotate_left
   ·have hv:ptChk ⟨pf,pk⟩=fChk pf:=by simp only[ptChk,if_neg h0]
    have H:=jD ((HBAD.out (by rw[hv];exact h0)).trans hv)
    have hne:decide (fChk pf=0)=false:=by simpa using h0
    have hnb:(fChk pf != 0)=true:=bne_iff_ne.2 h0
    clear HOK HBAD hv h0 hkn1
    generalize fChk pf=sc at*
    go_wp2
    go_ret
    exact⟨ret_int H.out.symm,hbl1⟩
   have hv:ptChk ⟨pf,pk⟩=knChk pk:=by simp only[ptChk,if_pos h0]
   rw[h0]
   rw[hv] at HOK HBAD
   have HKC:=jD (knChk_c _ _ pk _ hkn1)
   clear h0 hv hkn1
   go_wp2_with fail
   (with_reducible refine(HKC.out).mono ?_)
   rintro e w2 ⟨rfl,hb2⟩
   replace hbl1:=bstep hbl1 hb2
   clear c1 c2 HKC hb2
   by_cases h0:knChk pk=0
   rotate_left
   ·have H:=jD (HBAD.out h0)
    have hne:decide (knChk pk=0)=false:=by simpa using h0
    have hnb:(knChk pk != 0)=true:=bne_iff_ne.2 h0
    clear HOK HBAD h0
    generalize knChk pk=sc at*
    go_wp2
    go_ret
    exact⟨ret_int H.out.symm,hbl1⟩
   have H:=jD (HOK.out h0)
   rw[h0]
   clear HOK HBAD h0
   go_wp2
   go_roundw
   case rel=>exact ⟨k+1,by omega,by go_num,H.out,hbl1⟩
   case measure=>simp [intOf] <;> omega
  ·obtain rfl:k=l.length:=by omega
   go_wp2
   go_ret
   exact⟨ret_int (by rw[HN.out];simp [ptsFrom]),hbl⟩
def PredP (D:Pt→Prop) (g:FuncId) (caps:Array Value) (p:Pt→Bool) (w:World):Prop:=
 (∀args W,(callFunc g args).run Tryz.prog W= .ok (.enter g args) W)∧ ∀(a:Pt) (f u x:Value) (W:World),D a→Below w.heap.size w W→BxsAt W f a.f→KnAt W u x a.k→Calls Tryz.prog g (#[.agg #[f,u,x]]++caps) W fun e w'=>e= .returned (.bool (p a))∧Below W.heap.size W w'
theorem indexP_c (D:Pt→Prop) (vv:Value) (l:List Pt) (g:FuncId) (caps:Array Value) (p:Pt→Bool) (w:World) (hv:RowAt partE w vv l) (hD: ∀v∈l,D v) (hp:PredP D g caps p w):
  Calls Tryz.prog 165 #[vv, .func (.func g) #[] caps] w fun e w'=>e= .returned (.int .i64 (firstI p l))∧Below w.heap.size w w':=by
 obtain⟨a,cap,rfl,hcap,hlen, -,hvl⟩:=hv.open_
 obtain⟨hcall,hp⟩:=hp
 have HP:=jD hp
 have HD:=jD hD
 have HVL:=jD hvl
 clear hv hp hD hvl
 go_enter Tryz.func165,Tryz.ntmps165
 go_wp2
 go_loopw [8] (fun i wr=> ∃k:Nat,k≤l.length∧i= .int .i64 k∧(∀j (hj:j < l.length),j < k→p l[j]=false)∧Below w.heap.size w wr) (fun i _=>l.length - (intOf i).toNat)
 case atStart=>exact ⟨0,Nat.zero_le _,rfl,fun j _ h=>by omega,Below.refl _ _⟩
 case round=>
  obtain⟨k,hk,rfl,hall,hbl⟩:=hrel
  have HALL:=jD hall
  clear hall
  by_cases hlt:k < l.length
  ·rcases HVL.out with hnil | ⟨b,off,rfl,hb,hc⟩
   ·rw[hnil] at hlt;simp at hlt
   obtain⟨c,hE,hcc⟩:=hc k hlt
   obtain⟨f,u,x,d1,d2,d3,hf,hkn⟩:=part_cells hb hbl hE hcc
   have HV:=jD (HP.out l[k] f u x wr (HD.out _ (List.getElem_mem hlt)) hbl hf hkn)
   obtain⟨fa,fc,rfl⟩:=hf.shape
   obtain⟨ua,uc,rfl⟩:=hkn.vec.shape
   obtain⟨xa,xc,rfl⟩:=hkn.more.shape
   have HF:=jD (fun (h:p l[k]=true)=>firstI_at hlt h fun j hj=>HALL.out j (by omega) hj)
   have HG:=jD (fun (h:p l[k]=false) j (hj:j < l.length) (hj2:j < k+1)=>(show p l[j]=false by
    by_cases e:j=k
    ·subst e;exact h
    ·exact HALL.out j hj (by omega)))
   clear hc hE hcc hf hkn
   generalize l[k]=v at*
   go_wp2_with fail
   refine(HV.out).mono ?_
   rintro e w1 ⟨rfl,hb1⟩
   have hbl1:=bstep hbl hb1
   clear hbl hb1 HV d1 d2 d3
   cases hpv:p v
   ·have HNN:=jD (HG.out hpv)
    clear hpv
    go_wp2
    go_roundw
    case rel=>exact ⟨k+1,by omega,by go_num,HNN.out,hbl1⟩
    case measure=>simp [intOf] <;> omega
   ·have HNN:=jD (HF.out hpv)
    clear hpv
    go_wp2
    go_ret
    exact⟨by rw[HNN.out];rfl,hbl1⟩
  ·have HNN:=jD (firstI_none fun j hj=>HALL.out j hj (by omega))
   go_wp2
   go_ret
   exact⟨by rw[HNN.out];rfl,hbl⟩
theorem containsP_c (D:Pt→Prop) (vv:Value) (l:List Pt) (g:FuncId) (caps:Array Value) (p:Pt→Bool) (w:World) (hv:RowAt partE w vv l) (hD: ∀v∈l,D v) (hp:PredP D g caps p w):
  Calls Tryz.prog 125 #[vv, .func (.func g) #[] caps] w fun e w'=>e= .returned (.bool (l.any p))∧Below w.heap.size w w':=by
 have H:=jD (indexP_c D vv l g caps p w hv hD hp)
 obtain⟨a,cap,rfl⟩:=hv.shape
 have HA:=jD (firstI_any p l)
 clear hv hD hp
 go_enter Tryz.func125,Tryz.ntmps125
 go_wp2_with fail
 refine(H.out).mono ?_
 rintro e w1 ⟨rfl,hb1⟩
 go_wp2
 go_ret
 exact⟨by rw[←HA.out];rfl,hb1⟩
def ptIn (t n s c:Int) (x:Pt):Bool:=inF x.f t n&&knIn x.k s c
def ptsIn (l:List Pt) (t n s c:Int):Bool:=l.any (ptIn t n s c)
theorem pin1_p (A B:Nat) (t n s c:Int) (w:World) (hA:w.heap[A]? =some (Obj.cells #[.int .i64 t, .int .i64 n] 39 (0,0))) (hB:w.heap[B]? =some (Obj.cells #[.int .i64 s, .int .i64 c] 41 (0,0))) (hd:dotOk (s,c)=true):
  PredP PtOk 126 #[.pointer (some ⟨A,0,none⟩), .pointer (some ⟨B,0,none⟩)] (ptIn t n s c) w:=by
 refine⟨enters_of Tryz.func126 (by kernel_rfl) rfl,fun a f u x W hok hbl hf hk=> ?_⟩
 show Calls Tryz.prog 126 #[.agg #[f,u,x], .pointer (some ⟨A,0,none⟩), .pointer (some ⟨B,0,none⟩)] W _
 have hA1:=below_keep hbl hA
 have hB1:=below_keep hbl hB
 clear hbl hA hB
 obtain⟨fa,fc,rfl⟩:=hf.shape
 obtain⟨ua,uc,rfl⟩:=hk.vec.shape
 obtain⟨xa,xc,rfl⟩:=hk.more.shape
 have hbel:=bal (W:=W) (.cells #[.slice fa a.f.length fc, .slice ua a.k.vec.length uc, .slice xa a.k.more.length xc] 105)
 have HNB:=jD (below_keep hbel hB1)
 have HNP:=jD (alloc_new W #[.slice fa a.f.length fc, .slice ua a.k.vec.length uc, .slice xa a.k.more.length xc] 105 _ rfl)
 have HIF:=jD (inf_c _ a.f t n _ (hf.below hbel))
 have HK:=jD (hk.below hbel)
 have c0:=cell_of_block (j:=0) hA1 rfl
 have c1:=cell_of_block (j:=1) hA1 rfl
 have hAl:=hlt_of hA1
 have hBl:=hlt_of hB1
 have HBEL:=jD hbel
 obtain⟨hko, -⟩:=knChk_zero.1 hok.k
 obtain⟨⟨d0,d5⟩,d1,d2⟩:=dotOk_iff.1 hd
 simp only at d0 d5 d1 d2
 have HBD:=jD (dotBd_of (l:=[(s,c)]) fun d hx=>by simp only[List.mem_singleton] at hx;rw [hx];exact hd)
 have HBM:=jD (dotBd_of fun d hd=>(hko.dots d hd).1)
 have HKO:=jD hko
 clear hf hk hA1 hB1 hbel hok hko hd
 go_enter Tryz.func126,Tryz.ntmps126
 go_wp2_with fail
 (with_reducible refine(HIF.out).mono ?_)
 rintro e w1 ⟨rfl,hb1⟩
 have hP1:=below_keep hb1 HNP.out
 have hD1:=below_keep hb1 HNB.out
 have HKI:=jD (knIn_c _ _ a.k s c _ (HK.out.below hb1) d0 HKO.out.ord HBM.out HBD.out)
 have hbl1:=bstep HBEL.out hb1
 have HPI:=jD (show ptIn t n s c a=(inF a.f t n&&knIn a.k s c) from rfl)
 clear HIF HNP HNB HK HBEL hb1 c0 c1
 cases hin:inF a.f t n
 ·have H:=jD (show ptIn t n s c a=false by rw[HPI.out,hin];rfl)
  clear hin HKI hP1 hD1
  go_wp2
  go_ret
  exact⟨by rw[H.out];rfl,hbl1⟩
 have H:=jD (show ptIn t n s c a=knIn a.k s c by rw[HPI.out,hin];rfl)
 have c1:=cell_of_block (j:=1) hP1 rfl
 have c2:=cell_of_block (j:=2) hP1 rfl
 have e0:=cell_of_block (j:=0) hD1 rfl
 have e1:=cell_of_block (j:=1) hD1 rfl
 clear hin hP1 hD1
 go_wp2_with fail
 (with_reducible refine(HKI.out).mono ?_)
 rintro e w2 ⟨rfl,hb2⟩
 replace hbl1:=bstep hbl1 hb2
 clear hb2 HKI c1 c2 e0 e1
 go_wp2
 go_ret
 exact⟨by rw[H.out];rfl,hbl1⟩
theorem ptsIn_c (v:Value) (l:List Pt) (t n s c:Int) (w:World) (hv:RowAt partE w v l) (hok: ∀x∈l,PtOk x) (hd:dotOk (s,c)=true):
  Calls Tryz.prog 70 #[v, .agg #[.int .i64 t, .int .i64 n], .agg #[.int .i64 s, .int .i64 c]] w fun e w'=>e= .returned (.bool (ptsIn l t n s c))∧Below w.heap.size w w':=by
 obtain⟨W,hW⟩: ∃W,W=(w.alloc (.cells #[.int .i64 t, .int .i64 n] 39)).alloc (.cells #[.int .i64 s, .int .i64 c] 41):=⟨_,rfl⟩
 have hbel:Below w.heap.size w W:=by rw[hW];exact (bal _).alloc (by simp) _
 have A:=(show W.heap[w.heap.size]? =some (Obj.cells #[.int .i64 t, .int .i64 n] 39 (0,0)) by rw[hW];exact alloc_keep _ (alloc_new _ _ _ _ rfl))
 have B:=(show W.heap[w.heap.size+1]? =some (Obj.cells #[.int .i64 s, .int .i64 c] 41 (0,0)) by rw[hW];exact alloc_new _ _ _ _ (by simp))
 obtain⟨a,cap,rfl⟩:=hv.shape
 have HC:=jD (containsP_c PtOk _ l 126 _ (ptIn t n s c) W (hv.below hbel) hok (pin1_p w.heap.size (w.heap.size+1) t n s c W A B hd))
 have HI:=jD (show ptsIn l t n s c=l.any (ptIn t n s c) from rfl)
 clear A B hv hok hd
 go_enter Tryz.func70,Tryz.ntmps70
 go_wp2_with fail
 rw[←hW]
 clear hW
 (with_reducible refine(HC.out).mono ?_)
 rintro e w1 ⟨rfl,hb1⟩
 replace hbel:=bstep hbel hb1
 clear hb1 HC
 go_wp2
 go_ret
 exact⟨by rw[HI.out];rfl,hbel⟩
def PredI (D:Pt→Prop) (g:FuncId) (caps:Array Value) (p:Pt→Bool) (I:World→Prop):Prop:=
 (∀args W,(callFunc g args).run Tryz.prog W= .ok (.enter g args) W)∧ ∀(a:Pt) (f u x:Value) (W:World),D a→I W→BxsAt W f a.f→KnAt W u x a.k→Calls Tryz.prog g (#[.agg #[f,u,x]]++caps) W fun e w'=>e= .returned (.bool (p a))∧Below W.heap.size W w'
theorem PredI.at_ {D:Pt→Prop} {g:FuncId} {caps:Array Value} {p:Pt→Bool} {I:World→Prop} {w:World} (h:PredI D g caps p I) (hI:I w) (hs: ∀W W',I W→Below W.heap.size W W'→I W'):PredP D g caps p w:=
 ⟨h.1,fun a f u x W hD hb hf hk=>h.2 a f u x W hD (hs w W hI hb) hf hk⟩
structure DStP (I:World→Prop) (w0:World) (g cap:Nat) (cur0 X:List Value) (k q:Nat) (wr:World):Prop where
 inv:I wr
 ex: ∃cur:List Value,wr.heap[g]? =some (.cells cur.toArray 105 (0,0))∧cur.length=cap*3∧cur.take (k*3)=X∧cur.drop (q*3)=cur0.drop (q*3)
 bel:Below w0.heap.size w0 wr
theorem pdel_c (D:Pt→Prop) (w0 w:World) (s:Value) (l:List Pt) (g0:FuncId) (caps:Array Value) (p:Pt→Bool) (hbl:Below w0.heap.size w0 w) (hown:RowOwn partE w0 w w0.heap.size 105 s l) (hn:l.length≤1000) (hD: ∀v∈l,D v) (I:World→Prop) (hp:PredI D g0 caps p I) (hI:I w) (hs1: ∀W W',I W→Below W.heap.size W W'→I W') (hs2: ∀W W' g,s.ownBlock=some g→RowBut W W' g→I W→I W'):
  Calls Tryz.prog 171 #[s, .func (.func g0) #[] caps] w fun e w'=> ∃s',e= .returned s'∧RowOwn partE w0 w' w0.heap.size 105 s' (l.filter fun v=> !p v)∧Below w0.heap.size w0 w'∧I w':=by
 have hp1:=hp.at_ hI hs1
 have HS1I:=jD hs1
 have hat:=hown.at_ (Sub.of_below hbl) (by omega)
 have HI:=jD (indexP_c D s l g0 caps p w hat hD hp1)
 have HP:=jD hp.2
 have hcall:=hp.1
 have HD:=jD hD
 have HI0:=jD hI
 have HS2I:=jD hs2
 clear hI hs1 hs2
 obtain⟨css,hels,hrow⟩:=hown
 replace hrow:w.ownsRow w0.heap.size 105 3 s l.length css.flatten:=hrow
 have hlc:l.length=css.length:=hels.length.symm
 clear hat hp hp1 hD
 rcases firstI_spec (p:=p) (l:=l) with⟨h1,hall⟩ | ⟨i,h1,hi,hpi,hpj⟩
 ·have hfl:(l.filter fun v=> !p v)=l:=List.filter_eq_self.2 fun v hv=>by rw[hall v hv];rfl
  rw[hfl]
  rw[h1] at HI
  have HROW:=jD (show RowOwn partE w0 w w0.heap.size 105 s l from⟨css,hels,hrow⟩)
  have HBL:=jD hbl
  obtain⟨a,cap,rfl⟩:=owns_slice hrow
  clear hels hrow hall hbl hcall hlc
  go_enter Tryz.func171,Tryz.ntmps171
  go_wp2_with fail
  (with_reducible refine(HI.out).mono ?_)
  rintro e w1 ⟨rfl,hb1⟩
  have hr:=HROW.out.below hb1
  have hb:=bstep HBL.out hb1
  have hi:=HS1I.out _ _ HI0.out hb1
  clear hb1
  go_wp2
  go_ret
  exact⟨_,rfl,hr,hb,hi⟩
 ·rw[h1] at HI
  rcases hrow.2 with⟨-,h0⟩ | ⟨g,cap,cur,rfl,hbg,hg,hnc,hcm,hcs,htake⟩
  ·omega
  obtain⟨cur0,hcur⟩: ∃c:List Value,c=cur.toList:=⟨_,rfl⟩
  have hg':w.heap[g]? =some (.cells cur0.toArray 105 (0,0)):=by rw[hcur];simpa using hg
  have hcl:cur0.length=cap*3:=by rw[hcur];simpa using hcs
  rw[←hcur] at htake
  have hlens:=hels.lens
  have HT:=jD (fun (q:Nat) (hq:q≤l.length)=>(show(css.take q).flatten=cur0.take (q*3) by
   rw[css_take (n:=3) hlens,←htake,List.take_take];congr 1;show min (q*3) (l.length*3)=q*3;omega))
  have HTK:=jD htake
  have hst:DStP I w0 g cap cur0 (filtC (fun v=> !p v) (l.take (i+1)) (css.take (i+1))).flatten i (i+1) w:=by
   refine⟨HI0.out,⟨cur0,hg',hcl, ?_,rfl⟩,hbl⟩
   obtain⟨c, -,hc, -⟩:=hels.cell i hi
   rw[filtC_step _ hlc hi hc,if_neg (by rw[hpi];decide),List.append_nil,filtC_all _ (by rw[List.length_take,List.length_take,hlc]) (fun v hv=>by
    obtain⟨j,hj,rfl⟩:=List.getElem_of_mem hv
    rw[List.length_take] at hj
    rw[List.getElem_take,hpj j (by omega)];rfl),HT.out i (by omega)]
  have hki:((l.take (i+1)).filter fun v=> !p v).length=i:=by
   rw[List.take_succ_eq_append_getElem hi,List.filter_append,List.filter_cons_of_neg (by rw[hpi];decide),List.filter_nil,List.append_nil,List.filter_eq_self.2 fun v hv=>by
    obtain⟨j,hj,rfl⟩:=List.getElem_of_mem hv
    rw[List.length_take] at hj
    rw[List.getElem_take,hpj j (by omega)];rfl]
   rw[List.length_take];omega
  have HST:=jD hst
  have HKI:=jD hki
  have HEL:=jD hels
  have HLC:=jD hlc
  have HCL:=jD hcl
  have HFE:=jD (fun (X:List (List Value))=>show X=X from rfl)
  clear hst hki hels hrow hlens hg hg' hcs hcur hpj htake hbl hlc hcl
  have hw1:IntKind.i64.wrap ((i:Int)+1)=(i:Int)+1:=by rw[IntKind.wrap_i64];omega
  have hm1:((i:Int)== -1)=false:=by rw[beq_eq_false_iff_ne];omega
  go_enter Tryz.func171,Tryz.ntmps171
  go_wp2_with fail
  (with_reducible refine(HI.out).mono ?_)
  rintro e w1 ⟨rfl,hb1⟩
  have HST1:=jD (show DStP I w0 g cap cur0 (filtC (fun v=> !p v) (l.take (i+1)) (css.take (i+1))).flatten i (i+1) w1 by
   obtain⟨hi,⟨cur,h2,h3⟩,h4⟩:=HST.out
   exact⟨HS1I.out _ _ hi hb1,⟨cur,below_keep hb1 h2,h3⟩,bstep h4 hb1⟩)
  clear HST hb1 HI
  go_wp2
  go_loopw [5,6] (fun iv jv wr=> ∃k q:Nat,iv= .int .i64 k∧jv= .int .i64 q∧k+1≤q∧q≤l.length∧((l.take q).filter fun v=> !p v).length=k∧DStP I w0 g cap cur0 (filtC (fun v=> !p v) (l.take q) (css.take q)).flatten k q wr) (fun _ jv _=>l.length - (intOf jv).toNat)
  case atStart=>exact ⟨i,i+1,rfl,by go_num,Nat.le_refl _,by omega,HKI.out,HST1.out⟩
  case round=>
   obtain⟨k,q,rfl,rfl,hkq,hq,hkl,hst⟩:=hrel
   have HKL:=jD hkl
   have HSR:=jD hst
   clear hkl hst HST1
   by_cases hlt:q < l.length
   ·obtain⟨c,⟨f,u,x,rfl,hf2,hk2⟩,hcq,hcc⟩:=HEL.out.cell q hlt
    obtain⟨hinv,⟨cur,hgc,hcl,htk,hdr⟩,hbel⟩:=HSR.out
    have HINV:=jD hinv
    clear hinv
    have hcell:=fun (j:Nat) (y:Value) (hj:j < 3) (hy:[f,u,x][j]? =some y)=>(show wr.cell? ⟨g,q*3+j,none⟩=some y from
     cell_of_block hgc (by
      have e1:=hcc j y hy
      have e2:cur[q*3+j]? =cur0[q*3+j]? :=get_of_drop hdr
      have e3:cur0[q*3+j]? =css.flatten[q*3+j]? :=by rw[←HTK.out,List.getElem?_take_of_lt (by omega)]
      rw[List.getElem?_toArray,e2,e3];exact e1))
    have c0:=hcell 0 _ (by decide) rfl
    have c1:=hcell 1 _ (by decide) rfl
    have c2:=hcell 2 _ (by decide) rfl
    rw[Nat.add_zero] at c0
    obtain⟨fa,fc,rfl⟩:=hf2.shape
    obtain⟨ua,uc,rfl⟩:=hk2.vec.shape
    obtain⟨xa,xc,rfl⟩:=hk2.more.shape
    have hbx:=bal (W:=wr) (.cells #[.slice fa l[q].f.length fc, .slice ua l[q].k.vec.length uc, .slice xa l[q].k.more.length xc] 105)
    have HV:=jD (HP.out l[q] (.slice fa l[q].f.length fc) (.slice ua l[q].k.vec.length uc) (.slice xa l[q].k.more.length xc) _ (HD.out _ (List.getElem_mem hlt)) (HS1I.out _ _ HINV.out hbx) ((hf2.below hbel).below hbx) ((hk2.below hbel).below hbx))
    have HNB:=jD (alloc_new wr #[.slice fa l[q].f.length fc, .slice ua l[q].k.vec.length uc, .slice xa l[q].k.more.length xc] 105 _ rfl)
    have HBX:=jD hbx
    have HGC:=jD hgc
    have HBEL:=jD hbel
    have HS1:=jD (filtC_step (fun v=> !p v) HLC.out hlt hcq)
    have HF1:=jD (show((l.take (q+1)).filter fun v=> !p v)=((l.take q).filter fun v=> !p v)++[l[q]].filter fun v=> !p v by rw[List.take_succ_eq_append_getElem hlt,List.filter_append])
    have hD8:=jD (show cur.drop ((q+1)*3)=cur0.drop ((q+1)*3) by
     have e:(q+1)*3=q*3+3:=by omega
     rw[e,←List.drop_drop,←List.drop_drop,hdr])
    clear hcell hcc hk2 hf2 hbx hgc hbel hdr
    generalize hvq:l[q]=v1 at*
    have HTKK:=jD htk
    have HCLL:=jD hcl
    clear htk hcl hcq HSR
    have hltb:decide ((q:Int) < (l.length:Int))=true:=by simp;omega
    go_wp2_with fail
    refine(HV.out).mono ?_
    rintro e w2 ⟨rfl,hb2⟩
    have hB2:=below_keep hb2 HNB.out
    have hG2:=jD (below_keep hb2 (alloc_keep (.cells #[.slice fa v1.f.length fc, .slice ua v1.k.vec.length uc, .slice xa v1.k.more.length xc] 105) HGC.out))
    have HB2:=jD (bstep (bstep HBEL.out HBX.out) hb2)
    have HI2:=jD (HS1I.out _ _ (HS1I.out _ _ HINV.out HBX.out) hb2)
    clear hb2 HBX HV c0 c1 c2
    cases hpv:p v1
    ·have e0:=cell_of_block (j:=0) hB2 rfl
     have e1:=cell_of_block (j:=1) hB2 rfl
     have e2:=cell_of_block (j:=2) hB2 rfl
     have hkn:decide ((k:Int) < (l.length:Int))=true:=by simp;omega
     clear hB2
     go_wp2_with (refine wpList_store_at rfl 105 _ _ rfl g (k*3) #[.slice fa v1.f.length fc, .slice ua v1.k.vec.length uc, .slice xa v1.k.more.length xc] rfl rfl 105 cur hG2.out (by kernel_rfl) (by rw[HCLL.out];show k*3+3≤_;omega) (by intro z hz;simp only[List.mem_cons,List.not_mem_nil,or_false] at hz;rcases hz with rfl | rfl | rfl <;> rfl) ?_)
     intro w3 h3 hr3
     have HN1:=jD (show((l.take (q+1)).filter fun v=> !p v).length=k+1 by
      rw[HF1.out,List.length_append,HKL.out,List.filter_cons_of_pos (by rw[hpv];rfl)];rfl)
     have HX1:=jD (show DStP I w0 g cap cur0 (filtC (fun v=> !p v) (l.take (q+1)) (css.take (q+1))).flatten (k+1) (q+1) w3 by
      have e8:([.slice fa v1.f.length fc, .slice ua v1.k.vec.length uc, .slice xa v1.k.more.length xc]:List Value).length=3:=rfl
      refine⟨HS2I.out _ _ g rfl hr3 HI2.out,⟨_,h3.out,by rw[length_splice _ _ _ (by rw[e8,HCLL.out];omega),HCLL.out], ?_, ?_⟩,hr3.below HB2.out hbg⟩
      ·rw[show(k+1)*3=k*3+([.slice fa v1.f.length fc, .slice ua v1.k.vec.length uc, .slice xa v1.k.more.length xc]:List Value).length by rw[e8];omega,splice_take (by rw[e8,HCLL.out];omega),HTKK.out,HS1.out,if_pos (by rw[hpv];rfl),List.flatten_append,List.flatten_cons,List.flatten_nil,List.append_nil]
      ·rw[splice_drop (by rw[e8];omega) (by rw[e8,HCLL.out];omega)];exact hD8.out)
     clear h3 hr3 hpv e0 e1 e2
     go_wp2
     go_roundw
     case rel=>exact ⟨k+1,q+1,by go_num,by go_num,by omega,by omega,HN1.out,HX1.out⟩
     case measure=>simp [intOf] <;> omega
    ·have HN1:=jD (show((l.take (q+1)).filter fun v=> !p v).length=k by
      rw[HF1.out,List.length_append,HKL.out,List.filter_cons_of_neg (by rw[hpv];decide)];rfl)
     have HX1:=jD (show DStP I w0 g cap cur0 (filtC (fun v=> !p v) (l.take (q+1)) (css.take (q+1))).flatten k (q+1) w2 from
      ⟨HI2.out,⟨_,hG2.out,HCLL.out,by rw[HTKK.out,HS1.out,if_neg (by rw[hpv];decide),List.append_nil],hD8.out⟩,HB2.out⟩)
     clear hpv hB2
     go_wp2
     go_roundw
     case rel=>exact ⟨k,q+1,rfl,by go_num,by omega,by omega,HN1.out,HX1.out⟩
     case measure=>simp [intOf] <;> omega
   ·obtain rfl:q=l.length:=by omega
    rw[List.take_length] at HKL
    have hct:css.take l.length=css:=by rw[HLC.out,List.take_length]
    rw[List.take_length,hct] at HSR
    obtain⟨hinv,⟨cur,hgc,hcl,htk, -⟩,hbel⟩:=HSR.out
    have HINV:=jD hinv
    clear hinv
    have HGC:=jD hgc
    have HBEL:=jD hbel
    have HTKK:=jD htk
    have HCLL:=jD hcl
    clear hgc hbel htk hcl hct HSR
    have hkc: ¬(cap=k):=by omega
    go_wp2_with (refine wpList_clearS rfl _ 50 rfl 105 _ 3 72 Tryz.underlying50 PartTy.info rfl (by decide) g (k*3) (l.length - k) (cap - k) (some ⟨g,k*3,none⟩) (fun _=>rfl) rfl cur _ HGC.out (by rw[HCLL.out];omega) ?_)
    intro w3 zs h3 hz hr3
    have hFIN:=jD (show RowOwn partE w0 w3 w0.heap.size 105 (.slice (some ⟨g,0,none⟩) k cap) (l.filter fun v=> !p v) by
     refine⟨_,filtC_els _ HEL.out, ?_⟩
     rw[HKL.out]
     have hfl:=(filtC_els (fun v=> !p v) HEL.out).flat
     rw[HKL.out] at hfl
     refine⟨hfl, .inr ⟨g,cap,_,rfl,hbg,h3.out,by omega,hcm,by rw[List.size_toArray,length_splice _ _ _ (by rw[hz,HCLL.out];omega),HCLL.out];rfl, ?_⟩⟩
     rw[List.toList_toArray]
     show(splice cur (k*3) zs).take (k*3)=_
     rw[splice_take0 (by rw[HCLL.out];omega),HTKK.out])
    have HB3:=jD (hr3.below HBEL.out hbg)
    have HI3:=jD (HS2I.out _ _ g rfl hr3 HINV.out)
    clear h3 hr3
    go_wp2
    go_ret
    exact⟨_,rfl,hFIN.out,HB3.out,HI3.out⟩
end Go.Proofs.YtgkgdedhicnohaaGreat
