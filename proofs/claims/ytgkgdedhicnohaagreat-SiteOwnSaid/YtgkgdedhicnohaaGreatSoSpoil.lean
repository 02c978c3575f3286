/- What the laws' waste leaves of other filters; spoil of a row of bools. Printed by gen/sospoil.py. -/
import Derived.Test.YtgkgdedhicnohaaGreatMRoomF
import Derived.Test.YtgkgdedhicnohaaGreatMRoomK
namespace Go.Proofs.YtgkgdedhicnohaaGreat
set_option maxRecDepth 100000
set_option maxHeartbeats 40000000
open Go.RowKit
theorem spoil_bool (v:Value) (a0:Bool) (w:World) (h:ShRow w 4 1 v):
  Calls Tryz.prog 59 #[v,(.bool a0)] w fun e w'=>e= .returned (.tuple #[])∧Sp (fun k=>v.ownBlock=some k) w w':=by
 rcases h with rfl | ⟨g,n,cap,cur,rfl,hnc,hcm,hg,hs⟩
 ·go_enter Tryz.func59,Tryz.ntmps59
  go_wp2
  go_loopw [11] (fun v wr=>v= .int .i64 0∧Below w.heap.size w wr) (fun _ _=>0)
  case atStart=>exact ⟨rfl,Below.refl _ _⟩
  case round=>
   obtain⟨rfl,hb⟩:=hrel
   go_wp2
   refine bodyPost_end (v:= .tuple #[]) ?_ rfl ?_
   ·simp[results,Tryz.results59,go_sem]
   ·exact⟨rfl,Sp.of_below hb⟩
 obtain⟨W,hW⟩: ∃W,W=w:=⟨_,rfl⟩
 have HB0:=jD (show Below w.heap.size w W by rw[hW];exact Below.refl _ _)
 have HG:=jD (below_keep HB0.out hg)
 have HX:=jD (show ∀i:Nat,i < cap→((i:Int) < 9223372036854775807∧cap≤9223372036854775807) by intro i hi;unfold maxLen at hcm;omega)
 have hcm2:cap≤9223372036854775807:=by unfold maxLen at hcm;omega
 have HSZ:=jD hs
 clear hg hs hcm
 go_enter Tryz.func59,Tryz.ntmps59
 go_wp2_with fail
 rw[←hW]
 clear hW
 go_wp2
 go_loopw [11] (fun v wr=> ∃i:Nat,i≤cap∧v= .int .i64 i∧Sp (fun k=>k=g) W wr) (fun v _=>cap - (intOf v).toNat)
 case atStart=>exact ⟨0,by omega,rfl,Sp.refl _ _⟩
 case round=>
  obtain⟨i,hi,rfl,hb⟩:=hrel
  have HB:=jD hb
  clear hb
  by_cases hlt:i < cap
  ·have hltb:decide ((i:Int) < (cap:Int))=true:=by simp;omega
   obtain⟨cs,hcs,hcz⟩:=HB.out.shape _ _ _ HG.out
   have HC:=jD (hcz.trans HSZ.out)
   have HN:=jD (HB.out.trans (Sp.row [.bool a0] wr (i*1) cs hcs))
   obtain⟨⟨q0,r0⟩,f0⟩:=sh_cell hcs HC.out hlt (j:=0) (by decide)
   have hRl:=hlt_of hcs
   simp only[Nat.add_zero,Nat.mul_one] at r0 f0 HN
   clear hcs hcz
   go_wp2
   go_roundw
   case rel=>exact ⟨i+1,by omega,by go_num,HN.out⟩
   case measure=>simp [intOf] <;> omega
  ·obtain rfl:i=cap:=by omega
   have HF:=jD ((Sp.of_below HB0.out).trans HB.out)
   clear HB
   go_wp2
   refine bodyPost_end (v:= .tuple #[]) ?_ rfl ?_
   ·simp[results,Tryz.results59,go_sem]
   ·exact⟨rfl,HF.out.mono fun k hk=>by rw[hk];rfl⟩
def TyIn (T:Nat→Bool) (w:World) (q:Nat):Prop:= ∃cs t,w.heap[q]? =some (Obj.cells cs t (0,0))∧T t=true
theorem TyIn.of {T:Nat→Bool} {w:World} {q e:Nat} (h: ∃cs,w.heap[q]? =some (Obj.cells cs e (0,0))) (he:T e=true):TyIn T w q:=by
 obtain⟨cs,h⟩:=h;exact ⟨cs,e,h,he⟩
theorem TyIn.not {T:Nat→Bool} {w:World} {q e:Nat} {cs:Array Value} (h:TyIn T w q) (hc:w.heap[q]? =some (Obj.cells cs e (0,0))) (he:T e=false):False:=by
 obtain⟨c2,t,h1,h2⟩:=h
 rw[hc] at h1
 simp only[Option.some.injEq,Obj.cells.injEq] at h1
 rw[←h1.2.1,he] at h2
 exact absurd h2 (by decide)
def TF (t:Nat):Bool:=t==124 || t==119
def TK (t:Nat):Bool:=t==3 || t==41
def TV (t:Nat):Bool:=t==3 || t==41 || t==75
def BoxOr (cur cs:Array Value):Prop:= ∀j:Nat,(cs[j*3]? =cur[j*3]? ∧cs[j*3+1]? =cur[j*3+1]? ∧cs[j*3+2]? =cur[j*3+2]?)∨ ∃a b,cs[j*3]? =some (.int .i64 a)∧cs[j*3+1]? =some (.int .i64 b)∧cs[j*3+2]? =some (.slice none 0 0)
theorem BoxOr.refl (cs:Array Value):BoxOr cs cs:=fun _=> .inl ⟨rfl,rfl,rfl⟩
theorem boxOr_step {cur cs:Array Value} {i:Nat} {a b:Int} (h:BoxOr cur cs) (hi:i*3+2 < cs.size):BoxOr cur (((cs.setIfInBounds (i*3) (.int .i64 a)).setIfInBounds (i*3+1) (.int .i64 b)).setIfInBounds (i*3+2) (.slice none 0 0)):=by
 intro j
 by_cases e:j=i
 ·subst e
  refine .inr ⟨a,b, ?_, ?_, ?_⟩
  ·rw[Array.getElem?_setIfInBounds_ne (by omega),Array.getElem?_setIfInBounds_ne (by omega),Array.getElem?_setIfInBounds_self_of_lt (by omega)]
  ·rw[Array.getElem?_setIfInBounds_ne (by omega),Array.getElem?_setIfInBounds_self_of_lt (by simp;omega)]
  ·rw[Array.getElem?_setIfInBounds_self_of_lt (by simp;omega)]
 ·have k: ∀d,d < 3→(((cs.setIfInBounds (i*3) (.int .i64 a)).setIfInBounds (i*3+1) (.int .i64 b)).setIfInBounds (i*3+2) (.slice none 0 0))[j*3+d]? =cs[j*3+d]? :=fun d hd=>by
   rw[Array.getElem?_setIfInBounds_ne (by omega),Array.getElem?_setIfInBounds_ne (by omega),Array.getElem?_setIfInBounds_ne (by omega)]
  have k0:=k 0 (by decide)
  simp only[Nat.add_zero] at k0
  rw[k0,k 1 (by decide),k 2 (by decide)]
  exact h j
theorem box_row {w:World} {g i:Nat} {cs cur:Array Value} {a b:Int} (h:w.heap[g]? =some (.cells cs 124 (0,0))) (ho:BoxOr cur cs) (hi:i*3+2 < cs.size): ∃cs',(sowRow w g (i*3) [.int .i64 a, .int .i64 b, .slice none 0 0]).heap[g]? =some (.cells cs' 124 (0,0))∧BoxOr cur cs':=
 ⟨_,heap_set_same (heap_set_same (heap_set_same h)),boxOr_step ho hi⟩
def BoxPost (v:Value) (w w':World):Prop:= ∀g cs,v.ownBlock=some g→w.heap[g]? =some (.cells cs 124 (0,0))→ ∃cs',w'.heap[g]? =some (.cells cs' 124 (0,0))∧BoxOr cs cs'
theorem spoil_box2 (v:Value) (a0 a1:Int) (w:World) (h:ShRow w 124 3 v):
  Calls Tryz.prog 100 #[v,(.agg #[.int .i64 a0, .int .i64 a1, .slice none 0 0])] w fun e w'=>e= .returned (.tuple #[])∧Sp (fun k=>v.ownBlock=some k) w w'∧BoxPost v w w':=by
 rcases h with rfl | ⟨g,n,cap,cur,rfl,hnc,hcm,hg,hs⟩
 ·go_enter Tryz.func100,Tryz.ntmps100
  go_wp2
  go_loopw [11] (fun v wr=>v= .int .i64 0∧Below w.heap.size w wr) (fun _ _=>0)
  case atStart=>exact ⟨rfl,bal _⟩
  case round=>
   obtain⟨rfl,hb⟩:=hrel
   go_wp2
   refine bodyPost_end (v:= .tuple #[]) ?_ rfl ?_
   ·simp[results,Tryz.results100,go_sem]
   ·exact⟨rfl,Sp.of_below hb,fun g cs h=>by simp[Value.ownBlock] at h⟩
 obtain⟨W,hW⟩: ∃W,W=w.alloc (.cells #[.int .i64 a0, .int .i64 a1, .slice none 0 0] 124):=⟨_,rfl⟩
 have HB0:=jD (show Below w.heap.size w W by rw[hW];exact bal _)
 have HG:=jD (below_keep HB0.out hg)
 have HX:=jD (show ∀i:Nat,i < cap→((i:Int) < 9223372036854775807∧cap≤9223372036854775807) by intro i hi;unfold maxLen at hcm;omega)
 have hcm2:cap≤9223372036854775807:=by unfold maxLen at hcm;omega
 have K:=jD (show W.heap[w.heap.size]? =some (.cells #[.int .i64 a0, .int .i64 a1, .slice none 0 0] 124 (0,0)) by rw[hW];exact alloc_new _ _ _ _ rfl)
 have hgw:g < w.heap.size:=hlt_of hg
 have HSZ:=jD hs
 clear hg hs hcm
 go_enter Tryz.func100,Tryz.ntmps100
 go_wp2_with fail
 rw[←hW]
 clear hW
 go_wp2
 go_loopw [11] (fun v wr=> ∃i:Nat,i≤cap∧v= .int .i64 i∧Sp (fun k=>k=g) W wr∧ ∃cs,wr.heap[g]? =some (.cells cs 124 (0,0))∧BoxOr cur cs) (fun v _=>cap - (intOf v).toNat)
 case atStart=>exact ⟨0,by omega,rfl,Sp.refl _ _,cur,HG.out,BoxOr.refl _⟩
 case round=>
  obtain⟨i,hi,rfl,hb,cs,hcs,hbo⟩:=hrel
  have HCS:=jD (And.intro hcs hbo)
  clear hcs hbo
  have HB:=jD hb
  clear hb
  by_cases hlt:i < cap
  ·have hltb:decide ((i:Int) < (cap:Int))=true:=by simp;omega
   have hcs:=HCS.out.1
   have hcz:cs.size=cur.size:=by
    obtain⟨cs2,q1,q2⟩:=HB.out.shape _ _ _ HG.out
    rw[hcs] at q1
    simp only[Option.some.injEq,Obj.cells.injEq,and_true] at q1
    rw[q1];exact q2
   have HC:=jD (hcz.trans HSZ.out)
   have HN:=jD (HB.out.trans (Sp.row [.int .i64 a0, .int .i64 a1, .slice none 0 0] wr (i*3) cs hcs))
   have HBR:=jD (box_row (a:=a0) (b:=a1) (i:=i) HCS.out.1 HCS.out.2 (by have:=HC.out;omega))
   obtain⟨⟨q0,r0⟩,f0⟩:=sh_cell hcs HC.out hlt (j:=0) (by decide)
   obtain⟨⟨q1,r1⟩,f1⟩:=sh_cell hcs HC.out hlt (j:=1) (by decide)
   obtain⟨⟨q2,r2⟩,f2⟩:=sh_cell hcs HC.out hlt (j:=2) (by decide)
   have hRl:=hlt_of hcs
   simp only[Nat.add_zero,Nat.mul_one] at r0 f0 HN
   have kb:=HB.out.block K.out (by omega)
   have k0:=cell_of_block (j:=0) kb rfl
   have k1:=cell_of_block (j:=1) kb rfl
   have k2:=cell_of_block (j:=2) kb rfl
   have kl:=hlt_of kb
   clear kb
   clear hcs hcz
   go_wp2
   go_roundw
   case rel=>exact ⟨i+1,by omega,by go_num,HN.out,HBR.out⟩
   case measure=>simp [intOf] <;> omega
  ·obtain rfl:i=cap:=by omega
   have HF:=jD ((Sp.of_below HB0.out).trans HB.out)
   clear HB
   go_wp2
   refine bodyPost_end (v:= .tuple #[]) ?_ rfl ?_
   ·simp[results,Tryz.results100,go_sem]
   ·refine⟨rfl,HF.out.mono fun k hk=>by rw[hk];rfl,fun g' cs' h' hg'=> ?_⟩
    simp only[Value.ownBlock,Option.some.injEq] at h'
    subst h'
    have h3:=HG.out
    rw[below_keep HB0.out hg'] at h3
    simp only[Option.some.injEq,Obj.cells.injEq,and_true] at h3
    rw[h3]
    exact⟨cs,HCS.out.1,HCS.out.2⟩
def ShF (U:Nat→Prop) (w:World) (v:Value):Prop:=
 v= .slice none 0 0∨ ∃(g n cap:Nat) (cur:Array Value),v= .slice (some ⟨g,0,none⟩) n cap∧n≤cap∧cap≤maxLen∧U g∧w.heap[g]? =some (.cells cur 124 (0,0))∧cur.size=cap*3∧
  ∀j,j < n→ ∃y z u,cur[j*3]? =some (.int .i64 y)∧cur[j*3+1]? =some (.int .i64 z)∧cur[j*3+2]? =some u∧ShRow w 119 2 u∧ ∀q,u.ownBlock=some q→U q
theorem ShF.row {U:Nat→Prop} {w:World} {v:Value} (h:ShF U w v):ShRow w 124 3 v:=by
 rcases h with h | ⟨g,n,cap,cur,h1,h2,h3, -,h4,h5, -⟩
 ·exact .inl h
 ·exact .inr ⟨g,n,cap,cur,h1,h2,h3,h4,h5⟩
theorem ShF.inU {U:Nat→Prop} {w:World} {v:Value} (h:ShF U w v): ∀q,v.ownBlock=some q→U q:=by
 rcases h with rfl | ⟨g,n,cap,cur,rfl,h2,h3,hU,h4,h5, -⟩
 ·intro q hq;simp [Value.ownBlock] at hq
 ·intro q hq
  simp only[Value.ownBlock,Option.some.injEq] at hq
  subst hq;exact hU
theorem ShF.off {U S:Nat→Prop} {w w':World} {v:Value} (h:ShF U w v) (hs:Sp S w w') (hS: ∀q cs,S q→w.heap[q]? =some (.cells cs 124 (0,0))→False):ShF U w' v:=by
 rcases h with h | ⟨g,n,cap,cur,h1,h2,h3,hU,h4,h5,h6⟩
 ·exact .inl h
 ·refine .inr ⟨g,n,cap,cur,h1,h2,h3,hU,hs.block h4 fun hg=>hS g cur hg h4,h5,fun j hj=> ?_⟩
  obtain⟨y,z,u,k1,k2,k3,k4,k5⟩:=h6 j hj
  exact⟨y,z,u,k1,k2,k3,k4.sp hs,k5⟩
theorem ShF.below {U:Nat→Prop} {w w':World} {v:Value} (h:ShF U w v) (hb:Below w.heap.size w w'):ShF U w' v:=h.off (S:=fun _=>False) (Sp.of_below hb) fun _ _ h=>h.elim
theorem ShF.spoilt {U:Nat→Prop} {w w':World} {v v':Value} (h:ShF U w v) (hs:Sp (fun k=>v'.ownBlock=some k) w w') (hb:BoxPost v' w w'):ShF U w' v:=by
 rcases h with h | ⟨g,n,cap,cur,h1,h2,h3,hU,h4,h5,h6⟩
 ·exact .inl h
 ·have hsh:=hs.shape _ _ _ h4
  by_cases hg:v'.ownBlock=some g
  ·obtain⟨cs',q1,q2⟩:=hb g cur hg h4
   obtain⟨cs2,q3,q4⟩:=hsh
   rw[q1] at q3
   simp only[Option.some.injEq,Obj.cells.injEq,and_true] at q3
   subst q3
   refine .inr ⟨g,n,cap,cs',h1,h2,h3,hU,q1,q4.trans h5,fun j hj=> ?_⟩
   rcases q2 j with⟨e1,e2,e3⟩ | ⟨a,b,e1,e2,e3⟩
   ·obtain⟨y,z,u,k1,k2,k3,k4,k5⟩:=h6 j hj
    exact⟨y,z,u,e1.trans k1,e2.trans k2,e3.trans k3,k4.sp hs,k5⟩
   ·exact⟨a,b,_,e1,e2,e3, .inl rfl,fun q hq=>by simp[Value.ownBlock] at hq⟩
  ·refine .inr ⟨g,n,cap,cur,h1,h2,h3,hU,hs.block h4 hg,h5,fun j hj=> ?_⟩
   obtain⟨y,z,u,k1,k2,k3,k4,k5⟩:=h6 j hj
   exact⟨y,z,u,k1,k2,k3,k4.sp hs,k5⟩
theorem ShF.of_own {U:Nat→Prop} {w:World} {base:Nat} {v:Value} {l:Bxs} (h:FOwn w base v l) (hU: ∀q,base≤q→q < w.heap.size→U q):ShF U w v:=by
 obtain⟨us,h1,h2,h3⟩:=h
 have hb:=h2.lt
 have hin:=fun q hq=>hU q (hb q hq).1 (hb q hq).2
 rcases h2.2 with⟨h0, -⟩ | ⟨g,cap,cur,k1,k2,k3,k4,k5,k6,k7⟩
 ·exact .inl h0
 ·refine .inr ⟨g,l.length,cap,cur,k1,k4,k5,hin g (by rw[k1];rfl),k3,k6,fun j hj=> ?_⟩
  obtain⟨b0,b1,b2⟩:=bxCells_at h1 hj
  have hlen:=bxCells_length l us h1
  have hju:j < us.length:=by omega
  have hget: ∀i x,(bxCells l us)[i]? =some x→cur[i]? =some x:=fun i x hx=>by
   rw[←k7,List.getElem?_take] at hx
   split at hx
   ·rwa[Array.getElem?_toList] at hx
   ·exact absurd hx (by simp)
  exact⟨_,_,us[j],hget _ _ b0,hget _ _ b1,hget _ _ (b2.trans (List.getElem?_eq_getElem hju)),ShRow.of_owns (h3 j hj hju),fun q hq=>hU q ((h3 j hj hju).lt q hq).1 ((h3 j hj hju).lt q hq).2⟩
theorem waste2_c (U:Nat→Prop) (v:Value) (w:World) (h:ShF U w v):
  Calls Tryz.prog 51 #[v] w fun e w'=>e= .returned (.tuple #[])∧Sp U w w'∧ ∀v',ShF U w v'→ShF U w' v':=by
 obtain⟨a,n,c,hva⟩:=h.row.shape
 subst hva
 have HH:=jD h
 clear h
 go_enter Tryz.func51,Tryz.ntmps51
 go_wp2
 go_loopw [6] (fun i wr=> ∃k:Nat,k≤n∧i= .int .i64 k∧Sp U w wr∧ ∀v',ShF U w v'→ShF U wr v') (fun i _=>n - (intOf i).toNat)
 case atStart=>exact ⟨0,Nat.zero_le _,rfl,Sp.refl _ _,fun _ h=>h⟩
 case round=>
  obtain⟨k,hk,rfl,hb,hall⟩:=hrel
  have HB:=jD hb
  have HALL:=jD hall
  have hme:=hall _ HH.out
  clear hb hall
  by_cases hlt:k < n
  ·have hltb:decide ((k:Int) < (n:Int))=true:=by simp;omega
   rcases hme with h0 | ⟨g,n',cap',cur,h1,h2,h3,hU,h4,h5,h6⟩
   ·simp only[Value.slice.injEq] at h0;omega
   simp only[Value.slice.injEq] at h1
   obtain⟨rfl,rfl,rfl⟩:=h1
   obtain⟨y,z,u,k1,k2,k3,k4,k5⟩:=h6 k hlt
   have d0:=cell_of_block h4 k1
   have d1:=cell_of_block h4 k2
   have d2:=cell_of_block h4 k3
   have hgw:=hlt_of h4
   have HSK:=jD k4
   have HNE:=jD k5
   have hcm:c≤9223372036854775807:=by unfold maxLen at h3;omega
   obtain⟨ua,un,uc,hus⟩:=k4.shape
   subst hus
   clear h4 h6 k1 k2 k3 k4 k5 h3
   have HB1:=jD (show Below wr.heap.size wr (wr.alloc (.cells #[.int .i64 y, .int .i64 z, .slice ua un uc] 124)) from bal _)
   have HMK:=jD (spoil_span _ 5 0 _ (HSK.out.sp (S:=fun _=>False) (Sp.of_below HB1.out)))
   go_wp2_with fail
   (with_reducible refine(HMK.out).mono ?_)
   rintro e w2 ⟨rfl,hs2⟩
   have HSP:=jD (HSK.out.sp (S:=fun _=>False) (Sp.of_below HB1.out))
   have HA2:=jD (fun v' (h:ShF U w v')=>((HALL.out v' h).below HB1.out).off hs2 fun q cs hq hc=>by
    have:=HSP.out.off hc (by decide)
    exact this hq)
   have HN:=jD (HB.out.trans ((Sp.of_below HB1.out).trans (hs2.mono HNE.out)))
   clear hs2 HMK HB1 HSK HSP d0 d1 d2 HB HALL
   go_wp2
   go_roundw
   case rel=>exact ⟨k+1,by omega,by go_num,HN.out,HA2.out⟩
   case measure=>simp [intOf] <;> omega
  ·obtain rfl:k=n:=by omega
   have HSB:=jD (spoil_box2 _ 0 5 wr hme.row)
   have HIU:=jD hme.inU
   clear hme
   go_wp2_with fail
   (with_reducible refine(HSB.out).mono ?_)
   rintro e w2 ⟨rfl,hs2,hb2⟩
   have HA2:=jD (fun v' (h:ShF U w v')=>(HALL.out v' h).spoilt hs2 hb2)
   have HN:=jD (HB.out.trans (hs2.mono HIU.out))
   clear hs2 hb2 HSB HB HALL
   go_wp2
   refine bodyPost_end (v:= .tuple #[]) ?_ rfl ?_
   ·simp[results,Tryz.results51,go_sem]
   ·exact⟨rfl,HN.out,HA2.out⟩
theorem wasteShelf2_c (v:Value) (lo hi:Nat) (l:List Ver) (w:World) (hv:OwnV w lo hi v l) (hz:SzV l):
  Calls Tryz.prog 52 #[v] w fun e w'=>e= .returned (.tuple #[])∧Sp (fun k=>(lo≤k∧k < hi)∧TyIn TV w k) w w'∧ ∀U v',ShF U w v'→ShF U w' v':=by
 obtain⟨css,hu,hr,hiv,hs⟩:=hv
 obtain⟨a,c,hva⟩:=owns_slice hr
 have H8:=jD (show ∀c∈css,c.length=8 from fun c hc=>by
  obtain⟨i,hi,rfl⟩:=List.mem_iff_getElem.1 hc
  obtain⟨u,x,q, -⟩:=hs i (by omega) hi
  rw[q];rfl)
 have HC:=jD (CellsAt.of_owns hr hz.l)
 have HR:=jD hr
 have HU:=jD hu
 have HS:=jD hs
 have HIV:=jD hiv
 have hl9:=hz.l
 subst hva
 clear hr hu hs hiv hz
 go_enter Tryz.func52,Tryz.ntmps52
 go_wp2
 go_loopw [6] (fun i wr=> ∃k:Nat,k≤l.length∧i= .int .i64 k∧Sp (fun k=>((lo≤k∧k < hi)∧TyIn TV w k)∧(Value.slice a l.length c).ownBlock≠some k) w wr∧ ∀U v',ShF U w v'→ShF U wr v') (fun i _=>l.length - (intOf i).toNat)
 case atStart=>exact ⟨0,Nat.zero_le _,rfl,Sp.refl _ _,fun _ _ h=>h⟩
 case round=>
  obtain⟨k,hk,rfl,hb,hall⟩:=hrel
  have HALL:=jD hall
  clear hall
  have HB:=jD hb
  clear hb
  by_cases hlt:k < l.length
  ·have hltb:decide ((k:Int) < (l.length:Int))=true:=by simp;omega
   have hku:k < css.length:=by have:=HU.out;omega
   obtain⟨a',c',e1, -, -, -,e2⟩:=HC.out
   simp only[Value.slice.injEq,true_and] at e1
   obtain⟨rfl,rfl⟩:=e1
   obtain⟨u,x,hc,hk2⟩:=HS.out k hlt hku
   have hget:=fun j (hj:j < 8)=>flat8_get H8.out hku j hj
   rw[hc] at hget
   rcases e2 with hnil | ⟨b,off,rfl,hbw,hcc⟩
   ·have:=hget 0 (by decide);rw [hnil] at this;simp [verC] at this
   have hkeep:=fun j (hj:j < 8) y (h:(verC l[k] u x).toList[j]? =some y)=>(show wr.cell? ⟨b,off+(k*8+j),none⟩=some y from(HB.out.cell (p:=⟨b,off+(k*8+j),none⟩) hbw (by simp[Value.ownBlock])).trans (hcc _ y ((hget j hj).trans h)))
   have d0:=hkeep 0 (by decide) _ rfl
   have d1:=hkeep 1 (by decide) _ rfl
   have d2:=hkeep 2 (by decide) _ rfl
   have d3:=hkeep 3 (by decide) _ rfl
   have d4:=hkeep 4 (by decide) _ rfl
   have d5:=hkeep 5 (by decide) _ rfl
   have d6:=hkeep 6 (by decide) _ rfl
   have d7:=hkeep 7 (by decide) _ rfl
   simp only[Nat.add_zero,←Nat.add_assoc] at d0 d1 d2 d3 d4 d5 d6 d7
   have hgw:b < wr.heap.size:=Nat.lt_of_lt_of_le hbw HB.out.size
   have HNE:=jD (show ∀q,(u.ownBlock=some q∨x.ownBlock=some q)→((lo≤q∧q < hi)∧TyIn TV w q)∧(Value.slice (some ⟨b,off,none⟩) l.length c).ownBlock≠some q from fun q h=>⟨⟨h.elim (hk2.ru q) (hk2.rx q),h.elim (fun h1=>TyIn.of (owns_type hk2.own.vec h1) (by decide)) fun h1=>TyIn.of (owns_type hk2.own.more h1) (by decide)⟩,fun e=>by
    obtain⟨cs,h1⟩:=owns_type HR.out e
    rcases h with h | h
    ·obtain⟨cs2,h2⟩:=owns_type hk2.own.vec h
     rw[h1] at h2
     simp only[Option.some.injEq,Obj.cells.injEq] at h2
     exact absurd h2.2.1 (by decide)
    ·obtain⟨cs2,h2⟩:=owns_type hk2.own.more h
     rw[h1] at h2
     simp only[Option.some.injEq,Obj.cells.injEq] at h2
     exact absurd h2.2.1 (by decide)⟩)
   have HS1:=jD ((ShRow.of_owns hk2.own.vec).sp HB.out)
   have HS2:=jD ((ShRow.of_owns hk2.own.more).sp HB.out)
   obtain⟨ua,un,uc,rfl⟩:=HS1.out.shape
   obtain⟨xa,xn,xc,rfl⟩:=HS2.out.shape
   clear hcc hget hkeep hc hk2
   generalize l[k]=vk at*
   have HB1:=jD (show Below wr.heap.size wr (wr.alloc (.cells #[.string vk.id, .int .i64 vk.ds, .int .i64 vk.dc, .int .i64 vk.tg, .int .i64 vk.nm, .int .i64 vk.bd, .slice ua un uc, .slice xa xn xc] 75)) from bal _)
   have HMK:=jD (wasteKnow_s _ _ _ (HS1.out.sp (S:=fun _=>False) (Sp.of_below HB1.out)) (HS2.out.sp (S:=fun _=>False) (Sp.of_below HB1.out)))
   go_wp2_with fail
   (with_reducible refine(HMK.out).mono ?_)
   rintro e w2 ⟨rfl,hs2⟩
   have HA2:=jD (fun U v' (h:ShF U w v')=>((HALL.out U v' h).below HB1.out).off hs2 fun q cs hq hc=>hq.elim ((HS1.out.sp (S:=fun _=>False) (Sp.of_below HB1.out)).off hc (by decide)) ((HS2.out.sp (S:=fun _=>False) (Sp.of_below HB1.out)).off hc (by decide)))
   have HN:=jD (HB.out.trans ((Sp.of_below HB1.out).trans (hs2.mono HNE.out)))
   clear hs2 HMK HB1 HS1 HS2 d0 d1 d2 d3 d4 d5 d6 d7 HB
   go_wp2
   go_roundw
   case rel=>exact ⟨k+1,by omega,by go_num,HN.out,HA2.out⟩
   case measure=>simp [intOf] <;> omega
  ·obtain rfl:k=l.length:=by omega
   have HSB:=jD (spoil_ver _ ⟨#[115,112,111,105,108,116]⟩ 0 0 0 0 0 wr ((ShRow.of_owns HR.out).sp HB.out))
   go_wp2_with fail
   (with_reducible refine(HSB.out).mono ?_)
   rintro e w2 ⟨rfl,hs2⟩
   have HRR:=jD ((ShRow.of_owns HR.out).sp HB.out)
   have HA2:=jD (fun U v' (h:ShF U w v')=>(HALL.out U v' h).off hs2 fun q cs hq hc=>HRR.out.off hc (by decide) hq)
   have HN:=jD ((HB.out.mono fun _ h=>h.1).trans (hs2.mono fun q hq=>⟨HIV.out q hq,TyIn.of (owns_type HR.out hq) (by decide)⟩))
   clear hs2 HSB HB
   go_wp2
   refine bodyPost_end (v:= .tuple #[]) ?_ rfl ?_
   ·simp[results,Tryz.results52,go_sem]
   ·exact⟨rfl,HN.out,HA2.out⟩
end Go.Proofs.YtgkgdedhicnohaaGreat
