/- What shelf.Copied does. What slices.BinarySearchFunc does to versions. Written by a small program (gen/shelf6.py). What slices.Clone does at []reedmace/api.Version. Written by a small program (gen/clone.py). -/
import Derived.Test.YtgkgdedhicnohaaGreatMShelf4
import Derived.Test.YtgkgdedhicnohaaGreatKnow10
import Derived.Test.YtgkgdedhicnohaaGreatMDots
import Derived.WalkArith
import Derived.Laws.Shifts
import Derived.Test.YtgkgdedhicnohaaGreatChecked
namespace Go.Proofs.YtgkgdedhicnohaaGreat
set_option maxRecDepth 100000
set_option maxHeartbeats 40000000
open Go.RowKit
theorem VerTy.info:(Tryz.prog.info? 75).map (fun i=>(i.zero,i.size,i.bytes))=some (some (.agg (verC ⟨ByteArray.empty,0,0,0,0,0,⟨[],[]⟩⟩ (.slice none 0 0) (.slice none 0 0))),8,104):=by kernel_rfl
def VE (w:World) (base:Nat):List Ver→List (List Value)→Prop
 | [],[]=>True
 | v::l,c::cs=>(∃(a:Option Addr) (n d:Nat) (b:Option Addr) (m e:Nat),c=(verC v (.slice a n d) (.slice b m e)).toList∧KnOwn w base (.slice a n d) (.slice b m e) v.past)∧VE w base l cs
 | _,_=>False
theorem VE.map {w w':World} {base:Nat} (h: ∀u x k,KnOwn w base u x k→KnOwn w' base u x k): ∀ {l:List Ver} {cs:List (List Value)},VE w base l cs→VE w' base l cs
 | [],[],_=>trivial
 | _::_,_::_,⟨⟨a,n,d,b,m,e,h1,h2⟩,h3⟩=>⟨⟨a,n,d,b,m,e,h1,h _ _ _ h2⟩,VE.map h h3⟩
 | [],_::_,h3=>h3.elim
 | _::_,[],h3=>h3.elim
theorem VE.snoc {w:World} {base:Nat} : ∀ {l:List Ver} {cs:List (List Value)} {v:Ver} {c:List Value},VE w base l cs→VE w base [v] [c]→VE w base (l++[v]) (cs++[c])
 | [],[],_,_,_,k=>k
 | _::_,_::_,_,_,h,k=>⟨h.1,VE.snoc h.2 k⟩
 | [],_::_,_,_,h,_=>h.elim
 | _::_,[],_,_,h,_=>h.elim
theorem VE.els {w:World} {base:Nat} : ∀ {l:List Ver} {cs:List (List Value)},VE w base l cs→(∀v∈l,v.past.vec.length≤5∧v.past.more.length≤60)→Els verE w l cs
 | [],[],_,_=>trivial
 | v::_,_::_,⟨⟨a,n,d,b,m,e,h1,h2⟩,h3⟩,hb=>⟨⟨_,_,h1,h2.at_ (hb v (by simp)).1 (by have:=(hb v (by simp)).2;omega)⟩,VE.els h3 fun x hx=>hb x (by simp[hx])⟩
 | [],_::_,h,_=>h.elim
 | _::_,[],h,_=>h.elim
def VOwn (w:World) (base:Nat) (vv:Value) (l:List Ver):Prop:= ∃css,VE w base l css∧w.ownsRow base 75 8 vv l.length css.flatten
theorem VOwn.below {w w':World} {base:Nat} {vv:Value} {l:List Ver} (h:VOwn w base vv l) (hb:Below w.heap.size w w'):VOwn w' base vv l:=by
 obtain⟨css,h1,h2⟩:=h;exact ⟨css,h1.map fun _ _ _ h=>h.below hb,owns_below h2 hb⟩
theorem KnOwn.set1 {w:World} {base g j:Nat} {u x y:Value} {k:Kn} {cs:Array Value} (h:KnOwn w base u x k) (hg:w.heap[g]? =some (Obj.cells cs 75 (0,0))):KnOwn (w.setCell ⟨g,j,none⟩ y) base u x k:=
 ⟨own_set h.vec hg (by decide),own_set h.more hg (by decide)⟩
theorem VOwn.set1 {w:World} {base g j:Nat} {vv y:Value} {l:List Ver} {cs:Array Value} (h:VOwn w base vv l) (hg:w.heap[g]? =some (Obj.cells cs 75 (0,0))) (hne:vv.ownBlock≠some g):VOwn (w.setCell ⟨g,j,none⟩ y) base vv l:=by
 obtain⟨css,h1,h2⟩:=h
 refine⟨css,h1.map fun _ _ _ h=>h.set1 hg, ?_⟩
 exact h2.kept (grown_set _ _ _ _) (.inr hne)
theorem VOwn.at_ {w:World} {base:Nat} {vv:Value} {l:List Ver} (h:VOwn w base vv l) (hb: ∀v∈l,v.past.vec.length≤5∧v.past.more.length≤60) (hl:l.length≤1000):RowAt verE w vv l:=by
 obtain⟨css,h1,h2⟩:=h
 exact⟨css,h1.els hb,CellsAt.of_owns h2 (by omega)⟩
theorem own_nilV (w:World) (base:Nat):VOwn w base (.slice none 0 0) []:=⟨[],trivial,World.ownsRow_nil _ _ _ _⟩
theorem vcopied_c (vv:Value) (l:List Ver) (w:World) (hv:RowAt verE w vv l) (hb: ∀v∈l,v.past.vec.length≤5∧v.past.more.length≤60) (hl:l.length≤1000):
  Calls Tryz.prog 68 #[vv] w fun e w'=> ∃ov,e= .returned ov∧VOwn w' w.heap.size ov l∧Below w.heap.size w w':=by
 obtain⟨a,cap,rfl,hcap,hlen, -,hvl⟩:=hv.open_
 have HVL:=jD hvl
 have HB:=jD hb
 clear hv hvl hb
 go_enter Tryz.func68,Tryz.ntmps68
 go_wp2
 go_loopw [3,8] (fun ov i wr=> ∃k:Nat,k≤l.length∧i= .int .i64 k∧VOwn wr w.heap.size ov (l.take k)∧Below w.heap.size w wr) (fun _ i _=>l.length - (intOf i).toNat)
 case atStart=>exact ⟨0,Nat.zero_le _,rfl,own_nilV _ _,Below.refl _ _⟩
 case round=>
  obtain⟨k,hk,rfl,hown,hbl⟩:=hrel
  have HOW:=jD hown
  have HBL:=jD hbl
  clear hown hbl
  by_cases hlt:k < l.length
  ·rcases HVL.out with hnil | ⟨b,off,rfl,hb,hc⟩
   ·rw[hnil] at hlt;simp at hlt
   obtain⟨c,⟨u,x,rfl,hk2⟩,hcc⟩:=hc k hlt
   have hcl:=fun (j:Nat) (y:Value) (hy:(verC l[k] u x).toList[j]? =some y)=>row8 (w:=wr) (b:=b) (off:=off) (i:=k) (fun j y hy=>(HBL.out.cell (p:=⟨b,off+(k*verE.size+j),none⟩) hb).trans (hcc j y hy)) hy
   have c0:=hcl 0 _ rfl
   have c1:=hcl 1 _ rfl
   have c2:=hcl 2 _ rfl
   have c3:=hcl 3 _ rfl
   have c4:=hcl 4 _ rfl
   have c5:=hcl 5 _ rfl
   have c6:=hcl 6 _ rfl
   have c7:=hcl 7 _ rfl
   rw[Nat.add_zero] at c0
   obtain⟨ua,uc,rfl⟩:=hk2.vec.shape
   obtain⟨xa,xc,rfl⟩:=hk2.more.shape
   have hbx:=bal (W:=wr) (.cells (verC l[k] (.slice ua l[k].past.vec.length uc) (.slice xa l[k].past.more.length xc)) 75)
   have HKC:=jD (kcopied_c _ _ l[k].past _ ((hk2.below HBL.out).below hbx) (HB.out _ (List.getElem_mem hlt)).1 (HB.out _ (List.getElem_mem hlt)).2)
   have HBX:=jD hbx
   have HNB:=jD (alloc_new wr (verC l[k] (.slice ua l[k].past.vec.length uc) (.slice xa l[k].past.more.length xc)) 75 _ rfl)
   have HT:=jD (show l.take (k+1)=l.take k++[l[k]] from List.take_succ_eq_append_getElem hlt)
   have htl:(l.take k).length=k:=by rw[List.length_take];omega
   have HTL:=jD htl
   obtain⟨oa,oc,hoo⟩: ∃oa oc,_=Value.slice oa k oc:=by
    obtain⟨css, -,h2⟩:=HOW.out
    obtain⟨oa,oc,h3⟩:=owns_slice h2
    rw[htl] at h3
    exact⟨oa,oc,h3⟩
   subst hoo
   clear hc hcc hcl hk2 hbx htl
   generalize l[k]=v1 at*
   generalize l.take k=lk at*
   have hltb:decide ((k:Int) < (l.length:Int))=true:=by simp;omega
   unfold verC at HKC HBX
   go_wp2_with fail
   (with_reducible refine(HKC.out).mono ?_)
   rintro e w2 ⟨ka,kc,kb,kd,rfl,hko,hb2⟩
   have hB2:=below_keep hb2 HNB.out
   have hwsz:w.heap.size≤wr.heap.size:=HBL.out.size
   obtain⟨css,hve0,hrow0⟩:=HOW.out
   have hne:(Value.slice oa k oc).ownBlock≠some wr.heap.size:=by
    intro e
    have:=(hrow0.lt _ e).2
    omega
   have hov:VOwn wr w.heap.size (.slice oa k oc) lk:=⟨css,hve0,hrow0⟩
   have HO2:=VOwn.below (VOwn.below hov HBX.out) hb2
   have hB3:((w2.setCell ⟨wr.heap.size,6,none⟩ (.slice ka v1.past.vec.length kc)).setCell ⟨wr.heap.size,7,none⟩ (.slice kb v1.past.more.length kd)).heap[wr.heap.size]? =some (Obj.cells (verC v1 (.slice ka v1.past.vec.length kc) (.slice kb v1.past.more.length kd)) 75 (0,0)):=by rw[heap_set_same (heap_set_same hB2)];rfl
   have HO3:=(HO2.set1 (j:=6) (y:=(.slice ka v1.past.vec.length kc)) hB2 hne).set1 (j:=7) (y:=(.slice kb v1.past.more.length kd)) (heap_set_same hB2) hne
   have hko3:=((hko.mono (base':=w.heap.size) (by simp only[World.size_alloc];omega)).set1 (j:=6) (y:=(.slice ka v1.past.vec.length kc)) hB2).set1 (j:=7) (y:=(.slice kb v1.past.more.length kd)) (heap_set_same hB2)
   have hbl3:=((bstep (bstep HBL.out HBX.out) hb2).setCell (p:=⟨wr.heap.size,6,none⟩) hwsz (.slice ka v1.past.vec.length kc)).setCell (p:=⟨wr.heap.size,7,none⟩) hwsz (.slice kb v1.past.more.length kd)
   have HROW:=jD (fun j u (hj:((verC v1 (.slice ka v1.past.vec.length kc) (.slice kb v1.past.more.length kd)).toList)[j]? =some u)=>(show(((w2.setCell ⟨wr.heap.size,6,none⟩ (.slice ka v1.past.vec.length kc)).setCell ⟨wr.heap.size,7,none⟩ (.slice kb v1.past.more.length kd)).alloc (.cells (verC v1 (.slice ka v1.past.vec.length kc) (.slice kb v1.past.more.length kd)) 75)).cell? ((⟨w2.heap.size,0,none⟩:Addr).add j)=some u by
    rw[show(⟨w2.heap.size,0,none⟩:Addr).add j=⟨w2.heap.size,j,none⟩ from by simp[Addr.add];exact fun h=>h.symm,World.cell?_alloc_at _ _ _ _ (by simp)];simpa using hj))
   have r6:=cell_of_block (j:=6) hB2 rfl
   have r7:=cell_of_block (j:=7) hB2 rfl
   have f6:=free_of_block (j:=6) hB2
   have f7:=free_of_block (j:=7) hB2
   have hRl:=hlt_of hB2
   have e0:=cell_of_block (j:=0) hB3 rfl
   have e1:=cell_of_block (j:=1) hB3 rfl
   have e2:=cell_of_block (j:=2) hB3 rfl
   have e3:=cell_of_block (j:=3) hB3 rfl
   have e4:=cell_of_block (j:=4) hB3 rfl
   have e5:=cell_of_block (j:=5) hB3 rfl
   have e6:=cell_of_block (j:=6) hB3 rfl
   have e7:=cell_of_block (j:=7) hB3 rfl
   have hbz:=bal (W:=(w2.setCell ⟨wr.heap.size,6,none⟩ (.slice ka v1.past.vec.length kc)).setCell ⟨wr.heap.size,7,none⟩ (.slice kb v1.past.more.length kd)) (.cells (verC v1 (.slice ka v1.past.vec.length kc) (.slice kb v1.past.more.length kd)) 75)
   have HO4:=jD (HO3.below hbz)
   have HK4:=jD (hko3.below hbz)
   have HB4:=jD (bstep hbl3 hbz)
   clear hov hB2 hB3 HO2 HO3 hko3 hbl3 hbz hko hve0 hrow0 hb2 HNB HBX c0 c1 c2 c3 c4 c5 c6 c7
   obtain⟨css4,hve4,hrow4⟩:=HO4.out
   rw[HTL.out] at hrow4
   have HVE4:=jD hve4
   have HR4:=jD hrow4
   have hsz:=HB4.out.size
   have HON:=jD (show ∀u∈(verC v1 (.slice ka v1.past.vec.length kc) (.slice kb v1.past.more.length kd)).toList,u.oneCell'=true by intro u hu;simp only[verC,List.mem_cons,List.not_mem_nil,or_false] at hu;rcases hu with rfl | rfl | rfl | rfl | rfl | rfl | rfl | rfl <;> rfl)
   clear hve4 hrow4 HO4
   have hk1000:k≤1000:=by omega
   unfold verC at*
   go_wp2_with (at_builtin;refine wpList_append_own' rfl (.tmp 16) (.tmp 18) 48 rfl w.heap.size 75 _ 8 104 Tryz.underlying48 VerTy.info rfl (by decide) _ k _ rfl HR4.out _ 1 1 _ rfl rfl HROW.out HON.out (by unfold maxLen;omega) (by omega) hsz ?_)
   intro v' w5 ho hgr _
   obtain⟨qa,qc,hq⟩:=owns_slice ho
   subst hq
   have HP:=jD (show VOwn w5 w.heap.size (.slice qa (k+1) qc) (lk++[v1]) from⟨css4++[(verC v1 (.slice ka v1.past.vec.length kc) (.slice kb v1.past.more.length kd)).toList],VE.snoc (HVE4.out.map fun _ _ _ h=>⟨own_kept2 h.vec HR4.out (by decide) hgr,own_kept2 h.more HR4.out (by decide) hgr⟩) ⟨⟨_,_,_,_,_,_,rfl,⟨own_kept2 HK4.out.vec HR4.out (by decide) hgr,own_kept2 HK4.out.more HR4.out (by decide) hgr⟩⟩,trivial⟩,by rw[List.flatten_append,List.length_append,HTL.out];simpa [verC] using ho⟩)
   have HBF:=jD (HB4.out.grown hgr HB4.out.size fun k hk=>(HR4.out.lt k hk).1)
   clear ho hgr e0 e1 e2 e3 e4 e5 e6 e7 r6 r7 f6 f7 HR4 HVE4 HROW HON
   go_wp2
   go_roundw
   case rel=>exact ⟨k+1,by omega,by go_num,by rw[HT.out];exact HP.out,HBF.out⟩
   case measure=>simp [intOf] <;> omega
  ·obtain rfl:k=l.length:=by omega
   have hown:=HOW.out
   have hbl:=HBL.out
   rw[List.take_length] at hown
   have HON:=jD hown
   clear hown HOW
   go_wp2
   go_ret
   exact⟨_,rfl,HON.out,hbl⟩
theorem vcmpFn: ∀args W,(callFunc 113 args).run Tryz.prog W= .ok (.enter 113 args) W:=fun _ _=>by kernel_rfl
structure VFound (l:List Ver) (t:Ver) (i:Nat) (b:Bool):Prop where
 le:i≤l.length
 lo: ∀q (h:q < l.length),q < i→verCmp l[q] t < 0
 hi: ∀q (h:q < l.length),i≤q→0≤verCmp l[q] t
 found:b=true↔ ∃h:i < l.length,verCmp l[i] t=0
theorem vsearch_c (vv:Value) (l:List Ver) (t:Ver) (tu tx:Value) (w:World) (hv:RowAt verE w vv l) (hk:KnAt w tu tx t.past) (hd:dotOk (t.ds,t.dc)=true) (hld: ∀v∈l,dotOk (v.ds,v.dc)=true)
  (hmono: ∀p q (hp:p < l.length) (hq:q < l.length),p < q→verCmp l[q] t < 0→verCmp l[p] t < 0):
  Calls Tryz.prog 112 #[vv, .agg (verC t tu tx), .func (.func 113) #[] #[]] w fun e w'=> ∃(i:Nat) (b:Bool),e= .returned (.tuple #[.int .i64 i, .bool b])∧VFound l t i b∧Below w.heap.size w w':=by
 obtain⟨a,cap,rfl,hcap,hm, -,hl⟩:=hv.open_
 have hmf:=vcmpFn
 have HVL:=jD hl
 have HMN:=jD hmono
 have HLD:=jD hld
 have HD:=jD hd
 obtain⟨ta,tc,rfl⟩:=hk.vec.shape
 obtain⟨tb,td,rfl⟩:=hk.more.shape
 have HK:=jD hk
 have hm0:l.length≤140737488355328:=hm
 have hst:=alloc_new w (verC t (.slice ta t.past.vec.length tc) (.slice tb t.past.more.length td)) 75 _ rfl
 have HST:=jD hst
 have HB0:=jD (bal (W:=w) (.cells (verC t (.slice ta t.past.vec.length tc) (.slice tb t.past.more.length td)) 75))
 clear hv hl hmono hld hd hk hst
 unfold verC at HB0 ⊢
 go_enter Tryz.func112,Tryz.ntmps112
 go_wp2
 go_loopw [9,10] (fun x y wr=> ∃i j:Nat,i≤j∧j≤l.length∧x= .int .i64 i∧y= .int .i64 j∧(∀q (h:q < l.length),q < i→verCmp l[q] t < 0)∧(∀q (h:q < l.length),j≤q→0≤verCmp l[q] t)∧Below w.heap.size w wr∧
   wr.heap[w.heap.size]? =some (Obj.cells (verC t (.slice ta t.past.vec.length tc) (.slice tb t.past.more.length td)) 75 (0,0))) (fun x y _=>(intOf y).toNat - (intOf x).toNat)
 case atStart=>exact ⟨0,l.length,Nat.zero_le _,Nat.le_refl _,rfl,rfl,fun q _ h=>by omega,fun q h h2=>by omega,HB0.out,HST.out⟩
 case round=>
  obtain⟨i,j,hij,hj,rfl,rfl,h1,h2,hbl,hst⟩:=hrel
  obtain⟨wo,hwo⟩: ∃wo,wo=wr:=⟨_,rfl⟩
  subst hwo
  have H1:=jD h1
  have H2:=jD h2
  have HSTW:=jD hst
  have HBL:=jD hbl
  have E0:=jD (cell_of_block (j:=0) hst rfl)
  have E1:=jD (cell_of_block (j:=1) hst rfl)
  have E2:=jD (cell_of_block (j:=2) hst rfl)
  have E3:=jD (cell_of_block (j:=3) hst rfl)
  have E4:=jD (cell_of_block (j:=4) hst rfl)
  have E5:=jD (cell_of_block (j:=5) hst rfl)
  have E6:=jD (cell_of_block (j:=6) hst rfl)
  have E7:=jD (cell_of_block (j:=7) hst rfl)
  clear h1 h2 hst hbl HST HB0
  by_cases hlt:i < j
  ·obtain⟨m,hme⟩: ∃m,m=(i+j) / 2:=⟨_,rfl⟩
   have hm1:m < l.length:=by omega
   rcases HVL.out with hnil | ⟨b,off,rfl,hb0,hc⟩
   ·rw[hnil] at hm1;simp at hm1
   obtain⟨c,⟨u,x,rfl,hk2⟩,hcc⟩:=hc m hm1
   have hcl:=fun (j:Nat) (y:Value) (hy:(verC l[m] u x).toList[j]? =some y)=>row8 (w:=wo) (b:=b) (off:=off) (i:=m) (fun j y hy=>(HBL.out.cell (p:=⟨b,off+(m*verE.size+j),none⟩) hb0).trans (hcc j y hy)) hy
   obtain⟨pa,pc,rfl⟩:=hk2.vec.shape
   obtain⟨qa,qc,rfl⟩:=hk2.more.shape
   have D0:=jD (hcl 0 _ rfl)
   have D1:=jD (hcl 1 _ rfl)
   have D2:=jD (hcl 2 _ rfl)
   have D3:=jD (hcl 3 _ rfl)
   have D4:=jD (hcl 4 _ rfl)
   have D5:=jD (hcl 5 _ rfl)
   have D6:=jD (hcl 6 _ rfl)
   have D7:=jD (hcl 7 _ rfl)
   rw[Nat.add_zero] at D0
   have HCM:=jD (fun w2 hw2=>cmp_c l[m] t _ _ _ _ w2 ((hk2.below HBL.out).below hw2) ((HK.out.below HBL.out).below hw2) (HLD.out _ (List.getElem_mem hm1)) HD.out)
   unfold verC at HCM
   clear hc hcc hcl hk2
   have HM:=jD hme
   clear hme
   have hmi:i≤m:=by have:=HM.out;omega
   have hmj:m < j:=by have:=HM.out;omega
   have hltb:decide ((i:Int) < (j:Int))=true:=by simp;omega
   go_wp2_with fail
   rw[show((i:Int)+j) / 2=(m:Int) by have:=HM.out;omega]
   generalize hX:l[m]=X at*
   have HX:=jD hX
   clear hX
   refine Cl.region0 49 rfl [] (fun _=>True) (fun _=>[]) (fun jq v ww=>match jq with | 0=>v= .func (.func 113) #[] #[] | 1=>v= .slice (some ⟨b,off,none⟩) l.length cap | 2=>v= .int .i64 (m:Nat) | 3=>v= .pointer (some ⟨b,off+m*8,none⟩) | 4=>v= .agg #[.string X.id, .int .i64 X.ds, .int .i64 X.dc, .int .i64 X.tg, .int .i64 X.nm, .int .i64 X.bd, .slice pa X.past.vec.length pc, .slice qa X.past.more.length qc] | 5=>v= .agg #[.string t.id, .int .i64 t.ds, .int .i64 t.dc, .int .i64 t.tg, .int .i64 t.nm, .int .i64 t.bd, .slice ta t.past.vec.length tc, .slice tb t.past.more.length td] | 6=>v= .int .i64 (verCmp X t) | 7=>v= .bool (decide (verCmp X t < 0)) | _=>True) (fun ww=>Below wo.heap.size wo ww) (fun jq ww ww'=>Below ww.heap.size ww ww') Tryz.mixed (by decide+kernel) (Below.refl _ _).drew trivial (fun q r v w w' _ _ _ h _=>h) (fun _ _ _ _ _ _=>trivial) ?_ ?_
   ·refine⟨?_, ?_, ?_, ?_, ?_, ?_, ?_, ?_,trivial⟩
    ·intro x wx hG
     have f2:=hG.o 2
     replace hG:=hG.good
     go_wp2
     exact⟨_,rfl,rfl,hG,Below.refl _ _⟩
    ·intro x wx hG
     have f0:=hG.o 0
     replace hG:=hG.good
     go_wp2
     exact⟨_,rfl,rfl,hG,Below.refl _ _⟩
    ·intro x wx hG
     have f11:=hG.o 11
     replace hG:=hG.good
     go_wp2
     exact⟨_,rfl,rfl,hG,Below.refl _ _⟩
    ·intro x wx hG
     have g1:(x.tmps.getD 25 undef)= .slice (some ⟨b,off,none⟩) l.length cap:=hG.c 1 _ rfl
     have g2:(x.tmps.getD 26 undef)= .int .i64 (m:Nat):=hG.c 2 _ rfl
     replace hG:=hG.good
     go_wp2
     exact⟨_,rfl,rfl,hG,Below.refl _ _⟩
    ·intro x wx hG
     have g3:(x.tmps.getD 27 undef)= .pointer (some ⟨b,off+m*8,none⟩):=hG.c 3 _ rfl
     replace hG:=hG.good
     have c_D0:=ckeep hG D0.out
     have c_D1:=ckeep hG D1.out
     have c_D2:=ckeep hG D2.out
     have c_D3:=ckeep hG D3.out
     have c_D4:=ckeep hG D4.out
     have c_D5:=ckeep hG D5.out
     have c_D6:=ckeep hG D6.out
     have c_D7:=ckeep hG D7.out
     go_wp2
     exact⟨_,rfl,rfl,hG,Below.refl _ _⟩
    ·intro x wx hG
     have f4:=hG.o 4
     replace hG:=hG.good
     have c_E0:=ckeep hG E0.out
     have c_E1:=ckeep hG E1.out
     have c_E2:=ckeep hG E2.out
     have c_E3:=ckeep hG E3.out
     have c_E4:=ckeep hG E4.out
     have c_E5:=ckeep hG E5.out
     have c_E6:=ckeep hG E6.out
     have c_E7:=ckeep hG E7.out
     go_wp2
     exact⟨_,rfl,rfl,hG,Below.refl _ _⟩
    ·intro x wx hG
     have g0:(x.tmps.getD 24 undef)= .func (.func 113) #[] #[]:=hG.c 0 _ rfl
     have g0b:=gd g0
     have g4:(x.tmps.getD 28 undef)= .agg #[.string X.id, .int .i64 X.ds, .int .i64 X.dc, .int .i64 X.tg, .int .i64 X.nm, .int .i64 X.bd, .slice pa X.past.vec.length pc, .slice qa X.past.more.length qc]:=hG.c 4 _ rfl
     have g4b:=gd g4
     have g5:(x.tmps.getD 29 undef)= .agg #[.string t.id, .int .i64 t.ds, .int .i64 t.dc, .int .i64 t.tg, .int .i64 t.nm, .int .i64 t.bd, .slice ta t.past.vec.length tc, .slice tb t.past.more.length td]:=hG.c 5 _ rfl
     have g5b:=gd g5
     replace hG:=hG.good
     go_wp2_with fail
     (with_reducible refine(HCM.out _ hG).mono ?_)
     rintro e wq ⟨rfl,hb⟩
     go_wp2
     exact⟨_,rfl,rfl,bstep hG hb,hb⟩
    ·intro x wx hG
     have g6:(x.tmps.getD 30 undef)= .int .i64 (verCmp X t):=hG.c 6 _ rfl
     replace hG:=hG.good
     go_wp2
     exact⟨_,rfl,rfl,hG,Below.refl _ _⟩
   ·intro vals w1 hg hF
    obtain⟨g0,g1,g2,g3,g4,g5,g6,g7, -⟩:=hF
    have e0:=gq (vals 0) g0
    have e1:=gq (vals 1) g1
    have e2:=gq (vals 2) g2
    have e3:=gq (vals 3) g3
    have e4:=gq (vals 4) g4
    have e5:=gq (vals 5) g5
    have e6:=gq (vals 6) g6
    have e7:=gq (vals 7) g7
    simp only[Cl.puts,e0,e1,e2,e3,e4,e5,e6,e7]
    clear e0 e1 e2 e3 e4 e5 e6 e7 g0 g1 g2 g3 g4 g5 g6 g7
    go_simp
    have hbl1:=bstep HBL.out hg
    have hst1:=below_keep hg HSTW.out
    clear hg D0 D1 D2 D3 D4 D5 D6 D7 E0 E1 E2 E3 E4 E5 E6 E7 HCM
    cases hd:decide (verCmp X t < 0)
    ·have HDN:=jD (show 0≤verCmp X t from by simpa using hd)
     clear hd
     go_wp2
     go_roundw
     case rel=>
      refine⟨i,m,hmi,by omega,rfl,rfl,H1.out,fun q h h2=> ?_,hbl1,hst1⟩
      rcases Nat.lt_or_eq_of_le h2 with h3 | rfl
      ·by_cases h4:verCmp l[q] t < 0
       ·have h5:=HMN.out m q hm1 h h3 h4
        rw[HX.out] at h5
        have:=HDN.out
        omega
       ·omega
      ·rw[HX.out];exact HDN.out
     case measure=>simp [intOf];omega
    ·have HDN:=jD (show verCmp X t < 0 from by simpa using hd)
     clear hd
     go_wp2
     go_roundw
     case rel=>
      refine⟨m+1,j,by omega,hj,by go_num,rfl,fun q h h2=> ?_,H2.out,hbl1,hst1⟩
      rcases Nat.lt_or_eq_of_le (Nat.le_of_lt_succ h2) with h3 | rfl
      ·exact HMN.out q m h hm1 h3 (by rw[HX.out];exact HDN.out)
      ·rw[HX.out];exact HDN.out
     case measure=>simp [intOf];omega
  ·obtain rfl:i=j:=by omega
   by_cases hin:i < l.length
   ·have hin2:=hin
    rcases HVL.out with hnil | ⟨b,off,rfl,hb0,hc⟩
    ·rw[hnil] at hin;simp at hin
    obtain⟨c,⟨u,x,rfl,hk2⟩,hcc⟩:=hc i hin
    have hcl:=fun (j:Nat) (y:Value) (hy:(verC l[i] u x).toList[j]? =some y)=>row8 (w:=wo) (b:=b) (off:=off) (i:=i) (fun j y hy=>(HBL.out.cell (p:=⟨b,off+(i*verE.size+j),none⟩) hb0).trans (hcc j y hy)) hy
    obtain⟨pa,pc,rfl⟩:=hk2.vec.shape
    obtain⟨qa,qc,rfl⟩:=hk2.more.shape
    have D0:=jD (hcl 0 _ rfl)
    have D1:=jD (hcl 1 _ rfl)
    have D2:=jD (hcl 2 _ rfl)
    have D3:=jD (hcl 3 _ rfl)
    have D4:=jD (hcl 4 _ rfl)
    have D5:=jD (hcl 5 _ rfl)
    have D6:=jD (hcl 6 _ rfl)
    have D7:=jD (hcl 7 _ rfl)
    rw[Nat.add_zero] at D0
    have HCM:=jD (fun w2 hw2=>cmp_c l[i] t _ _ _ _ w2 ((hk2.below HBL.out).below hw2) ((HK.out.below HBL.out).below hw2) (HLD.out _ (List.getElem_mem hin)) HD.out)
    unfold verC at HCM
    clear hc hcc hcl hk2
    have hdi:decide (i < l.length)=true:=by simpa using hin
    have hltb:decide ((i:Int) < (i:Int))=false:=by simp
    go_wp2_with fail
    generalize hX:l[i]=X at*
    have HX:=jD hX
    clear hX
    refine Cl.region0 49 rfl [] (fun _=>True) (fun _=>[]) (fun jq v ww=>match jq with | 0=>v= .int .i64 (i:Nat) | 1=>v= .int .i64 (i:Nat) | 2=>v= .int .i64 (l.length:Nat) | 3=>v= .bool true | 4=>v= .bool true | 5=>v= .func (.func 113) #[] #[] | 6=>v= .slice (some ⟨b,off,none⟩) l.length cap | 7=>v= .int .i64 (i:Nat) | 8=>v= .pointer (some ⟨b,off+i*8,none⟩) | 9=>v= .agg #[.string X.id, .int .i64 X.ds, .int .i64 X.dc, .int .i64 X.tg, .int .i64 X.nm, .int .i64 X.bd, .slice pa X.past.vec.length pc, .slice qa X.past.more.length qc] | 10=>v= .agg #[.string t.id, .int .i64 t.ds, .int .i64 t.dc, .int .i64 t.tg, .int .i64 t.nm, .int .i64 t.bd, .slice ta t.past.vec.length tc, .slice tb t.past.more.length td] | 11=>v= .int .i64 (verCmp X t) | 12=>v= .bool (verCmp X t==0) | 13=>v= .bool (verCmp X t==0) | 14=>v= .int .i64 (i:Nat) | 15=>v= .bool (verCmp X t==0) | _=>True) (fun ww=>Below wo.heap.size wo ww) (fun jq ww ww'=>Below ww.heap.size ww ww') Tryz.mixed (by decide+kernel) (Below.refl _ _).drew trivial (fun q r v w w' _ _ _ h _=>h) (fun _ _ _ _ _ _=>trivial) ?_ ?_
    ·refine⟨?_, ?_, ?_, ?_, ?_, ?_, ?_, ?_, ?_, ?_, ?_, ?_, ?_, ?_, ?_, ?_,trivial⟩
     ·intro x wx hG
      have f9:=hG.o 9
      replace hG:=hG.good
      go_wp2
      exact⟨_,rfl,rfl,hG,Below.refl _ _⟩
     ·intro x wx hG
      have f9:=hG.o 9
      replace hG:=hG.good
      go_wp2
      exact⟨_,rfl,rfl,hG,Below.refl _ _⟩
     ·intro x wx hG
      have f8:=hG.o 8
      replace hG:=hG.good
      go_wp2
      exact⟨_,rfl,rfl,hG,Below.refl _ _⟩
     ·intro x wx hG
      have g1:(x.tmps.getD 36 undef)= .int .i64 (i:Nat):=hG.c 1 _ rfl
      have g2:(x.tmps.getD 37 undef)= .int .i64 (l.length:Nat):=hG.c 2 _ rfl
      replace hG:=hG.good
      go_wp2
      exact⟨_,rfl,rfl,hG,Below.refl _ _⟩
     ·intro x wx hG
      have g3:(x.tmps.getD 38 undef)= .bool true:=hG.c 3 _ rfl
      replace hG:=hG.good
      go_wp2
      exact⟨_,rfl,rfl,hG,Below.refl _ _⟩
     ·intro x wx hG
      have f2:=hG.o 2
      have gg:(x.tmps.getD 39 undef)= .bool true:=hG.c 4 _ rfl
      replace gg:=Cl.opt (hG.size.trans (show _=49 from rfl)) (by decide) gg
      replace hG:=hG.good
      go_wp2
      exact⟨_,rfl,rfl,hG,Below.refl _ _⟩
     ·intro x wx hG
      have f0:=hG.o 0
      have gg:(x.tmps.getD 39 undef)= .bool true:=hG.c 4 _ rfl
      replace gg:=Cl.opt (hG.size.trans (show _=49 from rfl)) (by decide) gg
      replace hG:=hG.good
      go_wp2
      exact⟨_,rfl,rfl,hG,Below.refl _ _⟩
     ·intro x wx hG
      have f9:=hG.o 9
      have gg:(x.tmps.getD 39 undef)= .bool true:=hG.c 4 _ rfl
      replace gg:=Cl.opt (hG.size.trans (show _=49 from rfl)) (by decide) gg
      replace hG:=hG.good
      go_wp2
      exact⟨_,rfl,rfl,hG,Below.refl _ _⟩
     ·intro x wx hG
      have g6:(x.tmps.getD 41 undef)= .slice (some ⟨b,off,none⟩) l.length cap:=hG.c 6 _ rfl
      have g7:(x.tmps.getD 42 undef)= .int .i64 (i:Nat):=hG.c 7 _ rfl
      have gg:(x.tmps.getD 39 undef)= .bool true:=hG.c 4 _ rfl
      replace gg:=Cl.opt (hG.size.trans (show _=49 from rfl)) (by decide) gg
      replace hG:=hG.good
      go_wp2
      exact⟨_,rfl,rfl,hG,Below.refl _ _⟩
     ·intro x wx hG
      have g8:(x.tmps.getD 43 undef)= .pointer (some ⟨b,off+i*8,none⟩):=hG.c 8 _ rfl
      have gg:(x.tmps.getD 39 undef)= .bool true:=hG.c 4 _ rfl
      replace gg:=Cl.opt (hG.size.trans (show _=49 from rfl)) (by decide) gg
      replace hG:=hG.good
      have c_D0:=ckeep hG D0.out
      have c_D1:=ckeep hG D1.out
      have c_D2:=ckeep hG D2.out
      have c_D3:=ckeep hG D3.out
      have c_D4:=ckeep hG D4.out
      have c_D5:=ckeep hG D5.out
      have c_D6:=ckeep hG D6.out
      have c_D7:=ckeep hG D7.out
      go_wp2
      exact⟨_,rfl,rfl,hG,Below.refl _ _⟩
     ·intro x wx hG
      have f4:=hG.o 4
      have gg:(x.tmps.getD 39 undef)= .bool true:=hG.c 4 _ rfl
      replace gg:=Cl.opt (hG.size.trans (show _=49 from rfl)) (by decide) gg
      replace hG:=hG.good
      have c_E0:=ckeep hG E0.out
      have c_E1:=ckeep hG E1.out
      have c_E2:=ckeep hG E2.out
      have c_E3:=ckeep hG E3.out
      have c_E4:=ckeep hG E4.out
      have c_E5:=ckeep hG E5.out
      have c_E6:=ckeep hG E6.out
      have c_E7:=ckeep hG E7.out
      go_wp2
      exact⟨_,rfl,rfl,hG,Below.refl _ _⟩
     ·intro x wx hG
      have g5:(x.tmps.getD 40 undef)= .func (.func 113) #[] #[]:=hG.c 5 _ rfl
      have g5b:=gd g5
      have g9:(x.tmps.getD 44 undef)= .agg #[.string X.id, .int .i64 X.ds, .int .i64 X.dc, .int .i64 X.tg, .int .i64 X.nm, .int .i64 X.bd, .slice pa X.past.vec.length pc, .slice qa X.past.more.length qc]:=hG.c 9 _ rfl
      have g9b:=gd g9
      have g10:(x.tmps.getD 45 undef)= .agg #[.string t.id, .int .i64 t.ds, .int .i64 t.dc, .int .i64 t.tg, .int .i64 t.nm, .int .i64 t.bd, .slice ta t.past.vec.length tc, .slice tb t.past.more.length td]:=hG.c 10 _ rfl
      have g10b:=gd g10
      have gg:(x.tmps.getD 39 undef)= .bool true:=hG.c 4 _ rfl
      replace gg:=Cl.opt (hG.size.trans (show _=49 from rfl)) (by decide) gg
      replace hG:=hG.good
      go_wp2_with fail
      (with_reducible refine(HCM.out _ hG).mono ?_)
      rintro e wq ⟨rfl,hb⟩
      go_wp2
      exact⟨_,rfl,rfl,bstep hG hb,hb⟩
     ·intro x wx hG
      have g11:(x.tmps.getD 46 undef)= .int .i64 (verCmp X t):=hG.c 11 _ rfl
      have gg:(x.tmps.getD 39 undef)= .bool true:=hG.c 4 _ rfl
      replace gg:=Cl.opt (hG.size.trans (show _=49 from rfl)) (by decide) gg
      replace hG:=hG.good
      go_wp2
      exact⟨_,rfl,rfl,hG,Below.refl _ _⟩
     ·intro x wx hG
      have g4:(x.tmps.getD 39 undef)= .bool true:=hG.c 4 _ rfl
      have g12:(x.tmps.getD 47 undef)= .bool (verCmp X t==0):=hG.c 12 _ rfl
      replace hG:=hG.good
      go_wp2
      exact⟨_,rfl,rfl,hG,Below.refl _ _⟩
     ·intro x wx hG
      have g0:(x.tmps.getD 35 undef)= .int .i64 (i:Nat):=hG.c 0 _ rfl
      replace hG:=hG.good
      go_wp2
      exact⟨_,rfl,rfl,hG,Below.refl _ _⟩
     ·intro x wx hG
      have g13:(x.tmps.getD 48 undef)= .bool (verCmp X t==0):=hG.c 13 _ rfl
      replace hG:=hG.good
      go_wp2
      exact⟨_,rfl,rfl,hG,Below.refl _ _⟩
    ·intro vals w1 hg hF
     obtain⟨g0,g1,g2,g3,g4,g5,g6,g7,g8,g9,g10,g11,g12,g13,g14,g15, -⟩:=hF
     have e0:=gq (vals 0) g0
     have e1:=gq (vals 1) g1
     have e2:=gq (vals 2) g2
     have e3:=gq (vals 3) g3
     have e4:=gq (vals 4) g4
     have e5:=gq (vals 5) g5
     have e6:=gq (vals 6) g6
     have e7:=gq (vals 7) g7
     have e8:=gq (vals 8) g8
     have e9:=gq (vals 9) g9
     have e10:=gq (vals 10) g10
     have e11:=gq (vals 11) g11
     have e12:=gq (vals 12) g12
     have e13:=gq (vals 13) g13
     have e14:=gq (vals 14) g14
     have e15:=gq (vals 15) g15
     simp only[Cl.puts,e0,e1,e2,e3,e4,e5,e6,e7,e8,e9,e10,e11,e12,e13,e14,e15]
     clear e0 e1 e2 e3 e4 e5 e6 e7 e8 e9 e10 e11 e12 e13 e14 e15 g0 g1 g2 g3 g4 g5 g6 g7 g8 g9 g10 g11 g12 g13 g14 g15
     go_simp
     have hbl1:=bstep HBL.out hg
     clear hg
     go_wp2
     go_ret2
     exact⟨i,(verCmp X t==0),rfl,⟨hj,H1.out,H2.out,by rw[beq_iff_eq];exact ⟨fun h=>⟨hin,by rw[HX.out];exact h⟩,fun ⟨_,h⟩=>by rw[HX.out] at h;exact h⟩⟩,hbl1⟩
   ·have hdi:decide (i < l.length)=false:=by simpa using hin
    have hltb:decide ((i:Int) < (i:Int))=false:=by simp
    go_wp2_with fail
    refine Cl.region0 49 rfl [] (fun _=>True) (fun _=>[]) (fun jq v ww=>match jq with | 0=>v= .int .i64 (i:Nat) | 1=>v= .int .i64 (i:Nat) | 2=>v= .int .i64 (l.length:Nat) | 3=>v= .bool false | 4=>v= .bool false | 5=>v=undef | 6=>v=undef | 7=>v=undef | 8=>v=undef | 9=>v=undef | 10=>v=undef | 11=>v=undef | 12=>v=undef | 13=>v= .bool false | 14=>v= .int .i64 (i:Nat) | 15=>v= .bool false | _=>True) (fun ww=>Below wo.heap.size wo ww) (fun jq ww ww'=>Below ww.heap.size ww ww') Tryz.mixed (by decide+kernel) (Below.refl _ _).drew trivial (fun q r v w w' _ _ _ h _=>h) (fun _ _ _ _ _ _=>trivial) ?_ ?_
    ·refine⟨?_, ?_, ?_, ?_, ?_, ?_, ?_, ?_, ?_, ?_, ?_, ?_, ?_, ?_, ?_, ?_,trivial⟩
     ·intro x wx hG
      have f9:=hG.o 9
      replace hG:=hG.good
      go_wp2
      exact⟨_,rfl,rfl,hG,Below.refl _ _⟩
     ·intro x wx hG
      have f9:=hG.o 9
      replace hG:=hG.good
      go_wp2
      exact⟨_,rfl,rfl,hG,Below.refl _ _⟩
     ·intro x wx hG
      have f8:=hG.o 8
      replace hG:=hG.good
      go_wp2
      exact⟨_,rfl,rfl,hG,Below.refl _ _⟩
     ·intro x wx hG
      have g1:(x.tmps.getD 36 undef)= .int .i64 (i:Nat):=hG.c 1 _ rfl
      have g2:(x.tmps.getD 37 undef)= .int .i64 (l.length:Nat):=hG.c 2 _ rfl
      replace hG:=hG.good
      go_wp2
      exact⟨_,rfl,rfl,hG,Below.refl _ _⟩
     ·intro x wx hG
      have g3:(x.tmps.getD 38 undef)= .bool false:=hG.c 3 _ rfl
      replace hG:=hG.good
      go_wp2
      exact⟨_,rfl,rfl,hG,Below.refl _ _⟩
     ·intro x wx hG
      have gg:(x.tmps.getD 39 undef)= .bool false:=hG.c 4 _ rfl
      replace gg:=Cl.opt (hG.size.trans (show _=49 from rfl)) (by decide) gg
      replace hG:=hG.good
      go_wp2
      exact⟨_,rfl,rfl,hG,Below.refl _ _⟩
     ·intro x wx hG
      have gg:(x.tmps.getD 39 undef)= .bool false:=hG.c 4 _ rfl
      replace gg:=Cl.opt (hG.size.trans (show _=49 from rfl)) (by decide) gg
      replace hG:=hG.good
      go_wp2
      exact⟨_,rfl,rfl,hG,Below.refl _ _⟩
     ·intro x wx hG
      have gg:(x.tmps.getD 39 undef)= .bool false:=hG.c 4 _ rfl
      replace gg:=Cl.opt (hG.size.trans (show _=49 from rfl)) (by decide) gg
      replace hG:=hG.good
      go_wp2
      exact⟨_,rfl,rfl,hG,Below.refl _ _⟩
     ·intro x wx hG
      have gg:(x.tmps.getD 39 undef)= .bool false:=hG.c 4 _ rfl
      replace gg:=Cl.opt (hG.size.trans (show _=49 from rfl)) (by decide) gg
      replace hG:=hG.good
      go_wp2
      exact⟨_,rfl,rfl,hG,Below.refl _ _⟩
     ·intro x wx hG
      have gg:(x.tmps.getD 39 undef)= .bool false:=hG.c 4 _ rfl
      replace gg:=Cl.opt (hG.size.trans (show _=49 from rfl)) (by decide) gg
      replace hG:=hG.good
      go_wp2
      exact⟨_,rfl,rfl,hG,Below.refl _ _⟩
     ·intro x wx hG
      have gg:(x.tmps.getD 39 undef)= .bool false:=hG.c 4 _ rfl
      replace gg:=Cl.opt (hG.size.trans (show _=49 from rfl)) (by decide) gg
      replace hG:=hG.good
      go_wp2
      exact⟨_,rfl,rfl,hG,Below.refl _ _⟩
     ·intro x wx hG
      have gg:(x.tmps.getD 39 undef)= .bool false:=hG.c 4 _ rfl
      replace gg:=Cl.opt (hG.size.trans (show _=49 from rfl)) (by decide) gg
      replace hG:=hG.good
      go_wp2
      exact⟨_,rfl,rfl,hG,Below.refl _ _⟩
     ·intro x wx hG
      have gg:(x.tmps.getD 39 undef)= .bool false:=hG.c 4 _ rfl
      replace gg:=Cl.opt (hG.size.trans (show _=49 from rfl)) (by decide) gg
      replace hG:=hG.good
      go_wp2
      exact⟨_,rfl,rfl,hG,Below.refl _ _⟩
     ·intro x wx hG
      have g4:(x.tmps.getD 39 undef)= .bool false:=hG.c 4 _ rfl
      have g12:(x.tmps.getD 47 undef)=undef:=hG.c 12 _ rfl
      replace hG:=hG.good
      go_wp2
      exact⟨_,rfl,rfl,hG,Below.refl _ _⟩
     ·intro x wx hG
      have g0:(x.tmps.getD 35 undef)= .int .i64 (i:Nat):=hG.c 0 _ rfl
      replace hG:=hG.good
      go_wp2
      exact⟨_,rfl,rfl,hG,Below.refl _ _⟩
     ·intro x wx hG
      have g13:(x.tmps.getD 48 undef)= .bool false:=hG.c 13 _ rfl
      replace hG:=hG.good
      go_wp2
      exact⟨_,rfl,rfl,hG,Below.refl _ _⟩
    ·intro vals w1 hg hF
     obtain⟨g0,g1,g2,g3,g4,g5,g6,g7,g8,g9,g10,g11,g12,g13,g14,g15, -⟩:=hF
     have e0:=gq (vals 0) g0
     have e1:=gq (vals 1) g1
     have e2:=gq (vals 2) g2
     have e3:=gq (vals 3) g3
     have e4:=gq (vals 4) g4
     have e5:=gq (vals 5) g5
     have e6:=gq (vals 6) g6
     have e7:=gq (vals 7) g7
     have e8:=gq (vals 8) g8
     have e9:=gq (vals 9) g9
     have e10:=gq (vals 10) g10
     have e11:=gq (vals 11) g11
     have e12:=gq (vals 12) g12
     have e13:=gq (vals 13) g13
     have e14:=gq (vals 14) g14
     have e15:=gq (vals 15) g15
     simp only[Cl.puts,e0,e1,e2,e3,e4,e5,e6,e7,e8,e9,e10,e11,e12,e13,e14,e15]
     clear e0 e1 e2 e3 e4 e5 e6 e7 e8 e9 e10 e11 e12 e13 e14 e15 g0 g1 g2 g3 g4 g5 g6 g7 g8 g9 g10 g11 g12 g13 g14 g15
     go_simp
     have hbl1:=bstep HBL.out hg
     clear hg
     go_wp2
     go_ret2
     exact⟨i,false,rfl,⟨hj,H1.out,H2.out,by constructor;intro h;exact absurd h (by decide);rintro ⟨h, -⟩;exact absurd h hin⟩,hbl1⟩
theorem VcTy.info:(Tryz.prog.info? 75).map (fun i=>(i.zero,i.size,i.bytes))=some (some (.agg #[.string ByteArray.empty, .int .i64 0, .int .i64 0, .int .i64 0, .int .i64 0, .int .i64 0, .slice none 0 0, .slice none 0 0]),8,104):=by kernel_rfl
theorem VcClone_c (v:Value) (n:Nat) (xs:List Value) (w:World) (hs:CellsAt w v n xs) (hl:xs.length=n*8) (h1: ∀u∈xs,u.oneCell'=true) (hb:n*104≤140737488355328):
  Calls Tryz.prog 117 #[v] w fun e w'=> ∃v',e= .returned v'∧w'.ownsRow w.heap.size 75 8 v' n xs∧Below w.heap.size w w':=by
 obtain⟨i0,hi,hz0,hz1,hz2⟩:=info_parts VcTy.info
 have hs0:=hs
 obtain⟨a,cap,rfl,hn,hm,h0,hc⟩:=hs
 cases a with
 | none=>
  obtain rfl:=h0 rfl
  obtain rfl:n=0:=by omega
  obtain rfl:xs=[]:=List.eq_nil_of_length_eq_zero (by simpa using hl)
  clear hc hs0 h0 hn hm hl
  have heq:=Lib.run_eql_slice_nil (P:=Tryz.prog) w 48 75 none 0 0 0 0 Tryz.underlying48
  go_enter Tryz.func117,Tryz.ntmps117
  go_wp2
  go_ret
  exact⟨_,rfl,World.ownsRow_nil _ _ _ _,Below.refl _ _⟩
 | some ad=>
  have HS:=jD (hs0.below (bal (.cells #[] 75)))
  have HO:=jD (litOwn w w.heap.size 8 75 #[] 0 _ rfl (Nat.le_refl _) (by decide) rfl)
  have HL:=jD hl
  clear hc hs0 h0 hl
  have heq:=Lib.run_eql_slice_nil (P:=Tryz.prog) w 48 75 (some ad) n cap 0 0 Tryz.underlying48
  go_enter Tryz.func117,Tryz.ntmps117
  go_wp2_with (at_builtin;refine wpList_append_cells (w0:=w) rfl (.tmp 5) (.tmp 6) 48 rfl w.heap.size 75 (.agg #[.string ByteArray.empty, .int .i64 0, .int .i64 0, .int .i64 0, .int .i64 0, .int .i64 0, .slice none 0 0, .slice none 0 0]) 8 104 Tryz.underlying48 VcTy.info rfl (by decide) _ 0 [] rfl HO.out _ n xs rfl HS.out HL.out h1 (bal _) (by simp) (by unfold maxLen;omega) (by omega) ?_)
  intro v' w1 hown hb1
  go_wp2
  go_ret
  exact⟨_,rfl,by simpa using hown,hb1⟩
end Go.Proofs.YtgkgdedhicnohaaGreat
