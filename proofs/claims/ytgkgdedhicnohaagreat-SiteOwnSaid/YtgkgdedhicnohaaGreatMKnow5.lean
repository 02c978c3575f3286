/- What know.Made does. What know.told, Join, Add do. Written by a small program (gen/know6.py). What slices.Equal does to integers and to dots; reedref.SameKnow, know.Within. -/
import Derived.Test.YtgkgdedhicnohaaGreatMClone
import Derived.Test.YtgkgdedhicnohaaGreatMSort
import Derived.Test.YtgkgdedhicnohaaGreatMKnow3
namespace Go.Proofs.YtgkgdedhicnohaaGreat
set_option maxRecDepth 100000
set_option maxHeartbeats 40000000
open Go.RowKit
def vecE:Elt (List Int) where
 size:=1
 El w a cs:= ∃u,cs=[u]∧IsAt w u a
 len:=by rintro w a cs ⟨u,rfl, -⟩;rfl
 one:=by
  rintro w a cs ⟨u,rfl,h⟩ z hz
  simp only[List.mem_singleton] at hz
  subst hz
  obtain⟨x,c,rfl⟩:=h.shape;rfl
 sub:=by rintro w w' a cs ⟨u,rfl,h⟩ hs;exact ⟨u,rfl,h.sub hs⟩
 pos:=by decide
def vmaxAt (vs:List (List Int)) (s:Int):Int:=vs.foldl (fun m l=>max m (vecAt l s)) 0
theorem vmaxAt_snoc (vs:List (List Int)) (l:List Int) (s:Int):vmaxAt (vs++[l]) s=max (vmaxAt vs s) (vecAt l s):=by simp[vmaxAt]
theorem own_full {w:World} {base e g n:Nat} {xs:List Value} (h:w.ownsRow base e 1 (.slice (some ⟨g,0,none⟩) n n) n xs) (_hn:0 < n):w.heap[g]? =some (Obj.cells xs.toArray e (0,0)):=by
 rcases h.2 with⟨h0, -⟩ | ⟨g',cap,cur,hv, -,hg, -, -,hs,ht⟩
 ·simp at h0
 ·simp only[Value.slice.injEq,Option.some.injEq,Addr.mk.injEq,true_and,and_true] at hv
  obtain⟨rfl,rfl⟩:=hv
  rw[hg];congr 2
  rw[←ht,List.take_of_length_le (by rw[Array.length_toList];omega)]
theorem intsC_get {v:List Int} {j:Nat} (h:j < v.length):(intsC v).toArray[j]? =some (.int .i64 v[j]):=by simp[intsC,h]
theorem intsC_set (v:List Int) (j:Nat) (x:Int):(intsC v).toArray.setIfInBounds j (.int .i64 x)=(intsC (v.set j x)).toArray:=by
 apply Array.ext'
 simp[intsC,List.map_set]
theorem vecAt_nat {v:List Int} {j:Nat} (h:j < v.length):vecAt v (j:Int)=v[j]:=by
 unfold vecAt;rw [Int.toNat_natCast,List.getD_eq_getElem?_getD,List.getElem?_eq_getElem h];rfl
theorem vecAt_out {v:List Int} {s:Int} (h:v.length≤s):vecAt v s=0:=by
 unfold vecAt;rw [List.getD_eq_getElem?_getD,List.getElem?_eq_none (by omega)];rfl
structure V5 (v:List Int):Prop where
 len:v.length=5
 bd: ∀n∈v,0≤n∧n≤1000
theorem V5.set {v:List Int} (h:V5 v) (j:Nat) {x:Int} (h0:0≤x) (h1:x≤1000):V5 (v.set j x):=
 ⟨by simp[h.len],fun n hn=>by rcases List.mem_or_eq_of_mem_set hn with hn | rfl;exact h.bd n hn;exact ⟨h0,h1⟩⟩
structure KnOwn (w:World) (base:Nat) (u v:Value) (k:Kn):Prop where
 vec:w.ownsRow base 3 1 u k.vec.length (intsC k.vec)
 more:w.ownsRow base 41 2 v k.more.length (spansCells k.more)
theorem KnOwn.at_ {w:World} {base:Nat} {u v:Value} {k:Kn} (h:KnOwn w base u v k) (h1:k.vec.length≤5) (h2:k.more.length≤1000000):KnAt w u v k:=⟨CellsAt.of_owns h.vec (by omega),CellsAt.of_owns h.more (by omega)⟩
theorem KnOwn.below {w w':World} {base:Nat} {u v:Value} {k:Kn} (h:KnOwn w base u v k) (hb:Below w.heap.size w w'):KnOwn w' base u v k:=⟨owns_below h.vec hb,owns_below h.more hb⟩
theorem KnOwn.mono {w:World} {base base':Nat} {u v:Value} {k:Kn} (h:KnOwn w base u v k) (hb:base'≤base):KnOwn w base' u v k:=⟨owns_mono h.vec hb,owns_mono h.more hb⟩
theorem cells_take {w:World} {G n c:Nat} {v:List Int} (h:w.heap[G]? =some (Obj.cells (intsC v).toArray 3 (0,0))) (hn:n≤v.length) (hc:v.length≤c) (hm:v.length≤1000):CellsAt w (.slice (some ⟨G,0,none⟩) n c) n (intsC (v.take n)):=by
 refine⟨_,_,rfl,by omega,by omega,fun h=>by simp at h, .inr ⟨G,0,rfl,hlt_of h,fun j x hj=> ?_⟩⟩
 rw[Nat.zero_add]
 refine cell_of_block h ?_
 have hj2:j < n∧j < v.length:=by have:=(List.getElem?_eq_some_iff.1 hj).1;rw [intsC_length,List.length_take] at this;omega
 simp only[intsC,List.getElem?_map,List.getElem?_take,hj2.1,if_true] at hj
 simpa[intsC] using hj
def vecOk (l:List Int):Prop:=l.length≤5∧ ∀n∈l,0≤n∧n≤1000
theorem own_drewN {w:World} {base e size n:Nat} {v:Value} {xs:List Value} (h:w.ownsRow base e size v n xs) (k:Nat):(w.drewN k).ownsRow base e size v n xs:=h
theorem eqDot (a b c d:Int) (w:World):(Op.equalIn 10000 41 (.agg #[.int .i64 a, .int .i64 b]) (.agg #[.int .i64 c, .int .i64 d])).run Tryz.prog w= .ok (a==c&&b==d) w:=by
 have u3:=Tryz.underlying3
 have a3:=Tryz.isAgg3
 have z3:=Tryz.sizeOf3
 rw[show(10000:Nat)=9999+1 from rfl,run_equalIn_agg w 9999 41 _ _ (by kernel_rfl) (by kernel_rfl)]
 simp only[Program.fieldsOf,Tryz.underlying41]
 go_simp
 by_cases h1:a=c <;> by_cases h2:b=d <;> simp[h1,h2]
theorem eqGuardDot:Tryz.prog.eqGuardType Tryz.prog.depth 41=false:=by kernel_rfl
structure MSt (w wr:World) (base B3 G R O:Nat) (v:List Int) (more es:Dots) (mv v3:Value):Prop where
 g:wr.heap[G]? =some (Obj.cells (intsC v).toArray 3 (0,0))
 r:wr.heap[R]? =some (Obj.cells #[.slice none 0 0, .slice none 0 0] 73 (0,0))
 o:wr.heap[O]? =some (Obj.cells #[.slice none 0 0,mv] 73 (0,0))
 own:wr.ownsRow B3 41 2 mv more.length (spansCells more)
 row:wr.ownsRow base 41 2 v3 es.length (spansCells es)
 low: ∀k,v3.ownBlock=some k→k < B3
 bel:Below w.heap.size w wr
 sz:B3≤wr.heap.size
section
variable {w wr:World} {base B3 G R O:Nat} {v:List Int} {more es:Dots} {mv v3:Value}
theorem MSt.drewN (h:MSt w wr base B3 G R O v more es mv v3) (n:Nat):MSt w (wr.drewN n) base B3 G R O v more es mv v3:=
 ⟨h.g,h.r,h.o,own_drewN h.own n,own_drewN h.row n,h.low,below_drewN h.bel n,h.sz⟩
theorem MSt.alloc (h:MSt w wr base B3 G R O v more es mv v3) (o:Obj):MSt w (wr.alloc o) base B3 G R O v more es mv v3:=
 ⟨alloc_keep _ h.g,alloc_keep _ h.r,alloc_keep _ h.o,h.own.alloc _,h.row.alloc _,h.low,h.bel.alloc h.bel.size _,by have:=h.sz;simp;omega⟩
theorem MSt.setG (h:MSt w wr base B3 G R O v more es mv v3) (hGR:G≠R) (hGO:G≠O) (hG:w.heap.size≤G) (j:Nat) (x:Int):MSt w (wr.setCell ⟨G,j,none⟩ (.int .i64 x)) base B3 G R O (v.set j x) more es mv v3:=
 ⟨by rw[heap_set_same h.g,intsC_set],(heap_set_other hGR.symm).trans h.r,(heap_set_other hGO.symm).trans h.o,own_set h.own h.g (by decide),own_set h.row h.g (by decide),h.low,h.bel.setCell hG _,by have:=h.sz;simp;omega⟩
theorem MSt.push {w2:World} {mv':Value} {d:Int×Int} (h:MSt w wr base B3 G R O v more es mv v3) (hRO:R≠O) (hGO:G≠O) (hO:w.heap.size≤O) (hB:w.heap.size≤B3) (ho:w2.ownsRow B3 41 2 mv' (more.length+1) (spansCells more++[.int .i64 d.1, .int .i64 d.2])) (hg:wr.grownBy w2 mv.ownBlock):
  MSt w (w2.setCell ⟨O,1,none⟩ mv') base B3 G R O v (more++[d]) es mv' v3:=by
 have g2:=grown_keep h.own hg h.g (by decide)
 have r2:=grown_keep h.own hg h.r (by decide)
 have o2:=grown_keep h.own hg h.o (by decide)
 have row2:w2.ownsRow base 41 2 v3 es.length (spansCells es):=h.row.kept hg (by
  cases hv:v3.ownBlock with
  | none=>exact .inl rfl
  | some k=>right;intro e;have h1:=h.low k hv;have h2:=(h.own.lt k e.symm).1;omega)
 refine⟨(heap_set_other hGO).trans g2,(heap_set_other hRO).trans r2,by rw[heap_set_same o2];rfl, ?_,own_set row2 o2 (by decide),h.low,(h.bel.grown hg h.bel.size fun k hk=>by have:=(h.own.lt k hk).1;omega).setCell hO _,by have:=hg.size;have:=h.sz;simp;omega⟩
 rw[List.length_append,spansCells_append]
 exact own_set ho o2 (by decide)
theorem row_cell {W:World} {bs:Nat} {l:Dots} {u:Value} (h:W.ownsRow bs 41 2 u l.length (spansCells l)) {q:Nat} (hq:q < l.length): ∃b cap,u= .slice (some ⟨b,0,none⟩) l.length cap∧W.cell? ⟨b,q*2,none⟩=some (.int .i64 l[q].1)∧W.cell? ⟨b,q*2+1,none⟩=some (.int .i64 l[q].2):=by
 rcases h.2 with⟨-,h0⟩ | ⟨b,cap,cur,hv, -, -, -⟩
 ·omega
 ·obtain⟨g1,g2⟩:=spansCells_get l q hq
  subst hv
  exact⟨b,cap,rfl,by have:=h.cells (g:=b) rfl _ _ g1;rwa [Addr.add_lit,Nat.zero_add] at this,by have:=h.cells (g:=b) rfl _ _ g2;rwa [Addr.add_lit,Nat.zero_add] at this⟩
end
theorem made_c (vv dv:Value) (vs:List (List Int)) (ds:Dots) (w:World) (hv:RowAt vecE w vv vs) (hd:DsAt w dv ds) (hvs: ∀l∈vs,vecOk l) (hds: ∀d∈ds,dotOk d=true) (hlen:ds.length≤1000000):
  Calls Tryz.prog 110 #[vv,dv] w fun e w'=> ∃(k:Kn) (u v:Value),e= .returned (.agg #[u,v])∧KnOwn w' w.heap.size u v k∧KnOk k∧k.more.length≤ds.length∧(∀s c:Int,0≤s→s < 5→1≤c→knIn k s c=(decide (c≤vmaxAt vs s) || decide ((s,c)∈ds)))∧Below w.heap.size w w':=by
 obtain⟨xa,xc,rfl, -,hvm, -,hvl⟩:=hv.open_
 obtain⟨ya,yc,hyv⟩:=hd.shape
 subst hyv
 obtain⟨w2,hmk,hown,hbm⟩:=mk_slice (P:=Tryz.prog) (w.alloc (.cells #[.slice none 0 0, .slice none 0 0] 73)) 35 3 (.int .i64 0) 1 8 Tryz.underlying35 IcTy.info 5 (by omega) (by unfold maxLen;omega)
 rw[madeCells_one _ rfl] at hown
 have hG0:=own_full hown (by decide)
 rw[World.size_alloc] at hG0
 have hR0:=below_keep hbm (alloc_new w #[.slice none 0 0, .slice none 0 0] 73 _ rfl)
 have hmk5:(Instr.makeSlice 35 (.int .i64 5) (.int .i64 5)).run Tryz.prog (w.alloc (.cells #[.slice none 0 0, .slice none 0 0] 73))= .ok (.slice (some ⟨w.heap.size+1,0,none⟩) 5 5) w2:=by rw[World.size_alloc] at hmk;exact hmk
 have hG:w2.heap[w.heap.size+1]? =some (Obj.cells (intsC [0,0,0,0,0]).toArray 3 (0,0)):=hG0
 have HG:=jD hG
 have HR:=jD hR0
 have HB2:=jD (ba1 hbm)
 have HD:=jD hd
 clear hown hG0 hR0 hmk hG hbm hv hd
 go_enter Tryz.func110,Tryz.ntmps110
 go_wp2
 clear hmk5
 go_loopw [16] (fun i wr=> ∃(q:Nat) (v:List Int),q≤vs.length∧i= .int .i64 q∧V5 v∧(∀s:Int,0≤s→s < 5→vecAt v s=vmaxAt (vs.take q) s)∧wr.heap[w.heap.size+1]? =some (Obj.cells (intsC v).toArray 3 (0,0))∧wr.heap[w.heap.size]? =some (Obj.cells #[.slice none 0 0, .slice none 0 0] 73 (0,0))∧Below w.heap.size w wr) (fun i _=>vs.length - (intOf i).toNat)
 case atStart=>
  refine⟨0,[0,0,0,0,0],Nat.zero_le _,rfl,⟨rfl,by simp⟩,fun s h0 h5=> ?_,HG.out,HR.out,HB2.out⟩
  have:s=0∨s=1∨s=2∨s=3∨s=4:=by omega
  rcases this with rfl | rfl | rfl | rfl | rfl <;> rfl
 case round=>
  clear HG HR HB2
  obtain⟨q,v0,hq,rfl,h5,hm,hG,hR,hbl⟩:=hrel
  obtain⟨wo,hwo⟩: ∃wo,wo=wr:=⟨_,rfl⟩
  subst hwo
  have HM:=jD hm
  have H5:=jD h5
  have HG:=jD hG
  have HR:=jD hR
  clear hm h5 hG hR
  by_cases hlt:q < vs.length
  ·rcases hvl with hnil | ⟨b,off,rfl,hb,hc⟩
   ·rw[hnil] at hlt;simp at hlt
   obtain⟨c,⟨u,rfl,hu⟩,hcc⟩:=hc q hlt
   have c1:wo.cell? ⟨b,off+q,none⟩=some u:=(hbl.cell (p:=⟨b,off+q,none⟩) hb).trans (by have:=hcc 0 u rfl;simpa [vecE] using this)
   obtain⟨hl5,hlb⟩:=hvs _ (List.getElem_mem hlt)
   have HT:=jD (show ∀s,vmaxAt (vs.take (q+1)) s=max (vmaxAt (vs.take q) s) (vecAt vs[q] s) from fun s=>by rw[List.take_succ_eq_append_getElem hlt,vmaxAt_snoc])
   have HLB:=jD hlb
   clear hc hcc hlb
   generalize vs[q]=l at*
   obtain⟨ua,uc,rfl, -,hum, -,hul⟩:=hu.open_
   clear hu
   go_wp2
   clear c1
   go_loopw [22] (fun i wr=> ∃(j:Nat) (v:List Int),j≤l.length∧i= .int .i64 j∧V5 v∧(∀s:Int,0≤s→s < 5→vecAt v s=if s < j then max (vecAt v0 s) (vecAt l s) else vecAt v0 s)∧wr.heap[w.heap.size+1]? =some (Obj.cells (intsC v).toArray 3 (0,0))∧wr.heap[w.heap.size]? =some (Obj.cells #[.slice none 0 0, .slice none 0 0] 73 (0,0))∧Below w.heap.size w wr) (fun i _=>l.length - (intOf i).toNat)
   case atStart=>exact ⟨0,v0,Nat.zero_le _,rfl,H5.out,fun s h0 h5=>by rw[if_neg (by omega)],HG.out,HR.out,hbl⟩
   case round=>
    clear hbl
    obtain⟨j,v,hj,rfl,h5,hm,hG,hR,hbl⟩:=hrel
    have HMJ:=jD hm
    have HV5:=jD h5
    have HGJ:=jD hG
    have HRJ:=jD hR
    clear hm h5 hG hR
    by_cases hlj:j < l.length
    ·rcases hul with hnil | ⟨b2,off2,rfl,hb2,hc2⟩
     ·rw[hnil] at hlj;simp at hlj
     have c1:=(hbl.cell (p:=⟨b2,off2+j,none⟩) hb2).trans (hc2 j hlj)
     have hj5:j < v.length:=by rw[HV5.out.len];omega
     have g1:=cell_of_block (j:=j) HGJ.out (intsC_get hj5)
     have f1:=free_of_block (j:=j) HGJ.out
     have HLJ:=jD (show vecAt l (j:Int)=l[j] from vecAt_nat hlj)
     have HVJ:=jD (show vecAt v (j:Int)=v[j] from vecAt_nat hj5)
     obtain⟨x0,x1⟩:=HLB.out _ (List.getElem_mem hlj)
     obtain⟨y0,y1⟩:=HV5.out.bd _ (List.getElem_mem hj5)
     have hjj:(j:Int) < 5:=by omega
     clear hc2
     generalize l[j]=x at*
     generalize v[j]=y at*
     go_wp2
     go_roundw
     case rel=>
      have hM:(if y < x then x else y)=max y x:=by by_cases hyx:y < x;rw [if_pos hyx];omega;rw [if_neg hyx];omega
      try rw[hM]
      refine⟨j+1,v.set j (max y x),by omega,by go_num,HV5.out.set j (by omega) (by omega),fun s h0 h5=> ?_,by rw[heap_set_same HGJ.out,intsC_set],(heap_set_other (by omega)).trans HRJ.out,hbl.setCell (by exact Nat.le_succ _) _⟩
      have e:=vecAt_set (v:=v) (s:=(j:Int)) (r:=s) (x:=max y x) (by omega) (by have:=HV5.out.len;omega) h0
      rw[Int.toNat_natCast] at e
      rw[e]
      by_cases e1:s=j
      ·subst e1
       rw[if_pos rfl,if_pos (by omega),HLJ.out]
       have:=HMJ.out (j:Int) (by omega) (by omega)
       rw[if_neg (by omega),HVJ.out] at this
       rw[←this]
      ·rw[if_neg e1,HMJ.out s h0 h5]
       by_cases e2:s < j
       ·rw[if_pos e2,if_pos (by omega)]
       ·rw[if_neg e2,if_neg (by omega)]
     case measure=>simp [intOf];omega
    ·obtain rfl:j=l.length:=by omega
     have HF:=jD (show ∀s:Int,0≤s→s < 5→vecAt v s=max (vmaxAt (vs.take q) s) (vecAt l s) from fun s h0 h5=>by
      rw[HMJ.out s h0 h5,HM.out s h0 h5]
      split
      ·rfl
      ·rw[vecAt_out (v:=l) (by omega)]
       have:=H5.out
       have hp:0≤vecAt v0 s:=by
        by_cases hs:s.toNat < v0.length
        ·unfold vecAt;rw [List.getD_eq_getElem?_getD,List.getElem?_eq_getElem hs];exact (this.bd _ (List.getElem_mem hs)).1
        ·rw[vecAt_out (by omega)];omega
       rw[HM.out s h0 h5] at hp
       omega)
     go_wp2
     go_roundw
     case rel=>exact ⟨q+1,v,by omega,by go_num,HV5.out,fun s h0 h5=>by rw[HT.out];exact HF.out s h0 h5,HGJ.out,HRJ.out,hbl⟩
     case measure=>simp [intOf];omega
  ·obtain rfl:q=vs.length:=by omega
   rw[List.take_length] at HM
   clear hvl
   have hdx:CellsAt wo (.slice ya ds.length yc) ds.length (spansCells ds):=HD.out.below hbl
   have HDX:=jD hdx
   clear hdx
   have hpost:ds.length*16≤140737488355328:=by omega
   go_wp2_with fail
   (with_reducible refine(DcClone_c _ ds.length (spansCells ds) _ HDX.out (spansCells_length ds) (spansCells_one ds) hpost).mono ?_)
   rintro e w3 ⟨v3,rfl,ho3,hb3⟩
   obtain⟨za,zc,hz3⟩:=owns_slice ho3
   subst hz3
   have HG3:=jD (below_keep hb3 HG.out)
   have HR3:=jD (below_keep hb3 HR.out)
   have HB3:=jD (hbl.trans (hb3.mono hbl.size))
   have hws:w.heap.size+1 < wo.heap.size:=hlt_of HG.out
   have ho3':=owns_mono ho3 (base':=w.heap.size) (by omega)
   have HO3:=jD ho3
   clear hb3 ho3 ho3' hbl HG HR HDX
   go_wp2_with fail
   (with_reducible refine(dsort_c _ ds _ _ HO3.out hds hlen).mono ?_)
   rintro e w4 ⟨rfl,es,hel,hem,hes,ho4,hg4⟩
   have hoff: ∀k,Value.ownBlock (.slice za ds.length zc)=some k→wo.heap.size≤k:=fun k hk=>(HO3.out.lt k hk).1
   have HG4:=jD (show w4.heap[w.heap.size+1]? =some (Obj.cells (intsC v0).toArray 3 (0,0)) by rw[hg4.block _ (hlt_of HG3.out) (fun e=>by have:=hoff _ e.symm;omega)];exact HG3.out)
   have HR4:=jD (show w4.heap[w.heap.size]? =some (Obj.cells #[.slice none 0 0, .slice none 0 0] 73 (0,0)) by rw[hg4.block _ (hlt_of HR3.out) (fun e=>by have:=hoff _ e.symm;omega)];exact HR3.out)
   have HB4:=jD (HB3.out.grown hg4 HB3.out.size (fun k hk=>by have:=hoff k hk;omega))
   have HO4:=jD ho4
   have HES:=jD hes
   have HEM:=jD hem
   have H5v:=H5
   have HVM:=HM
   have hel2:=hel
   clear hg4 ho4 hes hem HG3 HR3 HB3 HO3 hoff
   go_wp2
   have hla:=HO4.out.lt
   have hz4:w.heap.size+1 < w4.heap.size:=hlt_of HG4.out
   have M0:=jD (show MSt w (w4.alloc (.cells #[.slice none 0 0, .slice none 0 0] 73)) wo.heap.size (w4.heap.size+1) (w.heap.size+1) w.heap.size w4.heap.size v0 [] es (.slice none 0 0) (.slice za ds.length zc) from
    ⟨alloc_keep _ HG4.out,alloc_keep _ HR4.out,alloc_new _ _ _ _ rfl,World.ownsRow_nil _ _ _ _,by rw[hel2];exact HO4.out.alloc _,fun k hk=>by have:=(hla k hk).2;omega,HB4.out.alloc HB4.out.size _,by simp⟩)
   clear HG4 HR4 HB4 HO4 hla
   generalize hO:w4.heap.size=O at*
   go_loopw [44] (fun i wr=> ∃(q:Nat) (mv:Value),q≤ds.length∧i= .int .i64 q∧V5 (madeAll v0 (es.take q)).1∧MSt w wr wo.heap.size (O+1) (w.heap.size+1) w.heap.size O (madeAll v0 (es.take q)).1 (madeAll v0 (es.take q)).2 es mv (.slice za ds.length zc)) (fun i _=>ds.length - (intOf i).toNat)
   case atStart=>exact ⟨0, .slice none 0 0,Nat.zero_le _,rfl,H5.out,M0.out⟩
   case round=>
    clear M0
    obtain⟨q,mv,hq,rfl,h5,hM⟩:=hrel
    have HM:=jD hM
    have H5:=jD h5
    clear hM h5
    by_cases hlt:q < ds.length
    ·have hlt2:q < es.length:=by omega
     obtain⟨b,cap,hvz,c1,c2⟩:=row_cell HM.out.row hlt2
     rw[hel2] at hvz
     simp only[Value.slice.injEq,true_and] at hvz
     obtain⟨rfl,rfl⟩:=hvz
     have HT:=jD (show madeAll v0 (es.take (q+1))=madeStep (madeAll v0 (es.take q)) es[q] by rw[List.take_succ_eq_append_getElem hlt2,madeAll_snoc])
     have hmlen:(madeAll v0 (es.take q)).2.length≤q:=by
      have:=(made_st (v0:=v0) H5v.out.len H5v.out.bd (es.take q) (fun d hd=>hds d ((HEM.out d).1 (List.mem_of_mem_take hd))) (HES.out.sublist (List.take_sublist _ _))).mlen
      simp at this;omega
     obtain⟨⟨d0,d5⟩,d1,d2⟩:=dotOk_iff.1 (hds es[q] ((HEM.out _).1 (List.getElem_mem hlt2)))
     generalize es[q]=d at*
     obtain⟨s,c⟩:=d
     simp only at c1 c2 d0 d5 d1 d2
     obtain⟨s,rfl⟩:=Int.eq_ofNat_of_zero_le d0
     generalize madeAll v0 (es.take q)=st at*
     obtain⟨v,more⟩:=st
     simp only at HM H5 hmlen
     have hs5:s < v.length:=by rw[H5.out.len];omega
     have HVA:=jD (vecAt_nat hs5)
     obtain⟨y0,y1⟩:=H5.out.bd _ (List.getElem_mem hs5)
     have g1:=cpast (.cells #[.int .i64 s, .int .i64 c] 41) (cell_of_block (j:=s) HM.out.g (intsC_get hs5))
     have x0:=cat wr #[.int .i64 (s:Int), .int .i64 c] 41 0 _ rfl _ rfl
     have x1:=cat wr #[.int .i64 (s:Int), .int .i64 c] 41 1 _ rfl _ rfl
     have MA:=jD (HM.out.alloc (.cells #[.int .i64 s, .int .i64 c] 41))
     have X0:=jD x0
     have X1:=jD x1
     have hbnd:wr.heap.size < (wr.alloc (.cells #[.int .i64 s, .int .i64 c] 41)).heap.size:=by simp
     have hGl:w.heap.size+1 < (wr.alloc (.cells #[.int .i64 s, .int .i64 c] 41)).heap.size:=hlt_of MA.out.g
     have hGl2:w.heap.size+1 < wr.heap.size:=hlt_of HM.out.g
     have hs5':(s:Int) < 5:=by omega
     clear x0 x1
     generalize hY:v[s]=y at*
     clear hY
     by_cases hA:c≤y
     ·have HA:=jD (show madeStep (v,more) ((s:Int),c)=(v,more) by unfold madeStep;simp only;rw [HVA.out,if_pos hA])
      go_wp2
      go_quiet (fail)
      go_wp2
      go_roundw
      case rel=>
       refine⟨q+1,mv,by omega,by go_num, ?_, ?_⟩
       ·rw[HT.out,HA.out];exact H5.out
       ·rw[HT.out,HA.out];exact MA.out.drewN _
      case measure=>simp [intOf];omega
     have hsum:IntKind.i64.wrap (y+1)=y+1:=IntWalk.i64_in _ (by omega)
     by_cases hB:c=y+1
     ·have HA:=jD (show madeStep (v,more) ((s:Int),c)=(v.set s (y+1),more) by unfold madeStep;simp only;rw [HVA.out,if_neg hA,if_pos hB,Int.toNat_natCast])
      have hB':(c==y+1)=true:=by simp[hB]
      have HBB:=jD hB
      have f1:=free_of_block (j:=s) MA.out.g
      clear hB
      go_wp2
      go_quiet (fail)
      go_wp2
      go_quiet (fail)
      go_wp2
      go_roundw
      case rel=>
       refine⟨q+1,mv,by omega,by go_num, ?_, ?_⟩
       ·rw[HT.out,HA.out];exact H5.out.set s (by omega) (by have:=HBB.out;omega)
       ·rw[HT.out,HA.out];exact ((MA.out.drewN _).setG (by omega) (by omega) (by omega) s (y+1))
      case measure=>simp [intOf];omega
     have hB':(c==y+1)=false:=by simp[hB]
     have HSTEP:=jD (show madeStep (v,more) ((s:Int),c)=if more.getLast? =some ((s:Int),c) then(v,more) else(v,more++[((s:Int),c)]) by unfold madeStep;simp only;rw [HVA.out,if_neg hA,if_neg hB])
     have o1:=cell_of_block (j:=1) MA.out.o rfl
     have o1f:=free_of_block (j:=1) MA.out.o
     have hOl:O < (wr.alloc (.cells #[.int .i64 s, .int .i64 c] 41)).heap.size:=hlt_of MA.out.o
     obtain⟨ma,mc,hmv⟩:=owns_slice MA.out.own
     clear hB
     rcases List.eq_nil_or_concat more with hnil | ⟨l,z,hcc⟩
     focus
      have HST:=jD (show madeStep (v,more) ((s:Int),c)=(v,more++[((s:Int),c)]) by rw[HSTEP.out,if_neg (by rw[hnil];simp)])
      rw[hnil] at hmv
      simp only[List.length_nil] at hmv
      subst hmv
      have HL0:=jD (show more.length=0 by rw[hnil];rfl)
      clear hnil
      go_wp2
      go_quiet (fail)
      go_wp2
      go_quiet (fail)
      go_wp2
      go_quiet (fail)
     rotate_left
     focus
      rw[List.concat_eq_append] at hcc
      clear hmv
      obtain⟨bm,mcap,hvm2,z1,z2⟩:=row_cell (q:=l.length) MA.out.own (by rw[hcc];simp)
      have hz:more[l.length]'(by rw[hcc];simp)=z:=by simp[hcc]
      rw[hz] at z1 z2
      have hml:more.length=l.length+1:=by rw[hcc];simp
      rw[hml] at hvm2
      have hlb:l.length≤1000000:=by omega
      have HML:=jD hml
      clear hml
      subst hvm2
      have heqs:=eqDot
      have heqg:=eqGuardDot
      have hml0:((l.length:Int)+1==0)=false:=by simp;omega
      have hw1:IntKind.i64.wrap (l.length:Int)=l.length:=IntWalk.i64_in _ (by omega)
      have hll:(l.length:Int) < (l.length:Int)+1:=by omega
      by_cases hzd:z=((s:Int),c)
      ·have HST:=jD (show madeStep (v,more) ((s:Int),c)=(v,more) by rw[HSTEP.out,if_pos (by rw[hcc,hzd];simp)])
       rw[hzd] at z1 z2
       clear hz hcc
       go_wp2
       go_quiet (fail)
       go_wp2
       go_quiet (fail)
       go_wp2
       go_quiet (fail)
       go_wp2
       go_roundw
       case rel=>
        refine⟨q+1, .slice (some ⟨bm,0,none⟩) (l.length+1) mcap,by omega,by go_num, ?_, ?_⟩
        ·rw[HT.out,HST.out];exact H5.out
        ·rw[HT.out,HST.out];exact MA.out.drewN _
       case measure=>simp [intOf];omega
      have HST:=jD (show madeStep (v,more) ((s:Int),c)=(v,more++[((s:Int),c)]) by rw[HSTEP.out,if_neg (by rw[hcc];simpa using hzd)])
      have hzb:(z.1==(s:Int)&&z.2==c)=false:=by
       rw[Bool.eq_false_iff];intro h;apply hzd;simp at h;exact Prod.ext h.1 h.2
      clear hz hcc hzd
      go_wp2
      go_quiet (fail)
      go_wp2
      go_quiet (fail)
      go_wp2
      go_quiet (fail)
     all_goals
      have HOWN:=jD (fun n=>((MA.out.drewN n).alloc (.cells #[.int .i64 s, .int .i64 c] 41)).own)
      have ROW:=jD (fun n=>CellsAt.mk (w:=((wr.alloc (.cells #[.int .i64 s, .int .i64 c] 41)).drewN n).alloc (.cells #[.int .i64 s, .int .i64 c] 41)) (b:=wr.heap.size+1) (off:=0) (n:=1) (cap:=1) (xs:=[.int .i64 s, .int .i64 c]) (Nat.le_refl _) (by decide) (by simp) (fun j z hj=>by rw[Nat.zero_add,World.cell?_alloc_at _ _ _ _ (by simp)];simpa using hj))
      have hsz:=MA.out.sz
      simp only[World.size_alloc] at hsz
      go_wp2_with (at_builtin;refine wpList_append_cells2 rfl (.tmp 92) (.tmp 94) 71 rfl (O+1) 41 _ 2 16 Tryz.underlying71 DcTy.info rfl (by decide) _ more.length _ rfl (HOWN.out _) _ 1 _ rfl (ROW.out _) rfl (by intro u hu;simp at hu;rcases hu with rfl | rfl <;> rfl) (by simp;omega) (by unfold maxLen;omega) (by omega) ?_)
      intro v' w2 ho hgr
      obtain⟨qa,qc,hq⟩:=owns_slice ho
      subst hq
      have HP:=jD (MSt.push (d:=((s:Int),c)) ((MA.out.drewN _).alloc _) (by omega) (by omega) (by omega) (by omega) ho hgr)
      have o2:=grown_keep (HOWN.out _) hgr ((MA.out.drewN _).alloc _).o (by decide)
      have o3:=cell_of_block (j:=1) o2 rfl
      have o3f:=free_of_block (j:=1) o2
      have hO2:=hlt_of o2
      clear o2 ho hgr HOWN ROW o1 o1f g1 c1 c2
      go_wp2
      go_roundw
      case rel=>
       refine⟨q+1, .slice qa (more.length+1) qc,by omega,by go_num, ?_, ?_⟩
       ·rw[HT.out,HST.out];exact H5.out
       ·rw[HT.out,HST.out];exact HP.out
      case measure=>simp [intOf];omega
    ·obtain rfl:q=ds.length:=by omega
     rw[show es.take ds.length=es by rw[←hel2,List.take_length]] at HM H5
     generalize hst:madeAll v0 es=st at*
     obtain⟨v,more⟩:=st
     simp only at HM H5
     have HST:=jD hst
     have h55:=H5.out.len
     clear hst
     go_wp2
     go_loop [5] (fun t=> ∃n:Nat,n≤5∧t= .slice (some ⟨w.heap.size+1,0,none⟩) n 5∧trimZ (v.take n)=trimZ v) (fun t=>match t with | .slice _ n _=>n | _=>0)
     case atStart=>exact ⟨5,Nat.le_refl _,rfl,by rw[List.take_of_length_le (by omega)]⟩
     case round=>
      obtain⟨n,hn,rfl,htr⟩:=hrel
      have HTR:=jD htr
      clear htr
      have hG:=HM.out.g
      have hGl:=hlt_of HM.out.g
      rcases n with - | n
      rotate_left
      focus
       have hnl:n < v.length:=by omega
       have g1:=cell_of_block (j:=n) HM.out.g (intsC_get hnl)
       have HTS:=jD (show trimZ (v.take (n+1))=if v[n]=0 then trimZ (v.take n) else v.take (n+1) by rw[List.take_succ_eq_append_getElem hnl,trimZ_snoc])
       have hw1:IntKind.i64.wrap (n:Int)=n:=IntWalk.i64_in _ (by omega)
       have hn5:(n:Int) < 5:=by omega
       generalize v[n]=x at*
       by_cases hx:x=0
       ·have HX:=jD hx
        have hx':(x==0)=true:=by simp[hx]
        clear hx hG
        go_wp2
        go_roundw
        case rel=>exact ⟨n,by omega,rfl,by rw[←HTR.out,HTS.out,if_pos HX.out]⟩
        case measure=>simp
       have HFIN:=jD (show v.take (n+1)=trimZ v by rw[←HTR.out,HTS.out,if_neg hx])
       have hx':(x==0)=false:=by simp[hx]
       have HG:=jD hG
       have HNN:=jD (rfl:n+1=n+1)
       have HCL:=jD (show CellsAt wr (.slice (some ⟨w.heap.size+1,0,none⟩) (n+1) 5) (n+1) (intsC (trimZ v)) by rw[←HFIN.out];exact cells_take hG (by omega) (by omega) (by omega))
       have HLN:=jD (show(intsC (trimZ v)).length=(n+1)*1 by rw[←HFIN.out,intsC_length,List.length_take];omega)
       clear hx hG hnl HTR HTS
       go_wp2_with fail
      rotate_left
      focus
       have HFIN:=jD (show v.take 0=trimZ v by rw[←HTR.out];simp [trimZ])
       have HG:=jD hG
       have HCL:=jD (show CellsAt wr (.slice (some ⟨w.heap.size+1,0,none⟩) 0 5) 0 (intsC (trimZ v)) by rw[←HFIN.out];exact cells_take hG (by omega) (by omega) (by omega))
       have HLN:=jD (show(intsC (trimZ v)).length=0*1 by rw[←HFIN.out];rfl)
       clear hG HTR
       go_wp2_with fail
      all_goals
       (with_reducible refine(IcClone_c _ _ (intsC (trimZ v)) _ HCL.out HLN.out (intsC_one _) (by omega)).mono ?_)
       rintro e w5 ⟨u,rfl,ho5,hb5⟩
       obtain⟨ua,uc,hu⟩:=owns_slice ho5
       subst hu
       have hO5:=below_keep hb5 HM.out.o
       have hR5:=below_keep hb5 HM.out.r
       have o0:=cell_of_block (j:=0) hO5 rfl
       have o1:=cell_of_block (j:=1) hO5 rfl
       have o0f:=free_of_block (j:=0) hO5
       have r0:=cell_of_block (j:=0) hR5 rfl
       have r1:=cell_of_block (j:=1) hR5 rfl
       have r0f:=free_of_block (j:=0) hR5
       have r1f:=free_of_block (j:=1) hR5
       have hOl:=hlt_of hO5
       have hRl:=hlt_of hR5
       have hne:O≠w.heap.size:=by omega
       have hne2:w.heap.size≠O:=by omega
       obtain⟨ma,mc,hmv⟩:=owns_slice HM.out.own
       have HO5:=jD hO5
       have HR5:=jD hR5
       have HOW:=jD (owns_below HM.out.own hb5)
       have HU5:=jD ho5
       have HBL:=jD (HM.out.bel.trans (hb5.mono HM.out.bel.size))
       have hws:=HM.out.bel.size
       subst hmv
       clear hO5 hR5 ho5 hb5
       go_wp2
       refine bodyPost_ret (v:= .agg #[_,_]) (by simp[results,Tryz.results110,go_sem, *];exact ⟨rfl,rfl⟩) rfl ⟨⟨trimZ v,more⟩,_,_,rfl, ?_⟩
       have hlen:(trimZ v).length*1=(intsC (trimZ v)).length:=by rw[intsC_length];omega
       rw[HLN.out] at hlen
       have e5: ∀x,(w5.setCell ⟨O,0,none⟩ x).heap[w.heap.size]? =some (Obj.cells #[.slice none 0 0, .slice none 0 0] 73 (0,0)):=fun x=>(heap_set_other hne2).trans HR5.out
       have mk:=made_ok (v0:=v0) H5v.out.len H5v.out.bd (ds:=es) (fun d hd=>hds d ((HEM.out d).1 hd)) HES.out
       have ms:=made_st (v0:=v0) H5v.out.len H5v.out.bd es (fun d hd=>hds d ((HEM.out d).1 hd)) HES.out
       rw[HST.out] at mk ms
       refine⟨⟨?_, ?_⟩,mk.1,by have:=ms.mlen;simp only at this ⊢;omega,fun s c h0 h5 h1=> ?_, ?_⟩
       ·have q:=fun x y z=>own_set (j:=1) (u:=z) (own_set (j:=0) (u:=y) (own_set (j:=0) (u:=x) HU5.out HO5.out (by decide)) (e5 x) (by decide)) (heap_set_same (e5 x)) (by decide)
        simp only
        rw[show(trimZ v).length=_ from by rw[←Nat.mul_one (trimZ v).length,hlen,Nat.mul_one]]
        exact owns_mono (q _ _ _) hws
       ·exact owns_mono (own_set (j:=1) (own_set (j:=0) (own_set (j:=0) HOW.out HO5.out (by decide)) (e5 _) (by decide)) (heap_set_same (e5 _)) (by decide)) (by omega)
       ·rw[mk.2 s c h0 h5 h1,HVM.out s h0 h5]
        congr 1
        simp only[HEM.out]
       ·exact((HBL.out.setCell (p:=⟨O,0,none⟩) (by simp only;omega) _).setCell (p:=⟨w.heap.size,0,none⟩) (Nat.le_refl _) _).setCell (p:=⟨w.heap.size,1,none⟩) (Nat.le_refl _) _
theorem formK_at {w:World} {base:Nat} {u v:Value} {P:DPred} (h:KnOwn w base u v (formK P)):KnAt w u v (formK P):=h.at_ (formK_ok P).len (by have:=formM_len P;omega)
theorem made_f (vv dv:Value) (vs:List (List Int)) (ds:Dots) (P:DPred) (w:World) (hv:RowAt vecE w vv vs) (hd:DsAt w dv ds) (hvs: ∀l∈vs,vecOk l) (hds: ∀d∈ds,dotOk d=true) (hlen:ds.length≤1000000)
  (hP:DEq (fun s c=>decide (c≤vmaxAt vs s) || decide ((s,c)∈ds)) P):
  Calls Tryz.prog 110 #[vv,dv] w fun e w'=> ∃(u v:Value),e= .returned (.agg #[u,v])∧KnOwn w' w.heap.size u v (formK P)∧Below w.heap.size w w':=by
 refine(made_c vv dv vs ds w hv hd hvs hds hlen).mono ?_
 rintro e w' ⟨k,u,v,rfl,ho,hok, -,hm,hb⟩
 have:k=formK P:=formK_uniq hok fun s c h0 h5 h1 h2=>by rw[hm s c h0 h5 h1];exact hP s c h0 h5 h1 h2
 subst this
 exact⟨u,v,rfl,ho,hb⟩
def KnRes (w:World) (base:Nat) (u v:Value) (E:Int) (k:Kn):Prop:=(E=0∧KnOwn w base u v k)∨(E≠0∧u= .slice none 0 0∧v= .slice none 0 0)
theorem KnRes.below {w w':World} {base:Nat} {u v:Value} {E:Int} {k:Kn} (h:KnRes w base u v E k) (hb:Below w.heap.size w w'):KnRes w' base u v E k:=h.imp (fun h=>⟨h.1,h.2.below hb⟩) id
theorem KnRes.shape {w:World} {base:Nat} {u v:Value} {E:Int} {k:Kn} (h:KnRes w base u v E k): ∃a n c b m d,u= .slice a n c∧v= .slice b m d:=by
 rcases h with⟨-,h⟩ | ⟨-,rfl,rfl⟩
 ·obtain⟨a,c,rfl⟩:=owns_slice h.vec;obtain ⟨b,d,rfl⟩:=owns_slice h.more;exact ⟨_,_,_,_,_,_,rfl,rfl⟩
 ·exact⟨none,0,0,none,0,0,rfl,rfl⟩
theorem KnRes.set {w:World} {base g j:Nat} {u v x:Value} {E:Int} {k:Kn} {cs:Array Value} (h:KnRes w base u v E k) (hg:w.heap[g]? =some (Obj.cells cs 73 (0,0))):KnRes (w.setCell ⟨g,j,none⟩ x) base u v E k:=
 h.imp (fun h=>⟨h.1,own_set h.2.vec hg (by decide),own_set h.2.more hg (by decide)⟩) id
theorem ktold_c (u v:Value) (k:Kn) (base:Nat) (w:World) (hk:KnOwn w base u v k) (hl:k.more.length≤1000000):
  Calls Tryz.prog 202 #[.agg #[u,v]] w fun e w'=> ∃(x y:Value),e= .returned (.tuple #[.agg #[x,y], .int .i64 (kE k)])∧KnRes w' base x y (kE k) k∧Below w.heap.size w w':=by
 obtain⟨va,vc,rfl⟩:=owns_slice hk.more
 obtain⟨ua,uc,rfl⟩:=owns_slice hk.vec
 have HK:=jD hk
 have hbx:Below w.heap.size w (w.alloc (.cells #[.slice ua k.vec.length uc, .slice va k.more.length vc] 73)):=bal _
 clear hk
 by_cases h:60 < k.more.length
 ·have H:=jD (show kE k=2 by unfold kE;rw [if_pos h])
  go_enter Tryz.func202,Tryz.ntmps202
  go_wp2
  refine bodyPost_ret (v:= .tuple #[.agg #[_,_],_]) (by simp[results,Tryz.results202,go_sem, *];exact ⟨⟨rfl,rfl⟩,rfl⟩) rfl ?_
  refine⟨_,_,by rw[H.out], .inr ⟨by rw[H.out];decide,rfl,rfl⟩,(hbx.alloc (by simp) _)⟩
 ·have H:=jD (show kE k=0 by unfold kE;rw [if_neg h])
  go_enter Tryz.func202,Tryz.ntmps202
  go_wp2
  refine bodyPost_ret (v:= .tuple #[.agg #[_,_],_]) (by simp[results,Tryz.results202,go_sem, *];exact ⟨⟨rfl,rfl⟩,rfl⟩) rfl ?_
  refine⟨_,_,by rw[H.out], .inl ⟨H.out, ?_⟩,(hbx.alloc (by simp) _)⟩
  exact(HK.out.below (bal _)).below (bal _)
theorem vmax_two (a b:List Int) (s:Int):vmaxAt [a,b] s=max (max 0 (vecAt a s)) (vecAt b s):=rfl
def orK (P Q:DPred):DPred:=fun s c=>P s c || Q s c
theorem join_mem (a b:Kn):DEq (fun s c=>decide (c≤vmaxAt [a.vec,b.vec] s) || decide ((s,c)∈a.more++b.more)) (orK (knIn a) (knIn b)):=by
 intro s c _ _ h1 _
 rw[Bool.eq_iff_iff]
 simp only[orK,knIn,Bool.or_eq_true,decide_eq_true_eq,List.mem_append]
 rw[vmax_two]
 have e:(c≤max (max 0 (vecAt a.vec s)) (vecAt b.vec s))↔(c≤vecAt a.vec s∨c≤vecAt b.vec s):=by omega
 rw[e,or_or_or_comm]
def resE (E0:Int) (P:DPred):Int:=if E0=0 then kE (formK P) else E0
theorem bstep2 {w w1 w2:World} (h:Below w.heap.size w w1) (k:Below w1.heap.size w1 w2):Below w.heap.size w w2:=bstep h k
theorem rowLit2 (w:World) (u1 u2:Value) (l1 l2:List Int) (t:TypeId) {g:Nat} (hg:g=w.heap.size) (h1:IsAt (w.alloc (.cells #[u1,u2] t)) u1 l1) (h2:IsAt (w.alloc (.cells #[u1,u2] t)) u2 l2):RowAt vecE (w.alloc (.cells #[u1,u2] t)) (.slice (some ⟨g,0,none⟩) 2 2) [l1,l2]:=by
 subst hg
 refine⟨[[u1],[u2]],⟨⟨_,rfl,h1⟩,⟨_,rfl,h2⟩,trivial⟩,CellsAt.mk (Nat.le_refl _) (by decide) (by simp) fun j x hj=> ?_⟩
 rw[Nat.zero_add,World.cell?_alloc_at _ _ _ _ rfl]
 simpa using hj
theorem rowsLit2 (w:World) (u1 u2:Value) (n1 n2:Nat) (l1 l2:List Value) (t:TypeId) (g:Nat) (hg:g=w.heap.size) (h1:CellsAt (w.alloc (.cells #[u1,u2] t)) u1 n1 l1) (h2:CellsAt (w.alloc (.cells #[u1,u2] t)) u2 n2 l2):RowsAt (w.alloc (.cells #[u1,u2] t)) (.slice (some ⟨g,0,none⟩) 2 2) [(u1,n1,l1),(u2,n2,l2)]:=by
 subst hg
 refine⟨CellsAt.mk (Nat.le_refl _) (by decide) (by simp) fun j x hj=> ?_,fun r hr=> ?_⟩
 ·rw[Nat.zero_add,World.cell?_alloc_at _ _ _ _ rfl]
  simpa using hj
 ·simp only[List.mem_cons,List.not_mem_nil,or_false] at hr
  rcases hr with rfl | rfl
  ·exact h1
  ·exact h2
theorem rowsBelow {w w':World} {v:Value} {rs:Rows3} (h:RowsAt w v rs) (hb:Below w.heap.size w w'):RowsAt w' v rs:=⟨h.1.below hb,fun r hr=>(h.2 r hr).below hb⟩
theorem vecsOk2 {a b:Kn} (ha:KnOk a) (hb:KnOk b): ∀l∈[a.vec,b.vec],vecOk l:=by
 intro l hl
 simp only[List.mem_cons,List.not_mem_nil,or_false] at hl
 rcases hl with rfl | rfl
 ·exact⟨ha.len,ha.bd⟩
 ·exact⟨hb.len,hb.bd⟩
theorem dotsOk2 {a b:Kn} (ha:KnOk a) (hb:KnOk b): ∀d∈a.more++b.more,dotOk d=true:=by
 intro d hd
 rcases List.mem_append.1 hd with h | h
 ·exact(ha.dots d h).1
 ·exact(hb.dots d h).1
theorem concat2 (x u1 u2:Value) (a b:Kn) (w:World) (h:RowsAt w x [(u1,a.more.length,spansCells a.more),(u2,b.more.length,spansCells b.more)]) (ha:KnOk a∧a.more.length≤60) (hb:KnOk b∧b.more.length≤60):
  Calls Tryz.prog 153 #[x] w fun e w'=> ∃v,e= .returned v∧DsAt w' v (a.more++b.more)∧Below w.heap.size w w':=by
 refine(DlConcat_c x _ w h ?_ ?_ ?_).mono ?_
 ·intro r hr
  simp only[List.mem_cons,List.not_mem_nil,or_false] at hr
  rcases hr with rfl | rfl <;> exact spansCells_length _
 ·intro r hr
  simp only[List.mem_cons,List.not_mem_nil,or_false] at hr
  rcases hr with rfl | rfl <;> exact spansCells_one _
 ·simp[tot];omega
 ·rintro e w' ⟨v,rfl,ho,hbl⟩
  refine⟨v,rfl, ?_,hbl⟩
  have e1:tot [(u1,a.more.length,spansCells a.more),(u2,b.more.length,spansCells b.more)]=(a.more++b.more).length:=by simp[tot]
  have e2:flat [(u1,a.more.length,spansCells a.more),(u2,b.more.length,spansCells b.more)]=spansCells (a.more++b.more):=by simp[flat,spansCells_append]
  rw[e1,e2] at ho
  exact CellsAt.of_owns ho (by simp;omega)
theorem kjoin_c (ua va ub vb:Value) (a b:Kn) (w:World) (ha:KnAt w ua va a) (hb:KnAt w ub vb b):
  Calls Tryz.prog 196 #[.agg #[ua,va], .agg #[ub,vb]] w fun e w'=> ∃(x y:Value),e= .returned (.tuple #[.agg #[x,y], .int .i64 (resE (knTwo a b) (orK (knIn a) (knIn b)))])∧KnRes w' w.heap.size x y (resE (knTwo a b) (orK (knIn a) (knIn b))) (formK (orK (knIn a) (knIn b)))∧Below w.heap.size w w':=by
 obtain⟨xa,ca,hua⟩:=ha.vec.shape
 obtain⟨ya,da,hva⟩:=ha.more.shape
 obtain⟨xb,cb,hub⟩:=hb.vec.shape
 obtain⟨yb,db,hvb⟩:=hb.more.shape
 subst hua hva hub hvb
 obtain⟨W,hW⟩: ∃W,W=((w.alloc (.cells #[.slice xa a.vec.length ca, .slice ya a.more.length da] 73)).alloc (.cells #[.slice xb b.vec.length cb, .slice yb b.more.length db] 73)).alloc (.cells #[.slice none 0 0, .slice none 0 0] 73):=⟨_,rfl⟩
 have hbW:Below w.heap.size w W:=by rw[hW];exact ((bal _).alloc (by simp) _).alloc (by simp;omega) _
 have A:=jD (show W.heap[w.heap.size]? =some (Obj.cells #[.slice xa a.vec.length ca, .slice ya a.more.length da] 73 (0,0)) by rw[hW];exact alloc_keep _ (alloc_keep _ (alloc_new _ _ _ _ rfl)))
 have B:=jD (show W.heap[w.heap.size+1]? =some (Obj.cells #[.slice xb b.vec.length cb, .slice yb b.more.length db] 73 (0,0)) by rw[hW];exact alloc_keep _ (alloc_new _ _ _ _ (by simp)))
 have R:=jD (show W.heap[w.heap.size+2]? =some (Obj.cells #[.slice none 0 0, .slice none 0 0] 73 (0,0)) by rw[hW];exact alloc_new _ _ _ _ (by simp))
 have HA:=jD (ha.below hbW)
 have HB:=jD (hb.below hbW)
 have HBW:=jD hbW
 clear hbW ha hb
 go_enter Tryz.func196,Tryz.ntmps196
 go_wp2_with fail
 rw[show w.heap.size+1+1=w.heap.size+2 from rfl,←hW]
 clear hW
 (with_reducible refine(ktwo_c _ _ _ _ a b _ HA.out HB.out).mono ?_)
 rintro e w1 ⟨rfl,hb1⟩
 have A1:=jD (below_keep hb1 A.out)
 have B1:=jD (below_keep hb1 B.out)
 have R1:=jD (below_keep hb1 R.out)
 have HA1:=jD (HA.out.below hb1)
 have HB1:=jD (HB.out.below hb1)
 have hbl:=HBW.out.trans (hb1.mono HBW.out.size)
 clear hb1 A B R HA HB HBW
 cases hx:(knTwo a b==0)
 ·have H0:=jD (show knTwo a b≠0 by simpa using hx)
  have H:=jD (show resE (knTwo a b) (orK (knIn a) (knIn b))=knTwo a b by unfold resE;rw [if_neg H0.out])
  have h':(knTwo a b != 0)=true:=by simp[bne,hx]
  have r0:=cell_of_block (j:=0) R1.out rfl
  have r1:=cell_of_block (j:=1) R1.out rfl
  have f0:=free_of_block (j:=0) R1.out
  have f1:=free_of_block (j:=1) R1.out
  have hRl:=hlt_of R1.out
  clear hx
  go_wp2
  refine bodyPost_ret (v:= .tuple #[.agg #[_,_],_]) (by simp[results,Tryz.results196,go_sem, *];exact ⟨⟨rfl,rfl⟩,rfl⟩) rfl ?_
  exact⟨_,_,by rw[H.out], .inr ⟨by rw[H.out];exact H0.out,rfl,rfl⟩,(hbl.setCell (by simp) _).setCell (by simp) _⟩
 have h0:knTwo a b=0:=by simpa using hx
 have HE:=jD (show resE (knTwo a b) (orK (knIn a) (knIn b))=kE (formK (orK (knIn a) (knIn b))) by unfold resE;rw [if_pos h0])
 obtain⟨c1,c2⟩:=knTwo_zero.1 h0
 have OA:=jD (knChk_zero.1 c1)
 have OB:=jD (knChk_zero.1 c2)
 rw[h0]
 clear hx h0 c1 c2
 go_wp2_with fail
 have CA0:=jD (cell_of_block (j:=0) A1.out rfl)
 have CA1:=jD (cell_of_block (j:=1) A1.out rfl)
 have CB0:=jD (cell_of_block (j:=0) B1.out rfl)
 have CB1:=jD (cell_of_block (j:=1) B1.out rfl)
 refine Cl.region0 29 rfl [15] (fun ww=>Below w1.heap.size w1 ww) (fun jq=>match jq with | 4=>[15] | 9=>[15] | 10=>[15] | 11=>[15] | 12=>[15] | 13=>[15] | _=>[]) (fun jq v ww=>match jq with | 0=>v= .pointer (some ⟨w.heap.size,0,none⟩) | 1=>v= .slice xa a.vec.length ca | 2=>v= .pointer (some ⟨w.heap.size+1,0,none⟩) | 3=>v= .slice xb b.vec.length cb | 4=>RowAt vecE ww v [a.vec,b.vec] | 5=>v= .pointer (some ⟨w.heap.size,1,none⟩) | 6=>v= .slice ya a.more.length da | 7=>v= .pointer (some ⟨w.heap.size+1,1,none⟩) | 8=>v= .slice yb b.more.length db | 9=>RowsAt ww v [(.slice ya a.more.length da,a.more.length,spansCells a.more),(.slice yb b.more.length db,b.more.length,spansCells b.more)] | 10=>DsAt ww v (a.more++b.more) | 11=> ∃X Y,v= .agg #[X,Y]∧KnOwn ww w.heap.size X Y (formK (orK (knIn a) (knIn b))) | 12=> ∃X Y,v= .tuple #[.agg #[X,Y], .int .i64 (kE (formK (orK (knIn a) (knIn b))))]∧KnRes ww w.heap.size X Y (kE (formK (orK (knIn a) (knIn b)))) (formK (orK (knIn a) (knIn b))) | 13=> ∃X Y,v= .agg #[X,Y]∧KnRes ww w.heap.size X Y (kE (formK (orK (knIn a) (knIn b)))) (formK (orK (knIn a) (knIn b))) | 14=>v= .int .i64 (kE (formK (orK (knIn a) (knIn b)))) | 15=> ∃X Y,ww.heap[w.heap.size+2]? =some (Obj.cells #[X,Y] 73 (0,0))∧KnRes ww w.heap.size X Y (kE (formK (orK (knIn a) (knIn b)))) (formK (orK (knIn a) (knIn b)))∧Below w.heap.size w ww | 16=>v= .int .i64 (kE (formK (orK (knIn a) (knIn b)))) | _=>True) (fun ww=>True) (fun jq ww ww'=>jq≠15→Below ww.heap.size ww ww') Tryz.mixed (by decide+kernel) trivial ((Below.refl _ _).drew) ?_ (fun jq ww ww' hk h hR=>bstep h (hR (by simpa using hk))) ?_ ?_
 ·intro q r v w w' hne hk hlt h hR
  match r,hk,hlt,h,hne with
  | 0,_,_,h,_=>exact h
  | 1,_,_,h,_=>exact h
  | 2,_,_,h,_=>exact h
  | 3,_,_,h,_=>exact h
  | 4,hk,_,h,_=>exact h.below (hR (by simpa using hk))
  | 5,_,_,h,_=>exact h
  | 6,_,_,h,_=>exact h
  | 7,_,_,h,_=>exact h
  | 8,_,_,h,_=>exact h
  | 9,hk,_,h,_=>exact rowsBelow h (hR (by simpa using hk))
  | 10,hk,_,h,_=>exact h.below (hR (by simpa using hk))
  | 11,hk,_,h,_=>exact (fun hb=>let ⟨x,y,h1,h2⟩:=h;⟨x,y,h1,h2.below hb⟩) (hR (by simpa using hk))
  | 12,hk,_,h,_=>exact (fun hb=>let ⟨x,y,h1,h2⟩:=h;⟨x,y,h1,h2.below hb⟩) (hR (by simpa using hk))
  | 13,hk,_,h,_=>exact (fun hb=>let ⟨x,y,h1,h2⟩:=h;⟨x,y,h1,h2.below hb⟩) (hR (by simpa using hk))
  | 14,_,_,h,_=>exact h
  | 15,_,_,h,hne=>exact (fun hb=>let ⟨x,y,h1,h2,h3⟩:=h;⟨x,y,below_keep hb h1,h2.below hb,bstep2 h3 hb⟩) (hR (by exact hne))
  | 16,_,_,h,_=>exact h
  | _+17,_,_,_,_=>trivial
 ·refine⟨?_, ?_, ?_, ?_, ?_, ?_, ?_, ?_, ?_, ?_, ?_, ?_, ?_, ?_, ?_, ?_, ?_,trivial⟩
  ·intro x wx hG
   have f2:=hG.o 2
   have hp:=hG.p
   replace hG:=hG.good
   have hG:=hp
   go_wp2
   exact⟨_,rfl,rfl,trivial,fun _=>Below.refl _ _⟩
  ·intro x wx hG
   have g0:(x.tmps.getD 14 undef)= .pointer (some ⟨w.heap.size,0,none⟩):=hG.c 0 _ rfl
   have hp:=hG.p
   replace hG:=hG.good
   have hG:=hp
   have c_CA0:=ckeep hG CA0.out
   go_wp2
   exact⟨_,rfl,rfl,trivial,fun _=>Below.refl _ _⟩
  ·intro x wx hG
   have f3:=hG.o 3
   have hp:=hG.p
   replace hG:=hG.good
   have hG:=hp
   go_wp2
   exact⟨_,rfl,rfl,trivial,fun _=>Below.refl _ _⟩
  ·intro x wx hG
   have g2:(x.tmps.getD 16 undef)= .pointer (some ⟨w.heap.size+1,0,none⟩):=hG.c 2 _ rfl
   have hp:=hG.p
   replace hG:=hG.good
   have hG:=hp
   have c_CB0:=ckeep hG CB0.out
   go_wp2
   exact⟨_,rfl,rfl,trivial,fun _=>Below.refl _ _⟩
  ·intro x wx hG
   have g1:(x.tmps.getD 15 undef)= .slice xa a.vec.length ca:=hG.c 1 _ rfl
   have g1b:=gd g1
   have g3:(x.tmps.getD 17 undef)= .slice xb b.vec.length cb:=hG.c 3 _ rfl
   have g3b:=gd g3
   have hp:=hG.p
   replace hG:=hG.good
   have hG:=hp
   go_wp2
   exact⟨_,rfl,rowLit2 _ _ _ _ _ _ rfl (HA1.out.below (hG.alloc hG.size _)).vec (HB1.out.below (hG.alloc hG.size _)).vec,trivial,fun _=>bal _⟩
  ·intro x wx hG
   have f2:=hG.o 2
   have hp:=hG.p
   replace hG:=hG.good
   have hG:=hp
   go_wp2
   exact⟨_,rfl,rfl,trivial,fun _=>Below.refl _ _⟩
  ·intro x wx hG
   have g5:(x.tmps.getD 19 undef)= .pointer (some ⟨w.heap.size,1,none⟩):=hG.c 5 _ rfl
   have hp:=hG.p
   replace hG:=hG.good
   have hG:=hp
   have c_CA1:=ckeep hG CA1.out
   go_wp2
   exact⟨_,rfl,rfl,trivial,fun _=>Below.refl _ _⟩
  ·intro x wx hG
   have f3:=hG.o 3
   have hp:=hG.p
   replace hG:=hG.good
   have hG:=hp
   go_wp2
   exact⟨_,rfl,rfl,trivial,fun _=>Below.refl _ _⟩
  ·intro x wx hG
   have g7:(x.tmps.getD 21 undef)= .pointer (some ⟨w.heap.size+1,1,none⟩):=hG.c 7 _ rfl
   have hp:=hG.p
   replace hG:=hG.good
   have hG:=hp
   have c_CB1:=ckeep hG CB1.out
   go_wp2
   exact⟨_,rfl,rfl,trivial,fun _=>Below.refl _ _⟩
  ·intro x wx hG
   have g6:(x.tmps.getD 20 undef)= .slice ya a.more.length da:=hG.c 6 _ rfl
   have g6b:=gd g6
   have g8:(x.tmps.getD 22 undef)= .slice yb b.more.length db:=hG.c 8 _ rfl
   have g8b:=gd g8
   have hp:=hG.p
   replace hG:=hG.good
   have hG:=hp
   go_wp2
   exact⟨_,rfl,rowsLit2 _ _ _ _ _ _ _ _ _ rfl (HA1.out.below (hG.alloc hG.size _)).more (HB1.out.below (hG.alloc hG.size _)).more,trivial,fun _=>bal _⟩
  ·intro x wx hG
   have g9:RowsAt wx (x.tmps.getD 23 undef) [(.slice ya a.more.length da,a.more.length,spansCells a.more),(.slice yb b.more.length db,b.more.length,spansCells b.more)]:=hG.c 9 _ rfl
   have hp:=hG.p
   replace hG:=hG.good
   have hG:=hp
   generalize hx:x.tmps.getD 23 undef=x23 at*
   have G9:=jD g9
   clear g9
   go_wp2_with fail
   skip
   (with_reducible refine(concat2 _ _ _ _ _ _ G9.out OA.out OB.out).mono ?_)
   rintro e wq ⟨v9,rfl,h9,hb⟩
   obtain⟨za,zc,hz⟩:=h9.shape
   generalize (a.more++b.more).length=ln at hz
   subst hz
   have H9:=jD h9
   clear h9
   go_wp2
   exact⟨_,rfl,H9.out,trivial,fun _=>hb⟩
  ·intro x wx hG
   have g4:RowAt vecE wx (x.tmps.getD 18 undef) [a.vec,b.vec]:=hG.c 4 _ rfl
   have g10:DsAt wx (x.tmps.getD 24 undef) (a.more++b.more):=hG.c 10 _ rfl
   have hp:=hG.p
   replace hG:=hG.good
   have hG:=hp
   generalize hx:x.tmps.getD 24 undef=x24 at*
   generalize hy:x.tmps.getD 18 undef=x18 at*
   have G10:=jD g10
   have G4:=jD g4
   clear g10 g4
   go_wp2_with fail
   (with_reducible refine(made_f _ _ _ _ (orK (knIn a) (knIn b)) _ G4.out G10.out (vecsOk2 OA.out.1 OB.out.1) (dotsOk2 OA.out.1 OB.out.1) (by have:=OA.out.2;have:=OB.out.2;simp only[List.length_append];omega) (join_mem a b)).mono ?_)
   rintro e wq ⟨u9,v9,rfl,h9,hb⟩
   have H9:=jD (h9.mono (base':=w.heap.size) (by have:=hbl.size;have:=hG.size;omega))
   clear h9
   go_wp2
   exact⟨_,rfl,⟨_,_,rfl,H9.out⟩,trivial,fun _=>hb⟩
  ·intro x wx hG
   have g11: ∃X Y,(x.tmps.getD 25 undef)= .agg #[X,Y]∧KnOwn wx w.heap.size X Y (formK (orK (knIn a) (knIn b))):=hG.c 11 _ rfl
   have hp:=hG.p
   replace hG:=hG.good
   have hG:=hp
   obtain⟨x9,y9,hx9,h9⟩:=g11
   have H9:=jD h9
   clear h9
   go_wp2_with fail
   (with_reducible refine(ktold_c _ _ _ _ _ H9.out (by have:=formM_len (orK (knIn a) (knIn b));omega)).mono ?_)
   rintro e wq ⟨u9,v9,rfl,h8,hb⟩
   have H8:=jD h8
   clear h8
   go_wp2
   exact⟨_,rfl,⟨_,_,rfl,H8.out⟩,trivial,fun _=>hb⟩
  ·intro x wx hG
   have g12: ∃X Y,(x.tmps.getD 26 undef)= .tuple #[.agg #[X,Y], .int .i64 (kE (formK (orK (knIn a) (knIn b))))]∧KnRes wx w.heap.size X Y (kE (formK (orK (knIn a) (knIn b)))) (formK (orK (knIn a) (knIn b))):=hG.c 12 _ rfl
   have hp:=hG.p
   replace hG:=hG.good
   have hG:=hp
   obtain⟨x9,y9,hx9,h9⟩:=g12
   have H9:=jD h9
   clear h9
   go_wp2
   exact⟨_,rfl,⟨_,_,rfl,H9.out⟩,trivial,fun _=>Below.refl _ _⟩
  ·intro x wx hG
   have g12: ∃X Y,(x.tmps.getD 26 undef)= .tuple #[.agg #[X,Y], .int .i64 (kE (formK (orK (knIn a) (knIn b))))]∧KnRes wx w.heap.size X Y (kE (formK (orK (knIn a) (knIn b)))) (formK (orK (knIn a) (knIn b))):=hG.c 12 _ rfl
   have hp:=hG.p
   replace hG:=hG.good
   have hG:=hp
   obtain⟨x9,y9,hx9,h9⟩:=g12
   clear h9
   go_wp2
   exact⟨_,rfl,rfl,trivial,fun _=>Below.refl _ _⟩
  ·intro x wx hG
   have f4:=hG.o 4
   have g13: ∃X Y,(x.tmps.getD 27 undef)= .agg #[X,Y]∧KnRes wx w.heap.size X Y (kE (formK (orK (knIn a) (knIn b)))) (formK (orK (knIn a) (knIn b))):=hG.c 13 _ rfl
   have hp:=hG.p
   replace hG:=hG.good
   have hG:=hp
   obtain⟨x9,y9,hx9,h9⟩:=g13
   obtain⟨qa,qn,qc,qb,qm,qd,hq1,hq2⟩:=h9.shape
   subst hq1 hq2
   have H9:=jD h9
   have hR:=below_keep hp R1.out
   have HR:=jD hR
   have r0:=cell_of_block (j:=0) hR rfl
   have r1:=cell_of_block (j:=1) hR rfl
   have f0:=free_of_block (j:=0) hR
   have f1:=free_of_block (j:=1) hR
   have hRl:=hlt_of hR
   have HBLX:=jD (hbl.trans (hp.mono hbl.size))
   clear h9 hR
   go_wp2
   exact⟨undef,rfl,⟨_,_,by rw[heap_set_same (heap_set_same HR.out)];rfl,(H9.out.set HR.out).set (heap_set_same HR.out),(HBLX.out.setCell (by simp) _).setCell (by simp) _⟩,trivial,fun h=>absurd rfl h⟩
  ·intro x wx hG
   have g14:(x.tmps.getD 28 undef)= .int .i64 (kE (formK (orK (knIn a) (knIn b)))):=hG.c 14 _ rfl
   replace hG:=hG.good
   go_wp2
   exact⟨_,rfl,rfl,trivial,fun _=>Below.refl _ _⟩
 ·intro vals w2 hg hF
  obtain⟨g0,g1,g2,g3,g4,g5,g6,g7,g8,g9,g10,g11,g12,g13,g14,g15,g16, -⟩:=hF
  have e0:=gq (vals 0) g0
  have e1:=gq (vals 1) g1
  have e2:=gq (vals 2) g2
  have e3:=gq (vals 3) g3
  have e5:=gq (vals 5) g5
  have e6:=gq (vals 6) g6
  have e7:=gq (vals 7) g7
  have e8:=gq (vals 8) g8
  have e14:=gq (vals 14) g14
  replace g15: ∃X Y,w2.heap[w.heap.size+2]? =some (Obj.cells #[X,Y] 73 (0,0))∧KnRes w2 w.heap.size X Y (kE (formK (orK (knIn a) (knIn b)))) (formK (orK (knIn a) (knIn b)))∧Below w.heap.size w w2:=g15 rfl
  have e16:=gq (vals 16) g16
  simp only[Cl.puts,e0,e1,e2,e3,e5,e6,e7,e8,e14,e16]
  clear e0 e1 e2 e3 e5 e6 e7 e8 e14 e16 g0 g1 g2 g3 g4 g5 g6 g7 g8 g9 g10 g11 g12 g13 g14 g16
  go_simp
  obtain⟨x9,y9,h1,h2,h3⟩:=g15
  obtain⟨qa,qn,qc,qb,qm,qd,hq1,hq2⟩:=h2.shape
  subst hq1 hq2
  have r0:=cell_of_block (j:=0) h1 rfl
  have r1:=cell_of_block (j:=1) h1 rfl
  have H2:=jD h2
  clear h1 h2
  go_wp2
  refine bodyPost_ret (v:= .tuple #[.agg #[_,_],_]) (by simp[results,Tryz.results196,go_sem, *];exact ⟨⟨rfl,rfl⟩,rfl⟩) rfl ?_
  exact⟨_,_,by rw[HE.out],by rw[HE.out];exact H2.out,h3⟩
theorem eqInts_c (va vb:Value) (a b:List Int) (w:World) (ha:IsAt w va a) (hb:IsAt w vb b):
  Calls Tryz.prog 144 #[va,vb] w fun e w'=>e= .returned (.bool (a==b))∧Below w.heap.size w w':=by
 obtain⟨xa,ca,rfl,hcap,hm, -,hla⟩:=ha.open_
 obtain⟨xb,cb,rfl,hcapb,hmb, -,hlb⟩:=hb.open_
 clear ha hb
 go_enter Tryz.func144,Tryz.ntmps144
 by_cases hlen:a.length=b.length
 ·rw[←hlen]
  rw[←hlen] at hcapb hmb
  have HL:=jD hlen
  clear hlen
  go_wp2
  go_loopw [13] (fun i wr=> ∃k:Nat,k≤a.length∧i= .int .i64 k∧a.take k=b.take k∧Below w.heap.size w wr) (fun i _=>a.length - (intOf i).toNat)
  case atStart=>exact ⟨0,Nat.zero_le _,rfl,rfl,Below.refl _ _⟩
  case round=>
   obtain⟨k,hk,rfl,heq,hbl⟩:=hrel
   have HE:=jD heq
   clear heq
   by_cases hlt:k < a.length
   ·rcases hla with rfl | ⟨b0,off,rfl,hb0,hc⟩
    ·simp at hlt
    rcases hlb with rfl | ⟨b1,off1,rfl,hb1,hc1⟩
    ·have:=HL.out;simp at this;rw [this] at hlt;simp at hlt
    have hltb:k < b.length:=by have:=HL.out;omega
    have d1:=(hbl.cell (p:=⟨b0,off+k,none⟩) hb0).trans (hc k hlt)
    have d2:=(hbl.cell (p:=⟨b1,off1+k,none⟩) hb1).trans (hc1 k hltb)
    have HTA:=jD (List.take_succ_eq_append_getElem hlt)
    have HTB:=jD (List.take_succ_eq_append_getElem hltb)
    have HGA:=jD (fun h:a=b=>show a[k]=b[k] by subst h;rfl)
    clear hc hc1
    generalize a[k]=x at*
    generalize b[k]=y at*
    by_cases hxy:x=y
    ·have hx:(x != y)=false:=by simp[hxy]
     have HXY:=jD hxy
     clear hxy
     go_wp2
     go_quiet (fail)
     go_wp2
     go_roundw
     case rel=>exact ⟨k+1,by omega,by go_num,by rw[HTA.out,HTB.out,HE.out,HXY.out],below_drewN hbl _⟩
     case measure=>simp [intOf];omega
    ·have hx:(x != y)=true:=by simp[hxy]
     have HXY:=jD hxy
     clear hxy
     go_wp2
     go_quiet (fail)
     go_wp2
     go_ret
     exact⟨ret_bool (by symm;rw [beq_eq_false_iff_ne];intro e;exact HXY.out (HGA.out e)),below_drewN hbl _⟩
   ·go_wp2
    go_ret
    have:k=a.length:=by omega
    subst this
    exact⟨ret_bool (by have h:=HE.out;rw [List.take_length,HL.out,List.take_length] at h;simp [h]),hbl⟩
 ·have H:=jD hlen
  have h':((a.length:Int) != b.length)=true:=by simp;omega
  clear hlen
  go_wp2
  go_ret
  exact⟨ret_bool (by symm;simpa using fun h=>H.out (by rw[h])),Below.refl _ _⟩
theorem eqDots_c (va vb:Value) (a b:Dots) (w:World) (ha:DsAt w va a) (hb:DsAt w vb b):
  Calls Tryz.prog 145 #[va,vb] w fun e w'=>e= .returned (.bool (a==b))∧Below w.heap.size w w':=by
 obtain⟨xa,ca,rfl,hcap,hm, -,hla⟩:=ha.open_
 obtain⟨xb,cb,rfl,hcapb,hmb, -,hlb⟩:=hb.open_
 clear ha hb
 go_enter Tryz.func145,Tryz.ntmps145
 by_cases hlen:a.length=b.length
 ·rw[←hlen]
  rw[←hlen] at hcapb hmb
  have HL:=jD hlen
  clear hlen
  go_wp2
  go_loopw [13] (fun i wr=> ∃k:Nat,k≤a.length∧i= .int .i64 k∧a.take k=b.take k∧Below w.heap.size w wr) (fun i _=>a.length - (intOf i).toNat)
  case atStart=>exact ⟨0,Nat.zero_le _,rfl,rfl,Below.refl _ _⟩
  case round=>
   obtain⟨k,hk,rfl,heq,hbl⟩:=hrel
   have HE:=jD heq
   clear heq
   by_cases hlt:k < a.length
   ·rcases hla with rfl | ⟨b0,off,rfl,hb0,hc⟩
    ·simp at hlt
    rcases hlb with rfl | ⟨b1,off1,rfl,hb1,hc1⟩
    ·have:=HL.out;simp at this;rw [this] at hlt;simp at hlt
    have hltb:k < b.length:=by have:=HL.out;omega
    obtain⟨c1,c2⟩:=hc k hlt
    obtain⟨c3,c4⟩:=hc1 k hltb
    have d1:=(hbl.cell (p:=⟨b0,off+k*2,none⟩) hb0).trans c1
    have d2:=(hbl.cell (p:=⟨b0,off+k*2+1,none⟩) hb0).trans c2
    have d3:=(hbl.cell (p:=⟨b1,off1+k*2,none⟩) hb1).trans c3
    have d4:=(hbl.cell (p:=⟨b1,off1+k*2+1,none⟩) hb1).trans c4
    have HTA:=jD (List.take_succ_eq_append_getElem hlt)
    have HTB:=jD (List.take_succ_eq_append_getElem hltb)
    have HGA:=jD (fun h:a=b=>show a[k]=b[k] by subst h;rfl)
    clear c1 c2 c3 c4 hc hc1
    generalize a[k]=x at*
    generalize b[k]=y at*
    have heqs:=eqDot
    have heqg:=eqGuardDot
    by_cases hxy:x=y
    ·have hx:(x.1==y.1&&x.2==y.2)=true:=by simp[hxy]
     have HXY:=jD hxy
     clear hxy
     go_wp2
     go_quiet (fail)
     go_wp2
     go_roundw
     case rel=>exact ⟨k+1,by omega,by go_num,by rw[HTA.out,HTB.out,HE.out,HXY.out],below_drewN hbl _⟩
     case measure=>simp [intOf];omega
    ·have hx:(x.1==y.1&&x.2==y.2)=false:=by rw[Bool.eq_false_iff];intro h;apply hxy;simp at h;exact Prod.ext h.1 h.2
     have HXY:=jD hxy
     clear hxy
     go_wp2
     go_quiet (fail)
     go_wp2
     go_ret
     exact⟨ret_bool (by symm;rw [beq_eq_false_iff_ne];intro e;exact HXY.out (HGA.out e)),below_drewN hbl _⟩
   ·go_wp2
    go_ret
    have:k=a.length:=by omega
    subst this
    exact⟨ret_bool (by have h:=HE.out;rw [List.take_length,HL.out,List.take_length] at h;simp [h]),hbl⟩
 ·have H:=jD hlen
  have h':((a.length:Int) != b.length)=true:=by simp;omega
  clear hlen
  go_wp2
  go_ret
  exact⟨ret_bool (by symm;simpa using fun h=>H.out (by rw[h])),Below.refl _ _⟩
theorem kn_eq (a b:Kn):decide (a=b)=((a.vec==b.vec)&&(a.more==b.more)):=by
 cases a;cases b
 rw[Bool.eq_iff_iff]
 simp
theorem sameK_c (ua va ub vb:Value) (a b:Kn) (w:World) (ha:KnAt w ua va a) (hb:KnAt w ub vb b):
  Calls Tryz.prog 87 #[.agg #[ua,va], .agg #[ub,vb]] w fun e w'=>e= .returned (.bool (decide (a=b)))∧Below w.heap.size w w':=by
 obtain⟨xa,ca,rfl⟩:=ha.vec.shape
 obtain⟨ya,da,rfl⟩:=ha.more.shape
 obtain⟨xb,cb,rfl⟩:=hb.vec.shape
 obtain⟨yb,db,rfl⟩:=hb.more.shape
 obtain⟨W,hW⟩: ∃W,W=(w.alloc (.cells #[.slice xa a.vec.length ca, .slice ya a.more.length da] 73)).alloc (.cells #[.slice xb b.vec.length cb, .slice yb b.more.length db] 73):=⟨_,rfl⟩
 have hbW:Below w.heap.size w W:=by rw[hW];exact (bal _).alloc (by simp) _
 have hA:W.heap[w.heap.size]? =some (Obj.cells #[.slice xa a.vec.length ca, .slice ya a.more.length da] 73 (0,0)):=by rw[hW];exact alloc_keep _ (alloc_new _ _ _ _ rfl)
 have hB:W.heap[w.heap.size+1]? =some (Obj.cells #[.slice xb b.vec.length cb, .slice yb b.more.length db] 73 (0,0)):=by rw[hW];exact alloc_new _ _ _ _ (by simp)
 have A:=jD hA
 have B:=jD hB
 have a0:=cell_of_block (j:=0) hA rfl
 have b0:=cell_of_block (j:=0) hB rfl
 have H:=jD (kn_eq a b)
 have HA:=jD (ha.below hbW)
 have HB:=jD (hb.below hbW)
 have HBW:=jD hbW
 clear hbW ha hb hA hB
 go_enter Tryz.func87,Tryz.ntmps87
 go_wp2_with fail
 rw[←hW]
 clear hW
 (with_reducible refine(eqInts_c _ _ _ _ _ HA.out.vec HB.out.vec).mono ?_)
 rintro e w1 ⟨rfl,hb1⟩
 have hA:=below_keep hb1 A.out
 have hB:=below_keep hb1 B.out
 have a1:=cell_of_block (j:=1) hA rfl
 have b1:=cell_of_block (j:=1) hB rfl
 have HA1:=jD (HA.out.below hb1)
 have HB1:=jD (HB.out.below hb1)
 have hbl:=HBW.out.trans (hb1.mono HBW.out.size)
 clear hb1 HA HB HBW a0 b0 hA hB
 cases hx:(a.vec==b.vec)
 ·rw[hx] at H
  have H2:=jD (show decide (a=b)=false by rw[H.out];rfl)
  clear hx H
  go_wp2
  go_ret
  exact⟨ret_bool H2.out.symm,hbl⟩
 rw[hx] at H
 have H2:=jD (show decide (a=b)=(a.more==b.more) by rw[H.out];rfl)
 clear hx H
 go_wp2_with fail
 (with_reducible refine(eqDots_c _ _ _ _ _ HA1.out.more HB1.out.more).mono ?_)
 rintro e w2 ⟨rfl,hb2⟩
 replace hbl:=bstep hbl hb2
 clear hb2 a1 b1
 go_wp2
 go_ret
 exact⟨ret_bool H2.out.symm,hbl⟩
def knWithin (a b:Kn):Bool:=decide (formK (orK (knIn a) (knIn b))=b)
def knWithinB (a b:Kn):Bool:=if knTwo a b=0 then knWithin a b else false
theorem kwithin_c (ua va ub vb:Value) (a b:Kn) (w:World) (ha:KnAt w ua va a) (hb:KnAt w ub vb b):
  Calls Tryz.prog 182 #[.agg #[ua,va], .agg #[ub,vb]] w fun e w'=>e= .returned (.tuple #[.bool (knWithinB a b), .int .i64 (knTwo a b)])∧Below w.heap.size w w':=by
 obtain⟨xa,ca,rfl⟩:=ha.vec.shape
 obtain⟨ya,da,rfl⟩:=ha.more.shape
 obtain⟨xb,cb,rfl⟩:=hb.vec.shape
 obtain⟨yb,db,rfl⟩:=hb.more.shape
 obtain⟨W,hW⟩: ∃W,W=(w.alloc (.cells #[.slice xa a.vec.length ca, .slice ya a.more.length da] 73)).alloc (.cells #[.slice xb b.vec.length cb, .slice yb b.more.length db] 73):=⟨_,rfl⟩
 have hbW:Below w.heap.size w W:=by rw[hW];exact (bal _).alloc (by simp) _
 have A:=jD (show W.heap[w.heap.size]? =some (Obj.cells #[.slice xa a.vec.length ca, .slice ya a.more.length da] 73 (0,0)) by rw[hW];exact alloc_keep _ (alloc_new _ _ _ _ rfl))
 have B:=jD (show W.heap[w.heap.size+1]? =some (Obj.cells #[.slice xb b.vec.length cb, .slice yb b.more.length db] 73 (0,0)) by rw[hW];exact alloc_new _ _ _ _ (by simp))
 have HA:=jD (ha.below hbW)
 have HB:=jD (hb.below hbW)
 have HBW:=jD hbW
 clear hbW ha hb
 go_enter Tryz.func182,Tryz.ntmps182
 go_wp2_with fail
 rw[←hW]
 clear hW
 (with_reducible refine(ktwo_c _ _ _ _ a b _ HA.out HB.out).mono ?_)
 rintro e w1 ⟨rfl,hb1⟩
 have A1:=jD (below_keep hb1 A.out)
 have B1:=jD (below_keep hb1 B.out)
 have HA1:=jD (HA.out.below hb1)
 have HB1:=jD (HB.out.below hb1)
 have hbl:=HBW.out.trans (hb1.mono HBW.out.size)
 clear hb1 A B HA HB HBW
 cases hx:(knTwo a b==0)
 ·have H:=jD (show knWithinB a b=false by unfold knWithinB;rw [if_neg (by simpa using hx)])
  have h':(knTwo a b != 0)=true:=by simp[bne,hx]
  clear hx
  go_wp2
  go_ret2
  exact⟨ret_be H.out.symm rfl,hbl⟩
 have h0:knTwo a b=0:=by simpa using hx
 have H0:=jD h0
 have H:=jD (show knWithinB a b=decide (formK (orK (knIn a) (knIn b))=b) by unfold knWithinB knWithin;rw [if_pos h0])
 have HE:=jD (show resE (knTwo a b) (orK (knIn a) (knIn b))=kE (formK (orK (knIn a) (knIn b))) by unfold resE;rw [if_pos h0])
 have H60:=jD (knChk_zero.1 (knTwo_zero.1 h0).2).2
 rw[h0]
 have a0:=cell_of_block (j:=0) A1.out rfl
 have a1:=cell_of_block (j:=1) A1.out rfl
 have b0:=cell_of_block (j:=0) B1.out rfl
 have b1:=cell_of_block (j:=1) B1.out rfl
 clear hx h0
 go_wp2_with fail
 (with_reducible refine(kjoin_c _ _ _ _ a b _ HA1.out HB1.out).mono ?_)
 rintro e w2 ⟨x,y,rfl,hr,hb2⟩
 rw[HE.out] at hr ⊢
 have hB:=below_keep hb2 B1.out
 have HB2:=jD (HB1.out.below hb2)
 replace hbl:=bstep hbl hb2
 clear hb2 a0 a1 b0 b1
 by_cases hl:60 < (formK (orK (knIn a) (knIn b))).more.length
 ·have hk:kE (formK (orK (knIn a) (knIn b)))=2:=by unfold kE;rw [if_pos hl]
  rw[hk] at hr ⊢
  obtain⟨h, -⟩ | ⟨-,rfl,rfl⟩:=hr
  ·exact absurd h (by decide)
  have HF:=jD (show decide (formK (orK (knIn a) (knIn b))=b)=false by
   rw[decide_eq_false_iff_not];intro e;rw [e] at hl;have:=H60.out;omega)
  clear hl hk hB
  go_wp2
  go_ret2
  exact⟨ret_be (by rw[H.out,HF.out]) H0.out.symm,hbl.alloc hbl.size _⟩
 have hk:kE (formK (orK (knIn a) (knIn b)))=0:=by unfold kE;rw [if_neg hl]
 rw[hk] at hr ⊢
 obtain⟨-,ho⟩ | ⟨h, -, -⟩:=hr
 rotate_left
 ·exact absurd rfl h
 have hat:=formK_at ho
 generalize hKK:formK (orK (knIn a) (knIn b))=K at*
 obtain⟨xk,ck,rfl⟩:=hat.vec.shape
 obtain⟨yk,dk,rfl⟩:=hat.more.shape
 have HK:=jD (hat.below (bal (.cells #[.slice xk K.vec.length ck, .slice yk K.more.length dk] 73)))
 have HB3:=jD (HB2.out.below (bal (.cells #[.slice xk K.vec.length ck, .slice yk K.more.length dk] 73)))
 have kb:=alloc_new w2 #[.slice xk K.vec.length ck, .slice yk K.more.length dk] 73 _ rfl
 have KB:=jD kb
 have BB:=jD (alloc_keep (.cells #[.slice xk K.vec.length ck, .slice yk K.more.length dk] 73) hB)
 have b0:=cell_of_block (j:=0) BB.out rfl
 have HBL3:=jD (hbl.alloc hbl.size (.cells #[.slice xk K.vec.length ck, .slice yk K.more.length dk] 73))
 have HQ:=jD (kn_eq K b)
 clear hKK hat ho hl hk hB kb hbl
 go_wp2_with fail
 (with_reducible refine(eqInts_c _ _ _ _ _ HK.out.vec HB3.out.vec).mono ?_)
 rintro e w3 ⟨rfl,hb3⟩
 have hK3:=below_keep hb3 KB.out
 have hB3:=below_keep hb3 BB.out
 have a1:=cell_of_block (j:=1) hK3 rfl
 have b1:=cell_of_block (j:=1) hB3 rfl
 have HK4:=jD (HK.out.below hb3)
 have HB4:=jD (HB3.out.below hb3)
 have hbl:=bstep HBL3.out hb3
 clear hb3 hK3 hB3 b0
 cases hx:(K.vec==b.vec)
 ·rw[hx] at HQ
  have H2:=jD (show knWithinB a b=false by rw[H.out,HQ.out];rfl)
  clear hx
  go_wp2
  go_ret2
  exact⟨ret_be H2.out.symm H0.out.symm,hbl⟩
 rw[hx] at HQ
 have H2:=jD (show knWithinB a b=(K.more==b.more) by rw[H.out,HQ.out];rfl)
 clear hx
 go_wp2_with fail
 (with_reducible refine(eqDots_c _ _ _ _ _ HK4.out.more HB4.out.more).mono ?_)
 rintro e w4 ⟨rfl,hb4⟩
 replace hbl:=bstep hbl hb4
 clear hb4 a1 b1
 go_wp2
 go_ret2
 exact⟨ret_be H2.out.symm H0.out.symm,hbl⟩
end Go.Proofs.YtgkgdedhicnohaaGreat
