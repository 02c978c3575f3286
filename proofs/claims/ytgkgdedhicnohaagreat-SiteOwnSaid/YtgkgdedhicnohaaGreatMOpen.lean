/- What an argument that came in holds: a reading of cells, taken apart type by type. No program in sight. Boxes that came in. Slices of integers, slices of such slices, and dots that came in. -/
import Derived.Deep.Slices
import Derived.Deep.Fields
import Derived.ChangeSame
import Derived.SizedLaws
import Derived.ProofKit
import Derived.Test.YtgkgdedhicnohaaGreatChecked
import Derived.Test.YtgkgdedhicnohaaGreatMFilterP
import Derived.Test.YtgkgdedhicnohaaGreatMKnow5
namespace Go.Proofs.YtgkgdedhicnohaaGreat
set_option maxRecDepth 100000
set_option maxHeartbeats 40000000
open Go.RowKit Go.ChangeShapes Go.WideShapes Go.Deep
variable {H:Type} {enc:TypeId×Value→H} {P:Program} {W:World}
def Rdo (H:Type) (enc:TypeId×Value→H) (P:Program) (W:World) (t:TypeId) (cs:List Value):Prop:=
 ∃fuel d p,DataW.trod (H:=H) enc P W 0 (fun _=>true) true fuel t cs=some (d,p)∧(∀x∈p,x.block < W.heap.size)∧ ∀n∈d.weights P t,n≤reachBytes
theorem weightsAll_mem {e:TypeId} : ∀ {l:List (DataW H)} {d:DataW H},d∈l→ ∀n∈d.weights P e,n∈DataW.weightsAll P e l
 | x::l,d,h,n,hn=>by
  simp only[DataW.weightsAll,List.mem_append]
  rcases List.mem_cons.1 h with rfl | h
  ·exact .inl hn
  ·exact .inr (weightsAll_mem h n hn)
theorem Rdo.int {t:TypeId} {k:IntKind} {cs:List Value} (ht:P.underlying t=some (.int k)) (h:Rdo H enc P W t cs): ∃n,cs=[.int k n]∧(Lit.int k n).wf=true:=by
 obtain⟨fuel,d,p,h, -⟩:=h
 obtain⟨n,h1, -,h2⟩:=DataW.trod_int ht h
 exact⟨n,h1,h2⟩
theorem Rdo.field {t:TypeId} {fs:Array Field} {cs:List Value} (ht:P.underlying t=some (.struct fs)) (h:Rdo H enc P W t cs):
  cs.length=P.cellsOf t∧ ∀(j:Nat) (f:Field),fs[j]? =some f→Rdo H enc P W f.type ((cs.drop f.offset).take (P.cellsOf f.type)):=by
 obtain⟨fuel,d,p,h,hp,hw⟩:=h
 obtain⟨xs,n, -,hx,hl,hlen,hf⟩:=DataW.trod_struct ht h
 simp only[Prod.mk.injEq] at hx
 obtain⟨rfl,rfl⟩:=hx
 refine⟨hl,fun j f hj=> ?_⟩
 have h1:=hf j f hj
 have hjl:j < xs.length:=by rw[hlen];exact (Array.getElem?_eq_some_iff.1 hj).1
 rw[List.getElem?_eq_getElem hjl] at h1
 refine⟨n,_,_,h1,fun x hx=>hp x (List.mem_flatMap.2 ⟨_,List.getElem_mem hjl,hx⟩),fun m hm=>hw m ?_⟩
 simp only[DataW.weights,ht]
 refine DataW.weights_mem_each (j:=j) ?_ ?_ m hm
 ·simp[hj]
 ·simp[List.getElem?_eq_getElem hjl]
theorem Rdo.slice {t e:TypeId} {C:Nat} {cs:List Value} (ht:P.underlying t=some (.slice e)) (hC:P.cellsOf e=C) (hB:1≤P.bytesOf e) (hC0:0 < C) (h:Rdo H enc P W t cs):
  ∃(v:Value) (css:List (List Value)),cs=[v]∧CellsAt W v css.length css.flatten∧css.length*P.bytesOf e≤reachBytes∧ ∀c∈css,c.length=C∧Rdo H enc P W e c:=by
 subst hC
 obtain⟨fuel,d,p,h,hp,hw⟩:=h
 rcases open_slice ht h with⟨rfl,h0⟩ | ⟨a,len,cap,m,n,D,Pl,rfl, -,hl,hm,hmm,hx,hi⟩
 ·exact⟨_,[],rfl,CellsAt.nil _,by simp,fun c hc=>by simp at hc⟩
 simp only[if_true] at hmm
 obtain rfl:cap=m:=hmm.symm
 simp only[Prod.mk.injEq] at hx
 obtain⟨rfl,rfl⟩:=hx
 have hb:cap*P.bytesOf e≤reachBytes:=by
  refine hw _ ?_
  simp only[DataW.weights,ht,List.length_map,List.length_range]
  rw[show len+(cap - len)=cap from by omega]
  simp
 have hcap:cap≤reachBytes:=Nat.le_trans (by have:=Nat.mul_le_mul_left cap hB;omega) hb
 have hr:reachBytes=140737488351232:=rfl
 have hch: ∃f:Nat→List Value,∀i,i < cap→W.cells? 0 (a.add (i*P.cellsOf e)) (P.cellsOf e)=some (f i)∧DataW.trod enc P W 0 (fun _=>true) true n e (f i)=some (D i,Pl i):=by
  refine⟨fun i=>if h:i < cap then(hi i h).choose else [],fun i h=> ?_⟩
  simp only[dif_pos h]
  exact(hi i h).choose_spec
 obtain⟨f,hf⟩:=hch
 refine⟨_,(List.range len).map f,rfl, ?_,by simp only[List.length_map,List.length_range];exact Nat.le_trans (Nat.mul_le_mul_right _ hl) hb, ?_⟩
 ·rw[List.length_map,List.length_range]
  refine⟨some a,cap,rfl,hl,by omega,fun h=>by simp at h, ?_⟩
  by_cases h0:len=0
  ·subst h0;left;simp
  right
  have hlenf: ∀i,i < cap→(f i).length=P.cellsOf e:=fun i h=>(World.cells?_some (hf i h).1).2.1
  have hcell: ∀i j,i < cap→j < P.cellsOf e→W.cell? ((a.add (i*P.cellsOf e)).add j)=(f i)[j]? :=fun i j h hj=>(World.cells?_some (hf i h).1).2.2 j hj
  obtain⟨b,off,spot⟩:=a
  have h00:=hcell 0 0 (by omega) hC0
  have hs0:(f 0)[0]? =some ((f 0)[0]'(by rw[hlenf 0 (by omega)];exact hC0)):=List.getElem?_eq_getElem _
  rw[hs0] at h00
  have hspot:spot=none:=by simpa[Addr.add] using World.cell?_spot h00
  subst hspot
  refine⟨b,off,rfl,by simpa[Addr.add] using World.block_lt_of_cell? W _ h00,fun j x hj=> ?_⟩
  have key: ∀(k:Nat),k≤cap→ ∀j x,(((List.range k).map f).flatten)[j]? =some x→ ∃i q,i < k∧q < P.cellsOf e∧j=i*P.cellsOf e+q∧(f i)[q]? =some x:=by
   intro k
   induction k with
   | zero=>intro _ j x h;simp at h
   | succ k ih=>
    intro hk j x h
    have hlen:(((List.range k).map f).flatten).length=k*P.cellsOf e:=by
     clear ih h
     induction k with
     | zero=>simp
     | succ k ihk=>rw [List.range_succ,List.map_append,List.flatten_append,List.length_append,ihk (by omega)];simp [hlenf k (by omega),Nat.succ_mul]
    rw[List.range_succ,List.map_append,List.flatten_append] at h
    by_cases hj:j < k*P.cellsOf e
    ·rw[List.getElem?_append_left (by rw[hlen];exact hj)] at h
     obtain⟨i,q,h1,h2,h3,h4⟩:=ih (by omega) j x h
     exact⟨i,q,by omega,h2,h3,h4⟩
    ·rw[List.getElem?_append_right (by rw[hlen];omega),hlen] at h
     simp only[List.map_cons,List.map_nil,List.flatten_cons,List.flatten_nil,List.append_nil] at h
     have hq:j - k*P.cellsOf e < P.cellsOf e:=by
      have:=(List.getElem?_eq_some_iff.1 h).1
      rw[hlenf k (by omega)] at this;exact this
     exact⟨k,j - k*P.cellsOf e,by omega,hq,by omega,h⟩
  obtain⟨i,q,h1,h2,rfl,h4⟩:=key len hl j x hj
  have:=hcell i q (by omega) h2
  rw[h4] at this
  rw[←this]
  simp only[Addr.add_lit,Nat.add_assoc]
 ·intro c hc
  obtain⟨i,hir,rfl⟩:=List.mem_map.1 hc
  have hil:=List.mem_range.1 hir
  refine⟨(World.cells?_some (hf i (by omega)).1).2.1,n,D i,Pl i,(hf i (by omega)).2,fun x hx=>hp x ?_,fun m hm=>hw m ?_⟩
  ·exact List.mem_append_right _ (List.mem_flatMap.2 ⟨i,List.mem_range.2 (by omega),hx⟩)
  ·simp only[DataW.weights,ht]
   refine List.mem_cons_of_mem _ (List.mem_append_left _ ?_)
   exact weightsAll_mem (List.mem_map.2 ⟨i,hir,rfl⟩) m hm
theorem Rdo.of_arg {j:Nat} {t:TypeId} {ts:List TypeId} {ds:List (DataW H)} {v:Value} {d:DataW H} {p:List MemPlace} (hsz:(DataW.weightsEach P ts ds).all (· ≤reachBytes)=true) (ht:ts[j]? =some t) (hd:ds[j]? =some d)
  (h:DataW.Trod enc P W 0 (fun _=>true) true t v d p) (hlt: ∀x∈p,x.block < W.heap.size):Rdo H enc P W t v.cells.toList:=by
 obtain⟨fuel,hf⟩:=h
 refine⟨fuel,d,p,hf,hlt,fun n hn=> ?_⟩
 have:=List.all_eq_true.1 hsz n (DataW.weights_mem_each ht hd n hn)
 simpa using this
theorem okWide_slice_cells {t e:TypeId} {r:Reach} {base:Nat} {v:Value} (ht:P.underlying t=some (.slice e)) (hv:Value.okWide P W r base t v):v.cells.toList=[v]:=by
 obtain⟨a,len,cap,rfl⟩:=okWide_slice ht hv
 simp[Value.cells]
variable {H:Type} {enc:TypeId×Value→H} {W:World}
theorem Tryz.cellsI:Tryz.prog.cellsOf 3=1:=by kernel_rfl
theorem Tryz.cellsCube:Tryz.prog.cellsOf 122=2:=by kernel_rfl
theorem Tryz.cellsSpan:Tryz.prog.cellsOf 119=2:=by kernel_rfl
theorem Tryz.bytesSpan:Tryz.prog.bytesOf 119=16:=by kernel_rfl
theorem Tryz.cellsSpans:Tryz.prog.cellsOf 120=1:=by kernel_rfl
theorem Tryz.cellsBox:Tryz.prog.cellsOf 124=3:=by kernel_rfl
theorem Tryz.bytesBox:Tryz.prog.bytesOf 124=40:=by kernel_rfl
theorem Rdo.cube {cs:List Value} (h:Rdo H enc Tryz.prog W 122 cs): ∃y n:Int,cs=[.int .i64 y, .int .i64 n]:=by
 obtain⟨hl,hf⟩:=h.field Tryz.underlying122
 rw[Tryz.cellsCube] at hl
 match cs,hl with
 | [c0,c1],_=>
  obtain⟨n0,h0, -⟩:=(hf 0 _ rfl).int Tryz.underlying3
  obtain⟨n1,h1, -⟩:=(hf 1 _ rfl).int Tryz.underlying3
  simp[Tryz.cellsI] at h0 h1
  exact⟨n0,n1,by simp[h0,h1]⟩
theorem Rdo.span {cs:List Value} (h:Rdo H enc Tryz.prog W 119 cs): ∃s:Int×Int,cs=[.int .i64 s.1, .int .i64 s.2]:=by
 obtain⟨hl,hf⟩:=h.field Tryz.underlying119
 rw[Tryz.cellsSpan] at hl
 match cs,hl with
 | [c0,c1],_=>
  obtain⟨n0,h0, -⟩:=(hf 0 _ rfl).int Tryz.underlying3
  obtain⟨n1,h1, -⟩:=(hf 1 _ rfl).int Tryz.underlying3
  simp[Tryz.cellsI] at h0 h1
  exact⟨(n0,n1),by simp[h0,h1]⟩
theorem spans_cells: ∀(css:List (List Value)),(∀c∈css,∃s:Int×Int,c=[.int .i64 s.1, .int .i64 s.2])→ ∃l:Spans,l.length=css.length∧css.flatten=spansCells l
 | [],_=>⟨[],rfl,rfl⟩
 | c::css,h=>by
  obtain⟨l,h1,h2⟩:=spans_cells css fun c hc=>h c (List.mem_cons_of_mem _ hc)
  obtain⟨x,hx⟩:=h c List.mem_cons_self
  exact⟨x::l,by simp[h1],by simp[hx,h2,spansCells]⟩
theorem Rdo.spans {v:Value} (h:Rdo H enc Tryz.prog W 120 [v]): ∃l:Spans,SpansAt W v l:=by
 obtain⟨v',css,hv,hc,hb,hcs⟩:=h.slice Tryz.underlying120 Tryz.cellsSpan (by rw[Tryz.bytesSpan];decide) (by decide)
 simp only[List.cons.injEq,and_true] at hv
 subst hv
 obtain⟨l,h1,h2⟩:=spans_cells css fun c hc=>(hcs c hc).2.span
 exact⟨l,by unfold SpansAt;rw [h1,←h2];exact hc⟩
theorem Rdo.box {cs:List Value} (h:Rdo H enc Tryz.prog W 124 cs): ∃(b:Bx) (u:Value),cs=[.int .i64 b.y, .int .i64 b.n,u]∧SpansAt W u b.sp:=by
 obtain⟨hl,hf⟩:=h.field Tryz.underlying124
 rw[Tryz.cellsBox] at hl
 match cs,hl with
 | [c0,c1,c2],_=>
  obtain⟨y,n,h0⟩:=(hf 0 _ rfl).cube
  have h1:Rdo H enc Tryz.prog W 120 [c2]:=by have:=hf 1 _ rfl;simpa [Tryz.cellsSpans] using this
  simp[Tryz.cellsCube] at h0
  obtain⟨l,h2⟩:=h1.spans
  exact⟨⟨y,n,l⟩,c2,by simp[h0],h2⟩
theorem boxes_cells: ∀(css:List (List Value)),(∀c∈css,∃(b:Bx) (u:Value),c=[.int .i64 b.y, .int .i64 b.n,u]∧SpansAt W u b.sp)→ ∃(l:Bxs) (us:List Value),l.length=css.length∧us.length=l.length∧css.flatten=bxCells l us∧ ∀i (h:i < l.length) (h':i < us.length),SpansAt W us[i] l[i].sp
 | [],_=>⟨[],[],rfl,rfl,rfl,fun i h=>by simp at h⟩
 | c::css,h=>by
  obtain⟨l,us,h1,h2,h3,h4⟩:=boxes_cells css fun c hc=>h c (List.mem_cons_of_mem _ hc)
  obtain⟨b,u,hx,hu⟩:=h c List.mem_cons_self
  refine⟨b::l,u::us,by simp[h1],by simp[h2],by simp[hx,h3,bxCells],fun i hi hi'=> ?_⟩
  cases i with
  | zero=>exact hu
  | succ i=>exact h4 i (by simpa using hi) (by simpa using hi')
theorem Rdo.boxes {v:Value} (h:Rdo H enc Tryz.prog W 33 [v]): ∃l:Bxs,BxsAt W v l∧l.length*40≤reachBytes:=by
 obtain⟨v',css,hv,hc,hb,hcs⟩:=h.slice Tryz.underlying33 Tryz.cellsBox (by rw[Tryz.bytesBox];decide) (by decide)
 simp only[List.cons.injEq,and_true] at hv
 subst hv
 obtain⟨l,us,h1,h2,h3,h4⟩:=boxes_cells css fun c hc=>(hcs c hc).2.box
 rw[Tryz.bytesBox] at hb
 exact⟨l,⟨us,h2,by rw[h1,←h3];exact hc,h4⟩,by rw[h1];exact hb⟩
variable {H:Type} {enc:TypeId×Value→H} {W:World}
theorem Tryz.cellsInt:Tryz.prog.cellsOf 3=1:=by kernel_rfl
theorem Tryz.bytesInt:Tryz.prog.bytesOf 3=8:=by kernel_rfl
theorem Tryz.cellsInts:Tryz.prog.cellsOf 35=1:=by kernel_rfl
theorem Tryz.bytesInts:Tryz.prog.bytesOf 35=24:=by kernel_rfl
theorem ints_cells: ∀(css:List (List Value)),(∀c∈css,∃x:Int,c=[.int .i64 x])→ ∃l:List Int,l.length=css.length∧css.flatten=intsC l
 | [],_=>⟨[],rfl,rfl⟩
 | c::css,h=>by
  obtain⟨l,h1,h2⟩:=ints_cells css fun c hc=>h c (List.mem_cons_of_mem _ hc)
  obtain⟨x,hx⟩:=h c List.mem_cons_self
  exact⟨x::l,by simp[h1],by simp[hx,h2,intsC]⟩
theorem Rdo.ints {v:Value} (h:Rdo H enc Tryz.prog W 35 [v]): ∃l:List Int,IsAt W v l∧l.length*8≤reachBytes:=by
 obtain⟨v',css,hv,hc,hb,hcs⟩:=h.slice Tryz.underlying35 Tryz.cellsInt (by rw[Tryz.bytesInt];decide) (by decide)
 simp only[List.cons.injEq,and_true] at hv
 subst hv
 obtain⟨l,h1,h2⟩:=ints_cells css fun c hc=>by obtain⟨n,hn, -⟩:=(hcs c hc).2.int Tryz.underlying3;exact ⟨n,hn⟩
 rw[Tryz.bytesInt] at hb
 exact⟨l,by unfold IsAt;rw [h1,←h2];exact hc,by rw[h1];exact hb⟩
theorem vecs_cells: ∀(css:List (List Value)),(∀c∈css,∃u l,c=[u]∧IsAt W u l)→ ∃ls:List (List Int),ls.length=css.length∧Els vecE W ls css
 | [],_=>⟨[],rfl,trivial⟩
 | c::css,h=>by
  obtain⟨ls,h1,h2⟩:=vecs_cells css fun c hc=>h c (List.mem_cons_of_mem _ hc)
  obtain⟨u,l,rfl,hu⟩:=h c List.mem_cons_self
  exact⟨l::ls,by simp[h1],⟨u,rfl,hu⟩,h2⟩
theorem Rdo.vecs {v:Value} (h:Rdo H enc Tryz.prog W 23 [v]): ∃ls:List (List Int),RowAt vecE W v ls:=by
 obtain⟨v',css,hv,hc,hb,hcs⟩:=h.slice Tryz.underlying23 Tryz.cellsInts (by rw[Tryz.bytesInts];decide) (by decide)
 simp only[List.cons.injEq,and_true] at hv
 subst hv
 obtain⟨ls,h1,h2⟩:=vecs_cells (W:=W) css fun c hc=>by
  obtain⟨hl,hr⟩:=hcs c hc
  match c,hl with
  | [u],_=>obtain ⟨l,hu, -⟩:=hr.ints;exact ⟨u,l,rfl,hu⟩
 exact⟨ls,css,h2,by rw[h1];exact hc⟩
end Go.Proofs.YtgkgdedhicnohaaGreat
