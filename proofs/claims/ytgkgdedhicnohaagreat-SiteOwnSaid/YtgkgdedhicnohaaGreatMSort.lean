/- Contracts of the library, laid at this program's numbers (gen/lay.py, by the kit's own commands). What slices.SortFunc does to dots of the call's own. -/
import Derived.Shelf.SlSortCmp.WholeK
import Derived.Ground.SlsfProg
import Derived.Test.YtgkgdedhicnohaaGreatProg
import Derived.Test.YtgkgdedhicnohaaGreatMKnow1
import Derived.Shelf.SlSortCmp.NoneTotal
namespace Go.Proofs.YtgkgdedhicnohaaGreat
set_option maxRecDepth 100000
set_option maxHeartbeats 40000000
open Go.Shelf
def dsortLay_ren:Go.Shelf.Ren:=⟨fun | 6=>156 | 15=>177 | 14=>176 | 28=>191 | 29=>192 | 20=>183 | 21=>184 | 22=>185 | 23=>186 | 24=>187 | 25=>188 | 26=>189 | 27=>190 | 46=>197 | 47=>198 | 48=>199 | 49=>200 | 50=>201 | 57=>203 | n=>n,fun | 22=>71 | 24=>41 | 25=>230 | 3=>3 | 39=>211 | 0=>0 | 53=>150 | 55=>125 | 4=>4 | 46=>250 | 45=>249 | 50=>187 | 5=>5 | 9=>9 | 66=>259 | 70=>263 | 76=>266 | 77=>88 | n=>n,fun | n=>n⟩
theorem dsortLay:Go.Proofs.SlLaysF0.n6 Tryz.prog dsortLay_ren:= {
 mixed:=by kernel_rfl
 f6:=⟨Tryz.f156.name,by decide,Tryz.func156.trans (congrArg some (by kernel_rfl))⟩
 f14:=⟨Tryz.f176.name,by decide,Tryz.func176.trans (congrArg some (by kernel_rfl))⟩
 f15:=Tryz.func177.trans (congrArg some (by kernel_rfl))
 f20:=⟨Tryz.f183.name,by decide,Tryz.func183.trans (congrArg some (by kernel_rfl))⟩
 f21:=⟨Tryz.f184.name,by decide,Tryz.func184.trans (congrArg some (by kernel_rfl))⟩
 f22:=⟨Tryz.f185.name,by decide,Tryz.func185.trans (congrArg some (by kernel_rfl))⟩
 f23:=⟨Tryz.f186.name,by decide,Tryz.func186.trans (congrArg some (by kernel_rfl))⟩
 f24:=⟨Tryz.f187.name,by decide,Tryz.func187.trans (congrArg some (by kernel_rfl))⟩
 f25:=⟨Tryz.f188.name,by decide,Tryz.func188.trans (congrArg some (by kernel_rfl))⟩
 f26:=⟨Tryz.f189.name,by decide,Tryz.func189.trans (congrArg some (by kernel_rfl))⟩
 f27:=⟨Tryz.f190.name,by decide,Tryz.func190.trans (congrArg some (by kernel_rfl))⟩
 f28:=Tryz.func191.trans (congrArg some (by kernel_rfl))
 f29:=Tryz.func192.trans (congrArg some (by kernel_rfl))
 f46:=⟨Tryz.f197.name,by decide,Tryz.func197.trans (congrArg some (by kernel_rfl))⟩
 f47:=Tryz.func198.trans (congrArg some (by kernel_rfl))
 f48:=Tryz.func199.trans (congrArg some (by kernel_rfl))
 f49:=⟨Tryz.f200.name,by decide,Tryz.func200.trans (congrArg some (by kernel_rfl))⟩
 f50:=⟨Tryz.f201.name,by decide,Tryz.func201.trans (congrArg some (by kernel_rfl))⟩
 f57:=⟨Tryz.f203.name,by decide,Tryz.func203.trans (congrArg some (by kernel_rfl))⟩
 t0:=Tryz.underlying0
 a0:=Tryz.isAgg0
 z0:=Tryz.sizeOf0
 v0:=Tryz.zeroValue0
 t3:=Tryz.underlying3
 a3:=Tryz.isAgg3
 z3:=Tryz.sizeOf3
 v3:=Tryz.zeroValue3
 t4:=Tryz.underlying4
 a4:=Tryz.isAgg4
 z4:=Tryz.sizeOf4
 v4:=Tryz.zeroValue4
 t5:=Tryz.underlying5
 a5:=Tryz.isAgg5
 z5:=Tryz.sizeOf5
 v5:=Tryz.zeroValue5
 t9:=Tryz.underlying9
 a9:=Tryz.isAgg9
 z9:=Tryz.sizeOf9
 v9:=Tryz.zeroValue9
 t22:=Tryz.underlying71
 a22:=Tryz.isAgg71
 z22:=Tryz.sizeOf71
 v22:=Tryz.zeroValue71
 t25:=Tryz.underlying230
 a25:=Tryz.isAgg230
 z25:=Tryz.sizeOf230
 v25:=Tryz.zeroValue230
 t39:=Tryz.underlying211
 a39:=Tryz.isAgg211
 z39:=Tryz.sizeOf211
 v39:=Tryz.zeroValue211
 t45:=Tryz.underlying249
 a45:=Tryz.isAgg249
 z45:=Tryz.sizeOf249
 v45:=Tryz.zeroValue249
 t46:=Tryz.underlying250
 a46:=Tryz.isAgg250
 z46:=Tryz.sizeOf250
 v46:=Tryz.zeroValue250
 t50:=Tryz.underlying187
 a50:=Tryz.isAgg187
 z50:=Tryz.sizeOf187
 v50:=Tryz.zeroValue187
 t53:=Tryz.underlying150
 a53:=Tryz.isAgg150
 z53:=Tryz.sizeOf150
 v53:=Tryz.zeroValue150
 t55:=Tryz.underlying125
 a55:=Tryz.isAgg125
 z55:=Tryz.sizeOf125
 v55:=Tryz.zeroValue125
 t66:=Tryz.underlying259
 a66:=Tryz.isAgg259
 z66:=Tryz.sizeOf259
 v66:=Tryz.zeroValue259
 t70:=Tryz.underlying263
 a70:=Tryz.isAgg263
 z70:=Tryz.sizeOf263
 v70:=Tryz.zeroValue263
 t76:=Tryz.underlying266
 a76:=Tryz.isAgg266
 z76:=Tryz.sizeOf266
 v76:=Tryz.zeroValue266
 t77:=Tryz.underlying88
 a77:=Tryz.isAgg88
 z77:=Tryz.sizeOf88
 v77:=Tryz.zeroValue88 }
end Go.Proofs.YtgkgdedhicnohaaGreat
namespace Go.Proofs.YtgkgdedhicnohaaGreat
open Go.RowKit Go.Sort Go.Shelf Go.Lib
abbrev OkDot:= { d:Int×Int // dotOk d=true }
instance:Inhabited OkDot:=⟨⟨(0,1),by decide⟩⟩
def encD (x:OkDot):List Value:=[.int .i64 x.1.1, .int .i64 x.1.2]
def cfD (x y:OkDot):Int:=dcmp x.1 y.1
theorem ltD (x y:OkDot):ltOf cfD x y=true↔dlt x.1 y.1:=by unfold ltOf cfD;rw [decide_eq_true_eq,dcmp_lt]
theorem ltD_f (x y:OkDot):ltOf cfD x y=false↔ ¬dlt x.1 y.1:=by rw[←ltD];simp
theorem swoD:SWO (ltOf cfD) where
 irrefl x:=by rw[ltD_f];exact dlt_irrefl _
 trans x y z h1 h2:=by rw[ltD] at*;exact dlt_trans h1 h2
 ntrans x y z h1 h2:=by rw[ltD_f] at*;unfold dlt at*;omega
theorem cmpLaysD (blk off size:Nat) (w:World):CmpLays Tryz.prog 157 #[] encD 2 cfD blk off size w:=by
 intro m os dk _ x y
 have hx:=dotBd_of (l:=[x.1]) (fun d hd=>by simp only[List.mem_singleton] at hd;rw [hd];exact x.2) x.1 (by simp)
 have hy:=dotBd_of (l:=[y.1]) (fun d hd=>by simp only[List.mem_singleton] at hd;rw [hd];exact y.2) y.1 (by simp)
 refine(dcmp_c x.1 y.1 _ hx.1.1 hx.1.2 hx.2.1 hx.2.2 hy.1.1 hy.1.2 hy.2.1 hy.2.2).mono ?_
 rintro e w' ⟨rfl,o1,o2,rfl⟩
 exact⟨rfl,0,_,by rw[alloc_eq_grow,alloc_eq_grow,grow_grow];rfl⟩
theorem flatD (d:Array OkDot):flatK encD 2 d=(spansCells (d.toList.map (·.1))).toArray:=by
 refine ext_get! (by rw[size_flatK];simp [spansCells_length]) fun t ht=> ?_
 rw[size_flatK] at ht
 rw[get_flatK _ _ _ _ ht]
 have h2:t / 2 < d.size:=by omega
 have h3:t / 2 < (d.toList.map (·.1)).length:=by simpa using h2
 obtain⟨g1,g2⟩:=spansCells_get (d.toList.map (·.1)) (t / 2) h3
 have e1:(d.toList.map (·.1))[t / 2]=d[t / 2]!.1:=by simp[getElem!_pos d (t / 2) h2]
 rw[e1] at g1 g2
 rcases Nat.mod_two_eq_zero_or_one t with h | h
 ·have e2:t / 2*2=t:=by omega
  rw[e2] at g1
  rw[h]
  have hl:=(List.getElem?_eq_some_iff.1 g1).1
  rw[getElem!_pos _ t (by simpa using hl)]
  have:=(List.getElem?_eq_some_iff.1 g1).2
  simp only[List.getElem_toArray]
  rw[this];rfl
 ·have e2:t / 2*2+1=t:=by omega
  rw[e2] at g2
  rw[h]
  have hl:=(List.getElem?_eq_some_iff.1 g2).1
  rw[getElem!_pos _ t (by simpa using hl)]
  have:=(List.getElem?_eq_some_iff.1 g2).2
  simp only[List.getElem_toArray]
  rw[this];rfl
theorem putRow_heap (w:World) (blk:Nat) (F:Array Value) (c:Array Value) (e:TypeId) (fr:Nat×Nat) (h:w.heap[blk]? =some (Obj.cells c e fr)):(putRow id w blk 0 F).heap[blk]? =some (Obj.cells (putCells id 0 F c) e fr):=by
 unfold putRow mapBlock
 simp only[Array.getElem?_modify,if_true,h];rfl
theorem putRow_other (w:World) (blk k:Nat) (F:Array Value) (h:k≠blk):(putRow id w blk 0 F).heap[k]? =w.heap[k]? :=by
 unfold putRow mapBlock
 simp only[Array.getElem?_modify];rw [if_neg (fun e=>h e.symm)]
theorem putCells_take (F c:Array Value) (h:F.size≤c.size):(putCells id 0 F c).size=c.size∧(putCells id 0 F c).toList.take F.size=F.toList:=by
 refine⟨by simp[putCells], ?_⟩
 apply List.ext_getElem
 ·simp[putCells];omega
 ·intro i h1 h2
  have hi:i < F.size:=by simpa using h2
  simp[putCells,hi]
theorem dsort_c (v:Value) (ds:Dots) (base:Nat) (w:World) (h:w.ownsRow base 41 2 v ds.length (spansCells ds)) (hds: ∀d∈ds,dotOk d=true) (hlen:ds.length≤1000000):
  Calls Tryz.prog 156 #[v, .func (.func 157) #[] #[]] w fun e w'=>e= .returned (.tuple #[])∧ ∃es:Dots,es.length=ds.length∧(∀d,d∈es↔d∈ds)∧es.Pairwise (fun x y=> ¬dlt y x)∧w'.ownsRow base 41 2 v ds.length (spansCells es)∧w.grownBy w' v.ownBlock:=by
 have h0:=h
 rcases h.2 with⟨rfl,hz⟩ | ⟨blk,cap,cur,rfl,hb,hg,hn,hc,hs,ht⟩
 ·have hd:ds=[]:=List.eq_nil_of_length_eq_zero hz
  subst hd
  have hcon:=AnyF.slices_SortFunc_none dsortLay none 0 (.func (.func 157) #[] #[]) w
  change Calls Tryz.prog 156 _ _ _ at hcon
  refine hcon.mono ?_
  rintro e w' ⟨rfl,rfl⟩
  exact⟨rfl,[],rfl,fun _=>Iff.rfl,List.Pairwise.nil,h0,⟨rfl,rfl,rfl,Nat.le_refl _,fun _ _ _=>rfl⟩⟩
 ·have hblk:blk < w.heap.size:=(Array.getElem?_eq_some_iff.1 hg).1
  let d:Array OkDot:=(ds.attachWith (fun d=>dotOk d=true) hds).toArray
  have hdl:d.toList.map (·.1)=ds:=by simp only[d];exact List.attachWith_map_subtype_val ..
  have hdz:d.size=ds.length:=by simp[d]
  have hF:flatK encD 2 d=(spansCells ds).toArray:=by rw[flatD,hdl]
  have hH:HoldsK encD 2 w blk 0 d:=by
   intro j hj
   rw[hF] at hj ⊢
   have hj':j < (spansCells ds).length:=by simpa using hj
   refine⟨?_, ?_⟩
   ·rw[Nat.zero_add,h0.cellAt j (by rw[spansCells_length] at hj';exact hj'),getElem!_pos _ j hj]
    simp[List.getElem?_eq_getElem hj']
   ·rw[Nat.zero_add];exact h0.frozenAt j
  have eg: ∀args w,(callFunc 157 args).run Tryz.prog w= .ok (.enter 157 args) w:=enters_of Tryz.func157 (by kernel_rfl) rfl
  have hcon:=AnyQ.slices_SortFunc dsortLay 2 Tryz.isAgg41 Tryz.sizeOf41 encD (fun _=>rfl) (fun x v hv=>by simp[encD] at hv;rcases hv with rfl | rfl <;> rfl) cfD swoD 157 #[] blk 0 cap d w eg (cmpLaysD blk 0 d.size w) hH hblk (by omega)
  change Calls Tryz.prog 156 _ _ _ at hcon
  rw[hdz] at hcon
  refine hcon.mono ?_
  rintro e w' ⟨rfl,d',n,os,hp,hso,rfl⟩
  obtain⟨p1, -,p2⟩:=hp
  have p3:d'.toList.Perm d.toList:=by
   have e1:d'.extract 0 ds.length=d':=by rw[←hdz,←p1];simp
   have e2:d.extract 0 ds.length=d:=by rw[←hdz];simp
   rwa[e1,e2] at p2
  have p4:(d'.toList.map (·.1)).Perm ds:=by have:=p3.map (·.1);rwa [hdl] at this
  have hw:(sortWorldK encD 2 w blk 0 n d' os).heap[blk]? =some (Obj.cells (putCells id 0 (flatK encD 2 d') cur) 41 (0,0)):=by
   unfold sortWorldK grow putRowK
   have e:=putRow_heap (Sort.ahead w n) blk (flatK encD 2 d') cur _ _ hg
   have hl:=(Array.getElem?_eq_some_iff.1 e).1
   simp only[Array.getElem?_append,hl,if_true];exact e
  have hFs:(flatK encD 2 d').size=ds.length*2:=by rw[size_flatK,p1,hdz]
  obtain⟨q1,q2⟩:=putCells_take (flatK encD 2 d') cur (by rw[hFs,hs];exact Nat.mul_le_mul_right _ hn)
  refine⟨rfl,d'.toList.map (·.1),p4.length_eq,fun x=>p4.mem_iff, ?_,⟨by rw[spansCells_length,p4.length_eq], .inr ⟨blk,cap,_,rfl,hb,hw,hn,hc,by rw[q1];exact hs, ?_⟩⟩, ?_⟩
  ·rw[List.pairwise_iff_getElem]
   intro i j hi hj hij
   simp only[List.length_map,Array.length_toList] at hi hj
   have:=hso i j (Nat.zero_le _) hij (by omega)
   rw[ltD_f,getElem!_pos d' j hj,getElem!_pos d' i hi] at this
   simpa using this
  ·rw[hFs] at q2
   rw[q2,flatD]
  ·refine⟨rfl,rfl,rfl, ?_,fun k hk hne=> ?_⟩
   ·unfold sortWorldK grow putRowK putRow mapBlock Sort.ahead;simp
   ·have hne':k≠blk:=fun e=>hne (by rw[e];rfl)
    unfold sortWorldK grow putRowK
    have hk2:k < (putRow id (Sort.ahead w n) blk 0 (flatK encD 2 d')).heap.size:=by unfold putRow mapBlock Sort.ahead;simpa using hk
    simp only[Array.getElem?_append,hk2,if_true]
    exact putRow_other _ _ _ _ hne'
end Go.Proofs.YtgkgdedhicnohaaGreat
