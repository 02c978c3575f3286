/- Towards what desk.Run answers. -/
import Derived.Shelf.SlSortCmp.WholeK
import Derived.Ground.SlsfProg
import Derived.Test.YtajgndoiddmbmaaGreatDoorProg
import Derived.Test.YtajgndoiddmbmaaGreatDoorMKnow1
import Derived.Shelf.SlSortCmp.NoneTotal
namespace Go.Proofs.YtajgndoiddmbmaaGreatDoor
set_option maxRecDepth 100000
set_option maxHeartbeats 40000000
open Go.Shelf
def JU:Go.Shelf.Ren:=⟨fun | 6=>192 | 15=>210 | 14=>209 | 28=>223 | 29=>151 | 20=>215 | 21=>216 | 22=>217 | 23=>218 | 24=>219 | 25=>220 | 26=>221 | 27=>222 | 46=>230 | 47=>231 | 48=>232 | 49=>233 | 50=>234 | 57=>237 | n=>n,fun | 22=>116 | 24=>103 | 25=>257 | 3=>3 | 39=>167 | 0=>0 | 53=>131 | 55=>64 | 4=>4 | 46=>279 | 45=>278 | 50=>230 | 5=>5 | 9=>9 | 66=>289 | 70=>293 | 76=>297 | 77=>298 | n=>n,fun | n=>n⟩
theorem JV:Go.Proofs.SlLaysF0.n6 Tryz.prog JU:= {
 mixed:=by kernel_rfl
 f6:=⟨Tryz.f192.name,by decide,Tryz.func192.trans (congrArg some (by kernel_rfl))⟩
 f14:=⟨Tryz.f209.name,by decide,Tryz.func209.trans (congrArg some (by kernel_rfl))⟩
 f15:=Tryz.func210.trans (congrArg some (by kernel_rfl))
 f20:=⟨Tryz.f215.name,by decide,Tryz.func215.trans (congrArg some (by kernel_rfl))⟩
 f21:=⟨Tryz.f216.name,by decide,Tryz.func216.trans (congrArg some (by kernel_rfl))⟩
 f22:=⟨Tryz.f217.name,by decide,Tryz.func217.trans (congrArg some (by kernel_rfl))⟩
 f23:=⟨Tryz.f218.name,by decide,Tryz.func218.trans (congrArg some (by kernel_rfl))⟩
 f24:=⟨Tryz.f219.name,by decide,Tryz.func219.trans (congrArg some (by kernel_rfl))⟩
 f25:=⟨Tryz.f220.name,by decide,Tryz.func220.trans (congrArg some (by kernel_rfl))⟩
 f26:=⟨Tryz.f221.name,by decide,Tryz.func221.trans (congrArg some (by kernel_rfl))⟩
 f27:=⟨Tryz.f222.name,by decide,Tryz.func222.trans (congrArg some (by kernel_rfl))⟩
 f28:=Tryz.func223.trans (congrArg some (by kernel_rfl))
 f29:=Tryz.func151.trans (congrArg some (by kernel_rfl))
 f46:=⟨Tryz.f230.name,by decide,Tryz.func230.trans (congrArg some (by kernel_rfl))⟩
 f47:=Tryz.func231.trans (congrArg some (by kernel_rfl))
 f48:=Tryz.func232.trans (congrArg some (by kernel_rfl))
 f49:=⟨Tryz.f233.name,by decide,Tryz.func233.trans (congrArg some (by kernel_rfl))⟩
 f50:=⟨Tryz.f234.name,by decide,Tryz.func234.trans (congrArg some (by kernel_rfl))⟩
 f57:=⟨Tryz.f237.name,by decide,Tryz.func237.trans (congrArg some (by kernel_rfl))⟩
 t0:=Tryz.underlying0
 a0:=Tryz.isAgg0
 z0:=Tryz.sizeOf0
 v0:=Tryz.zeroValue0
 t3:=Tryz.underlying3
 a3:=Tryz.isAgg3
 z3:=Tryz.sizeOf3
 v3:=Tryz.zeroValue3
 t4:=Tryz.underlying4
 a4:=Tryz.isAgg4
 z4:=Tryz.sizeOf4
 v4:=Tryz.zeroValue4
 t5:=Tryz.underlying5
 a5:=Tryz.isAgg5
 z5:=Tryz.sizeOf5
 v5:=Tryz.zeroValue5
 t9:=Tryz.underlying9
 a9:=Tryz.isAgg9
 z9:=Tryz.sizeOf9
 v9:=Tryz.zeroValue9
 t22:=Tryz.underlying116
 a22:=Tryz.isAgg116
 z22:=Tryz.sizeOf116
 v22:=Tryz.zeroValue116
 t25:=Tryz.underlying257
 a25:=Tryz.isAgg257
 z25:=Tryz.sizeOf257
 v25:=Tryz.zeroValue257
 t39:=Tryz.underlying167
 a39:=Tryz.isAgg167
 z39:=Tryz.sizeOf167
 v39:=Tryz.zeroValue167
 t45:=Tryz.underlying278
 a45:=Tryz.isAgg278
 z45:=Tryz.sizeOf278
 v45:=Tryz.zeroValue278
 t46:=Tryz.underlying279
 a46:=Tryz.isAgg279
 z46:=Tryz.sizeOf279
 v46:=Tryz.zeroValue279
 t50:=Tryz.underlying230
 a50:=Tryz.isAgg230
 z50:=Tryz.sizeOf230
 v50:=Tryz.zeroValue230
 t53:=Tryz.underlying131
 a53:=Tryz.isAgg131
 z53:=Tryz.sizeOf131
 v53:=Tryz.zeroValue131
 t55:=Tryz.underlying64
 a55:=Tryz.isAgg64
 z55:=Tryz.sizeOf64
 v55:=Tryz.zeroValue64
 t66:=Tryz.underlying289
 a66:=Tryz.isAgg289
 z66:=Tryz.sizeOf289
 v66:=Tryz.zeroValue289
 t70:=Tryz.underlying293
 a70:=Tryz.isAgg293
 z70:=Tryz.sizeOf293
 v70:=Tryz.zeroValue293
 t76:=Tryz.underlying297
 a76:=Tryz.isAgg297
 z76:=Tryz.sizeOf297
 v76:=Tryz.zeroValue297
 t77:=Tryz.underlying298
 a77:=Tryz.isAgg298
 z77:=Tryz.sizeOf298
 v77:=Tryz.zeroValue298 }
end Go.Proofs.YtajgndoiddmbmaaGreatDoor
namespace Go.Proofs.YtajgndoiddmbmaaGreatDoor
set_option maxRecDepth 100000
set_option maxHeartbeats 40000000
open Go.RowKit Go.Sort Go.Shelf Go.Lib
abbrev xY:= { d:Int×Int // bX d=true }
instance:Inhabited xY:=⟨⟨(0,1),by decide⟩⟩
def sV (x:xY):List Value:=[.int .i64 x.1.1, .int .i64 x.1.2]
def Mp (x y:xY):Int:=iJ x.1 y.1
theorem ltD (x y:xY):ltOf Mp x y=true↔gJ x.1 y.1:=by unfold ltOf Mp;rw [decide_eq_true_eq,AR]
theorem NL (x y:xY):ltOf Mp x y=false↔ ¬gJ x.1 y.1:=by rw[←ltD];simp
theorem aeK:SWO (ltOf Mp) where
 irrefl x:=by rw[NL];exact nY _
 trans x y z h1 h2:=by rw[ltD] at*;exact sx h1 h2
 ntrans x y z h1 h2:=by rw[NL] at*;unfold gJ at*;omega
theorem Uv (blk off size:Nat) (w:World):CmpLays Tryz.prog 193 #[] sV 2 Mp blk off size w:=by
 intro m os dk _ x y;have hx:=kC (l:=[x.1]) (fun d hd=>by simp only[List.mem_singleton] at hd;rw [hd];exact x.2) x.1 (by simp);have hy:=kC (l:=[y.1]) (fun d hd=>by simp only[List.mem_singleton] at hd;rw [hd];exact y.2) y.1 (by simp);refine(Dz x.1 y.1 _ hx.1.1 hx.1.2 hx.2.1 hx.2.2 hy.1.1 hy.1.2 hy.2.1 hy.2.2).mono ?_;rintro e w' ⟨rfl,o1,o2,rfl⟩;exact⟨rfl,0,_,by rw[alloc_eq_grow,alloc_eq_grow,grow_grow];rfl⟩
theorem VH (d:Array xY):flatK sV 2 d=(az (d.toList.map (·.1))).toArray:=by
 refine ext_get! (by rw[size_flatK];simp [cC]) fun t ht=> ?_;rw[size_flatK] at ht;rw[get_flatK _ _ _ _ ht];have h2:t / 2 < d.size:=by omega
 have h3:t / 2 < (d.toList.map (·.1)).length:=by simpa using h2
 obtain⟨g1,g2⟩:=kN (d.toList.map (·.1)) (t / 2) h3;have e1:(d.toList.map (·.1))[t / 2]=d[t / 2]!.1:=by simp[getElem!_pos d (t / 2) h2]
 rw[e1] at g1 g2;rcases Nat.mod_two_eq_zero_or_one t with h | h
 ·have e2:t / 2*2=t:=by omega
  rw[e2] at g1;rw[h];have hl:=(List.getElem?_eq_some_iff.1 g1).1;rw[getElem!_pos _ t (by simpa using hl)];have:=(List.getElem?_eq_some_iff.1 g1).2;simp only[List.getElem_toArray];rw[this];rfl
 ·have e2:t / 2*2+1=t:=by omega
  rw[e2] at g2;rw[h];have hl:=(List.getElem?_eq_some_iff.1 g2).1;rw[getElem!_pos _ t (by simpa using hl)];have:=(List.getElem?_eq_some_iff.1 g2).2;simp only[List.getElem_toArray];rw[this];rfl
theorem Lh (w:World) (blk:Nat) (F:Array Value) (c:Array Value) (e:TypeId) (fr:Nat×Nat) (h:w.heap[blk]? =some (Obj.cells c e fr)):(putRow id w blk 0 F).heap[blk]? =some (Obj.cells (putCells id 0 F c) e fr):=by
 unfold putRow mapBlock;simp only[Array.getElem?_modify,if_true,h];rfl
theorem IZ (w:World) (blk k:Nat) (F:Array Value) (h:k≠blk):(putRow id w blk 0 F).heap[k]? =w.heap[k]? :=by
 unfold putRow mapBlock;simp only[Array.getElem?_modify];rw [if_neg (fun e=>h e.symm)]
theorem Hp (F c:Array Value) (h:F.size≤c.size):(putCells id 0 F c).size=c.size∧(putCells id 0 F c).toList.take F.size=F.toList:=by
 refine⟨by simp[putCells], ?_⟩;apply List.ext_getElem
 ·simp[putCells];omega
 ·intro i h1 h2;have hi:i < F.size:=by simpa using h2
  simp[putCells,hi]
theorem XD (v:Value) (ds:dN) (base:Nat) (w:World) (h:w.ownsRow base 103 2 v ds.length (az ds)) (hds: ∀d∈ds,bX d=true) (hlen:ds.length≤1000000):
  Calls Tryz.prog 192 #[v, .func (.func 193) #[] #[]] w fun e w'=>e= .returned (.tuple #[])∧ ∃es:dN,es.length=ds.length∧(∀d,d∈es↔d∈ds)∧es.Pairwise (fun x y=> ¬gJ y x)∧w'.ownsRow base 103 2 v ds.length (az es)∧w.grownBy w' v.ownBlock:=by
 have h0:=h;rcases h.2 with⟨rfl,hz⟩ | ⟨blk,cap,cur,rfl,hb,hg,hn,hc,hs,ht⟩
 ·have hd:ds=[]:=List.eq_nil_of_length_eq_zero hz;subst hd;have hcon:=AnyF.slices_SortFunc_none JV none 0 (.func (.func 193) #[] #[]) w;change Calls Tryz.prog 192 _ _ _ at hcon;refine hcon.mono ?_;rintro e w' ⟨rfl,rfl⟩;exact⟨rfl,[],rfl,fun _=>Iff.rfl,List.Pairwise.nil,h0,⟨rfl,rfl,rfl,Nat.le_refl _,fun _ _ _=>rfl⟩⟩
 ·have hblk:blk < w.heap.size:=(Array.getElem?_eq_some_iff.1 hg).1;let d:Array xY:=(ds.attachWith (fun d=>bX d=true) hds).toArray;have hdl:d.toList.map (·.1)=ds:=by simp only[d];exact List.attachWith_map_subtype_val ..
  have Vv:d.size=ds.length:=by simp[d]
  have hF:flatK sV 2 d=(az ds).toArray:=by rw[VH,hdl]
  have hH:HoldsK sV 2 w blk 0 d:=by
   intro j hj;rw[hF] at hj ⊢;have hj':j < (az ds).length:=by simpa using hj
   refine⟨?_, ?_⟩
   ·rw[Nat.zero_add,h0.cellAt j (by rw[cC] at hj';exact hj'),getElem!_pos _ j hj];simp[List.getElem?_eq_getElem hj']
   ·rw[Nat.zero_add];exact h0.frozenAt j
  have eg: ∀args w,(callFunc 193 args).run Tryz.prog w= .ok (.enter 193 args) w:=enters_of Tryz.func193 (by kernel_rfl) rfl;have hcon:=AnyQ.slices_SortFunc JV 2 Tryz.isAgg103 Tryz.sizeOf103 sV (fun _=>rfl) (fun x v hv=>by simp[sV] at hv;rcases hv with rfl | rfl <;> rfl) Mp aeK 193 #[] blk 0 cap d w eg (Uv blk 0 d.size w) hH hblk (by omega);change Calls Tryz.prog 192 _ _ _ at hcon;rw[Vv] at hcon;refine hcon.mono ?_;rintro e w' ⟨rfl,d',n,os,hp,hso,rfl⟩;obtain⟨p1, -,p2⟩:=hp;have p3:d'.toList.Perm d.toList:=by
   have e1:d'.extract 0 ds.length=d':=by rw[←Vv,←p1];simp
   have e2:d.extract 0 ds.length=d:=by rw[←Vv];simp
   rwa[e1,e2] at p2
  have p4:(d'.toList.map (·.1)).Perm ds:=by have:=p3.map (·.1);rwa [hdl] at this
  have hw:(sortWorldK sV 2 w blk 0 n d' os).heap[blk]? =some (Obj.cells (putCells id 0 (flatK sV 2 d') cur) 103 (0,0)):=by
   unfold sortWorldK grow putRowK;have e:=Lh (Sort.ahead w n) blk (flatK sV 2 d') cur _ _ hg;have hl:=(Array.getElem?_eq_some_iff.1 e).1;simp only[Array.getElem?_append,hl,if_true];exact e
  have hFs:(flatK sV 2 d').size=ds.length*2:=by rw[size_flatK,p1,Vv]
  obtain⟨q1,q2⟩:=Hp (flatK sV 2 d') cur (by rw[hFs,hs];exact Nat.mul_le_mul_right _ hn);refine⟨rfl,d'.toList.map (·.1),p4.length_eq,fun x=>p4.mem_iff, ?_,⟨by rw[cC,p4.length_eq], .inr ⟨blk,cap,_,rfl,hb,hw,hn,hc,by rw[q1];exact hs, ?_⟩⟩, ?_⟩
  ·rw[List.pairwise_iff_getElem];intro i j hi hj hij;simp only[List.length_map,Array.length_toList] at hi hj;have:=hso i j (Nat.zero_le _) hij (by omega);rw[NL,getElem!_pos d' j hj,getElem!_pos d' i hi] at this;simpa using this
  ·rw[hFs] at q2;rw[q2,VH]
  ·refine⟨rfl,rfl,rfl, ?_,fun k hk hne=> ?_⟩
   ·unfold sortWorldK grow putRowK putRow mapBlock Sort.ahead;simp
   ·have ae5:k≠blk:=fun e=>hne (by rw[e];rfl);unfold sortWorldK grow putRowK;have hk2:k < (putRow id (Sort.ahead w n) blk 0 (flatK sV 2 d')).heap.size:=by unfold putRow mapBlock Sort.ahead;simpa using hk
    simp only[Array.getElem?_append,hk2,if_true];exact IZ _ _ _ _ ae5
end Go.Proofs.YtajgndoiddmbmaaGreatDoor
