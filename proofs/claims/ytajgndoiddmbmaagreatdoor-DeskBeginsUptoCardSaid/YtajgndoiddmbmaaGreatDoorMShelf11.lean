/- Towards what desk.Run answers. -/
import Derived.Test.YtajgndoiddmbmaaGreatDoorMShelf5
import Derived.Test.YtajgndoiddmbmaaGreatDoorMPartN
import Derived.Deep.RegionLaw
namespace Go.Proofs.YtajgndoiddmbmaaGreatDoor
set_option maxRecDepth 100000
set_option maxHeartbeats 40000000
open Go.RowKit
theorem VE.mono {w:World} {base base':Nat} (hb:base'≤base): ∀ {l:List aA} {cs:List (List Value)},VE w base l cs→VE w base' l cs
 | [],[],_=>trivial
 | _::_,_::_,⟨⟨a,n,d,b,m,e,h1,h2⟩,h3⟩=>⟨⟨a,n,d,b,m,e,h1,h2.mono hb⟩,VE.mono hb h3⟩
 | [],_::_,h3=>h3.elim
 | _::_,[],h3=>h3.elim
theorem bA.mono {w:World} {base base':Nat} {vv:Value} {l:List aA} (h:bA w base vv l) (hb:base'≤base):bA w base' vv l:=by
 obtain⟨css,h1,h2⟩:=h;exact⟨css,h1.mono hb,bV h2 hb⟩
theorem ij {l:List aA} (h: ∀v∈l,dz v): ∀v∈l,v.past.vec.length≤5∧v.past.more.length≤60:=fun v hv=>⟨(h v hv).past.len,(h v hv).len⟩
theorem IC {w:World} {g:Nat} {v:aA} {u x:Value} {t:TypeId} (h:w.heap[g]? =some (Obj.cells (aN v u x) t (0,0))):
  w.cell? ⟨g,0,none⟩=some (.string v.id)∧w.cell? ⟨g,1,none⟩=some (.int .i64 v.ds)∧w.cell? ⟨g,2,none⟩=some (.int .i64 v.dc)∧w.cell? ⟨g,3,none⟩=some (.int .i64 v.tg)∧w.cell? ⟨g,4,none⟩=some (.int .i64 v.nm)∧w.cell? ⟨g,5,none⟩=some (.int .i64 v.bd)∧w.cell? ⟨g,6,none⟩=some u∧w.cell? ⟨g,7,none⟩=some x:=
 ⟨aD h rfl,aD h rfl,aD h rfl,aD h rfl,aD h rfl,aD h rfl,aD h rfl,aD h rfl⟩
theorem yw.size:(Tryz.prog.info? 120).map (·.size)=some 8:=by kernel_rfl
theorem yw.info:(Tryz.prog.info? 120).map (fun i=>(i.zero,i.size,i.bytes))=some (some (.agg #[.string ByteArray.empty, .int .i64 0, .int .i64 0, .int .i64 0, .int .i64 0, .int .i64 0, .slice none 0 0, .slice none 0 0]),8,104):=by kernel_rfl
theorem Sk (B:Nat) (w0 w:World) (s:Value) (n:Nat) (xs:List Value) (vb:Nat) (c:List Value) (tb:TypeId) (hbl:Below B w0 w) (hB:B≤w.heap.size) (hown:w.ownsRow B 120 8 s n xs) (hn:n≤1000)
  (hvb:w.heap[vb]? =some (.cells c.toArray tb (0,0))) (uq:c.length=8) (h1c: ∀u∈c,u.oneCell'=true):
  Calls Tryz.prog 169 #[s, .int .i64 n, .slice (some ⟨vb,0,none⟩) 1 1] w fun e w'=> ∃s',e= .returned s'∧w'.ownsRow B 120 8 s' (n+1) (xs++c)∧Below B w0 w':=by
 have HV:=jD (fun j u (hj:c[j]? =some u)=>(show w.cell? ((⟨vb,0,none⟩:Addr).add j)=some u by rw[Addr.add_lit,Nat.zero_add];exact aD hvb (by simpa using hj)));have HO:=jD hown;have aP:=jD hbl;have dZ:=jD hB;have Wo:=jD (fun w' (hg:w.grownBy w' s.ownBlock)=>hbl.grown hg hB fun k hk=>(hown.lt k hk).1);obtain⟨a,cap,rfl⟩:=ay hown;clear hbl hB hown hvb;by_cases hcn:n=cap
 ·subst hcn;go_enter Tryz.func169,Tryz.ntmps169;go_wp2_with (at_builtin;refine wpList_append_own' rfl _ _ 112 rfl B 120 _ 8 104 Tryz.underlying112 yw.info rfl (by decide) _ n xs rfl HO.o ⟨vb,0,none⟩ 1 1 c rfl (by rw[uq]) HV.o h1c (by unfold maxLen;omega) (by omega) dZ.o ?_)
  intro s' w' h1 h2 h3;have h4:=Wo.o w' h2;clear h2 h3;go_wp2;go_ret;exact⟨_,rfl,h1,h4⟩
 ·have hcn2: ¬cap=n:=fun e=>hcn e.symm;go_enter Tryz.func169,Tryz.ntmps169;go_wp2_with (at_builtin;refine wpList_append_own' rfl _ _ 112 rfl B 120 _ 8 104 Tryz.underlying112 yw.info rfl (by decide) _ n xs rfl HO.o ⟨vb,0,none⟩ 1 1 c rfl (by rw[uq]) HV.o h1c (by unfold maxLen;omega) (by omega) dZ.o ?_)
  intro s' w' h1 h2 h3;have h4:=Wo.o w' h2;clear h2 h3;go_wp2;go_ret;exact⟨_,rfl,h1,h4⟩
theorem O5 (B:Nat) (w0 w:World) (g n cap i:Nat) (cur:List Value) (vb:Nat) (c:List Value) (tb:TypeId) (hbl:Below B w0 w) (hB:B≤w.heap.size) (hi:i < n) (hn:n≤1000) (hnc:n≤cap) (hroom:cap < n+1)
  (hg:w.heap[g]? =some (.cells cur.toArray 120 (0,0))) (hcl:cur.length=cap*8) (Gq: ∀u∈cur.take (n*8),u.oneCell'=true)
  (hvb:w.heap[vb]? =some (.cells c.toArray tb (0,0))) (uq:c.length=8) (h1c: ∀u∈c,u.oneCell'=true):
  Calls Tryz.prog 169 #[.slice (some ⟨g,0,none⟩) n cap, .int .i64 i, .slice (some ⟨vb,0,none⟩) 1 1] w fun e w'=> ∃s',e= .returned s'∧w'.ownsRow B 120 8 s' (n+1) (cur.take (i*8)++c++(cur.take (n*8)).drop (i*8))∧Below B w0 w':=by
 obtain⟨D,hD⟩: ∃D,D=(cur.take (n*8)).drop (i*8):=⟨_,rfl⟩
 have hDl:D.length=(n - i)*8:=by rw[hD,List.length_drop,List.length_take];omega
 have Dm: ∀u∈D,u.oneCell'=true:=fun u hu=>Gq u (by rw[hD] at hu;exact List.mem_of_mem_drop hu);obtain⟨X,hX⟩: ∃X,X=cur.take (i*8):=⟨_,rfl⟩
 have Qg:X.length=i*8:=by rw[hX,List.length_take];omega
 have hgl:=ai hg;have hvl:=ai hvb;have HXC:=jD (fun j u (hj:X[j]? =some u)=>(show w.cell? ((⟨g,0,none⟩:Addr).add j)=some u by
  rw[Addr.add_lit,Nat.zero_add];rw[hX,List.getElem?_take] at hj;split at hj
  ·exact aD hg (by simpa using hj)
  ·simp at hj))
 have HDC:=jD (fun (W:World) (hW:W.heap[g]? =w.heap[g]?) j u (hj:D[j]? =some u)=>(show W.cell? ((⟨g,i*8,none⟩:Addr).add j)=some u by
  rw[Addr.add_lit];rw[hD,List.getElem?_drop,List.getElem?_take] at hj;split at hj
  ·exact aD (hW.trans hg) (by simpa using hj)
  ·simp at hj))
 have HVC:=jD (fun (W:World) (hW:W.heap[vb]? =w.heap[vb]?) j u (hj:c[j]? =some u)=>(show W.cell? ((⟨vb,0,none⟩:Addr).add j)=some u by
  rw[Addr.add_lit,Nat.zero_add];exact aD (hW.trans hvb) (by simpa using hj)))
 have aP:=jD hbl;have dZ:=jD hB;have My:=jD Qg;have mX:=jD hDl;rw[←hX,←hD];clear hX hD hg hvb hbl hB hcl Gq Qg hDl;obtain⟨N,hN⟩: ∃N,N=w.heap.size:=⟨_,rfl⟩
 have hw1:IntKind.i64.wrap ((n:Int)+1)=(n:Int)+1:=by rw[IntKind.wrap_i64];omega
 have hw2:IntKind.i64.wrap ((n:Int)+1 - (i:Int))=(n:Int)+1 - (i:Int):=by rw[IntKind.wrap_i64];omega
 have hw3:IntKind.i64.wrap ((i:Int)+1)=(i:Int)+1:=by rw[IntKind.wrap_i64];omega
 have hne:decide ((i:Int)=(n:Int))=false:=by simp;omega
 have hgr:decide ((cap:Int) < (n:Int)+1)=true:=by simp;omega
 have hz2: ¬((i:Int)=(n:Int)):=by omega
 have hci: ¬(cap=i):=by omega
 go_enter Tryz.func169,Tryz.ntmps169;go_wp2_with (at_builtin;refine yE rfl _ _ 112 3 rfl 120 _ 8 104 Tryz.underlying112 Tryz.underlying3 yw.info rfl (by decide) ⟨g,0,none⟩ i (n+1 - i) cap ((n:Int)+1 - (i:Int)) rfl rfl (by omega) X My.o HXC.o (by omega) (by omega) (by omega) (by omega) ?_)
 intro w1 G Oq h1 ht1 Vq A9 wP hb1;have N5:=hb1;have afc:g < N:=by omega
 have aeV:vb < N:=by omega
 rw[←hN] at h1 hb1;rw[show i+(n+1 - i)=n+1 by omega,←hN];rw[show i+(n+1 - i)=n+1 by omega] at A9;have HN:=jD hN;clear hN N5;have hGi: ¬(G=i):=by omega
 have hGi1: ¬(G=i+1):=by omega
 go_wp2_with (refine yF rfl _ _ 112 112 rfl 120 8 Tryz.underlying112 yw.size (some ⟨N,i*8,none⟩) (some ⟨vb,0,none⟩) (n+1 - i) (G - i) 1 1 rfl rfl N (i*8) Oq _ h1.o 1 c (by simp only[Nat.min_def];split <;> omega) (by omega) (fun _=>⟨rfl,_,rfl,HVC.o _ (hb1.block vb aeV)⟩) (by omega) h1c ?_)
 intro w2 h2 hr2;have hgN:g≠N:=by omega
 have hgk:w2.heap[g]? =w.heap[g]? :=(hr2.other g hgN).trans (hb1.block g afc);have hsl:(splice Oq (i*8) c).length=G*8:=by rw[length_splice _ _ _ (by omega),Vq]
 have hb3:(i:Int)≤(n:Int):=by omega
 have htn:((i:Int)+1).toNat=i+1:=by omega
 have hb2:(0:Int)≤(i:Int)+1:=by omega
 go_wp2_with fail
 go_region_law (refine CI rfl _ _ 112 112 rfl 120 8 Tryz.underlying112 yw.size (some ⟨N,(i+1)*8,none⟩) (some ⟨g,i*8,none⟩) (n+1 - (i+1)) (G - (i+1)) (n - i) (cap - i) (by simp[Act.eval,Act.put]) (by simp[Act.eval,Act.put]) N ((i+1)*8) (splice Oq (i*8) c) _ h2.o (n - i) D (by simp only[Nat.min_def];split <;> omega) mX.o (fun _=>⟨rfl,_,rfl,HDC.o _ hgk⟩) (by rw[hsl,mX.o];omega) Dm ?_;intro w3 h3 hr3)
 have Y9:dD w2 w3 N:=⟨hr3.os,hr3.tape,hr3.output,hr3.size,hr3.other⟩
 have bO:B≤N:=by have:=HN.o;have:=dZ.o;omega
 have hend:=Lb Oq X c D (i*8) My.o ht1 (by rw[uq,mX.o,Vq];omega);rw[uq,mX.o,show i*8+8=(i+1)*8 by omega,show(i+1)*8+(n - i)*8=(n+1)*8 by omega] at hend;have UN:=jD hend;have RR:=jD (Y9.below (hr2.below (aP.o.trans (hb1.mono bO)) bO) bO);clear hend hr3 Y9 hr2 hb1;go_wp2;go_ret;refine⟨_,rfl,⟨by rw[List.length_append,List.length_append,My.o,uq,mX.o];omega, .inr ⟨N,G,_,rfl,bO,h3.o,A9,wP,by rw[List.size_toArray,length_splice _ _ _ (by rw[hsl,mX.o];omega),hsl], ?_⟩⟩,RR.o⟩;rw[List.toList_toArray];exact UN.o
theorem M8 (B:Nat) (w0 w:World) (g n cap i:Nat) (cur:List Value) (vb:Nat) (c:List Value) (tb:TypeId) (hbl:Below B w0 w) (hB:B≤g) (hi:i < n) (hn:n≤1000) (hroom:n+1≤cap) (hcm:cap≤maxLen)
  (hg:w.heap[g]? =some (.cells cur.toArray 120 (0,0))) (hcl:cur.length=cap*8) (Gq: ∀u∈cur.take (n*8),u.oneCell'=true)
  (hvb:w.heap[vb]? =some (.cells c.toArray tb (0,0))) (uq:c.length=8) (h1c: ∀u∈c,u.oneCell'=true):
  Calls Tryz.prog 169 #[.slice (some ⟨g,0,none⟩) n cap, .int .i64 i, .slice (some ⟨vb,0,none⟩) 1 1] w fun e w'=> ∃s',e= .returned s'∧w'.ownsRow B 120 8 s' (n+1) (cur.take (i*8)++c++(cur.take (n*8)).drop (i*8))∧Below B w0 w':=by
 have Gi:vb≠g:=by
  rintro rfl;rw[hvb] at hg;simp only[Option.some.injEq,Obj.cells.injEq] at hg;have:=congrArg Array.size hg.1;simp only[List.size_toArray] at this;omega
 obtain⟨D,hD⟩: ∃D,D=(cur.take (n*8)).drop (i*8):=⟨_,rfl⟩
 have hDl:D.length=(n - i)*8:=by rw[hD,List.length_drop,List.length_take];omega
 have Dm: ∀u∈D,u.oneCell'=true:=fun u hu=>Gq u (by rw[hD] at hu;exact List.mem_of_mem_drop hu);obtain⟨X,hX⟩: ∃X,X=cur.take (i*8):=⟨_,rfl⟩
 have Qg:X.length=i*8:=by rw[hX,List.length_take];omega
 have HDC:=jD (fun (W:World) (hW:W.heap[g]? =w.heap[g]?) j u (hj:D[j]? =some u)=>(show W.cell? ((⟨g,i*8,none⟩:Addr).add j)=some u by
  rw[Addr.add_lit];rw[hD,List.getElem?_drop,List.getElem?_take] at hj;split at hj
  ·exact aD (hW.trans hg) (by simpa using hj)
  ·simp at hj))
 have HVC:=jD (fun (W:World) (hW:W.heap[vb]? =w.heap[vb]?) j u (hj:c[j]? =some u)=>(show W.cell? ((⟨vb,0,none⟩:Addr).add j)=some u by
  rw[Addr.add_lit,Nat.zero_add];exact aD (hW.trans hvb) (by simpa using hj)))
 have hsa:w.shape? vb=some (tb,8):=by simp[World.shape?,hvb,uq]
 have hsb:w.shape? g=some (120,cap*8):=by simp[World.shape?,hg,hcl]
 have hov: ∀lb cb,(callFunc 196 #[.slice (some ⟨vb,0,none⟩) 1 1, .slice (some ⟨g,(i+1)*8,none⟩) lb cb]).run Tryz.prog w= .ok (.value (.bool false)) w:=fun lb cb=>by
  rw[run_callFunc_extern Tryz.func196 (by kernel_rfl) (by kernel_rfl) (by kernel_rfl) (e:=Extern.SlicesOverlaps.overlaps #[112,112] #[4]) (by kernel_rfl),
   Lib.run_overlaps_apart w 112 4 120 Tryz.underlying112 8 (by
    intro w;obtain⟨inf,hi,hz0,hsize,hby⟩:=info_parts yw.info;simp[Go.sizeOf,typeInfo,hi,hsize]) ⟨vb,0,none⟩ ⟨g,(i+1)*8,none⟩ 1 1 lb cb Gi tb 120 8 (cap*8) hsa hsb (by omega) (dS hvb) (dS hvb)]
  rfl
 have HG:=jD hg;have aP:=jD hbl;have My:=jD Qg;have mX:=jD hDl;have HXE:=jD hX.symm;rw[←hX,←hD];clear hX hD hg hvb hbl Gq Qg hDl hsa hsb;have hw1:IntKind.i64.wrap ((n:Int)+1)=(n:Int)+1:=by rw[IntKind.wrap_i64];omega
 have hw3:IntKind.i64.wrap ((i:Int)+1)=(i:Int)+1:=by rw[IntKind.wrap_i64];omega
 have hne:decide ((i:Int)=(n:Int))=false:=by simp;omega
 have hcm2:cap≤9223372036854775807:=by unfold maxLen at hcm;omega
 have hgr:decide ((cap:Int) < (n:Int)+1)=false:=by simp;omega
 have hz2: ¬((i:Int)=(n:Int)):=by omega
 have hci: ¬(cap=i):=by omega
 have hci1: ¬(cap=i+1):=by omega
 have htn1:((n:Int)+1).toNat=n+1:=by omega
 have htn:((i:Int)+1).toNat=i+1:=by omega
 have hb2:(0:Int)≤(i:Int)+1:=by omega
 have hb3:(i:Int)≤(n:Int):=by omega
 have hb4:(i:Int)≤(n:Int)+1:=by omega
 have bR:(n:Int)+1≤(cap:Int):=by omega
 go_enter Tryz.func169,Tryz.ntmps169;go_wp2_with (simp only[hov])
 go_region_law (refine CI rfl _ _ 112 112 rfl 120 8 Tryz.underlying112 yw.size (some ⟨g,(i+1)*8,none⟩) (some ⟨g,i*8,none⟩) (n+1 - (i+1)) (cap - (i+1)) (n+1 - i) (cap - i) (by simp[Act.eval,Act.put]) (by simp[Act.eval,Act.put]) g ((i+1)*8) cur _ HG.o (n - i) D (by simp only[Nat.min_def];split <;> omega) mX.o (fun _=>⟨rfl,_,rfl,HDC.o _ rfl⟩) (by rw[hcl,mX.o];omega) Dm ?_;intro w2 h2 hr2)
 have Tv:dD w w2 g:=⟨hr2.os,hr2.tape,hr2.output,hr2.size,hr2.other⟩
 have hsl:(splice cur ((i+1)*8) D).length=cap*8:=by rw[length_splice _ _ _ (by rw[mX.o];omega),hcl]
 clear hr2 hov;go_wp2_with (refine yF rfl _ _ 112 112 rfl 120 8 Tryz.underlying112 yw.size (some ⟨g,i*8,none⟩) (some ⟨vb,0,none⟩) (n+1 - i) (cap - i) 1 1 rfl rfl g (i*8) (splice cur ((i+1)*8) D) _ h2.o 1 c (by simp only[Nat.min_def];split <;> omega) (by omega) (fun _=>⟨rfl,_,rfl,HVC.o _ (Tv.other vb Gi)⟩) (by rw[hsl];omega) h1c ?_)
 intro w3 h3 hr3;have hend:=Nh cur X c D (i*8) My.o HXE.o (by rw[uq,mX.o,hcl];omega);rw[uq,mX.o,show i*8+8=(i+1)*8 by omega,show(i+1)*8+(n - i)*8=(n+1)*8 by omega] at hend;have UN:=jD hend;have RR:=jD (hr3.below (Tv.below aP.o hB) hB);clear hend hr3 Tv;go_wp2;go_ret;refine⟨_,rfl,⟨by rw[List.length_append,List.length_append,My.o,uq,mX.o];omega, .inr ⟨g,cap,_,rfl,hB,h3.o,hroom,hcm,by rw[List.size_toArray,length_splice _ _ _ (by rw[hsl];omega),hsl], ?_⟩⟩,RR.o⟩;rw[List.toList_toArray];exact UN.o
theorem Yd (B:Nat) (w0 w:World) (s:Value) (n i:Nat) (xs:List Value) (vb:Nat) (c:List Value) (tb:TypeId) (hbl:Below B w0 w) (hB:B≤w.heap.size) (hown:w.ownsRow B 120 8 s n xs) (hi:i≤n) (hn:n≤1000) (Gq: ∀u∈xs,u.oneCell'=true)
  (hvb:w.heap[vb]? =some (.cells c.toArray tb (0,0))) (uq:c.length=8) (h1c: ∀u∈c,u.oneCell'=true):
  Calls Tryz.prog 169 #[s, .int .i64 i, .slice (some ⟨vb,0,none⟩) 1 1] w fun e w'=> ∃s',e= .returned s'∧w'.ownsRow B 120 8 s' (n+1) (xs.take (i*8)++c++xs.drop (i*8))∧Below B w0 w':=by
 by_cases hin:i=n
 ·subst hin;have h:=Sk B w0 w s i xs vb c tb hbl hB hown hn hvb uq h1c;have hl:=hown.1;rw[List.take_of_length_le (by omega),List.drop_of_length_le (by omega),List.append_nil];exact h
 ·rcases hown.2 with⟨-,rfl⟩ | ⟨g,cap,cur,rfl,hbg,hg,hnc,hcm,hcs,htake⟩
  ·omega
  ·have e:xs.take (i*8)=cur.toList.take (i*8):=by rw[←htake,List.take_take];congr 1;omega
   have hg':w.heap[g]? =some (.cells cur.toList.toArray 120 (0,0)):=by simpa using hg
   rw[e,←htake];by_cases hroom:n+1≤cap
   ·exact M8 B w0 w g n cap i cur.toList vb c tb hbl hbg (by omega) hn hroom hcm hg' (by simpa using hcs) (by rw[htake];exact Gq) hvb uq h1c
   ·exact O5 B w0 w g n cap i cur.toList vb c tb hbl hB (by omega) hn hnc (by omega) hg' (by simpa using hcs) (by rw[htake];exact Gq) hvb uq h1c
theorem oQ.below {D:aA→Prop} {g:FuncId} {caps:Array Value} {p:aA→Bool} {w W:World} (h:oQ D g caps p w) (hb:Below w.heap.size w W):oQ D g caps p W:=
 ⟨h.1,fun v u x W' hD hb' hk=>h.2 v u x W' hD (aj hb hb') hk⟩
def filtC {α: Type} (p:α→ Bool):List α→ List (List Value)→List (List Value)
 | v::l,c::cs=>if p v=true then c::filtC p l cs else filtC p l cs
 | _,_=>[]
theorem nG {α: Type} {E:BC α} {w:World} (p:α→ Bool): ∀ {l:List α} {cs:List (List Value)},Els E w l cs→Els E w (l.filter p) (filtC p l cs)
 | [],[],_=>trivial
 | v::l,c::cs,h=>by
  unfold filtC;cases hp:p v
  ·rw[List.filter_cons_of_neg (by rw[hp];decide),if_neg (by decide)];exact nG p h.2
  ·rw[List.filter_cons_of_pos hp,if_pos rfl];exact ⟨h.1,nG p h.2⟩
 | [],_::_,h=>h.elim
 | _::_,[],h=>h.elim
theorem zB {α: Type} (p:α→ Bool): ∀ {l:List α} {cs:List (List Value)} {m:List α} {ds:List (List Value)},l.length=cs.length→filtC p (l++m) (cs++ds)=filtC p l cs++filtC p m ds
 | [],[],_,_,_=>by simp[filtC]
 | v::l,c::cs,m,ds,h=>by
  have ih:=zB p (l:=l) (cs:=cs) (m:=m) (ds:=ds) (by simpa using h);simp only[List.cons_append,filtC];split
  ·rw[ih];rfl
  ·exact ih
 | [],_::_,_,_,h=>by simp at h
 | _::_,[],_,_,h=>by simp at h
theorem vG {α: Type} (p:α→ Bool): ∀ {l:List α} {cs:List (List Value)},l.length=cs.length→(∀v∈l,p v=true)→filtC p l cs=cs
 | [],[],_,_=>rfl
 | v::l,c::cs,h,hp=>by
  unfold filtC;rw[if_pos (hp v (by simp)),vG p (by simpa using h) fun x hx=>hp x (by simp[hx])]
 | [],_::_,h,_=>by simp at h
 | _::_,[],h,_=>by simp at h
theorem nW {α: Type} (p:α→ Bool) {l:List α} {cs:List (List Value)} {q:Nat} {c:List Value} (hl:l.length=cs.length) (hq:q < l.length) (hc:cs[q]? =some c):
  filtC p (l.take (q+1)) (cs.take (q+1))=filtC p (l.take q) (cs.take q)++if p l[q]=true then [c] else []:=by
 obtain⟨hq2,rfl⟩:=List.getElem?_eq_some_iff.1 hc;rw[List.take_succ_eq_append_getElem hq,List.take_succ_eq_append_getElem hq2,zB p (by rw[List.length_take,List.length_take,hl])];congr 1
theorem wu {α: Type} {p:α→ Bool} {l:List α} :(nE p l= -1∧ ∀v∈l,p v=false)∨ ∃i:Nat,nE p l=i∧ ∃h:i < l.length,p l[i]=true∧ ∀j (hj:j < i),p (l[j]'(by omega))=false:=by
 unfold nE;cases h:l.findIdx? p with
 | none=>
  rw[List.findIdx?_eq_none_iff] at h;exact .inl ⟨rfl,h⟩
 | some i=>
  rw[List.findIdx?_eq_some_iff_getElem] at h;obtain⟨h1,h2,h3⟩:=h;exact .inr ⟨i,rfl,h1,h2,fun j hj=>by simpa using h3 j hj⟩
structure R7 (w0:World) (g cap:Nat) (dJ X:List Value) (k q:Nat) (wr:World):Prop where
 ex: ∃cur:List Value,wr.heap[g]? =some (.cells cur.toArray 120 (0,0))∧cur.length=cap*8∧cur.take (k*8)=X∧cur.drop (q*8)=dJ.drop (q*8)
 aW:Below w0.heap.size w0 wr
theorem rH {L C:List Value} {a:Nat} (h:a+C.length≤L.length):(splice L a C).take (a+C.length)=L.take a++C:=by
 unfold splice;rw[←List.append_assoc,List.take_append_of_le_length (by rw[List.length_append,List.length_take];omega),List.take_of_length_le (by rw[List.length_append,List.length_take];omega)]
theorem vX {L C:List Value} {a b:Nat} (h:a+C.length≤b) (hl:a+C.length≤L.length):(splice L a C).drop b=L.drop b:=by
 unfold splice;rw[←List.append_assoc,List.drop_append,List.drop_of_length_le (by rw[List.length_append,List.length_take];omega),List.nil_append,List.drop_drop,List.length_append,List.length_take];congr 1;omega
theorem pQ {L C:List Value} {a:Nat} (h:a≤L.length):(splice L a C).take a=L.take a:=by
 unfold splice;rw[List.take_append_of_le_length (by rw[List.length_take];omega),List.take_take];congr 1;omega
theorem wm {L M:List Value} {a j:Nat} (h:L.drop a=M.drop a):L[a+j]? =M[a+j]? :=by
 have:=congrArg (·[j]?) h;simpa[List.getElem?_drop] using this
theorem O9 (D:aA→Prop) (w0 w:World) (s:Value) (l:List aA) (g0:FuncId) (caps:Array Value) (p:aA→Bool) (hbl:Below w0.heap.size w0 w) (hown:b9 eu w0 w w0.heap.size 120 s l) (hn:l.length≤1000) (hD: ∀v∈l,D v) (hp:oQ D g0 caps p w0):
  Calls Tryz.prog 133 #[s, .func (.func g0) #[] caps] w fun e w'=> ∃s',e= .returned s'∧b9 eu w0 w' w0.heap.size 120 s' (l.filter fun v=> !p v)∧Below w0.heap.size w0 w':=by
 have hp1:=hp.below hbl;have hat:=hown.at_ (Sub.of_below hbl) (by omega);have HI:=jD (Cg D s l g0 caps p w hat hD hp1);have HP:=jD hp.2;have hcall:=hp.1;have HD:=jD hD;obtain⟨css,jQ,hrow⟩:=hown;replace hrow:w.ownsRow w0.heap.size 120 8 s l.length css.flatten:=hrow;have hlc:l.length=css.length:=jQ.length.symm;clear hat hp hp1 hD;rcases wu (p:=p) (l:=l) with⟨h1,hall⟩ | ⟨i,h1,hi,hpi,zq⟩
 ·have hfl:(l.filter fun v=> !p v)=l:=List.filter_eq_self.2 fun v hv=>by rw[hall v hv];rfl
  rw[hfl];rw[h1] at HI;have jR:=jD (show b9 eu w0 w w0.heap.size 120 s l from⟨css,jQ,hrow⟩);have aP:=jD hbl;obtain⟨a,cap,rfl⟩:=ay hrow;clear jQ hrow hall hbl hcall hlc;go_enter Tryz.func133,Tryz.ntmps133;go_wp2_with fail
  (with_reducible refine(HI.o).mono ?_);rintro e w1 ⟨rfl,hb1⟩;have hr:=jR.o.below hb1;have hb:=aj aP.o hb1;clear hb1;go_wp2;go_ret;exact⟨_,rfl,hr,hb⟩
 ·rw[h1] at HI;rcases hrow.2 with⟨-,h0⟩ | ⟨g,cap,cur,rfl,hbg,hg,hnc,hcm,hcs,htake⟩
  ·omega
  obtain⟨dJ,p7⟩: ∃c:List Value,c=cur.toList:=⟨_,rfl⟩
  have hg':w.heap[g]? =some (.cells dJ.toArray 120 (0,0)):=by rw[p7];simpa using hg
  have hcl:dJ.length=cap*8:=by rw[p7];simpa using hcs
  rw[←p7] at htake;have p6:=jQ.lens;have HT:=jD (fun (q:Nat) (hq:q≤l.length)=>(show(css.take q).flatten=dJ.take (q*8) by
   rw[rA (n:=8) p6,←htake,List.take_take];congr 1;show min (q*8) (l.length*8)=q*8;omega))
  have kG:=jD htake;have hst:R7 w0 g cap dJ (filtC (fun v=> !p v) (l.take (i+1)) (css.take (i+1))).flatten i (i+1) w:=by
   refine⟨⟨dJ,hg',hcl, ?_,rfl⟩,hbl⟩;obtain⟨c, -,hc, -⟩:=jQ.cell i hi;rw[nW _ hlc hi hc,if_neg (by rw[hpi];decide),List.append_nil,vG _ (by rw[List.length_take,List.length_take,hlc]) (fun v hv=>by
    obtain⟨j,hj,rfl⟩:=List.getElem_of_mem hv;rw[List.length_take] at hj;rw[List.getElem_take,zq j (by omega)];rfl),HT.o i (by omega)]
  have hki:((l.take (i+1)).filter fun v=> !p v).length=i:=by
   rw[List.take_succ_eq_append_getElem hi,List.filter_append,List.filter_cons_of_neg (by rw[hpi];decide),List.filter_nil,List.append_nil,List.filter_eq_self.2 fun v hv=>by
    obtain⟨j,hj,rfl⟩:=List.getElem_of_mem hv;rw[List.length_take] at hj;rw[List.getElem_take,zq j (by omega)];rfl]
   rw[List.length_take];omega
  have HST:=jD hst;have yA:=jD hki;have Br:=jD jQ;have GZ:=jD hlc;have lu:=jD hcl;have HFE:=jD (fun (X:List (List Value))=>show X=X from rfl);clear hst hki jQ hrow p6 hg hg' hcs p7 zq htake hbl hlc hcl;have hw1:IntKind.i64.wrap ((i:Int)+1)=(i:Int)+1:=by rw[IntKind.wrap_i64];omega
  have p5:((i:Int)== -1)=false:=by rw[beq_eq_false_iff_ne];omega
  go_enter Tryz.func133,Tryz.ntmps133;go_wp2_with fail
  (with_reducible refine(HI.o).mono ?_);rintro e w1 ⟨rfl,hb1⟩;have zZ:=jD (show R7 w0 g cap dJ (filtC (fun v=> !p v) (l.take (i+1)) (css.take (i+1))).flatten i (i+1) w1 by
   obtain⟨⟨cur,h2,h3⟩,h4⟩:=HST.o;exact⟨⟨cur,ag hb1 h2,h3⟩,aj h4 hb1⟩)
  clear HST hb1 HI;go_wp2;go_loopw [5,6] (fun iv jv wr=> ∃k q:Nat,iv= .int .i64 k∧jv= .int .i64 q∧k+1≤q∧q≤l.length∧((l.take q).filter fun v=> !p v).length=k∧R7 w0 g cap dJ (filtC (fun v=> !p v) (l.take q) (css.take q)).flatten k q wr) (fun _ jv _=>l.length - (intOf jv).toNat)
  case atStart=>exact ⟨i,i+1,rfl,by go_num,Nat.le_refl _,by omega,yA.o,zZ.o⟩
  case round=>
   obtain⟨k,q,rfl,rfl,hkq,hq,hkl,hst⟩:=hrel;have pK:=jD hkl;have oH:=jD hst;clear hkl hst zZ;by_cases hlt:q < l.length
   ·obtain⟨c,⟨u,x,rfl,hk2⟩,vt,hcc⟩:=Br.o.cell q hlt;obtain⟨⟨cur,pE,hcl,htk,hdr⟩,hbel⟩:=oH.o;have hcell:=fun (j:Nat) (y:Value) (hj:j < 8) (hy:(aN l[q] u x).toList[j]? =some y)=>(show wr.cell? ⟨g,q*8+j,none⟩=some y from
     aD pE (by
      have e1:=hcc j y hy;have e2:cur[q*8+j]? =dJ[q*8+j]? :=wm hdr;have e3:dJ[q*8+j]? =css.flatten[q*8+j]? :=by rw[←kG.o,List.getElem?_take_of_lt (by omega)]
      rw[List.getElem?_toArray,e2,e3];exact e1))
    have c0:=hcell 0 _ (by decide) rfl;have c1:=hcell 1 _ (by decide) rfl;have c2:=hcell 2 _ (by decide) rfl;have c3:=hcell 3 _ (by decide) rfl;have c4:=hcell 4 _ (by decide) rfl;have c5:=hcell 5 _ (by decide) rfl;have c6:=hcell 6 _ (by decide) rfl;have c7:=hcell 7 _ (by decide) rfl;rw[Nat.add_zero] at c0;obtain⟨ua,uc,rfl⟩:=hk2.vec.shape;obtain⟨xa,xc,rfl⟩:=hk2.more.shape;have dm:=aG (W:=wr) (.cells (aN l[q] (.slice ua l[q].past.vec.length uc) (.slice xa l[q].past.more.length xc)) 120);have HV:=jD (HP.o l[q] (.slice ua l[q].past.vec.length uc) (.slice xa l[q].past.more.length xc) _ (HD.o _ (List.getElem_mem hlt)) (aj hbel dm) ((hk2.below hbel).below dm));have uM:=jD (au wr (aN l[q] (.slice ua l[q].past.vec.length uc) (.slice xa l[q].past.more.length xc)) 120 _ rfl);have gM:=jD dm;have tE:=jD pE;have jo:=jD hbel;have oI:=jD (nW (fun v=> !p v) GZ.o hlt vt);have gF:=jD (show((l.take (q+1)).filter fun v=> !p v)=((l.take q).filter fun v=> !p v)++[l[q]].filter fun v=> !p v by rw[List.take_succ_eq_append_getElem hlt,List.filter_append]);have Gk:=jD (show cur.drop ((q+1)*8)=dJ.drop ((q+1)*8) by
     have e:(q+1)*8=q*8+8:=by omega
     rw[e,←List.drop_drop,←List.drop_drop,hdr])
    clear hcell hcc hk2 dm pE hbel hdr;generalize hvq:l[q]=v1 at*;have qp:=jD htk;have fh:=jD hcl;clear htk hcl vt oH;unfold aN at HV;have lV:decide ((q:Int) < (l.length:Int))=true:=by simp;omega
    go_wp2_with fail
    refine(HV.o).mono ?_;rintro e w2 ⟨rfl,hb2⟩;have bO:=ag hb2 uM.o;have wP:=jD (ag hb2 (aO (.cells (aN v1 (.slice ua v1.past.vec.length uc) (.slice xa v1.past.more.length xc)) 120) tE.o));have cw:=jD (aj (aj jo.o gM.o) hb2);clear hb2 gM HV c0 c1 c2 c3 c4 c5 c6 c7;cases hpv:p v1
    ·have e0:=cq 0 bO rfl;have e1:=cq 1 bO rfl;have e2:=cq 2 bO rfl;have e3:=cq 3 bO rfl;have e4:=cq 4 bO rfl;have e5:=cq 5 bO rfl;have e6:=cq 6 bO rfl;have e7:=cq 7 bO rfl;have hkn:decide ((k:Int) < (l.length:Int))=true:=by simp;omega
     clear bO;go_wp2_with (refine pN rfl 120 _ _ rfl g (k*8) (aN v1 (.slice ua v1.past.vec.length uc) (.slice xa v1.past.more.length xc)) rfl rfl 120 cur wP.o (by kernel_rfl) (by rw[fh.o];show k*8+8≤_;omega) (by intro z hz;simp only[aN,List.mem_cons,List.not_mem_nil,or_false] at hz;rcases hz with rfl | rfl | rfl | rfl | rfl | rfl | rfl | rfl <;> rfl) ?_)
     intro w3 h3 hr3;have Ac:=jD (show((l.take (q+1)).filter fun v=> !p v).length=k+1 by
      rw[gF.o,List.length_append,pK.o,List.filter_cons_of_pos (by rw[hpv];rfl)];rfl)
     have cr:=jD (show R7 w0 g cap dJ (filtC (fun v=> !p v) (l.take (q+1)) (css.take (q+1))).flatten (k+1) (q+1) w3 by
      have e8:(aN v1 (.slice ua v1.past.vec.length uc) (.slice xa v1.past.more.length xc)).toList.length=8:=rfl;refine⟨⟨_,h3.o,by rw[length_splice _ _ _ (by rw[e8,fh.o];omega),fh.o], ?_, ?_⟩,hr3.below cw.o hbg⟩
      ·rw[show(k+1)*8=k*8+(aN v1 (.slice ua v1.past.vec.length uc) (.slice xa v1.past.more.length xc)).toList.length by rw[e8];omega,rH (by rw[e8,fh.o];omega),qp.o,oI.o,if_pos (by rw[hpv];rfl),List.flatten_append,List.flatten_cons,List.flatten_nil,List.append_nil]
      ·rw[vX (by rw[e8];omega) (by rw[e8,fh.o];omega)];exact Gk.o)
     clear h3 hr3 hpv e0 e1 e2 e3 e4 e5 e6 e7;go_wp2;go_roundw
     case rel=>exact ⟨k+1,q+1,by go_num,by go_num,by omega,by omega,Ac.o,cr.o⟩
     case measure=>simp [intOf] <;> omega
    ·have Ac:=jD (show((l.take (q+1)).filter fun v=> !p v).length=k by
      rw[gF.o,List.length_append,pK.o,List.filter_cons_of_neg (by rw[hpv];decide)];rfl)
     have cr:=jD (show R7 w0 g cap dJ (filtC (fun v=> !p v) (l.take (q+1)) (css.take (q+1))).flatten k (q+1) w2 from
      ⟨⟨_,wP.o,fh.o,by rw[qp.o,oI.o,if_neg (by rw[hpv];decide),List.append_nil],Gk.o⟩,cw.o⟩)
     clear hpv bO;go_wp2;go_roundw
     case rel=>exact ⟨k,q+1,rfl,by go_num,by omega,by omega,Ac.o,cr.o⟩
     case measure=>simp [intOf] <;> omega
   ·obtain rfl:q=l.length:=by omega
    rw[List.take_length] at pK;have hct:css.take l.length=css:=by rw[GZ.o,List.take_length]
    rw[List.take_length,hct] at oH;obtain⟨⟨cur,pE,hcl,htk, -⟩,hbel⟩:=oH.o;have tE:=jD pE;have jo:=jD hbel;have qp:=jD htk;have fh:=jD hcl;clear pE hbel htk hcl hct oH;have hkc: ¬(cap=k):=by omega
    go_wp2_with (refine oL rfl _ 112 rfl 120 _ 8 104 Tryz.underlying112 yw.info rfl (by decide) g (k*8) (l.length - k) (cap - k) (some ⟨g,k*8,none⟩) (fun _=>rfl) rfl cur _ tE.o (by rw[fh.o];omega) ?_)
    intro w3 zs h3 hz hr3;have JJ:=jD (show b9 eu w0 w3 w0.heap.size 120 (.slice (some ⟨g,0,none⟩) k cap) (l.filter fun v=> !p v) by
     refine⟨_,nG _ Br.o, ?_⟩;rw[pK.o];have hfl:=(nG (fun v=> !p v) Br.o).flat;rw[pK.o] at hfl;refine⟨hfl, .inr ⟨g,cap,_,rfl,hbg,h3.o,by omega,hcm,by rw[List.size_toArray,length_splice _ _ _ (by rw[hz,fh.o];omega),fh.o];rfl, ?_⟩⟩;rw[List.toList_toArray];show(splice cur (k*8) zs).take (k*8)=_;rw[pQ (by rw[fh.o];omega),qp.o])
    have eH:=jD (hr3.below jo.o hbg);clear h3 hr3;go_wp2;go_ret;exact⟨_,rfl,JJ.o,eH.o⟩
end Go.Proofs.YtajgndoiddmbmaaGreatDoor
