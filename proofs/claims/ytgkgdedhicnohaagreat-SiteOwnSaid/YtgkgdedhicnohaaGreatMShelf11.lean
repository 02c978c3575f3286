/- Shelves of the call's own: small laws. No program in sight. What slices.Insert does to a row of versions of the call's own, one version put in. What slices.DeleteFunc does to a row of versions of the call's own. -/
import Derived.Test.YtgkgdedhicnohaaGreatMShelf5
import Derived.Test.YtgkgdedhicnohaaGreatChecked
import Derived.Test.YtgkgdedhicnohaaGreatMPartN
import Derived.Lib.Walk
import Derived.Deep.RegionLaw
namespace Go.Proofs.YtgkgdedhicnohaaGreat
set_option maxRecDepth 100000
set_option maxHeartbeats 40000000
open Go.RowKit
theorem VE.mono {w:World} {base base':Nat} (hb:base'≤base): ∀ {l:List Ver} {cs:List (List Value)},VE w base l cs→VE w base' l cs
 | [],[],_=>trivial
 | _::_,_::_,⟨⟨a,n,d,b,m,e,h1,h2⟩,h3⟩=>⟨⟨a,n,d,b,m,e,h1,h2.mono hb⟩,VE.mono hb h3⟩
 | [],_::_,h3=>h3.elim
 | _::_,[],h3=>h3.elim
theorem VOwn.mono {w:World} {base base':Nat} {vv:Value} {l:List Ver} (h:VOwn w base vv l) (hb:base'≤base):VOwn w base' vv l:=by
 obtain⟨css,h1,h2⟩:=h
 exact⟨css,h1.mono hb,owns_mono h2 hb⟩
theorem shok_bd {l:List Ver} (h: ∀v∈l,VerOk v): ∀v∈l,v.past.vec.length≤5∧v.past.more.length≤60:=fun v hv=>⟨(h v hv).past.len,(h v hv).len⟩
theorem verAt8 {w:World} {g:Nat} {v:Ver} {u x:Value} {t:TypeId} (h:w.heap[g]? =some (Obj.cells (verC v u x) t (0,0))):
  w.cell? ⟨g,0,none⟩=some (.string v.id)∧w.cell? ⟨g,1,none⟩=some (.int .i64 v.ds)∧w.cell? ⟨g,2,none⟩=some (.int .i64 v.dc)∧w.cell? ⟨g,3,none⟩=some (.int .i64 v.tg)∧w.cell? ⟨g,4,none⟩=some (.int .i64 v.nm)∧w.cell? ⟨g,5,none⟩=some (.int .i64 v.bd)∧w.cell? ⟨g,6,none⟩=some u∧w.cell? ⟨g,7,none⟩=some x:=
 ⟨cell_of_block h rfl,cell_of_block h rfl,cell_of_block h rfl,cell_of_block h rfl,cell_of_block h rfl,cell_of_block h rfl,cell_of_block h rfl,cell_of_block h rfl⟩
theorem VTy.size:(Tryz.prog.info? 75).map (·.size)=some 8:=by kernel_rfl
theorem VTy.info:(Tryz.prog.info? 75).map (fun i=>(i.zero,i.size,i.bytes))=some (some (.agg #[.string ByteArray.empty, .int .i64 0, .int .i64 0, .int .i64 0, .int .i64 0, .int .i64 0, .slice none 0 0, .slice none 0 0]),8,104):=by kernel_rfl
theorem vins_end (B:Nat) (w0 w:World) (s:Value) (n:Nat) (xs:List Value) (vb:Nat) (c:List Value) (tb:TypeId) (hbl:Below B w0 w) (hB:B≤w.heap.size) (hown:w.ownsRow B 75 8 s n xs) (hn:n≤1000)
  (hvb:w.heap[vb]? =some (.cells c.toArray tb (0,0))) (hc8:c.length=8) (h1c: ∀u∈c,u.oneCell'=true):
  Calls Tryz.prog 116 #[s, .int .i64 n, .slice (some ⟨vb,0,none⟩) 1 1] w fun e w'=> ∃s',e= .returned s'∧w'.ownsRow B 75 8 s' (n+1) (xs++c)∧Below B w0 w':=by
 have HV:=jD (fun j u (hj:c[j]? =some u)=>(show w.cell? ((⟨vb,0,none⟩:Addr).add j)=some u by rw[Addr.add_lit,Nat.zero_add];exact cell_of_block hvb (by simpa using hj)))
 have HO:=jD hown
 have HBL:=jD hbl
 have HBS:=jD hB
 have HBN:=jD (fun w' (hg:w.grownBy w' s.ownBlock)=>hbl.grown hg hB fun k hk=>(hown.lt k hk).1)
 obtain⟨a,cap,rfl⟩:=owns_slice hown
 clear hbl hB hown hvb
 by_cases hcn:n=cap
 ·subst hcn
  go_enter Tryz.func116,Tryz.ntmps116
  go_wp2_with (at_builtin;refine wpList_append_own' rfl _ _ 48 rfl B 75 _ 8 104 Tryz.underlying48 VTy.info rfl (by decide) _ n xs rfl HO.out ⟨vb,0,none⟩ 1 1 c rfl (by rw[hc8]) HV.out h1c (by unfold maxLen;omega) (by omega) HBS.out ?_)
  intro s' w' h1 h2 h3
  have h4:=HBN.out w' h2
  clear h2 h3
  go_wp2
  go_ret
  exact⟨_,rfl,h1,h4⟩
 ·have hcn2: ¬cap=n:=fun e=>hcn e.symm
  go_enter Tryz.func116,Tryz.ntmps116
  go_wp2_with (at_builtin;refine wpList_append_own' rfl _ _ 48 rfl B 75 _ 8 104 Tryz.underlying48 VTy.info rfl (by decide) _ n xs rfl HO.out ⟨vb,0,none⟩ 1 1 c rfl (by rw[hc8]) HV.out h1c (by unfold maxLen;omega) (by omega) HBS.out ?_)
  intro s' w' h1 h2 h3
  have h4:=HBN.out w' h2
  clear h2 h3
  go_wp2
  go_ret
  exact⟨_,rfl,h1,h4⟩
theorem vins_grow (B:Nat) (w0 w:World) (g n cap i:Nat) (cur:List Value) (vb:Nat) (c:List Value) (tb:TypeId) (hbl:Below B w0 w) (hB:B≤w.heap.size) (hi:i < n) (hn:n≤1000) (hnc:n≤cap) (hroom:cap < n+1)
  (hg:w.heap[g]? =some (.cells cur.toArray 75 (0,0))) (hcl:cur.length=cap*8) (h1x: ∀u∈cur.take (n*8),u.oneCell'=true)
  (hvb:w.heap[vb]? =some (.cells c.toArray tb (0,0))) (hc8:c.length=8) (h1c: ∀u∈c,u.oneCell'=true):
  Calls Tryz.prog 116 #[.slice (some ⟨g,0,none⟩) n cap, .int .i64 i, .slice (some ⟨vb,0,none⟩) 1 1] w fun e w'=> ∃s',e= .returned s'∧w'.ownsRow B 75 8 s' (n+1) (cur.take (i*8)++c++(cur.take (n*8)).drop (i*8))∧Below B w0 w':=by
 obtain⟨D,hD⟩: ∃D,D=(cur.take (n*8)).drop (i*8):=⟨_,rfl⟩
 have hDl:D.length=(n - i)*8:=by rw[hD,List.length_drop,List.length_take];omega
 have hD1: ∀u∈D,u.oneCell'=true:=fun u hu=>h1x u (by rw[hD] at hu;exact List.mem_of_mem_drop hu)
 obtain⟨X,hX⟩: ∃X,X=cur.take (i*8):=⟨_,rfl⟩
 have hXl:X.length=i*8:=by rw[hX,List.length_take];omega
 have hgl:=hlt_of hg
 have hvl:=hlt_of hvb
 have HXC:=jD (fun j u (hj:X[j]? =some u)=>(show w.cell? ((⟨g,0,none⟩:Addr).add j)=some u by
  rw[Addr.add_lit,Nat.zero_add]
  rw[hX,List.getElem?_take] at hj
  split at hj
  ·exact cell_of_block hg (by simpa using hj)
  ·simp at hj))
 have HDC:=jD (fun (W:World) (hW:W.heap[g]? =w.heap[g]?) j u (hj:D[j]? =some u)=>(show W.cell? ((⟨g,i*8,none⟩:Addr).add j)=some u by
  rw[Addr.add_lit]
  rw[hD,List.getElem?_drop,List.getElem?_take] at hj
  split at hj
  ·exact cell_of_block (hW.trans hg) (by simpa using hj)
  ·simp at hj))
 have HVC:=jD (fun (W:World) (hW:W.heap[vb]? =w.heap[vb]?) j u (hj:c[j]? =some u)=>(show W.cell? ((⟨vb,0,none⟩:Addr).add j)=some u by
  rw[Addr.add_lit,Nat.zero_add];exact cell_of_block (hW.trans hvb) (by simpa using hj)))
 have HBL:=jD hbl
 have HBS:=jD hB
 have HXL:=jD hXl
 have HDL:=jD hDl
 rw[←hX,←hD]
 clear hX hD hg hvb hbl hB hcl h1x hXl hDl
 obtain⟨N,hN⟩: ∃N,N=w.heap.size:=⟨_,rfl⟩
 have hw1:IntKind.i64.wrap ((n:Int)+1)=(n:Int)+1:=by rw[IntKind.wrap_i64];omega
 have hw2:IntKind.i64.wrap ((n:Int)+1 - (i:Int))=(n:Int)+1 - (i:Int):=by rw[IntKind.wrap_i64];omega
 have hw3:IntKind.i64.wrap ((i:Int)+1)=(i:Int)+1:=by rw[IntKind.wrap_i64];omega
 have hne:decide ((i:Int)=(n:Int))=false:=by simp;omega
 have hgr:decide ((cap:Int) < (n:Int)+1)=true:=by simp;omega
 have hz2: ¬((i:Int)=(n:Int)):=by omega
 have hci: ¬(cap=i):=by omega
 go_enter Tryz.func116,Tryz.ntmps116
 go_wp2_with (at_builtin;refine wpList_append_zeros rfl _ _ 48 3 rfl 75 _ 8 104 Tryz.underlying48 Tryz.underlying3 VTy.info rfl (by decide) ⟨g,0,none⟩ i (n+1 - i) cap ((n:Int)+1 - (i:Int)) rfl rfl (by omega) X HXL.out HXC.out (by omega) (by omega) (by omega) (by omega) ?_)
 intro w1 G cur1 h1 ht1 hl1 hG1 hG2 hb1
 have hb1':=hb1
 have hgN0:g < N:=by omega
 have hvN0:vb < N:=by omega
 rw[←hN] at h1 hb1
 rw[show i+(n+1 - i)=n+1 by omega,←hN]
 rw[show i+(n+1 - i)=n+1 by omega] at hG1
 have HN:=jD hN
 clear hN hb1'
 have hGi: ¬(G=i):=by omega
 have hGi1: ¬(G=i+1):=by omega
 go_wp2_with (refine wpList_copyS rfl _ _ 48 48 rfl 75 8 Tryz.underlying48 VTy.size (some ⟨N,i*8,none⟩) (some ⟨vb,0,none⟩) (n+1 - i) (G - i) 1 1 rfl rfl N (i*8) cur1 _ h1.out 1 c (by simp only[Nat.min_def];split <;> omega) (by omega) (fun _=>⟨rfl,_,rfl,HVC.out _ (hb1.block vb hvN0)⟩) (by omega) h1c ?_)
 intro w2 h2 hr2
 have hgN:g≠N:=by omega
 have hgk:w2.heap[g]? =w.heap[g]? :=(hr2.other g hgN).trans (hb1.block g hgN0)
 have hsl:(splice cur1 (i*8) c).length=G*8:=by rw[length_splice _ _ _ (by omega),hl1]
 have hb3:(i:Int)≤(n:Int):=by omega
 have htn:((i:Int)+1).toNat=i+1:=by omega
 have hb2:(0:Int)≤(i:Int)+1:=by omega
 go_wp2_with fail
 go_region_law (refine step_copyS rfl _ _ 48 48 rfl 75 8 Tryz.underlying48 VTy.size (some ⟨N,(i+1)*8,none⟩) (some ⟨g,i*8,none⟩) (n+1 - (i+1)) (G - (i+1)) (n - i) (cap - i) (by simp[Act.eval,Act.put]) (by simp[Act.eval,Act.put]) N ((i+1)*8) (splice cur1 (i*8) c) _ h2.out (n - i) D (by simp only[Nat.min_def];split <;> omega) HDL.out (fun _=>⟨rfl,_,rfl,HDC.out _ hgk⟩) (by rw[hsl,HDL.out];omega) hD1 ?_;intro w3 h3 hr3)
 have hr3':RowBut w2 w3 N:=⟨hr3.os,hr3.tape,hr3.output,hr3.size,hr3.other⟩
 have hB2:B≤N:=by have:=HN.out;have:=HBS.out;omega
 have hend:=splice_mid2 cur1 X c D (i*8) HXL.out ht1 (by rw[hc8,HDL.out,hl1];omega)
 rw[hc8,HDL.out,show i*8+8=(i+1)*8 by omega,show(i+1)*8+(n - i)*8=(n+1)*8 by omega] at hend
 have HEND:=jD hend
 have HFB:=jD (hr3'.below (hr2.below (HBL.out.trans (hb1.mono hB2)) hB2) hB2)
 clear hend hr3 hr3' hr2 hb1
 go_wp2
 go_ret
 refine⟨_,rfl,⟨by rw[List.length_append,List.length_append,HXL.out,hc8,HDL.out];omega, .inr ⟨N,G,_,rfl,hB2,h3.out,hG1,hG2,by rw[List.size_toArray,length_splice _ _ _ (by rw[hsl,HDL.out];omega),hsl], ?_⟩⟩,HFB.out⟩
 rw[List.toList_toArray];exact HEND.out
theorem vins_shift (B:Nat) (w0 w:World) (g n cap i:Nat) (cur:List Value) (vb:Nat) (c:List Value) (tb:TypeId) (hbl:Below B w0 w) (hB:B≤g) (hi:i < n) (hn:n≤1000) (hroom:n+1≤cap) (hcm:cap≤maxLen)
  (hg:w.heap[g]? =some (.cells cur.toArray 75 (0,0))) (hcl:cur.length=cap*8) (h1x: ∀u∈cur.take (n*8),u.oneCell'=true)
  (hvb:w.heap[vb]? =some (.cells c.toArray tb (0,0))) (hc8:c.length=8) (h1c: ∀u∈c,u.oneCell'=true):
  Calls Tryz.prog 116 #[.slice (some ⟨g,0,none⟩) n cap, .int .i64 i, .slice (some ⟨vb,0,none⟩) 1 1] w fun e w'=> ∃s',e= .returned s'∧w'.ownsRow B 75 8 s' (n+1) (cur.take (i*8)++c++(cur.take (n*8)).drop (i*8))∧Below B w0 w':=by
 have hgv:vb≠g:=by
  rintro rfl
  rw[hvb] at hg
  simp only[Option.some.injEq,Obj.cells.injEq] at hg
  have:=congrArg Array.size hg.1
  simp only[List.size_toArray] at this
  omega
 obtain⟨D,hD⟩: ∃D,D=(cur.take (n*8)).drop (i*8):=⟨_,rfl⟩
 have hDl:D.length=(n - i)*8:=by rw[hD,List.length_drop,List.length_take];omega
 have hD1: ∀u∈D,u.oneCell'=true:=fun u hu=>h1x u (by rw[hD] at hu;exact List.mem_of_mem_drop hu)
 obtain⟨X,hX⟩: ∃X,X=cur.take (i*8):=⟨_,rfl⟩
 have hXl:X.length=i*8:=by rw[hX,List.length_take];omega
 have HDC:=jD (fun (W:World) (hW:W.heap[g]? =w.heap[g]?) j u (hj:D[j]? =some u)=>(show W.cell? ((⟨g,i*8,none⟩:Addr).add j)=some u by
  rw[Addr.add_lit]
  rw[hD,List.getElem?_drop,List.getElem?_take] at hj
  split at hj
  ·exact cell_of_block (hW.trans hg) (by simpa using hj)
  ·simp at hj))
 have HVC:=jD (fun (W:World) (hW:W.heap[vb]? =w.heap[vb]?) j u (hj:c[j]? =some u)=>(show W.cell? ((⟨vb,0,none⟩:Addr).add j)=some u by
  rw[Addr.add_lit,Nat.zero_add];exact cell_of_block (hW.trans hvb) (by simpa using hj)))
 have hsa:w.shape? vb=some (tb,8):=by simp[World.shape?,hvb,hc8]
 have hsb:w.shape? g=some (75,cap*8):=by simp[World.shape?,hg,hcl]
 have hov: ∀lb cb,(callFunc 161 #[.slice (some ⟨vb,0,none⟩) 1 1, .slice (some ⟨g,(i+1)*8,none⟩) lb cb]).run Tryz.prog w= .ok (.value (.bool false)) w:=fun lb cb=>by
  rw[run_callFunc_extern Tryz.func161 (by kernel_rfl) (by kernel_rfl) (by kernel_rfl) (e:=Extern.SlicesOverlaps.overlaps #[48,48] #[4]) (by kernel_rfl),
   Lib.run_overlaps_apart w 48 4 75 Tryz.underlying48 8 (by
    intro w
    obtain⟨inf,hi,hz0,hsize,hby⟩:=info_parts VTy.info
    simp[Go.sizeOf,typeInfo,hi,hsize]) ⟨vb,0,none⟩ ⟨g,(i+1)*8,none⟩ 1 1 lb cb hgv tb 75 8 (cap*8) hsa hsb (by omega) (free_of_block hvb) (free_of_block hvb)]
  rfl
 have HG:=jD hg
 have HBL:=jD hbl
 have HXL:=jD hXl
 have HDL:=jD hDl
 have HXE:=jD hX.symm
 rw[←hX,←hD]
 clear hX hD hg hvb hbl h1x hXl hDl hsa hsb
 have hw1:IntKind.i64.wrap ((n:Int)+1)=(n:Int)+1:=by rw[IntKind.wrap_i64];omega
 have hw3:IntKind.i64.wrap ((i:Int)+1)=(i:Int)+1:=by rw[IntKind.wrap_i64];omega
 have hne:decide ((i:Int)=(n:Int))=false:=by simp;omega
 have hcm2:cap≤9223372036854775807:=by unfold maxLen at hcm;omega
 have hgr:decide ((cap:Int) < (n:Int)+1)=false:=by simp;omega
 have hz2: ¬((i:Int)=(n:Int)):=by omega
 have hci: ¬(cap=i):=by omega
 have hci1: ¬(cap=i+1):=by omega
 have htn1:((n:Int)+1).toNat=n+1:=by omega
 have htn:((i:Int)+1).toNat=i+1:=by omega
 have hb2:(0:Int)≤(i:Int)+1:=by omega
 have hb3:(i:Int)≤(n:Int):=by omega
 have hb4:(i:Int)≤(n:Int)+1:=by omega
 have hb5:(n:Int)+1≤(cap:Int):=by omega
 go_enter Tryz.func116,Tryz.ntmps116
 go_wp2_with (simp only[hov])
 go_region_law (refine step_copyS rfl _ _ 48 48 rfl 75 8 Tryz.underlying48 VTy.size (some ⟨g,(i+1)*8,none⟩) (some ⟨g,i*8,none⟩) (n+1 - (i+1)) (cap - (i+1)) (n+1 - i) (cap - i) (by simp[Act.eval,Act.put]) (by simp[Act.eval,Act.put]) g ((i+1)*8) cur _ HG.out (n - i) D (by simp only[Nat.min_def];split <;> omega) HDL.out (fun _=>⟨rfl,_,rfl,HDC.out _ rfl⟩) (by rw[hcl,HDL.out];omega) hD1 ?_;intro w2 h2 hr2)
 have hr2':RowBut w w2 g:=⟨hr2.os,hr2.tape,hr2.output,hr2.size,hr2.other⟩
 have hsl:(splice cur ((i+1)*8) D).length=cap*8:=by rw[length_splice _ _ _ (by rw[HDL.out];omega),hcl]
 clear hr2 hov
 go_wp2_with (refine wpList_copyS rfl _ _ 48 48 rfl 75 8 Tryz.underlying48 VTy.size (some ⟨g,i*8,none⟩) (some ⟨vb,0,none⟩) (n+1 - i) (cap - i) 1 1 rfl rfl g (i*8) (splice cur ((i+1)*8) D) _ h2.out 1 c (by simp only[Nat.min_def];split <;> omega) (by omega) (fun _=>⟨rfl,_,rfl,HVC.out _ (hr2'.other vb hgv)⟩) (by rw[hsl];omega) h1c ?_)
 intro w3 h3 hr3
 have hend:=splice_mid cur X c D (i*8) HXL.out HXE.out (by rw[hc8,HDL.out,hcl];omega)
 rw[hc8,HDL.out,show i*8+8=(i+1)*8 by omega,show(i+1)*8+(n - i)*8=(n+1)*8 by omega] at hend
 have HEND:=jD hend
 have HFB:=jD (hr3.below (hr2'.below HBL.out hB) hB)
 clear hend hr3 hr2'
 go_wp2
 go_ret
 refine⟨_,rfl,⟨by rw[List.length_append,List.length_append,HXL.out,hc8,HDL.out];omega, .inr ⟨g,cap,_,rfl,hB,h3.out,hroom,hcm,by rw[List.size_toArray,length_splice _ _ _ (by rw[hsl];omega),hsl], ?_⟩⟩,HFB.out⟩
 rw[List.toList_toArray];exact HEND.out
theorem vins_c (B:Nat) (w0 w:World) (s:Value) (n i:Nat) (xs:List Value) (vb:Nat) (c:List Value) (tb:TypeId) (hbl:Below B w0 w) (hB:B≤w.heap.size) (hown:w.ownsRow B 75 8 s n xs) (hi:i≤n) (hn:n≤1000) (h1x: ∀u∈xs,u.oneCell'=true)
  (hvb:w.heap[vb]? =some (.cells c.toArray tb (0,0))) (hc8:c.length=8) (h1c: ∀u∈c,u.oneCell'=true):
  Calls Tryz.prog 116 #[s, .int .i64 i, .slice (some ⟨vb,0,none⟩) 1 1] w fun e w'=> ∃s',e= .returned s'∧w'.ownsRow B 75 8 s' (n+1) (xs.take (i*8)++c++xs.drop (i*8))∧Below B w0 w':=by
 by_cases hin:i=n
 ·subst hin
  have h:=vins_end B w0 w s i xs vb c tb hbl hB hown hn hvb hc8 h1c
  have hl:=hown.1
  rw[List.take_of_length_le (by omega),List.drop_of_length_le (by omega),List.append_nil]
  exact h
 ·rcases hown.2 with⟨-,rfl⟩ | ⟨g,cap,cur,rfl,hbg,hg,hnc,hcm,hcs,htake⟩
  ·omega
  ·have e:xs.take (i*8)=cur.toList.take (i*8):=by rw[←htake,List.take_take];congr 1;omega
   have hg':w.heap[g]? =some (.cells cur.toList.toArray 75 (0,0)):=by simpa using hg
   rw[e,←htake]
   by_cases hroom:n+1≤cap
   ·exact vins_shift B w0 w g n cap i cur.toList vb c tb hbl hbg (by omega) hn hroom hcm hg' (by simpa using hcs) (by rw[htake];exact h1x) hvb hc8 h1c
   ·exact vins_grow B w0 w g n cap i cur.toList vb c tb hbl hB (by omega) hn hnc (by omega) hg' (by simpa using hcs) (by rw[htake];exact h1x) hvb hc8 h1c
theorem PredV.below {D:Ver→Prop} {g:FuncId} {caps:Array Value} {p:Ver→Bool} {w W:World} (h:PredV D g caps p w) (hb:Below w.heap.size w W):PredV D g caps p W:=
 ⟨h.1,fun v u x W' hD hb' hk=>h.2 v u x W' hD (bstep hb hb') hk⟩
def filtC {α: Type} (p:α→ Bool):List α→ List (List Value)→List (List Value)
 | v::l,c::cs=>if p v=true then c::filtC p l cs else filtC p l cs
 | _,_=>[]
theorem filtC_els {α: Type} {E:Elt α} {w:World} (p:α→ Bool): ∀ {l:List α} {cs:List (List Value)},Els E w l cs→Els E w (l.filter p) (filtC p l cs)
 | [],[],_=>trivial
 | v::l,c::cs,h=>by
  unfold filtC
  cases hp:p v
  ·rw[List.filter_cons_of_neg (by rw[hp];decide),if_neg (by decide)];exact filtC_els p h.2
  ·rw[List.filter_cons_of_pos hp,if_pos rfl];exact ⟨h.1,filtC_els p h.2⟩
 | [],_::_,h=>h.elim
 | _::_,[],h=>h.elim
theorem filtC_append {α: Type} (p:α→ Bool): ∀ {l:List α} {cs:List (List Value)} {m:List α} {ds:List (List Value)},l.length=cs.length→filtC p (l++m) (cs++ds)=filtC p l cs++filtC p m ds
 | [],[],_,_,_=>by simp[filtC]
 | v::l,c::cs,m,ds,h=>by
  have ih:=filtC_append p (l:=l) (cs:=cs) (m:=m) (ds:=ds) (by simpa using h)
  simp only[List.cons_append,filtC]
  split
  ·rw[ih];rfl
  ·exact ih
 | [],_::_,_,_,h=>by simp at h
 | _::_,[],_,_,h=>by simp at h
theorem filtC_all {α: Type} (p:α→ Bool): ∀ {l:List α} {cs:List (List Value)},l.length=cs.length→(∀v∈l,p v=true)→filtC p l cs=cs
 | [],[],_,_=>rfl
 | v::l,c::cs,h,hp=>by
  unfold filtC
  rw[if_pos (hp v (by simp)),filtC_all p (by simpa using h) fun x hx=>hp x (by simp[hx])]
 | [],_::_,h,_=>by simp at h
 | _::_,[],h,_=>by simp at h
theorem filtC_step {α: Type} (p:α→ Bool) {l:List α} {cs:List (List Value)} {q:Nat} {c:List Value} (hl:l.length=cs.length) (hq:q < l.length) (hc:cs[q]? =some c):
  filtC p (l.take (q+1)) (cs.take (q+1))=filtC p (l.take q) (cs.take q)++if p l[q]=true then [c] else []:=by
 obtain⟨hq2,rfl⟩:=List.getElem?_eq_some_iff.1 hc
 rw[List.take_succ_eq_append_getElem hq,List.take_succ_eq_append_getElem hq2,filtC_append p (by rw[List.length_take,List.length_take,hl])]
 congr 1
theorem firstI_spec {α: Type} {p:α→ Bool} {l:List α} :(firstI p l= -1∧ ∀v∈l,p v=false)∨ ∃i:Nat,firstI p l=i∧ ∃h:i < l.length,p l[i]=true∧ ∀j (hj:j < i),p (l[j]'(by omega))=false:=by
 unfold firstI
 cases h:l.findIdx? p with
 | none=>
  rw[List.findIdx?_eq_none_iff] at h
  exact .inl ⟨rfl,h⟩
 | some i=>
  rw[List.findIdx?_eq_some_iff_getElem] at h
  obtain⟨h1,h2,h3⟩:=h
  exact .inr ⟨i,rfl,h1,h2,fun j hj=>by simpa using h3 j hj⟩
structure DSt (w0:World) (g cap:Nat) (cur0 X:List Value) (k q:Nat) (wr:World):Prop where
 ex: ∃cur:List Value,wr.heap[g]? =some (.cells cur.toArray 75 (0,0))∧cur.length=cap*8∧cur.take (k*8)=X∧cur.drop (q*8)=cur0.drop (q*8)
 bel:Below w0.heap.size w0 wr
theorem splice_take {L C:List Value} {a:Nat} (h:a+C.length≤L.length):(splice L a C).take (a+C.length)=L.take a++C:=by
 unfold splice
 rw[←List.append_assoc,List.take_append_of_le_length (by rw[List.length_append,List.length_take];omega),List.take_of_length_le (by rw[List.length_append,List.length_take];omega)]
theorem splice_drop {L C:List Value} {a b:Nat} (h:a+C.length≤b) (hl:a+C.length≤L.length):(splice L a C).drop b=L.drop b:=by
 unfold splice
 rw[←List.append_assoc,List.drop_append,List.drop_of_length_le (by rw[List.length_append,List.length_take];omega),List.nil_append,List.drop_drop,List.length_append,List.length_take]
 congr 1;omega
theorem splice_take0 {L C:List Value} {a:Nat} (h:a≤L.length):(splice L a C).take a=L.take a:=by
 unfold splice
 rw[List.take_append_of_le_length (by rw[List.length_take];omega),List.take_take];congr 1;omega
theorem get_of_drop {L M:List Value} {a j:Nat} (h:L.drop a=M.drop a):L[a+j]? =M[a+j]? :=by
 have:=congrArg (·[j]?) h
 simpa[List.getElem?_drop] using this
theorem vdel_c (D:Ver→Prop) (w0 w:World) (s:Value) (l:List Ver) (g0:FuncId) (caps:Array Value) (p:Ver→Bool) (hbl:Below w0.heap.size w0 w) (hown:RowOwn verE w0 w w0.heap.size 75 s l) (hn:l.length≤1000) (hD: ∀v∈l,D v) (hp:PredV D g0 caps p w0):
  Calls Tryz.prog 93 #[s, .func (.func g0) #[] caps] w fun e w'=> ∃s',e= .returned s'∧RowOwn verE w0 w' w0.heap.size 75 s' (l.filter fun v=> !p v)∧Below w0.heap.size w0 w':=by
 have hp1:=hp.below hbl
 have hat:=hown.at_ (Sub.of_below hbl) (by omega)
 have HI:=jD (indexV_c D s l g0 caps p w hat hD hp1)
 have HP:=jD hp.2
 have hcall:=hp.1
 have HD:=jD hD
 obtain⟨css,hels,hrow⟩:=hown
 replace hrow:w.ownsRow w0.heap.size 75 8 s l.length css.flatten:=hrow
 have hlc:l.length=css.length:=hels.length.symm
 clear hat hp hp1 hD
 rcases firstI_spec (p:=p) (l:=l) with⟨h1,hall⟩ | ⟨i,h1,hi,hpi,hpj⟩
 ·have hfl:(l.filter fun v=> !p v)=l:=List.filter_eq_self.2 fun v hv=>by rw[hall v hv];rfl
  rw[hfl]
  rw[h1] at HI
  have HROW:=jD (show RowOwn verE w0 w w0.heap.size 75 s l from⟨css,hels,hrow⟩)
  have HBL:=jD hbl
  obtain⟨a,cap,rfl⟩:=owns_slice hrow
  clear hels hrow hall hbl hcall hlc
  go_enter Tryz.func93,Tryz.ntmps93
  go_wp2_with fail
  (with_reducible refine(HI.out).mono ?_)
  rintro e w1 ⟨rfl,hb1⟩
  have hr:=HROW.out.below hb1
  have hb:=bstep HBL.out hb1
  clear hb1
  go_wp2
  go_ret
  exact⟨_,rfl,hr,hb⟩
 ·rw[h1] at HI
  rcases hrow.2 with⟨-,h0⟩ | ⟨g,cap,cur,rfl,hbg,hg,hnc,hcm,hcs,htake⟩
  ·omega
  obtain⟨cur0,hcur⟩: ∃c:List Value,c=cur.toList:=⟨_,rfl⟩
  have hg':w.heap[g]? =some (.cells cur0.toArray 75 (0,0)):=by rw[hcur];simpa using hg
  have hcl:cur0.length=cap*8:=by rw[hcur];simpa using hcs
  rw[←hcur] at htake
  have hlens:=hels.lens
  have HT:=jD (fun (q:Nat) (hq:q≤l.length)=>(show(css.take q).flatten=cur0.take (q*8) by
   rw[css_take (n:=8) hlens,←htake,List.take_take];congr 1;show min (q*8) (l.length*8)=q*8;omega))
  have HTK:=jD htake
  have hst:DSt w0 g cap cur0 (filtC (fun v=> !p v) (l.take (i+1)) (css.take (i+1))).flatten i (i+1) w:=by
   refine⟨⟨cur0,hg',hcl, ?_,rfl⟩,hbl⟩
   obtain⟨c, -,hc, -⟩:=hels.cell i hi
   rw[filtC_step _ hlc hi hc,if_neg (by rw[hpi];decide),List.append_nil,filtC_all _ (by rw[List.length_take,List.length_take,hlc]) (fun v hv=>by
    obtain⟨j,hj,rfl⟩:=List.getElem_of_mem hv
    rw[List.length_take] at hj
    rw[List.getElem_take,hpj j (by omega)];rfl),HT.out i (by omega)]
  have hki:((l.take (i+1)).filter fun v=> !p v).length=i:=by
   rw[List.take_succ_eq_append_getElem hi,List.filter_append,List.filter_cons_of_neg (by rw[hpi];decide),List.filter_nil,List.append_nil,List.filter_eq_self.2 fun v hv=>by
    obtain⟨j,hj,rfl⟩:=List.getElem_of_mem hv
    rw[List.length_take] at hj
    rw[List.getElem_take,hpj j (by omega)];rfl]
   rw[List.length_take];omega
  have HST:=jD hst
  have HKI:=jD hki
  have HEL:=jD hels
  have HLC:=jD hlc
  have HCL:=jD hcl
  have HFE:=jD (fun (X:List (List Value))=>show X=X from rfl)
  clear hst hki hels hrow hlens hg hg' hcs hcur hpj htake hbl hlc hcl
  have hw1:IntKind.i64.wrap ((i:Int)+1)=(i:Int)+1:=by rw[IntKind.wrap_i64];omega
  have hm1:((i:Int)== -1)=false:=by rw[beq_eq_false_iff_ne];omega
  go_enter Tryz.func93,Tryz.ntmps93
  go_wp2_with fail
  (with_reducible refine(HI.out).mono ?_)
  rintro e w1 ⟨rfl,hb1⟩
  have HST1:=jD (show DSt w0 g cap cur0 (filtC (fun v=> !p v) (l.take (i+1)) (css.take (i+1))).flatten i (i+1) w1 by
   obtain⟨⟨cur,h2,h3⟩,h4⟩:=HST.out
   exact⟨⟨cur,below_keep hb1 h2,h3⟩,bstep h4 hb1⟩)
  clear HST hb1 HI
  go_wp2
  go_loopw [5,6] (fun iv jv wr=> ∃k q:Nat,iv= .int .i64 k∧jv= .int .i64 q∧k+1≤q∧q≤l.length∧((l.take q).filter fun v=> !p v).length=k∧DSt w0 g cap cur0 (filtC (fun v=> !p v) (l.take q) (css.take q)).flatten k q wr) (fun _ jv _=>l.length - (intOf jv).toNat)
  case atStart=>exact ⟨i,i+1,rfl,by go_num,Nat.le_refl _,by omega,HKI.out,HST1.out⟩
  case round=>
   obtain⟨k,q,rfl,rfl,hkq,hq,hkl,hst⟩:=hrel
   have HKL:=jD hkl
   have HSR:=jD hst
   clear hkl hst HST1
   by_cases hlt:q < l.length
   ·obtain⟨c,⟨u,x,rfl,hk2⟩,hcq,hcc⟩:=HEL.out.cell q hlt
    obtain⟨⟨cur,hgc,hcl,htk,hdr⟩,hbel⟩:=HSR.out
    have hcell:=fun (j:Nat) (y:Value) (hj:j < 8) (hy:(verC l[q] u x).toList[j]? =some y)=>(show wr.cell? ⟨g,q*8+j,none⟩=some y from
     cell_of_block hgc (by
      have e1:=hcc j y hy
      have e2:cur[q*8+j]? =cur0[q*8+j]? :=get_of_drop hdr
      have e3:cur0[q*8+j]? =css.flatten[q*8+j]? :=by rw[←HTK.out,List.getElem?_take_of_lt (by omega)]
      rw[List.getElem?_toArray,e2,e3];exact e1))
    have c0:=hcell 0 _ (by decide) rfl
    have c1:=hcell 1 _ (by decide) rfl
    have c2:=hcell 2 _ (by decide) rfl
    have c3:=hcell 3 _ (by decide) rfl
    have c4:=hcell 4 _ (by decide) rfl
    have c5:=hcell 5 _ (by decide) rfl
    have c6:=hcell 6 _ (by decide) rfl
    have c7:=hcell 7 _ (by decide) rfl
    rw[Nat.add_zero] at c0
    obtain⟨ua,uc,rfl⟩:=hk2.vec.shape
    obtain⟨xa,xc,rfl⟩:=hk2.more.shape
    have hbx:=bal (W:=wr) (.cells (verC l[q] (.slice ua l[q].past.vec.length uc) (.slice xa l[q].past.more.length xc)) 75)
    have HV:=jD (HP.out l[q] (.slice ua l[q].past.vec.length uc) (.slice xa l[q].past.more.length xc) _ (HD.out _ (List.getElem_mem hlt)) (bstep hbel hbx) ((hk2.below hbel).below hbx))
    have HNB:=jD (alloc_new wr (verC l[q] (.slice ua l[q].past.vec.length uc) (.slice xa l[q].past.more.length xc)) 75 _ rfl)
    have HBX:=jD hbx
    have HGC:=jD hgc
    have HBEL:=jD hbel
    have HS1:=jD (filtC_step (fun v=> !p v) HLC.out hlt hcq)
    have HF1:=jD (show((l.take (q+1)).filter fun v=> !p v)=((l.take q).filter fun v=> !p v)++[l[q]].filter fun v=> !p v by rw[List.take_succ_eq_append_getElem hlt,List.filter_append])
    have hD8:=jD (show cur.drop ((q+1)*8)=cur0.drop ((q+1)*8) by
     have e:(q+1)*8=q*8+8:=by omega
     rw[e,←List.drop_drop,←List.drop_drop,hdr])
    clear hcell hcc hk2 hbx hgc hbel hdr
    generalize hvq:l[q]=v1 at*
    have HTKK:=jD htk
    have HCLL:=jD hcl
    clear htk hcl hcq HSR
    unfold verC at HV
    have hltb:decide ((q:Int) < (l.length:Int))=true:=by simp;omega
    go_wp2_with fail
    refine(HV.out).mono ?_
    rintro e w2 ⟨rfl,hb2⟩
    have hB2:=below_keep hb2 HNB.out
    have hG2:=jD (below_keep hb2 (alloc_keep (.cells (verC v1 (.slice ua v1.past.vec.length uc) (.slice xa v1.past.more.length xc)) 75) HGC.out))
    have HB2:=jD (bstep (bstep HBEL.out HBX.out) hb2)
    clear hb2 HBX HV c0 c1 c2 c3 c4 c5 c6 c7
    cases hpv:p v1
    ·have e0:=cell_of_block (j:=0) hB2 rfl
     have e1:=cell_of_block (j:=1) hB2 rfl
     have e2:=cell_of_block (j:=2) hB2 rfl
     have e3:=cell_of_block (j:=3) hB2 rfl
     have e4:=cell_of_block (j:=4) hB2 rfl
     have e5:=cell_of_block (j:=5) hB2 rfl
     have e6:=cell_of_block (j:=6) hB2 rfl
     have e7:=cell_of_block (j:=7) hB2 rfl
     have hkn:decide ((k:Int) < (l.length:Int))=true:=by simp;omega
     clear hB2
     go_wp2_with (refine wpList_store_at rfl 75 _ _ rfl g (k*8) (verC v1 (.slice ua v1.past.vec.length uc) (.slice xa v1.past.more.length xc)) rfl rfl 75 cur hG2.out (by kernel_rfl) (by rw[HCLL.out];show k*8+8≤_;omega) (by intro z hz;simp only[verC,List.mem_cons,List.not_mem_nil,or_false] at hz;rcases hz with rfl | rfl | rfl | rfl | rfl | rfl | rfl | rfl <;> rfl) ?_)
     intro w3 h3 hr3
     have HN1:=jD (show((l.take (q+1)).filter fun v=> !p v).length=k+1 by
      rw[HF1.out,List.length_append,HKL.out,List.filter_cons_of_pos (by rw[hpv];rfl)];rfl)
     have HX1:=jD (show DSt w0 g cap cur0 (filtC (fun v=> !p v) (l.take (q+1)) (css.take (q+1))).flatten (k+1) (q+1) w3 by
      have e8:(verC v1 (.slice ua v1.past.vec.length uc) (.slice xa v1.past.more.length xc)).toList.length=8:=rfl
      refine⟨⟨_,h3.out,by rw[length_splice _ _ _ (by rw[e8,HCLL.out];omega),HCLL.out], ?_, ?_⟩,hr3.below HB2.out hbg⟩
      ·rw[show(k+1)*8=k*8+(verC v1 (.slice ua v1.past.vec.length uc) (.slice xa v1.past.more.length xc)).toList.length by rw[e8];omega,splice_take (by rw[e8,HCLL.out];omega),HTKK.out,HS1.out,if_pos (by rw[hpv];rfl),List.flatten_append,List.flatten_cons,List.flatten_nil,List.append_nil]
      ·rw[splice_drop (by rw[e8];omega) (by rw[e8,HCLL.out];omega)];exact hD8.out)
     clear h3 hr3 hpv e0 e1 e2 e3 e4 e5 e6 e7
     go_wp2
     go_roundw
     case rel=>exact ⟨k+1,q+1,by go_num,by go_num,by omega,by omega,HN1.out,HX1.out⟩
     case measure=>simp [intOf] <;> omega
    ·have HN1:=jD (show((l.take (q+1)).filter fun v=> !p v).length=k by
      rw[HF1.out,List.length_append,HKL.out,List.filter_cons_of_neg (by rw[hpv];decide)];rfl)
     have HX1:=jD (show DSt w0 g cap cur0 (filtC (fun v=> !p v) (l.take (q+1)) (css.take (q+1))).flatten k (q+1) w2 from
      ⟨⟨_,hG2.out,HCLL.out,by rw[HTKK.out,HS1.out,if_neg (by rw[hpv];decide),List.append_nil],hD8.out⟩,HB2.out⟩)
     clear hpv hB2
     go_wp2
     go_roundw
     case rel=>exact ⟨k,q+1,rfl,by go_num,by omega,by omega,HN1.out,HX1.out⟩
     case measure=>simp [intOf] <;> omega
   ·obtain rfl:q=l.length:=by omega
    rw[List.take_length] at HKL
    have hct:css.take l.length=css:=by rw[HLC.out,List.take_length]
    rw[List.take_length,hct] at HSR
    obtain⟨⟨cur,hgc,hcl,htk, -⟩,hbel⟩:=HSR.out
    have HGC:=jD hgc
    have HBEL:=jD hbel
    have HTKK:=jD htk
    have HCLL:=jD hcl
    clear hgc hbel htk hcl hct HSR
    have hkc: ¬(cap=k):=by omega
    go_wp2_with (refine wpList_clearS rfl _ 48 rfl 75 _ 8 104 Tryz.underlying48 VTy.info rfl (by decide) g (k*8) (l.length - k) (cap - k) (some ⟨g,k*8,none⟩) (fun _=>rfl) rfl cur _ HGC.out (by rw[HCLL.out];omega) ?_)
    intro w3 zs h3 hz hr3
    have hFIN:=jD (show RowOwn verE w0 w3 w0.heap.size 75 (.slice (some ⟨g,0,none⟩) k cap) (l.filter fun v=> !p v) by
     refine⟨_,filtC_els _ HEL.out, ?_⟩
     rw[HKL.out]
     have hfl:=(filtC_els (fun v=> !p v) HEL.out).flat
     rw[HKL.out] at hfl
     refine⟨hfl, .inr ⟨g,cap,_,rfl,hbg,h3.out,by omega,hcm,by rw[List.size_toArray,length_splice _ _ _ (by rw[hz,HCLL.out];omega),HCLL.out];rfl, ?_⟩⟩
     rw[List.toList_toArray]
     show(splice cur (k*8) zs).take (k*8)=_
     rw[splice_take0 (by rw[HCLL.out];omega),HTKK.out])
    have HB3:=jD (hr3.below HBEL.out hbg)
    clear h3 hr3
    go_wp2
    go_ret
    exact⟨_,rfl,hFIN.out,HB3.out⟩
end Go.Proofs.YtgkgdedhicnohaaGreat
