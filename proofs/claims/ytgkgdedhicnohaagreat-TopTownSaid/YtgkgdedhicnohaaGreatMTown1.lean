/- What a town does with one of its sites: is there such a one, Make, Want, Shelf, Has. Written by a small program (gen/town1.py). How a town begins. What a town's Send does. Written by a small program (gen/town2.py). What a town's Make does. Written by a small program (gen/town3.py). What a town's Way does. slices.Delete over letters, and what a town's Lose does. Written by a small program (gen/town5.py). -/
import Derived.Test.YtgkgdedhicnohaaGreatMTown0
import Derived.Test.YtgkgdedhicnohaaGreatMSiteC
import Derived.Test.YtgkgdedhicnohaaGreatPartS
import Derived.Test.YtgkgdedhicnohaaGreatMPartO
import Derived.Test.YtgkgdedhicnohaaGreatMSiteB
import Derived.Test.YtgkgdedhicnohaaGreatMCl3
import Derived.Test.YtgkgdedhicnohaaGreatMWireU
import Derived.Test.YtgkgdedhicnohaaGreatMForm
import Derived.Test.YtgkgdedhicnohaaGreatMShelf11
namespace Go.Proofs.YtgkgdedhicnohaaGreat
open Go.RowKit
set_option maxRecDepth 100000 in
set_option maxHeartbeats 4000000 in
theorem tis_c (g n cap:Nat) (a:Option Addr) (wv:Value) (i:Int) (w:World) (h:w.heap[g]? =some (.cells #[.slice a n cap,wv] 117 (0,0))):
  Calls Tryz.prog 66 #[.pointer (some ⟨g,0,none⟩), .int .i64 i] w fun e w'=>e= .returned (.bool (decide (0≤i)&&decide (i < (n:Int))))∧Below w.heap.size w w':=by
 have c0:w.cell? ⟨g,0,none⟩=some (.slice a n cap):=cell_of_block (j:=0) h rfl
 go_enter Tryz.func66,Tryz.ntmps66
 by_cases h0:0≤i
 ·have d0:decide (0≤i)=true:=decide_eq_true h0
  cases h1:decide (i < (n:Int))
  ·go_wp2
   go_ret
   exact⟨by rw[d0];rfl,Below.refl _ _⟩
  ·go_wp2
   go_ret
   exact⟨by rw[d0];rfl,Below.refl _ _⟩
 ·have d0:decide (0≤i)=false:=decide_eq_false h0
  go_wp2
  go_ret
  exact⟨rfl,Below.refl _ _⟩
set_option maxRecDepth 100000 in
theorem tis_in {g n cap:Nat} {a:Option Addr} {wv:Value} {i:Nat} (hi:i < n) (w:World) (h:w.heap[g]? =some (.cells #[.slice a n cap,wv] 117 (0,0))):
  Calls Tryz.prog 66 #[.pointer (some ⟨g,0,none⟩), .int .i64 (i:Nat)] w fun e w'=>e= .returned (.bool true)∧Below w.heap.size w w':=
 (tis_c g n cap a wv i w h).mono fun e w' hh=>by
  obtain⟨h1,h2⟩:=hh
  rw[decide_eq_true (show(0:Int)≤(i:Int) by omega),decide_eq_true (show(i:Int) < (n:Int) by omega)] at h1
  exact⟨h1,h2⟩
set_option maxRecDepth 100000 in
set_option maxHeartbeats 4000000 in
theorem tshelf_c (g b:Nat) (T:Nat→Prop) (t:TownS) (i:Nat) (hi:i < t.sites.length) (w:World) (h:TownAt w b T g t):
  Calls Tryz.prog 25 #[.pointer (some ⟨g,0,none⟩), .int .i64 (i:Nat)] w fun e w'=> ∃a c,e= .returned (.tuple #[.slice a t.sites[i].L.length c, .int .i64 0])∧VOwn w' w.heap.size (.slice a t.sites[i].L.length c) t.sites[i].L∧Below w.heap.size w w':=by
 obtain⟨qs,cap,gi,wv,hblk,hqs,hq,hS,hTi,hne,hqg,hset⟩:=h.use hi
 have HSET:=Lib.hid hset
 have HBK:=Lib.hid hblk
 have HSI:=Lib.hid hS
 have HGL:=Lib.hid h.lt
 have HGI:=Lib.hid hS.lt
 have HQ:=Lib.hid hq
 have hi0:decide ((0:Int)≤(i:Int))=true:=by simp
 have hin:decide ((i:Int) < (t.sites.length:Int))=true:=by simp;omega
 clear h hblk hS hset hTi hne hqg hq hqs
 go_enter Tryz.func25,Tryz.ntmps25
 go_wp2_with fail
 (with_reducible refine(tis_in hi w HBK.out).mono ?_)
 rintro e w1 ⟨rfl,hb⟩
 have HB1:=Lib.hid hb
 have c0:w1.cell? ⟨g,0,none⟩=some (.slice (some ⟨qs,0,none⟩) t.sites.length cap):=cell_of_block (j:=0) (below_keep hb HBK.out) rfl
 have cq:=ckeep hb HQ.out
 have HS1:=Lib.hid (HSI.out.below hb)
 clear hb
 go_wp2_with fail
 clear c0 cq
 (with_reducible refine(sshelf_c gi b _ w1 HS1.out).mono ?_)
 rintro e w2 ⟨a,c,rfl,hv,hb⟩
 have HV:=Lib.hid (VOwn.mono hv HB1.out.size)
 have HB2:=Lib.hid (bstep HB1.out hb)
 clear hv hb
 go_wp2
 go_ret2
 exact⟨_,_,rfl,HV.out,HB2.out⟩
end Go.Proofs.YtgkgdedhicnohaaGreat
namespace Go.Proofs.YtgkgdedhicnohaaGreat
open Go.RowKit
def newL (l:List Bxs):List SiteS:=l.mapIdx fun i F=>newS i (ptsOf F)
theorem newL_snoc (l:List Bxs) (F:Bxs):newL (l++[F])=newL l++[newS l.length (ptsOf F)]:=by unfold newL;rw [List.mapIdx_concat]
theorem newL_len (l:List Bxs):(newL l).length=l.length:=by unfold newL;rw [List.length_mapIdx]
theorem newL_get {l:List Bxs} {i:Nat} (h:i < (newL l).length) (h2:i < l.length):(newL l)[i]=newS i (ptsOf l[i]):=List.getElem_mapIdx ..
def newT (l:List Bxs):TownS:=⟨newL l,[]⟩
theorem newT_ok {l:List Bxs} (h:l.length≤5):TownOk (newT l):=by
 refine⟨fun i hi=> ?_,by show(newL l).length≤5;rw [newL_len];exact h,fun l hl=>by simp[newT] at hl,by simp[newT]⟩
 have hi':i < (newL l).length:=hi
 show(newL l)[i].me=i
 rw[newL_get hi' (by rw[newL_len] at hi';exact hi')];rfl
set_option maxRecDepth 100000 in
theorem PtrTy.info:(Tryz.prog.info? 43).map (fun i=>(i.zero,i.size,i.bytes))=some (some (.pointer none),1,8):=rfl
theorem SitesAt.nil (w:World) (b:Nat):SitesAt w b [] []:=⟨rfl,List.nodup_nil,fun i h=>absurd h (by simp)⟩
theorem SitesAt.snoc {w:World} {b g:Nat} {gs:List Nat} {l:List SiteS} {s:SiteS} (h:SitesAt w b gs l) (hs:SiteAt w b g s) (hg:g∉gs):SitesAt w b (gs++[g]) (l++[s]):=by
 refine⟨by simp[h.len], ?_,fun i h1 h2=> ?_⟩
 ·rw[List.nodup_append]
  exact⟨h.nd,by simp,fun a ha b hb e=>by rw[List.mem_singleton] at hb;subst hb;subst e;exact hg ha⟩
 ·by_cases hi:i < gs.length
  ·rw[List.getElem_append_left hi,List.getElem_append_left (by have:=h.len;omega)]
   exact h.each i hi _
  ·have hi2:i=gs.length:=by simp at h1;omega
   subst hi2
   rw[List.getElem_append_right (by omega),List.getElem_append_right (by have:=h.len;omega)]
   simp only[Nat.sub_self,h.len,List.getElem_singleton]
   exact hs
structure NwSt (w:World) (BT:Nat) (l:List Bxs) (wr:World):Prop where
 bel:Below w.heap.size w wr
 at_: ∃sv gs,wr.heap[BT]? =some (.cells #[sv, .slice none 0 0] 117 (0,0))∧wr.ownsRow w.heap.size 43 1 sv l.length (ptrs gs)∧SitesAt wr w.heap.size gs (newL l)
set_option maxRecDepth 100000 in
set_option maxHeartbeats 8000000 in
theorem tnew_c (fv:Value) (l:List Bxs) (T:Nat→Prop) (w:World) (hl:RowAt bxsE w fv l) (h5:l.length≤5) (hc: ∀F∈l,fChk F=0) (hT: ∀q,w.heap.size≤q→T q):
  Calls Tryz.prog 13 #[fv] w fun e w'=> ∃g,e= .returned (.tuple #[.pointer (some ⟨g,0,none⟩), .int .i64 0])∧TownAt w' w.heap.size T g (newT l)∧Below w.heap.size w w':=by
 obtain⟨fa,fc,rfl, -, -, -,hvl⟩:=hl.open_
 have HVL:=Lib.hid hvl
 have HC:=Lib.hid hc
 have HTT:=Lib.hid hT
 have d5:decide ((5:Int) < (l.length:Int))=false:=by simp;omega
 obtain⟨BT,hBT⟩: ∃BT,BT=w.heap.size:=⟨_,rfl⟩
 obtain⟨W0,hW0⟩: ∃W0,W0=w.alloc (.cells #[.slice none 0 0, .slice none 0 0] 117):=⟨_,rfl⟩
 have M0:=Lib.hid (show NwSt w BT [] W0 from⟨by rw[hW0];exact bal _,_,[],by rw[hW0];exact alloc_new _ _ _ _ hBT,World.ownsRow_nil _ _ _ _,SitesAt.nil _ _⟩)
 have HBT:=Lib.hid hBT
 clear hl hvl hc hT
 go_enter Tryz.func13,Tryz.ntmps13
 go_wp2_with fail
 rw[←hBT,←hW0]
 clear hBT hW0
 go_loopw [16] (fun i wr=> ∃k:Nat,k≤l.length∧i= .int .i64 k∧NwSt w BT (l.take k) wr) (fun i _=>l.length - (intOf i).toNat)
 case atStart=>exact ⟨0,Nat.zero_le _,rfl,M0.out⟩
 case round=>
  clear M0
  obtain⟨k,hk,rfl,hst⟩:=hrel
  by_cases hlt:k < l.length
  rotate_left
  ·obtain rfl:k=l.length:=by omega
   rw[List.take_length] at hst
   have hkb:decide ((l.length:Int) < (l.length:Int))=false:=by simp
   have HST:=Lib.hid hst
   clear hst
   go_wp2
   go_ret2
   obtain⟨hb,sv,gs,h1,h2,h3⟩:=HST.out
   have hlen:gs.length=l.length:=by have:=h3.len;rw [newL_len] at this;exact this
   exact⟨BT,rfl,⟨newT_ok h5,⟨by rw[HBT.out];exact Nat.le_refl _,HTT.out _ (by rw[HBT.out];exact Nat.le_refl _)⟩,sv,_,gs,[],h1,by rw[hlen];exact h2,h3,fun q hq=>by
    obtain⟨i,hi,rfl⟩:=List.getElem_of_mem hq
    exact HTT.out _ (h3.each i hi (by rw[newL_len];omega)).ge,LetsAt.nil _ _,World.ownsRow_nil _ _ _ _,fun q hq=>by simp[Value.ownBlock] at hq⟩,hb⟩
  rcases HVL.out with hnil | ⟨b,off,rfl,hb,hcl⟩
  ·rw[hnil] at hlt;simp at hlt
  obtain⟨cc,⟨v,rfl,hv⟩,hcc⟩:=hcl k hlt
  have c0:=hst.bel.cell (p:=⟨b,off+k,none⟩) hb |>.trans (by have:=hcc 0 _ rfl;simpa [bxsE] using this)
  have HBX:=Lib.hid (hv.below hst.bel)
  have HCK:=Lib.hid (HC.out _ (List.getElem_mem hlt))
  have HTK:=Lib.hid (show l.take (k+1)=l.take k++[l[k]] from List.take_succ_eq_append_getElem hlt)
  have HTL:=Lib.hid (show(l.take k).length=k by rw[List.length_take];omega)
  generalize l[k]=F at*
  generalize l.take k=lk at*
  have HST:=Lib.hid hst
  obtain⟨xa,xc,hvv⟩:=hv.shape
  subst hvv
  have hkb:decide ((k:Int) < (l.length:Int))=true:=by simp;omega
  clear hst hv hcl hcc
  go_wp2_with fail
  clear c0
  (with_reducible refine(snew_c k _ F wr (by omega) HBX.out HCK.out).mono ?_)
  rintro e w2 ⟨gn,rfl,hs,hb2⟩
  obtain⟨hbel,sv,gs,h1,h2,h3⟩:=HST.out
  have HS:=Lib.hid (SiteAt.mono hs hbel.size)
  have HB2:=Lib.hid (bstep hbel hb2)
  have HGN:=Lib.hid (show gn∉gs from fun hm=>by
   obtain⟨i,hi,e⟩:=List.getElem_of_mem hm
   have h4:=(h3.each i hi (by have:=h3.len;omega)).lt
   have h5:=hs.ge
   omega)
  obtain⟨sa,sc,rfl⟩:=owns_slice h2
  have HBK:=Lib.hid (below_keep hb2 h1)
  have HROW:=Lib.hid (owns_below h2 hb2)
  have HSS:=Lib.hid (h3.below hb2)
  clear hs hb2 hbel h1 h2 h3 HST
  have q0:w2.cell? ⟨BT,0,none⟩=some (.slice sa lk.length sc):=cell_of_block (j:=0) HBK.out rfl
  have HN:=Lib.hid (show ∀j u,[Value.pointer (some ⟨gn,0,none⟩)][j]? =some u→(w2.alloc (.cells #[.pointer (some ⟨gn,0,none⟩)] 43)).cell? ((⟨w2.heap.size,0,none⟩:Addr).add j)=some u from fun j u hj=>by
   rw[Addr.add_lit,Nat.zero_add]
   exact cell_of_block (j:=j) (alloc_new _ _ _ _ rfl) (by simpa using hj))
  have HR4:=Lib.hid (owns_below HROW.out (bal (W:=w2) (.cells #[.pointer (some ⟨gn,0,none⟩)] 43)))
  have hbs:w.heap.size≤(w2.alloc (.cells #[.pointer (some ⟨gn,0,none⟩)] 43)).heap.size:=by have:=HB2.out.size;rw [World.size_alloc];omega
  have hl5:lk.length≤5:=by have:=HTL.out;omega
  go_wp2_with (at_builtin;refine wpList_append_ownS rfl (.tmp 34) (.tmp 36) 26 rfl w.heap.size 43 (.pointer none) 1 8 Tryz.underlying26 PtrTy.info rfl (by decide) _ lk.length (ptrs gs) rfl HR4.out ⟨w2.heap.size,0,none⟩ 1 1 _ rfl rfl HN.out (by intro u hu;simp only[List.mem_singleton] at hu;subst hu;rfl) (by unfold maxLen;omega) (by omega) hbs ?_)
  intro v9 w9 A
  obtain⟨va,vc,hva⟩:=owns_slice A.own
  subst hva
  have S9:=Lib.hid ((Stp.of_below (G:=fun q=>(Value.slice sa lk.length sc).ownBlock=some q) (bal (W:=w2) (.cells #[.pointer (some ⟨gn,0,none⟩)] 43))).trans (A.stp HR4.out (by decide)))
  have hg9:=grown_keep HR4.out A.grown (alloc_keep _ HBK.out) (by decide)
  have HG9:=Lib.hid hg9
  have HA:=Lib.hid A
  have r0:=cell_of_block (j:=0) hg9 rfl
  have r1:=free_of_block (j:=0) hg9
  have r2:=hlt_of hg9
  have HB9:=Lib.hid ((HB2.out.alloc (by have:=HB2.out.size;omega) _).grown A.grown hbs (fun q hq=>(HR4.out.lt q hq).1))
  clear A hg9 q0 hbs
  have HBG:=Lib.hid (show w.heap.size≤BT by rw[HBT.out];exact Nat.le_refl _)
  go_wp2
  go_roundw
  case rel=>
   refine⟨k+1,by omega,by go_num, ?_⟩
   rw[HTK.out]
   have hset:=Stp.set (j:=0) (v:= .slice va (lk.length+1) vc) HG9.out (by decide)
   have hoff: ∀q,q∈gs++[gn]→ ¬(Value.slice sa lk.length sc).ownBlock=some q:=fun q hq he=>by
    have hty: ∃cs,w2.heap[q]? =some (Obj.cells cs 128 (0,0)):=by
     rcases List.mem_append.1 hq with hq | hq
     ·obtain⟨i,hi,rfl⟩:=List.getElem_of_mem hq
      exact(HSS.out.each i hi (by have:=HSS.out.len;omega)).ty
     ·rw[List.mem_singleton.1 hq];exact HS.out.ty
    obtain⟨cs,hcs⟩:=hty
    exact own_off HROW.out hcs (by decide) he
   have hoff2: ∀q,q∈gs++[gn]→ ¬q=BT:=fun q hq he=>by
    have hty: ∃cs,w2.heap[q]? =some (Obj.cells cs 128 (0,0)):=by
     rcases List.mem_append.1 hq with hq | hq
     ·obtain⟨i,hi,rfl⟩:=List.getElem_of_mem hq
      exact(HSS.out.each i hi (by have:=HSS.out.len;omega)).ty
     ·rw[List.mem_singleton.1 hq];exact HS.out.ty
    obtain⟨cs,hcs⟩:=hty
    rw[he] at hcs
    exact absurd (heap_ty HBK.out hcs) (by decide)
   refine⟨HB9.out.setCell (p:=⟨BT,0,none⟩) HBG.out _, .slice va (lk.length+1) vc,gs++[gn],by rw[heap_set_same HG9.out];rfl, ?_, ?_⟩
   ·have e1:ptrs (gs++[gn])=ptrs gs++[.pointer (some ⟨gn,0,none⟩)]:=by unfold ptrs;rw [List.map_append];rfl
    rw[e1,List.length_append,List.length_singleton]
    exact own_set HA.out.own HG9.out (by decide)
   ·rw[newL_snoc,show newS ((lk.length:Nat):Int) (ptsOf F)=newS (k:Int) (ptsOf F) by rw[HTL.out]]
    have hh:=HSS.out.snoc HS.out HGN.out
    exact(hh.stp S9.out hoff).stp hset hoff2
  case measure=>simp [intOf] <;> omega
end Go.Proofs.YtgkgdedhicnohaaGreat
namespace Go.Proofs.YtgkgdedhicnohaaGreat
open Go.RowKit
def sendE (t:TownS) (i to:Nat):Int:=if i=to then 1 else if 60≤t.way.length then 2 else 0
def sendR (t:TownS) (i:Nat) (hi:i < t.sites.length) (to:Nat):TownS:=if sendE t i to=0 then sendT t i hi to else t
set_option maxRecDepth 100000 in
set_option maxHeartbeats 8000000 in
theorem tsend_c (g b:Nat) (T:Nat→Prop) (t:TownS) (i to:Nat) (hi:i < t.sites.length) (hto:to < t.sites.length) (w:World) (h:TownAt w b T g t) (hTn: ∀q,w.heap.size≤q→T q):
  Calls Tryz.prog 19 #[.pointer (some ⟨g,0,none⟩), .int .i64 (i:Nat), .int .i64 (to:Nat)] w fun e w'=>e= .returned (.int .i64 (sendE t i to))∧TownAt w' b T g (sendR t i hi to)∧Stp T w w':=by
 obtain⟨qs,cap,gi,wv,hblk,hqs,hq,hS,hTi,hne,hqg, -⟩:=h.use hi
 have HT:=Lib.hid h
 have HTN:=Lib.hid hTn
 have HBK:=Lib.hid hblk
 have HSI:=Lib.hid hS
 have HGL:=Lib.hid h.lt
 have HQ:=Lib.hid hq
 have hwv: ∃wa wc,wv= .slice wa t.way.length wc:=by
  obtain⟨sv2,wv2,css2,h2, -,h3, -⟩:=h.letters
  rw[hblk] at h2
  simp only[Option.some.injEq,Obj.cells.injEq,and_true,Array.mk.injEq,List.cons.injEq] at h2
  obtain⟨-,rfl⟩:=h2
  exact owns_slice h3
 obtain⟨wa,wc,rfl⟩:=hwv
 have hi0:decide ((0:Int)≤(i:Int))=true:=by simp
 have hin:decide ((i:Int) < (t.sites.length:Int))=true:=by simp;omega
 clear h hblk hS hTi hne hqg hq hqs hTn
 go_enter Tryz.func19,Tryz.ntmps19
 go_wp2_with fail
 (with_reducible refine(tis_in hi w HBK.out).mono ?_)
 rintro e w1 ⟨rfl,hb⟩
 have HB1:=Lib.hid hb
 have HBK1:=Lib.hid (below_keep hb HBK.out)
 clear hb
 go_wp2_with fail
 (with_reducible refine(tis_in hto w1 HBK1.out).mono ?_)
 rintro e w2 ⟨rfl,hb⟩
 have HB2:=Lib.hid (bstep HB1.out hb)
 have HBK2:=Lib.hid (below_keep hb HBK1.out)
 clear hb HB1
 by_cases heq:i=to
 ·have hd:((i:Int)==(to:Int))=true:=by simp[heq]
  have he:sendE t i to=1:=by unfold sendE;rw [if_pos heq]
  have HR:=Lib.hid (show sendR t i hi to=t by unfold sendR;rw [if_neg (by rw[he];decide)])
  have HE:=Lib.hid he
  clear he heq
  go_wp2
  go_ret
  exact⟨by rw[HE.out];rfl,by rw[HR.out];exact HT.out.below HB2.out,Stp.of_below HB2.out⟩
 have hd:((i:Int)==(to:Int))=false:=by simp;omega
 have HNE:=Lib.hid heq
 have c1:w2.cell? ⟨g,1,none⟩=some (.slice wa t.way.length wc):=cell_of_block (j:=1) HBK2.out rfl
 by_cases h60:60≤t.way.length
 ·have hd6:decide ((60:Int)≤(t.way.length:Int))=true:=by simp;omega
  have he:sendE t i to=2:=by unfold sendE;rw [if_neg heq,if_pos h60]
  have HR:=Lib.hid (show sendR t i hi to=t by unfold sendR;rw [if_neg (by rw[he];decide)])
  have HE:=Lib.hid he
  clear he heq h60
  go_wp2
  go_ret
  exact⟨by rw[HE.out];rfl,by rw[HR.out];exact HT.out.below HB2.out,Stp.of_below HB2.out⟩
 have hd6:decide ((60:Int)≤(t.way.length:Int))=false:=by simp;omega
 have he:sendE t i to=0:=by unfold sendE;rw [if_neg heq,if_neg h60]
 have HR:=Lib.hid (show sendR t i hi to=sendT t i hi to by unfold sendR;rw [if_pos he])
 have H60:=Lib.hid h60
 have HE:=Lib.hid he
 have c0:w2.cell? ⟨g,0,none⟩=some (.slice (some ⟨qs,0,none⟩) t.sites.length cap):=cell_of_block (j:=0) HBK2.out rfl
 have cq:=ckeep HB2.out HQ.out
 have HS2:=Lib.hid (HSI.out.below HB2.out)
 clear he heq h60
 go_wp2_with fail
 clear c0 c1 cq
 (with_reducible refine(ask_c gi b _ w2 HS2.out).mono ?_)
 rintro e w3 ⟨fv,pv,rfl,hf,hp,hb⟩
 obtain⟨fa,fn,fc,hfv⟩:=FO.shape0 hf
 obtain⟨pa,pc,hpv⟩:=hp.shape
 subst hfv hpv
 have HFO:=Lib.hid hf
 have HPO:=Lib.hid hp
 have HB3:=Lib.hid (bstep HB2.out hb)
 have HT3:=Lib.hid (HT.out.below HB3.out)
 have HBK3:=Lib.hid (below_keep hb HBK2.out)
 have HWS:=Lib.hid (show w.heap.size≤w2.heap.size from HB2.out.size)
 clear hf hp hb HBK2 HB2 HS2 HT
 have c0:w3.cell? ⟨g,0,none⟩=some (.slice (some ⟨qs,0,none⟩) t.sites.length cap):=cell_of_block (j:=0) HBK3.out rfl
 have c1:w3.cell? ⟨g,1,none⟩=some (.slice wa t.way.length wc):=cell_of_block (j:=1) HBK3.out rfl
 have hgl:=hlt_of HBK3.out
 obtain⟨WA,hWA⟩: ∃WA,WA=w3.alloc (.cells #[.int .i64 t.sites[i].me, .int .i64 t.sites[i].stamp, .slice fa fn fc, .slice pa (knownS t.sites[i]).length pc] 56):=⟨_,rfl⟩
 have hbA:Below w3.heap.size w3 WA:=by rw[hWA];exact bal _
 have HTA:=Lib.hid (HT3.out.below hbA)
 have HBA:=Lib.hid (bstep HB3.out hbA)
 have HASK:=Lib.hid (show AskBk WA b w3.heap.size (askS t.sites[i]) from⟨_,_,by rw[hWA];exact alloc_new _ _ _ _ rfl,FO.mono (HFO.out.below hbA) (by have:=HTA.out.ge.1;have:=HGL.out;have:=HWS.out;omega),PtsOwnA.mono (HPO.out.below hbA) (by have:=HTA.out.ge.1;have:=HGL.out;have:=HWS.out;omega)⟩)
 have HBKA:=Lib.hid (below_keep hbA HBK3.out)
 obtain⟨sv2,wv2,css,h2,hlets,hrow,hT2,hset⟩:=HTA.out.letters
 have he2:=HBKA.out
 rw[h2] at he2
 simp only[Option.some.injEq,Obj.cells.injEq,and_true,Array.mk.injEq,List.cons.injEq] at he2
 obtain⟨rfl,rfl⟩:=he2
 have HLETS:=Lib.hid hlets
 have HROWA:=Lib.hid hrow
 have HT2:=Lib.hid hT2
 have HSET:=Lib.hid hset
 have HROW:=Lib.hid (show((w3.alloc (.cells #[.int .i64 t.sites[i].me, .int .i64 t.sites[i].stamp, .slice fa fn fc, .slice pa (knownS t.sites[i]).length pc] 56)).alloc (.cells #[.int .i64 (to:Nat), .pointer (some ⟨w3.heap.size,0,none⟩), .pointer none] 136)).ownsRow b 136 3 (.slice wa t.way.length wc) t.way.length css.flatten by rw[←hWA];exact owns_below hrow (bal _))
 have HWA:=Lib.hid hWA
 have HN:=Lib.hid (show ∀j u,[Value.int .i64 (to:Nat), .pointer (some ⟨w3.heap.size,0,none⟩), .pointer none][j]? =some u→((w3.alloc (.cells #[.int .i64 t.sites[i].me, .int .i64 t.sites[i].stamp, .slice fa fn fc, .slice pa (knownS t.sites[i]).length pc] 56)).alloc (.cells #[.int .i64 (to:Nat), .pointer (some ⟨w3.heap.size,0,none⟩), .pointer none] 136)).cell? ((⟨w3.heap.size+1,0,none⟩:Addr).add j)=some u from fun j u hj=>by
  rw[Addr.add_lit,Nat.zero_add]
  exact cell_of_block (j:=j) (alloc_new _ _ _ _ (by rw[World.size_alloc])) (by simpa using hj))
 have HON:=Lib.hid (show ∀u∈[Value.int .i64 (to:Nat), .pointer (some ⟨w3.heap.size,0,none⟩), .pointer none],u.oneCell'=true by intro u hu;simp only[List.mem_cons,List.not_mem_nil,or_false] at hu;rcases hu with rfl | rfl | rfl <;> rfl)
 have hbs:b≤((w3.alloc (.cells #[.int .i64 t.sites[i].me, .int .i64 t.sites[i].stamp, .slice fa fn fc, .slice pa (knownS t.sites[i]).length pc] 56)).alloc (.cells #[.int .i64 (to:Nat), .pointer (some ⟨w3.heap.size,0,none⟩), .pointer none] 136)).heap.size:=by
  have:=HTA.out.ge.1;have:=HTA.out.lt;rw [World.size_alloc,←hWA];omega
 have HBS:=Lib.hid hbs
 have h60:=H60.out
 clear hlets hrow hT2 hset h2 hbA hWA hbs
 go_wp2_with (at_builtin;refine wpList_append_ownS rfl (.tmp 39) (.tmp 42) 115 rfl b 136 (.agg #[.int .i64 0, .pointer none, .pointer none]) 3 24 Tryz.underlying115 LetTy.info rfl (by decide) _ t.way.length css.flatten rfl HROW.out ⟨w3.heap.size+1,0,none⟩ 1 1 _ rfl rfl HN.out HON.out (by unfold maxLen;omega) (by omega) HBS.out ?_)
 intro v' w5 A
 obtain⟨va,vc,hva⟩:=owns_slice A.own
 subst hva
 have HA:=Lib.hid A
 have HW:=Lib.hid (town_push HTA.out HBKA.out HLETS.out HROWA.out HT2.out HSET.out (x:= .ask to (askS t.sites[i])) ⟨_,rfl,HASK.out⟩ (ask_letOk HTA.out.ok hi hto HSI.out.ok) (by omega) (fun q hq=>HTN.out q (Nat.le_trans HBA.out.size hq)) (by rw[HWA.out];exact bal _) HA.out)
 have hr4:=HROW.out
 rw[←HWA.out] at hr4
 have hg5:=grown_keep hr4 (by have:=HA.out.grown;rw [←HWA.out] at this;exact this) (alloc_keep _ HBKA.out) (by decide)
 have q1:=cell_of_block (j:=1) hg5 rfl
 have f1:=free_of_block (j:=1) hg5
 have hgl5:=hlt_of hg5
 clear A hr4 h60 hgl c0 c1
 go_wp2
 go_ret
 refine⟨by rw[HE.out];rfl,by rw[HR.out];exact HW.out.1,(Stp.of_below HBA.out).trans HW.out.2⟩
end Go.Proofs.YtgkgdedhicnohaaGreat
namespace Go.Proofs.YtgkgdedhicnohaaGreat
open Go.RowKit
def madeD (s:SiteS) (id:ByteArray) (a n bd:Int):Int×Int:=if madeE s id a n bd=0 then(s.me,s.made+1) else(0,0)
set_option maxRecDepth 100000 in
set_option maxHeartbeats 8000000 in
theorem tmake_c (g b:Nat) (T:Nat→Prop) (t:TownS) (i:Nat) (hi:i < t.sites.length) (id:ByteArray) (a n bd:Int) (wz:World) (h:TownAt wz b T g t):
  Calls Tryz.prog 18 #[.pointer (some ⟨g,0,none⟩), .int .i64 (i:Nat), .string id, .agg #[.int .i64 a, .int .i64 n], .int .i64 bd] wz fun e w'=>e= .returned (.tuple #[.agg #[.int .i64 (madeD t.sites[i] id a n bd).1, .int .i64 (madeD t.sites[i] id a n bd).2], .int .i64 (madeE t.sites[i] id a n bd)])∧TownAt w' b T g (makeT t i hi id a n bd)∧Stp T wz w':=by
 obtain⟨qs,cap,gi,wv,hblk,hqs,hq,hS,hTi,hne,hqg,hset⟩:=h.use hi
 obtain⟨d0,hd0⟩: ∃d0,d0=(madeD t.sites[i] id a n bd).1:=⟨_,rfl⟩
 obtain⟨d1,hd1⟩: ∃d1,d1=(madeD t.sites[i] id a n bd).2:=⟨_,rfl⟩
 obtain⟨E9,hE9⟩: ∃E9,E9=madeE t.sites[i] id a n bd:=⟨_,rfl⟩
 obtain⟨s9,hs9⟩: ∃s9,s9=madeS t.sites[i] id a n bd:=⟨_,rfl⟩
 have HMK:=Lib.hid (fun (wx:World) (hx:SiteAt wx b gi t.sites[i])=>show Calls Tryz.prog 17 #[.pointer (some ⟨gi,0,none⟩), .string id, .agg #[.int .i64 a, .int .i64 n], .int .i64 bd] wx fun e w'=>e= .returned (.tuple #[.agg #[.int .i64 d0, .int .i64 d1], .int .i64 E9])∧SiteAt w' b gi s9∧Stp (fun q=>q=gi) wx w' from
  (smake_c gi b t.sites[i] id a n bd wx hx).mono fun e w' hh=>by
   obtain⟨h1,h2,h3⟩:=hh
   refine⟨?_,by rw[hs9];exact h2,h3⟩
   rw[h1,hd0,hd1,hE9]
   unfold madeD
   by_cases e:madeE t.sites[i] id a n bd=0
   ·rw[if_pos e,if_pos e,if_pos e]
   ·rw[if_neg e,if_neg e,if_neg e])
 have HSET:=Lib.hid (fun (w':World) (hs:Stp (fun q=>q=gi) wz w') (hn:SiteAt w' b gi s9)=>show TownAt w' b T g (makeT t i hi id a n bd) from by
  unfold makeT;rw [←hs9];exact hset w' s9 hs hn (by rw[hs9];exact (madeS_me _ _ _ _ _).1))
 rw[←hd0,←hd1,←hE9]
 have HTI:=Lib.hid hTi
 have HBK:=Lib.hid hblk
 have HSI:=Lib.hid hS
 have HGI:=Lib.hid hS.lt
 have HNE:=Lib.hid hne
 have HQ:=Lib.hid hq
 have hi0:decide ((0:Int)≤(i:Int))=true:=by simp
 have hin:decide ((i:Int) < (t.sites.length:Int))=true:=by simp;omega
 clear h hblk hS hset hTi hne hqg hq hqs hd0 hd1 hE9 hs9
 obtain⟨BP,hBP⟩: ∃B,B=wz.heap.size:=⟨_,rfl⟩
 obtain⟨W0,hW0⟩: ∃W0,W0=(wz.alloc (.cells #[.int .i64 a, .int .i64 n] 39)).alloc (.cells #[.int .i64 0, .int .i64 0] 41):=⟨_,rfl⟩
 have HPB:=Lib.hid (show W0.heap[BP]? =some (Obj.cells #[.int .i64 a, .int .i64 n] 39 (0,0)) by rw[hW0];exact alloc_keep _ (alloc_new _ _ _ _ hBP))
 have HDB:=Lib.hid (show W0.heap[BP+1]? =some (Obj.cells #[.int .i64 0, .int .i64 0] 41 (0,0)) by rw[hW0];exact alloc_new _ _ _ _ (by rw[World.size_alloc,hBP]))
 have HB0:=Lib.hid (show Below wz.heap.size wz W0 by rw[hW0];exact (bal _).alloc (by simp) _)
 go_enter Tryz.func18,Tryz.ntmps18
 go_wp2_with fail
 rw[←hBP,←hW0]
 have HBPE:=Lib.hid hBP
 clear hW0 hBP
 have HBK0:=Lib.hid (below_keep HB0.out HBK.out)
 (with_reducible refine(tis_in hi W0 HBK0.out).mono ?_)
 rintro e w1 ⟨rfl,hb⟩
 have HB1:=Lib.hid (bstep HB0.out hb)
 have HP0:=Lib.hid (cell_of_block (j:=0) (below_keep hb HPB.out) rfl:w1.cell? ⟨BP,0,none⟩=some (.int .i64 a))
 have HP1:=Lib.hid (cell_of_block (j:=1) (below_keep hb HPB.out) rfl:w1.cell? ⟨BP,1,none⟩=some (.int .i64 n))
 have HD:=Lib.hid (below_keep hb HDB.out)
 have HC0:=Lib.hid (cell_of_block (j:=0) (below_keep HB1.out HBK.out) rfl:w1.cell? ⟨g,0,none⟩=some (.slice (some ⟨qs,0,none⟩) t.sites.length cap))
 have HCQ:=Lib.hid (ckeep HB1.out HQ.out)
 have HS1:=Lib.hid (HSI.out.below HB1.out)
 have HLT:=Lib.hid (show gi < BP+1 by have:=HGI.out;have:=HBPE.out;omega)
 clear hb
 go_wp2_with fail
 refine Cl3.region0 30 rfl (fun u=>match u with | 0=>[10,13] | _=>[13]) (fun u ww=>match u with | 0=>Below w1.heap.size w1 ww | _=>ww.heap[BP+1]? =some (Obj.cells #[.int .i64 0, .int .i64 0] 41 (0,0))) (fun _=>[]) (fun jq v ww=>match jq with | 0=>v= .pointer (some ⟨g,0,none⟩) | 1=>v= .pointer (some ⟨g,0,none⟩) | 2=>v= .pointer (some ⟨g,0,none⟩) | 3=>v= .slice (some ⟨qs,0,none⟩) t.sites.length cap | 4=>v= .int .i64 (i:Nat) | 5=>v= .pointer (some ⟨qs,i,none⟩) | 6=>v= .pointer (some ⟨gi,0,none⟩) | 7=>v= .string id | 8=>v= .agg #[.int .i64 a, .int .i64 n] | 9=>v= .int .i64 bd | 10=>SiteAt ww b gi s9∧v= .tuple #[.agg #[.int .i64 d0, .int .i64 d1], .int .i64 E9] | 11=>v= .agg #[.int .i64 d0, .int .i64 d1] | 12=>v= .int .i64 E9 | 13=>ww.heap[BP+1]? =some (Obj.cells #[.int .i64 d0, .int .i64 d1] 41 (0,0)) | 14=>v= .int .i64 E9 | _=>True) (fun ww=>Stp (fun q=>q=gi) wz ww) (fun jq ww ww'=>(jq≠10→jq≠13→Below ww.heap.size ww ww')∧(jq=10→Stp (fun q=>q=gi) ww ww')∧(jq=13→DotSet (BP+1) ww ww')) Tryz.mixed (by decide+kernel) (Stp.of_below HB1.out).drew (fun u=>match u with | 0=>(Below.refl _ _).drew | _+1=>HD.out) ?_ (fun jq ww ww' u hk h hR=>match u,hk,h with | 0,hk,h=>(bstep h (hR.1 (by intro e;simp [e] at hk) (by intro e;simp [e] at hk))) | _+1,hk,h=>(by by_cases e:jq=10;exact (hR.2.1 e).block h (by have:=HLT.out;omega);exact below_keep (hR.1 e (by simpa using hk)) h)) ?_ ?_
 ·intro q r v w w' hne hk hlt h hR
  match r,hk,hlt,h,hne with
  | 0,_,_,h,_=>exact h
  | 1,_,_,h,_=>exact h
  | 2,_,_,h,_=>exact h
  | 3,_,_,h,_=>exact h
  | 4,_,_,h,_=>exact h
  | 5,_,_,h,_=>exact h
  | 6,_,_,h,_=>exact h
  | 7,_,_,h,_=>exact h
  | 8,_,_,h,_=>exact h
  | 9,_,_,h,_=>exact h
  | 10,hk,hlt,h,hne=>
   by_cases e:q=13
   ·exact⟨h.1.dot (hR.2.2 e) (by exact HLT.out),h.2⟩
   ·exact⟨h.1.below (hR.1 (by exact hne) e),h.2⟩
  | 11,_,_,h,_=>exact h
  | 12,_,_,h,_=>exact h
  | 13,hk,hlt,h,hne=>
   by_cases e:q=10
   ·subst e;exact absurd hlt (by decide+kernel)
   ·exact below_keep (hR.1 e (by exact hne)) h
  | 14,_,_,h,_=>exact h
  | _+15,_,_,_,_=>trivial
 ·refine⟨?_, ?_, ?_, ?_, ?_, ?_, ?_, ?_, ?_, ?_, ?_, ?_, ?_, ?_, ?_,trivial⟩
  ·intro x wx hG
   have f0:=hG.old 0 (by decide+kernel)
   have hg:=hG.good
   clear hG
   go_wp2
   exact⟨_,rfl,rfl,hg,⟨fun _ _=>Below.refl _ _,fun h=>absurd h (by decide),fun h=>absurd h (by decide)⟩⟩
  ·intro x wx hG
   have g0:(x.tmps.getD 17 undef)= .pointer (some ⟨g,0,none⟩):=hG.claims 0 _ rfl (by decide+kernel) (by decide+kernel)
   have g0b:=g0
   rw[Array.getD_eq_getD_getElem?] at g0b
   have hg:=hG.good
   clear hG
   go_wp2
   exact⟨_,rfl,rfl,hg,⟨fun _ _=>Below.refl _ _,fun h=>absurd h (by decide),fun h=>absurd h (by decide)⟩⟩
  ·intro x wx hG
   have g1:(x.tmps.getD 18 undef)= .pointer (some ⟨g,0,none⟩):=hG.claims 1 _ rfl (by decide+kernel) (by decide+kernel)
   have g1b:=g1
   rw[Array.getD_eq_getD_getElem?] at g1b
   have hg:=hG.good
   clear hG
   go_wp2
   exact⟨_,rfl,rfl,hg,⟨fun _ _=>Below.refl _ _,fun h=>absurd h (by decide),fun h=>absurd h (by decide)⟩⟩
  ·intro x wx hG
   have g2:(x.tmps.getD 19 undef)= .pointer (some ⟨g,0,none⟩):=hG.claims 2 _ rfl (by decide+kernel) (by decide+kernel)
   have g2b:=g2
   rw[Array.getD_eq_getD_getElem?] at g2b
   have hp0:=hG.pre 0 (by decide+kernel)
   have hg:=hG.good
   clear hG
   have c_HC0:=ckeep hp0 HC0.out
   go_wp2
   exact⟨_,rfl,rfl,hg,⟨fun _ _=>Below.refl _ _,fun h=>absurd h (by decide),fun h=>absurd h (by decide)⟩⟩
  ·intro x wx hG
   have f1:=hG.old 1 (by decide+kernel)
   have hg:=hG.good
   clear hG
   go_wp2
   exact⟨_,rfl,rfl,hg,⟨fun _ _=>Below.refl _ _,fun h=>absurd h (by decide),fun h=>absurd h (by decide)⟩⟩
  ·intro x wx hG
   have g3:(x.tmps.getD 20 undef)= .slice (some ⟨qs,0,none⟩) t.sites.length cap:=hG.claims 3 _ rfl (by decide+kernel) (by decide+kernel)
   have g3b:=g3
   rw[Array.getD_eq_getD_getElem?] at g3b
   have g4:(x.tmps.getD 21 undef)= .int .i64 (i:Nat):=hG.claims 4 _ rfl (by decide+kernel) (by decide+kernel)
   have g4b:=g4
   rw[Array.getD_eq_getD_getElem?] at g4b
   have hg:=hG.good
   clear hG
   go_wp2
   exact⟨_,rfl,rfl,hg,⟨fun _ _=>Below.refl _ _,fun h=>absurd h (by decide),fun h=>absurd h (by decide)⟩⟩
  ·intro x wx hG
   have g5:(x.tmps.getD 22 undef)= .pointer (some ⟨qs,i,none⟩):=hG.claims 5 _ rfl (by decide+kernel) (by decide+kernel)
   have g5b:=g5
   rw[Array.getD_eq_getD_getElem?] at g5b
   have hp0:=hG.pre 0 (by decide+kernel)
   have hg:=hG.good
   clear hG
   have c_HCQ:=ckeep hp0 HCQ.out
   go_wp2
   exact⟨_,rfl,rfl,hg,⟨fun _ _=>Below.refl _ _,fun h=>absurd h (by decide),fun h=>absurd h (by decide)⟩⟩
  ·intro x wx hG
   have f2:=hG.old 2 (by decide+kernel)
   have hg:=hG.good
   clear hG
   go_wp2
   exact⟨_,rfl,rfl,hg,⟨fun _ _=>Below.refl _ _,fun h=>absurd h (by decide),fun h=>absurd h (by decide)⟩⟩
  ·intro x wx hG
   have f8:=hG.old 8 (by decide+kernel)
   have hp0:=hG.pre 0 (by decide+kernel)
   have hg:=hG.good
   clear hG
   have c_HP0:=ckeep hp0 HP0.out
   have c_HP1:=ckeep hp0 HP1.out
   go_wp2
   exact⟨_,rfl,rfl,hg,⟨fun _ _=>Below.refl _ _,fun h=>absurd h (by decide),fun h=>absurd h (by decide)⟩⟩
  ·intro x wx hG
   have f4:=hG.old 4 (by decide+kernel)
   have hg:=hG.good
   clear hG
   go_wp2
   exact⟨_,rfl,rfl,hg,⟨fun _ _=>Below.refl _ _,fun h=>absurd h (by decide),fun h=>absurd h (by decide)⟩⟩
  ·intro x wx hG
   have g6:(x.tmps.getD 23 undef)= .pointer (some ⟨gi,0,none⟩):=hG.claims 6 _ rfl (by decide+kernel) (by decide+kernel)
   have g6b:=g6
   rw[Array.getD_eq_getD_getElem?] at g6b
   have g7:(x.tmps.getD 24 undef)= .string id:=hG.claims 7 _ rfl (by decide+kernel) (by decide+kernel)
   have g7b:=g7
   rw[Array.getD_eq_getD_getElem?] at g7b
   have g8:(x.tmps.getD 25 undef)= .agg #[.int .i64 a, .int .i64 n]:=hG.claims 8 _ rfl (by decide+kernel) (by decide+kernel)
   have g8b:=g8
   rw[Array.getD_eq_getD_getElem?] at g8b
   have g9:(x.tmps.getD 26 undef)= .int .i64 bd:=hG.claims 9 _ rfl (by decide+kernel) (by decide+kernel)
   have g9b:=g9
   rw[Array.getD_eq_getD_getElem?] at g9b
   have hp0:=hG.pre 0 (by decide+kernel)
   have hg:=hG.good
   clear hG
   have HN:=Lib.hid (HMK.out wx (HS1.out.below hp0))
   go_wp2_with fail
   (with_reducible refine(HN.out).mono ?_)
   rintro e wq ⟨rfl,h1,h2⟩
   have H1:=Lib.hid h1
   have H2:=Lib.hid h2
   clear h1 h2 HN
   go_wp2
   exact⟨_,rfl,⟨H1.out,rfl⟩,hg.trans H2.out,⟨fun h _=>absurd rfl h,fun _=>H2.out,fun h=>absurd h (by decide)⟩⟩
  ·intro x wx hG
   have g10:SiteAt wx b gi s9∧(x.tmps.getD 27 undef)= .tuple #[.agg #[.int .i64 d0, .int .i64 d1], .int .i64 E9]:=hG.claims 10 _ rfl (by decide+kernel) (by decide+kernel)
   have hg:=hG.good
   clear hG
   have g10v:=g10.2
   have g10vb:=g10v
   rw[Array.getD_eq_getD_getElem?] at g10vb
   go_wp2
   exact⟨_,rfl,rfl,hg,⟨fun _ _=>Below.refl _ _,fun h=>absurd h (by decide),fun h=>absurd h (by decide)⟩⟩
  ·intro x wx hG
   have g10:SiteAt wx b gi s9∧(x.tmps.getD 27 undef)= .tuple #[.agg #[.int .i64 d0, .int .i64 d1], .int .i64 E9]:=hG.claims 10 _ rfl (by decide+kernel) (by decide+kernel)
   have hg:=hG.good
   clear hG
   have g10v:=g10.2
   have g10vb:=g10v
   rw[Array.getD_eq_getD_getElem?] at g10vb
   go_wp2
   exact⟨_,rfl,rfl,hg,⟨fun _ _=>Below.refl _ _,fun h=>absurd h (by decide),fun h=>absurd h (by decide)⟩⟩
  ·intro x wx hG
   have f10:=hG.old 10 (by decide+kernel)
   have g11:(x.tmps.getD 28 undef)= .agg #[.int .i64 d0, .int .i64 d1]:=hG.claims 11 _ rfl (by decide+kernel) (by decide+kernel)
   have g11b:=g11
   rw[Array.getD_eq_getD_getElem?] at g11b
   have g10:SiteAt wx b gi s9∧(x.tmps.getD 27 undef)= .tuple #[.agg #[.int .i64 d0, .int .i64 d1], .int .i64 E9]:=hG.claims 10 _ rfl (by decide+kernel) (by decide+kernel)
   have hp1:=hG.pre 1 (by decide+kernel)
   have hg:=hG.good
   clear hG
   obtain⟨g10, -⟩:=g10
   have gxb:=g11
   rw[Array.getD_eq_getD_getElem?] at gxb
   have r0:=cell_of_block (j:=0) hp1 rfl
   have r1:=cell_of_block (j:=1) hp1 rfl
   have q0:=free_of_block (j:=0) hp1
   have q1:=free_of_block (j:=1) hp1
   have hRl:=hlt_of hp1
   have HQ1:=Lib.hid hp1
   have HG:=Lib.hid hg
   clear hp1 hg g10
   go_wp2
   exact⟨undef,rfl,(heap_set_same (heap_set_same HQ1.out)).trans rfl,DotSet.stp HG.out ⟨BP+1,_,_,by have:=HBPE.out;omega,HQ1.out,rfl⟩,⟨fun _ h=>absurd rfl h,fun h=>absurd h (by decide),fun _=>⟨BP+1,_,_,Nat.le_refl _,HQ1.out,rfl⟩⟩⟩
  ·intro x wx hG
   have g12:(x.tmps.getD 29 undef)= .int .i64 E9:=hG.claims 12 _ rfl (by decide+kernel) (by decide+kernel)
   have g12b:=g12
   rw[Array.getD_eq_getD_getElem?] at g12b
   have hg:=hG.good
   clear hG
   go_wp2
   exact⟨_,rfl,rfl,hg,⟨fun _ _=>Below.refl _ _,fun h=>absurd h (by decide),fun h=>absurd h (by decide)⟩⟩
 ·intro vals w2 hg hF
  obtain⟨g0,g1,g2,g3,g4,g5,g6,g7,g8,g9,g10,g11,g12,g13,g14, -⟩:=hF
  have e0:vals 0= .pointer (some ⟨g,0,none⟩):=g0 rfl
  have e1:vals 1= .pointer (some ⟨g,0,none⟩):=g1 rfl
  have e2:vals 2= .pointer (some ⟨g,0,none⟩):=g2 rfl
  have e3:vals 3= .slice (some ⟨qs,0,none⟩) t.sites.length cap:=g3 rfl
  have e4:vals 4= .int .i64 (i:Nat):=g4 rfl
  have e5:vals 5= .pointer (some ⟨qs,i,none⟩):=g5 rfl
  have e6:vals 6= .pointer (some ⟨gi,0,none⟩):=g6 rfl
  have e7:vals 7= .string id:=g7 rfl
  have e8:vals 8= .agg #[.int .i64 a, .int .i64 n]:=g8 rfl
  have e9:vals 9= .int .i64 bd:=g9 rfl
  replace g10:SiteAt w2 b gi s9∧(vals 10)= .tuple #[.agg #[.int .i64 d0, .int .i64 d1], .int .i64 E9]:=g10 rfl
  have e11:vals 11= .agg #[.int .i64 d0, .int .i64 d1]:=g11 rfl
  have e12:vals 12= .int .i64 E9:=g12 rfl
  replace g13:w2.heap[BP+1]? =some (Obj.cells #[.int .i64 d0, .int .i64 d1] 41 (0,0)):=g13 rfl
  have e14:vals 14= .int .i64 E9:=g14 rfl
  simp only[Cl3.puts,e0,e1,e2,e3,e4,e5,e6,e7,e8,e9,e11,e12,e14]
  clear e0 e1 e2 e3 e4 e5 e6 e7 e8 e9 e11 e12 e14 g0 g1 g2 g3 g4 g5 g6 g7 g8 g9 g11 g12 g14
  go_simp
  generalize vals 10=mk9 at*
  have HST:=Lib.hid hg
  have HSN:=Lib.hid g10.1
  have r0:=cell_of_block (j:=0) g13 rfl
  have r1:=cell_of_block (j:=1) g13 rfl
  clear g10 g13 hg
  go_wp2
  refine bodyPost_ret (v:= .tuple #[.agg #[.int .i64 d0, .int .i64 d1], .int .i64 E9]) (by simp[results,Tryz.results18,go_sem, *]) rfl ?_
  exact⟨rfl,HSET.out _ HST.out HSN.out,HST.out.mono fun k hk=>by rw[hk];exact HTI.out⟩
end Go.Proofs.YtgkgdedhicnohaaGreat
namespace Go.Proofs.YtgkgdedhicnohaaGreat
open Go.RowKit
theorem row_let {w:World} {b base k:Nat} {v:Value} {l:List LetS} {css:List (List Value)} (hr:w.ownsRow base 136 3 v l.length css.flatten) (hl:LetsAt w b l css) (hk:k < l.length):
  ∃qw cap c,v= .slice (some ⟨qw,0,none⟩) l.length cap∧qw < w.heap.size∧css[k]? =some c∧LetAt w b l[k] c∧ ∀j x,c[j]? =some x→w.cell? ⟨qw,k*3+j,none⟩=some x:=by
 have hk2:k < css.length:=by have:=hl.len;omega
 have hf:=hl.flat
 rcases hr.2 with⟨-,h0⟩ | ⟨g,cap,cur,rfl,h2,h3,h4⟩
 ·omega
 ·refine⟨g,cap,css[k],rfl,hlt_of h3,List.getElem?_eq_getElem hk2,hl.each k hk hk2,fun j x hj=> ?_⟩
  have:=hr.cells (g:=g) rfl (k*3+j) x (flat_get hf k (List.getElem?_eq_getElem hk2) j hj)
  rw[Addr.add_lit,Nat.zero_add] at this;exact this
end Go.Proofs.YtgkgdedhicnohaaGreat
namespace Go.Proofs.YtgkgdedhicnohaaGreat
open Go.RowKit
theorem wpList_append_room {P:Program} {w:World} {ops:Array Oper} {rest:List Oper} {o:Oper} {a:Act} {Q:Exit→Act→World→Prop} (hgd:o.guard=none) (s x:Operand) (t:TypeId)
  (ho:o.op= .call { callee:= .builtin .append,args:= #[s,x],argTypes:= #[t,t] })
  (e:TypeId) (z:Value) (size bytes:Nat) (ht:P.underlying t=some (.slice e)) (hinfo:(P.info? e).map (fun i=>(i.zero,i.size,i.bytes))=some (some z,size,bytes))
  (g n cap:Nat) (cur:List Value) (hs:a.eval s= .slice (some ⟨g,0,none⟩) n cap) (hg:w.heap[g]? =some (.cells cur.toArray e (0,0)))
  (ad:Addr) (m c:Nat) (news:List Value) (hx:a.eval x= .slice (some ad) m c) (hl:news.length=m*size) (hnews: ∀j u,news[j]? =some u→w.cell? (ad.add j)=some u) (h1: ∀u∈news,u.oneCell'=true)
  (hroom:n+m≤cap) (hfit:n*size+news.length≤cur.length)
  (h: ∀w',Hid (w'.heap[g]? =some (.cells (splice cur (n*size) news).toArray e (0,0)))→RowBut w w' g→wpList P ops Q rest (a.put o.dst (.slice (some ⟨g,0,none⟩) (n+m) cap)) w'):wpList P ops Q (o::rest) a w:=by
 obtain⟨i,hi,hz,hsize,hby⟩:=info_parts hinfo
 subst hsize
 have hr:=run_append_room (P:=P) w t o.type e i ht hi g n cap cur.toArray hg ad m c news hl hnews h1 hroom (by simpa using hfit)
 refine wpList_plain hgd fun K hK=> ?_
 unfold Oper.wp execOp
 simp only[ho,resolve,invoke,builtin,Sem.run_bind,Sem.run_pure,Result.andThen_ok,List.map_toArray,List.map_cons,List.map_nil,hs,hx,hr]
 refine hK _ _ (h _ ?_ (RowBut.setRow _ _ _))
 refine Lib.hid ?_
 rw[setRow_heap w g _ _ e _ hg]
 simp only[splice,List.append_assoc]
structure DelPost (w:World) (q n cap k:Nat) (cur:List Value) (e:Ending) (w':World):Prop where
 e:e= .returned (.slice (some ⟨q,0,none⟩) (n - 1) cap)
 but:RowBut w w' q
 row: ∃cur':List Value,w'.heap[q]? =some (.cells cur'.toArray 136 (0,0))∧cur'.length=cap*3∧cur'.take ((n - 1)*3)=cur.take (k*3)++(cur.take (n*3)).drop ((k+1)*3)
set_option maxRecDepth 100000 in
set_option maxHeartbeats 8000000 in
theorem tdel_c (q n cap k:Nat) (cur:List Value) (wz:World) (hq:wz.heap[q]? =some (.cells cur.toArray 136 (0,0))) (hcl:cur.length=cap*3) (hn:n≤cap) (hk:k < n) (hn60:n≤60) (hone: ∀u∈cur.take (n*3),u.oneCell'=true):
  Calls Tryz.prog 77 #[.slice (some ⟨q,0,none⟩) n cap, .int .i64 (k:Nat), .int .i64 ((k:Int)+1)] wz (DelPost wz q n cap k cur):=by
 have HQ:=Lib.hid hq
 have HONE:=Lib.hid hone
 have HCL:=Lib.hid hcl
 clear hq hone hcl
 have hd:((k:Int)==(k:Int)+1)=false:=by simp;omega
 go_enter Tryz.func77,Tryz.ntmps77
 have h1:(k:Int)+1≤(n:Int):=by omega
 go_wp2_with fail
 refine Cl3.region0 33 rfl (fun u=>[6]) (fun u ww=>RowBut wz ww q∧ww.heap[q]? =some (.cells cur.toArray 136 (0,0))) (fun _=>[]) (fun jq v ww=>match jq with | 0=>v= .slice (some ⟨q,0,none⟩) n cap | 1=>v= .int .i64 (k:Nat) | 2=>v= .slice (some ⟨q,0,none⟩) k cap | 3=>v= .slice (some ⟨q,0,none⟩) n cap | 4=>v= .int .i64 ((k:Int)+1) | 5=> ∃ad,v= .slice (some ad) (n - (k+1)) (cap - (k+1))∧(k+1 < n→ad=⟨q,(k+1)*3,none⟩) | 6=>RowBut wz ww q∧ww.heap[q]? =some (.cells (splice cur (k*3) ((cur.take (n*3)).drop ((k+1)*3))).toArray 136 (0,0))∧v= .slice (some ⟨q,0,none⟩) (k+(n - (k+1))) cap | 7=>v= .slice (some ⟨q,0,none⟩) (k+(n - (k+1))) cap | _=>True) (fun ww=>True) (fun jq ww ww'=>jq≠6→ww'=ww) Tryz.mixed (by decide+kernel) trivial (fun u=>⟨⟨rfl,rfl,rfl,rfl,fun _ _=>rfl⟩,HQ.out⟩) ?_ (fun jq ww ww' u hk h hR=>by rw[hR (by intro e;simp [e] at hk)];exact h) ?_ ?_
 ·intro q r v w w' hne hk hlt h hR
  match r,hk,hlt,h,hne with
  | 0,_,_,h,_=>exact h
  | 1,_,_,h,_=>exact h
  | 2,_,_,h,_=>exact h
  | 3,_,_,h,_=>exact h
  | 4,_,_,h,_=>exact h
  | 5,_,_,h,_=>exact h
  | 6,hk,hlt,h,hne=>rw [hR (by exact hne)];exact h
  | 7,_,_,h,_=>exact h
  | _+8,_,_,_,_=>trivial
 ·refine⟨?_, ?_, ?_, ?_, ?_, ?_, ?_, ?_,trivial⟩
  ·intro x wx hG
   have f0:=hG.old 0 (by decide+kernel)
   have hg:=hG.good
   clear hG
   go_wp2
   exact⟨_,rfl,rfl,hg,fun _=>rfl⟩
  ·intro x wx hG
   have f1:=hG.old 1 (by decide+kernel)
   have hg:=hG.good
   clear hG
   go_wp2
   exact⟨_,rfl,rfl,hg,fun _=>rfl⟩
  ·intro x wx hG
   have g0:(x.tmps.getD 20 undef)= .slice (some ⟨q,0,none⟩) n cap:=hG.claims 0 _ rfl (by decide+kernel) (by decide+kernel)
   have g0b:=g0
   rw[Array.getD_eq_getD_getElem?] at g0b
   have g1:(x.tmps.getD 21 undef)= .int .i64 (k:Nat):=hG.claims 1 _ rfl (by decide+kernel) (by decide+kernel)
   have g1b:=g1
   rw[Array.getD_eq_getD_getElem?] at g1b
   have hg:=hG.good
   clear hG
   go_wp2
   exact⟨_,rfl,rfl,hg,fun _=>rfl⟩
  ·intro x wx hG
   have f0:=hG.old 0 (by decide+kernel)
   have hg:=hG.good
   clear hG
   go_wp2
   exact⟨_,rfl,rfl,hg,fun _=>rfl⟩
  ·intro x wx hG
   have f2:=hG.old 2 (by decide+kernel)
   have hg:=hG.good
   clear hG
   go_wp2
   exact⟨_,rfl,rfl,hg,fun _=>rfl⟩
  ·intro x wx hG
   have g3:(x.tmps.getD 23 undef)= .slice (some ⟨q,0,none⟩) n cap:=hG.claims 3 _ rfl (by decide+kernel) (by decide+kernel)
   have g3b:=g3
   rw[Array.getD_eq_getD_getElem?] at g3b
   have g4:(x.tmps.getD 24 undef)= .int .i64 ((k:Int)+1):=hG.claims 4 _ rfl (by decide+kernel) (by decide+kernel)
   have g4b:=g4
   rw[Array.getD_eq_getD_getElem?] at g4b
   have hg:=hG.good
   clear hG
   by_cases hck:cap=k+1
   ·go_wp2
    exact⟨_,rfl,⟨⟨q,0,none⟩,by simp[hck],fun h=>by omega⟩,hg,fun _=>rfl⟩
   go_wp2
   exact⟨_,rfl,⟨⟨q,(k+1)*3,none⟩,rfl,fun _=>rfl⟩,hg,fun _=>rfl⟩
  ·intro x wx hG
   have g2:(x.tmps.getD 22 undef)= .slice (some ⟨q,0,none⟩) k cap:=hG.claims 2 _ rfl (by decide+kernel) (by decide+kernel)
   have g2b:=g2
   rw[Array.getD_eq_getD_getElem?] at g2b
   have g5: ∃ad,(x.tmps.getD 25 undef)= .slice (some ad) (n - (k+1)) (cap - (k+1))∧(k+1 < n→ad=⟨q,(k+1)*3,none⟩):=hG.claims 5 _ rfl (by decide+kernel) (by decide+kernel)
   have hp0:=hG.pre 0 (by decide+kernel)
   have hg:=hG.good
   clear hG
   obtain⟨ad,hv,had⟩:=g5
   have hvb:=hv
   rw[Array.getD_eq_getD_getElem?] at hvb
   have HAD:=Lib.hid had
   have HP:=Lib.hid hp0
   have HG:=Lib.hid hg
   clear had hp0 hg
   have HN:=Lib.hid (show ∀j u,((cur.take (n*3)).drop ((k+1)*3))[j]? =some u→wx.cell? (ad.add j)=some u from fun j u hj=>by
    have hj1:j < ((cur.take (n*3)).drop ((k+1)*3)).length:=(List.getElem?_eq_some_iff.1 hj).1
    have hcl:=HCL.out
    rw[List.length_drop,List.length_take] at hj1
    have hlt:k+1 < n:=by omega
    rw[HAD.out hlt,Addr.add_lit]
    refine cell_of_block HP.out.2 ?_
    rw[List.getElem?_drop,List.getElem?_take_of_lt (by omega)] at hj
    simpa using hj)
   have HL:=Lib.hid (show((cur.take (n*3)).drop ((k+1)*3)).length=(n - (k+1))*3 by have hcl:=HCL.out;rw [List.length_drop,List.length_take];omega)
   have HCL2:=Lib.hid (show k*3+((cur.take (n*3)).drop ((k+1)*3)).length≤cur.length by have hcl:=HCL.out;rw [HL.out];omega)
   go_wp2_with (at_builtin;apply Classical.byContradiction;intro hcon)
   refine hcon ?_
   (refine wpList_append_room rfl (.tmp 22) (.tmp 25) 115 rfl 136 (.agg #[.int .i64 0, .pointer none, .pointer none]) 3 24 Tryz.underlying115 LetTy.info q k cap cur (by simp[go_sem, *]) HP.out.2 ad (n - (k+1)) (cap - (k+1)) ((cur.take (n*3)).drop ((k+1)*3)) (by simp[go_sem, *]) HL.out HN.out (fun u hu=>HONE.out u (List.mem_of_mem_drop hu)) (by omega) HCL2.out ?_)
   intro w9 h9 hb9
   have H9:=Lib.hid h9.out
   have HB9:=Lib.hid hb9
   clear h9 hb9 hcon
   go_wp2
   exact⟨_,rfl,⟨⟨HB9.out.os.trans HP.out.1.os,HB9.out.tape.trans HP.out.1.tape,HB9.out.output.trans HP.out.1.output,HB9.out.size.trans HP.out.1.size,fun z hz=>(HB9.out.other z hz).trans (HP.out.1.other z hz)⟩,H9.out,rfl⟩,trivial,fun h=>absurd rfl h⟩
  ·intro x wx hG
   have g6:RowBut wz wx q∧wx.heap[q]? =some (.cells (splice cur (k*3) ((cur.take (n*3)).drop ((k+1)*3))).toArray 136 (0,0))∧(x.tmps.getD 26 undef)= .slice (some ⟨q,0,none⟩) (k+(n - (k+1))) cap:=hG.claims 6 _ rfl (by decide+kernel) (by decide+kernel)
   have hg:=hG.good
   clear hG
   have g6v:=g6.2.2
   have g6vb:=g6v
   rw[Array.getD_eq_getD_getElem?] at g6vb
   go_wp2
   exact⟨_,rfl,rfl,hg,fun _=>rfl⟩
 ·intro vals w2 hg hF
  obtain⟨g0,g1,g2,g3,g4,g5,g6,g7, -⟩:=hF
  have e0:vals 0= .slice (some ⟨q,0,none⟩) n cap:=g0 rfl
  have e1:vals 1= .int .i64 (k:Nat):=g1 rfl
  have e2:vals 2= .slice (some ⟨q,0,none⟩) k cap:=g2 rfl
  have e3:vals 3= .slice (some ⟨q,0,none⟩) n cap:=g3 rfl
  have e4:vals 4= .int .i64 ((k:Int)+1):=g4 rfl
  replace g6:RowBut wz w2 q∧w2.heap[q]? =some (.cells (splice cur (k*3) ((cur.take (n*3)).drop ((k+1)*3))).toArray 136 (0,0))∧(vals 6)= .slice (some ⟨q,0,none⟩) (k+(n - (k+1))) cap:=g6 rfl
  have e7:vals 7= .slice (some ⟨q,0,none⟩) (k+(n - (k+1))) cap:=g7 rfl
  simp only[Cl3.puts,e0,e1,e2,e3,e4,e7]
  clear e0 e1 e2 e3 e4 e7 g0 g1 g2 g3 g4 g5 g7
  go_simp
  generalize vals 6=v26 at*
  have HG6:=Lib.hid g6.1
  have HG7:=Lib.hid g6.2.1
  clear g6 hg
  generalize vals 5=j5 at*
  obtain⟨m,hm⟩: ∃m,m=k+(n - (k+1)):=⟨_,rfl⟩
  rw[←hm]
  have hmn:n=m+1:=by omega
  have HM:=Lib.hid hm
  clear hm
  have hcm: ¬cap=m:=by omega
  have hm1:(m:Int)≤(n:Int):=by omega
  have hm2:(n:Int)≤(cap:Int):=by omega
  have HMN:=Lib.hid hmn
  clear hmn
  have HL:=Lib.hid (show(splice cur (k*3) ((cur.take (n*3)).drop ((k+1)*3))).length=cap*3 by
   have hcl:=HCL.out
   rw[length_splice _ _ _ (by rw[List.length_drop,List.length_take];omega)];exact hcl)
  go_wp2_with (refine wpList_clearS rfl _ 115 rfl 136 (.agg #[.int .i64 0, .pointer none, .pointer none]) 3 24 Tryz.underlying115 LetTy.info rfl (by decide) q (m*3) (n - m) (cap - m) (some ⟨q,m*3,none⟩) (fun _=>rfl) rfl _ _ HG7.out (by have:=HMN.out;rw [HL.out];omega) ?_)
  intro w3 zs h3 hz hb3
  have H3:=Lib.hid h3.out
  have HZ:=Lib.hid hz
  have HB3:=Lib.hid hb3
  clear h3 hz hb3
  go_wp2
  go_ret
  have hmn:=HMN.out
  refine⟨by rw[show n - 1=m by omega];rfl,⟨HB3.out.os.trans HG6.out.os,HB3.out.tape.trans HG6.out.tape,HB3.out.output.trans HG6.out.output,HB3.out.size.trans HG6.out.size,fun z hz=>(HB3.out.other z hz).trans (HG6.out.other z hz)⟩,_,H3.out, ?_, ?_⟩
  ·have hcl:=HL.out
   rw[length_splice _ _ _ (by rw[HZ.out,hcl];omega)];exact hcl
  ·have hcl:=HL.out
   have hcl2:=HCL.out
   have hnl:((cur.take (n*3)).drop ((k+1)*3)).length=(n - (k+1))*3:=by rw[List.length_drop,List.length_take];omega
   rw[show n - 1=m by omega,splice_take0 (by rw[hcl];omega),show m*3=k*3+((cur.take (n*3)).drop ((k+1)*3)).length by rw[hnl];have:=HM.out;omega]
   exact splice_take (by rw[hnl];omega)
theorem RowBut.stp {w w':World} {g:Nat} {cs cs':Array Value} {t:TypeId} (h:RowBut w w' g) (hg:w.heap[g]? =some (Obj.cells cs t (0,0))) (hg':w'.heap[g]? =some (Obj.cells cs' t (0,0))) (hs:cs'.size=cs.size) (ht:dataT t=false):Stp (fun q=>q=g) w w':=by
 refine⟨⟨h.os,h.tape,h.output,by rw[h.size];exact Nat.le_refl _,fun k _ hk=>h.other k hk,fun k c e hc=> ?_⟩,TKeep.of_but h hg ht⟩
 by_cases hk:k=g
 ·subst hk
  rw[hg] at hc
  simp only[Option.some.injEq,Obj.cells.injEq,and_true] at hc
  obtain⟨rfl,rfl⟩:=hc
  exact⟨_,hg',hs⟩
 ·exact⟨c,(h.other k hk).trans hc,rfl⟩
theorem flat_erase {css:List (List Value)} (h: ∀c∈css,c.length=3) (k:Nat):(css.eraseIdx k).flatten=css.flatten.take (k*3)++css.flatten.drop ((k+1)*3):=by
 rw[List.eraseIdx_eq_take_drop_succ,List.flatten_append,←css_take h]
 congr 1
 by_cases hk:k+1≤css.length
 ·have e:css.flatten=(css.take (k+1)).flatten++(css.drop (k+1)).flatten:=by rw[←List.flatten_append,List.take_append_drop]
  have hl:(css.take (k+1)).flatten.length=(k+1)*3:=by
   rw[css_take h,List.length_take,List.length_flatten]
   have:(css.map List.length).sum=css.length*3:=by
    clear hk e
    induction css with
    | nil=>rfl
    | cons c css ih=>rw [List.map_cons,List.sum_cons,ih (fun d hd=>h d (by simp[hd])),h c (by simp),List.length_cons];omega
   rw[this];omega
  conv=>rhs;rw [e]
  rw[List.drop_append_of_le_length (by omega),←hl,List.drop_length,List.nil_append]
 ·rw[List.drop_eq_nil_of_le (by omega),List.flatten_nil]
  symm
  apply List.drop_eq_nil_of_le
  rw[List.length_flatten]
  have:(css.map List.length).sum=css.length*3:=by
   clear hk
   induction css with
   | nil=>rfl
   | cons c css ih=>rw [List.map_cons,List.sum_cons,ih (fun d hd=>h d (by simp[hd])),h c (by simp),List.length_cons];omega
  rw[this];omega
def loseE (t:TownS) (k:Int):Int:=if k < 0∨(t.way.length:Int)≤k then 4 else 0
def loseR (t:TownS) (k:Int):TownS:=if loseE t k=0 then loseT t k.toNat else t
theorem loseR_no {t:TownS} {k:Int} (h:k < 0∨(t.way.length:Int)≤k):loseE t k=4∧loseR t k=t:=by
 have e:loseE t k=4:=by unfold loseE;rw [if_pos h]
 exact⟨e,by unfold loseR;rw [if_neg (by rw[e];decide)]⟩
theorem loseR_yes {t:TownS} {k:Nat} (h:k < t.way.length):loseE t k=0∧loseR t k=loseT t k:=by
 have e:loseE t k=0:=by unfold loseE;rw [if_neg (by omega)]
 exact⟨e,by unfold loseR;rw [if_pos e];rfl⟩
set_option maxRecDepth 100000 in
set_option maxHeartbeats 8000000 in
theorem tlose_c (g b:Nat) (T:Nat→Prop) (t:TownS) (k:Int) (w:World) (h:TownAt w b T g t):
  Calls Tryz.prog 24 #[.pointer (some ⟨g,0,none⟩), .int .i64 k] w fun e w'=>e= .returned (.int .i64 (loseE t k))∧TownAt w' b T g (loseR t k)∧Stp T w w':=by
 obtain⟨sv,wv,css,hblk,hlets,hrow,hwT,hset⟩:=h.letters
 obtain⟨wa,wc,rfl⟩:=owns_slice hrow
 have c1:w.cell? ⟨g,1,none⟩=some (.slice wa t.way.length wc):=cell_of_block (j:=1) hblk rfl
 have HT:=Lib.hid h
 go_enter Tryz.func24,Tryz.ntmps24
 by_cases h0:k < 0
 ·have d0:decide (k < 0)=true:=decide_eq_true h0
  have HE:=Lib.hid (loseR_no (t:=t) (.inl h0))
  clear h hblk hlets hrow hset hwT h0
  go_wp2
  go_ret
  exact⟨by rw[HE.out.1];rfl,by rw[HE.out.2];exact HT.out,Stp.refl _ _⟩
 have d0:decide (k < 0)=false:=decide_eq_false h0
 by_cases h1:(t.way.length:Int)≤k
 ·have d1:decide ((t.way.length:Int)≤k)=true:=decide_eq_true h1
  have HE:=Lib.hid (loseR_no (t:=t) (.inr h1))
  clear h hblk hlets hrow hset hwT h0 h1
  go_wp2
  go_ret
  exact⟨by rw[HE.out.1];rfl,by rw[HE.out.2];exact HT.out,Stp.refl _ _⟩
 obtain⟨j,rfl⟩: ∃j:Nat,k=(j:Int):=⟨k.toNat,by omega⟩
 have d1:decide ((t.way.length:Int)≤(j:Int))=false:=decide_eq_false h1
 have hj:j < t.way.length:=by omega
 have HE:=Lib.hid (loseR_yes hj)
 have HBK:=Lib.hid hblk
 have HLETS:=Lib.hid hlets
 have HWT:=Lib.hid hwT
 have HSET:=Lib.hid hset
 have HGE:=Lib.hid h.ge.2
 have H60:=Lib.hid h.ok.lw
 have HOK:=Lib.hid h.ok.way
 have HNO:=Lib.hid (h.noLet hblk hrow)
 rcases hrow.2 with⟨-,h9⟩ | ⟨q,cap,cur,hsl,hbq,hq,hnc,hcm,hcs,htake⟩
 ·omega
 simp only[Value.slice.injEq] at hsl
 obtain⟨rfl, -,rfl⟩:=hsl
 have hlen:=hrow.1
 have HBQ:=Lib.hid hbq
 have HQ:=Lib.hid hq
 have HNC:=Lib.hid hnc
 have HCM:=Lib.hid hcm
 have HCS:=Lib.hid hcs
 have HTK:=Lib.hid htake
 have HLEN:=Lib.hid hlen
 have hne:g≠q:=fun e=>by
  rw[e] at hblk;exact absurd (heap_ty hblk hq) (by decide)
 have HNE:=Lib.hid hne
 clear h hblk hlets hrow hset hwT h0 h1 hne hbq hq hnc hcm hcs htake hlen
 have HD:=Lib.hid (tdel_c q t.way.length wc j cur.toList w (by simpa using HQ.out) (by simpa using HCS.out) HNC.out hj H60.out (fun u hu=>by
  rw[HTK.out] at hu
  obtain⟨c,hc,hu⟩:=List.mem_flatten.1 hu
  obtain⟨i,hi,rfl⟩:=List.getElem_of_mem hc
  exact(HLETS.out.each i (by have:=HLETS.out.len;omega) hi).one u hu))
 have h60:=H60.out
 go_wp2_with fail
 clear c1 h60
 (with_reducible refine(HD.out).mono ?_)
 rintro e w2 ⟨rfl,hbut,cur',hq',hcl',htk'⟩
 have hg2:=(hbut.other g HNE.out).trans HBK.out
 have hS:=hbut.stp HQ.out hq' (by rw[List.size_toArray,hcl'];exact HCS.out.symm) (by decide)
 have HS:=Lib.hid hS
 have HG2:=Lib.hid hg2
 have HQ':=Lib.hid hq'
 have HCL':=Lib.hid hcl'
 have HTK':=Lib.hid htk'
 have e1:=cell_of_block (j:=1) hg2 rfl
 have e2:=free_of_block (j:=1) hg2
 have e3:=hlt_of hg2
 clear hbut hq' hcl' htk' hS hg2 HD
 go_wp2
 go_ret
 have S6:Stp (fun z=>z=g∨(Value.slice (some ⟨q,0,none⟩) t.way.length wc).ownBlock=some z) w (w2.setCell ⟨g,1,none⟩ (.slice (some ⟨q,0,none⟩) (t.way.length - 1) wc)):=
  (HS.out.mono fun z hz=> .inr (by rw[hz];rfl)).trans ((Stp.set HG2.out (by decide)).mono fun z hz=> .inl hz)
 have hel:(t.way.eraseIdx j).length=t.way.length - 1:=List.length_eraseIdx_of_lt hj
 refine⟨by rw[HE.out.1];rfl, ?_,S6.mono fun z hz=> ?_⟩
 ·rw[HE.out.2]
  refine HSET.out _ (.slice (some ⟨q,0,none⟩) (t.way.length - 1) wc) (css.eraseIdx j) (t.way.eraseIdx j) S6 (by rw[heap_set_same HG2.out];rfl) ((HLETS.out.erase j).stp S6 HNO.out) ?_ (fun z hz=>HWT.out z hz) (fun l hl=>HOK.out l (mem_eraseIdx' hl)) (by have:=H60.out;omega)
  rw[hel]
  refine own_set (t:=117) ?_ HG2.out (by decide)
  refine⟨?_, .inr ⟨q,wc,cur'.toArray,rfl,HBQ.out,HQ'.out,by have:=HNC.out;omega,HCM.out,by rw[List.size_toArray];exact HCL'.out, ?_⟩⟩
  ·rw[flat_erase HLETS.out.flat,List.length_append,List.length_take,List.length_drop,HLEN.out];omega
  ·rw[List.toList_toArray,HTK'.out,flat_erase HLETS.out.flat,HTK.out]
   congr 1
   rw[←HTK.out,List.take_take];congr 1;omega
 ·rcases hz with rfl | hz
  ·exact HGE.out
  ·exact HWT.out z hz
end Go.Proofs.YtgkgdedhicnohaaGreat
