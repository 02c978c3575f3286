/- What filter.Check and filter.tabled do. What filter.boxes does. What filter.both, and what stands on it, do. Written by a small program (gen/filter3.py). -/
import Derived.Test.YtgkgdedhicnohaaGreatChecked
import Derived.Test.YtgkgdedhicnohaaGreatMFilterP
import Derived.Test.YtgkgdedhicnohaaGreatMClaims
import Derived.Deep.QuietTactic
import Derived.BigQuiet
namespace Go.Proofs.YtgkgdedhicnohaaGreat
set_option maxRecDepth 100000
set_option maxHeartbeats 40000000
open Go.RowKit
theorem fChk_c (v:Value) (l:Bxs) (w:World) (hs:BxsAt w v l):
  Calls Tryz.prog 28 #[v] w fun e w'=>e= .returned (.int .i64 (fChk l))∧Below w.heap.size w w':=by
 have HBX:=jD hs
 obtain⟨a,cap,rfl,hcap,hm, -,hl⟩:=hs.open_
 clear hs
 by_cases h40:40 < l.length
 ·have H:=jD (show fChk l=2 by simp[fChk,h40])
  clear hl
  go_enter Tryz.func28,Tryz.ntmps28
  go_wp2
  go_ret
  exact⟨ret_int H.out.symm,Below.refl _ _⟩
 have HF:=jD (show fChk l=bxsFrom (l.drop 0) by rw[fChk,if_neg h40];rfl)
 go_enter Tryz.func28,Tryz.ntmps28
 go_wp2
 go_loopw [12] (fun i wr=> ∃k:Nat,k≤l.length∧i= .int .i64 k∧fChk l=bxsFrom (l.drop k)∧Below w.heap.size w wr) (fun i _=>l.length - (intOf i).toNat)
 case atStart=>exact ⟨0,Nat.zero_le _,rfl,HF.out,Below.refl _ _⟩
 case round=>
  obtain⟨k,hk,rfl,hno,hbl⟩:=hrel
  have HN:=jD hno
  clear hno HF
  by_cases hlt:k < l.length
  ·rcases hl with rfl | ⟨b,off,rfl,hb,hc⟩
   ·simp at hlt
   obtain⟨u,d1,d2,d3,hsp⟩:=hc k hlt
   replace d1:=(hbl.cell (p:=⟨b,off+k*3,none⟩) hb).trans d1
   replace d2:=(hbl.cell (p:=⟨b,off+k*3+1,none⟩) hb).trans d2
   replace d3:=(hbl.cell (p:=⟨b,off+k*3+2,none⟩) hb).trans d3
   have HOK:=jD (fun h=>HN.out.trans (bxsFrom_ok l k hlt h))
   have HBAD:=jD (fun h=>HN.out.trans (bxsFrom_bad l k hlt h))
   obtain⟨ua,uc,rfl⟩:=hsp.shape
   replace hsp:=hsp.below hbl
   clear hc
   generalize hx:l[k]=bx at*
   obtain⟨y,n,sp⟩:=bx
   simp only at d1 d2 d3 hsp
   clear hx
   have HC:=jD (fun (w1:World) (h:Below (wr.alloc (.cells #[.int .i64 y, .int .i64 n, .slice ua sp.length uc] 124)).heap.size (wr.alloc (.cells #[.int .i64 y, .int .i64 n, .slice ua sp.length uc] 124)) w1)=>
    (show w1.cell? ⟨wr.heap.size,2,none⟩=some (.slice ua sp.length uc)∧Below w.heap.size w w1∧SpansAt w1 (.slice ua sp.length uc) sp from
     ⟨ckeep h (cat _ _ _ 2 _ rfl _ rfl),bstep hbl (ba1 h),hsp.below (ba1 h)⟩))
   go_wp2_with fail
   (with_reducible refine(cubeChk_c _ _ _).mono ?_)
   rintro e w1 ⟨rfl,hb1⟩
   obtain⟨c2,hbl1,hsp1⟩:=HC.out _ hb1
   clear HC hb1 hbl hsp d1 d2 d3
   cases hc:(cubeChk y n==0)
   ·have h':(cubeChk y n != 0)=true:=by simp[bne,hc]
    have hv:bxChk ⟨y,n,sp⟩=cubeChk y n:=by simp at hc;simp [bxChk,hc]
    have H:=jD ((HBAD.out (by rw[hv];simpa using hc)).trans hv)
    clear HOK HBAD hv hc
    go_wp2
    go_ret
    exact⟨ret_int H.out.symm,hbl1⟩
   have h0:cubeChk y n=0:=by simpa using hc
   have hv:bxChk ⟨y,n,sp⟩=spansChk sp:=by simp[bxChk,h0]
   rw[h0]
   rw[hv] at HOK HBAD
   clear h0 hc hv
   go_wp2_with fail
   (with_reducible refine(spanChk_c _ sp _ hsp1).mono ?_)
   rintro e w2 ⟨rfl,hb2⟩
   replace hbl1:=bstep hbl1 hb2
   clear c2 hsp1
   cases hc:(spansChk sp==0)
   ·have h':(spansChk sp != 0)=true:=by simp[bne,hc]
    have H:=jD (HBAD.out (by simpa using hc))
    clear HOK HBAD hc
    go_wp2
    go_ret
    exact⟨ret_int H.out.symm,hbl1⟩
   have h0:spansChk sp=0:=by simpa using hc
   have H:=jD (HOK.out h0)
   rw[h0]
   clear HOK HBAD hc h0
   go_wp2
   go_roundw
   case rel=>exact ⟨k+1,by omega,by go_num,H.out,hbl1⟩
   case measure=>simp [intOf];omega
  ·obtain rfl:k=l.length:=by omega
   go_wp2
   go_ret
   exact⟨ret_int (by rw[HN.out];simp [bxsFrom]),hbl⟩
def tabC (q:Nat→Nat):Array Value:=((List.range 16).map fun k=>Value.int .u32 (q k)).toArray
theorem tabC_size (q:Nat→Nat):(tabC q).size=16:=by simp[tabC]
theorem tabC_get (q:Nat→Nat) (k:Nat) (h:k < 16):(tabC q)[k]? =some (.int .u32 (q k)):=by simp[tabC,h]
theorem tabC_set (q:Nat→Nat) (k:Nat) (x:Nat):(tabC q).setIfInBounds k (.int .u32 x)=tabC (fun j=>if j=k then x else q j):=by
 apply Array.ext
 ·simp[tabC]
 ·intro i h1 h2
  simp only[Array.size_setIfInBounds,tabC_size] at h1
  by_cases h:k=i
  ·subst h;simp [tabC]
  ·rw[Array.getElem_setIfInBounds_ne (by simpa[tabC] using h1) h]
   simp[tabC,show ¬i=k from fun e=>h e.symm]
theorem tabC_zero:tabC (fun _=>0)=Array.replicate 16 (.int .u32 0):=by
 apply Array.ext
 ·simp[tabC]
 ·intro i h1 h2;simp [tabC]
theorem mask_mod (f t:Nat) (h:f≤t) (h2:t≤32):((2:Int)^t - 2^f)%4294967296=((2^t - 2^f:Nat):Int):=by
 have h1:2^f≤2^t:=Nat.pow_le_pow_right (by decide) h
 have h3:=mask_lt f t h2
 rw[show((2:Int)^t - 2^f)=((2^t - 2^f:Nat):Int) from by rw[Int.ofNat_sub h1];simp]
 omega
theorem tabled_c (v:Value) (l:Bxs) (w:World) (hs:BxsAt w v l) (hok: ∀b∈l,bxChk b=0):
  Calls Tryz.prog 108 #[v] w fun e w'=>e= .returned (.agg (tabC (tabN l)))∧Below w.heap.size w w':=by
 obtain⟨a,cap,rfl,hcap,hm, -,hl⟩:=hs.open_
 clear hs
 go_enter Tryz.func108,Tryz.ntmps108
 go_wp2
 go_loopw [12] (fun i wr=> ∃k:Nat,k≤l.length∧i= .int .i64 k∧wr.heap[w.heap.size+1]? =some (.cells (tabC (tabN (l.take k))) 182 (0,0))∧wr.heap[w.heap.size]? =some (.cells (tabC fun _=>0) 182 (0,0))∧Below w.heap.size w wr) (fun i _=>l.length - (intOf i).toNat)
 case atStart=>
  have e0:tabC (tabN (l.take 0))=tabC fun _=>0:=by rw[List.take_zero];rfl
  have e1:tabC (fun _=>0)= #[Value.int IntKind.u32 0,Value.int IntKind.u32 0,Value.int IntKind.u32 0,Value.int IntKind.u32 0,
     Value.int IntKind.u32 0,Value.int IntKind.u32 0,Value.int IntKind.u32 0,Value.int IntKind.u32 0,
     Value.int IntKind.u32 0,Value.int IntKind.u32 0,Value.int IntKind.u32 0,Value.int IntKind.u32 0,
     Value.int IntKind.u32 0,Value.int IntKind.u32 0,Value.int IntKind.u32 0,Value.int IntKind.u32 0]:=by rw[tabC_zero];rfl
  refine⟨0,Nat.zero_le _,rfl, ?_, ?_,(bal _).alloc (by simp) _⟩
  ·rw[e0,e1];have h:=fun (o1 o2:Obj)=>heap_alloc_new (w.alloc o1) o2;simp only[World.size_alloc] at h;exact h _ _
  ·rw[e1];exact (heap_alloc_old _ _ (by simp)).trans (heap_alloc_new _ _)
 case round=>
  obtain⟨k,hk,rfl,hT,hZ,hbl⟩:=hrel
  have HT:=jD hT
  have HZ:=jD hZ
  clear hT hZ
  by_cases hlt:k < l.length
  ·rcases hl with rfl | ⟨b,off,rfl,hb,hc⟩
   ·simp at hlt
   obtain⟨u,d1,d2,d3,hsp⟩:=hc k hlt
   replace d1:=(hbl.cell (p:=⟨b,off+k*3,none⟩) hb).trans d1
   replace d2:=(hbl.cell (p:=⟨b,off+k*3+1,none⟩) hb).trans d2
   replace d3:=(hbl.cell (p:=⟨b,off+k*3+2,none⟩) hb).trans d3
   have hok1:=(bxChk_zero.1 (hok _ (List.getElem_mem hlt)))
   have HTK:=jD (show ∀q,tabN (l.take (k+1)) q=if cubeIn l[k].y l[k].n q then tabN (l.take k) q ||| spN 0 l[k].sp else tabN (l.take k) q from fun q=>by rw[List.take_succ_eq_append_getElem hlt,tabN_snoc])
   have HTB:=jD (fun q=>(tabN_good (l.take k) q fun b hb=>hok b (List.mem_of_mem_take hb)).1)
   obtain⟨ua,uc,rfl⟩:=hsp.shape
   replace hsp:=hsp.below hbl
   clear hc
   generalize hx:l[k]=bx at*
   obtain⟨y,n,sp⟩:=bx
   simp only at d1 d2 d3 hsp hok1 HTK
   clear hx
   obtain⟨hok1,hok2⟩:=hok1
   have hbd:=(spansChk_bounds hok2).2
   have HOK:=jD (show spN 0 sp < 4294967296 from spN_lt sp 0 (by decide) hbd)
   obtain⟨wo,hwo⟩: ∃wo,wo=wr:=⟨_,rfl⟩
   subst hwo
   go_wp2
   obtain⟨w5,hw5⟩: ∃w5,w5=wo.alloc (.cells #[.int .i64 y, .int .i64 n, .slice ua sp.length uc] 124):=⟨_,rfl⟩
   rw[←hw5]
   have hb5:Below wo.heap.size wo w5:=by rw[hw5];exact bal _
   have hz5:wo.heap.size < w5.heap.size:=by rw[hw5];simp
   have q0:w5.cell? ⟨wo.heap.size,0,none⟩=some (.int .i64 y):=by rw[hw5];exact cat _ _ _ 0 _ rfl _ rfl
   have q1:w5.cell? ⟨wo.heap.size,1,none⟩=some (.int .i64 n):=by rw[hw5];exact cat _ _ _ 1 _ rfl _ rfl
   obtain⟨a',c',hv,hcap',hm',hsl⟩:=(hsp.below hb5).open_
   simp only[Value.slice.injEq] at hv
   obtain⟨rfl, -,rfl⟩:=hv
   clear hw5 d1 d2 d3 hsp
   have Q0:=jD q0
   have Q1:=jD q1
   clear q0 q1
   go_loopw [6,19] (fun nn i wr=> ∃j:Nat,j≤sp.length∧i= .int .i64 j∧nn= .int .u32 (spN 0 (sp.take j):Nat)∧Below w5.heap.size w5 wr) (fun _ i _=>sp.length - (intOf i).toNat)
   case atStart=>exact ⟨0,Nat.zero_le _,rfl,rfl,Below.refl _ _⟩
   case round=>
    obtain⟨j,hj,rfl,rfl,hbj⟩:=hrel
    by_cases hjl:j < sp.length
    ·rcases hsl with rfl | ⟨b2,off2,rfl,hb2,hc2⟩
     ·simp at hjl
     obtain⟨g1,g2⟩:=hc2 j hjl
     replace g1:=(hbj.cell (p:=⟨b2,off2+j*2,none⟩) hb2).trans g1
     replace g2:=(hbj.cell (p:=⟨b2,off2+j*2+1,none⟩) hb2).trans g2
     obtain⟨r1,r2,r3⟩:=hbd _ (List.getElem_mem hjl)
     have HS:=jD (show spN 0 (sp.take (j+1))=spN 0 (sp.take j) ||| (2^sp[j].2.toNat - 2^sp[j].1.toNat) from by rw[List.take_succ_eq_append_getElem hjl,spN_append];rfl)
     have HL:=jD (show spN 0 (sp.take j) < 4294967296 from spN_lt _ 0 (by decide) fun s hs=>hbd s (List.mem_of_mem_take hs))
     clear hc2
     generalize sp[j]=s at*
     obtain⟨s1,s2⟩:=s
     simp only at g1 g2 r1 r2 r3 HS
     obtain⟨f,rfl⟩:=Int.eq_ofNat_of_zero_le r1
     obtain⟨t,rfl⟩:=Int.eq_ofNat_of_zero_le (show 0≤s2 by omega)
     simp only[Int.toNat_natCast] at HS
     generalize spN 0 (sp.take j)=acc at*
     go_wp2
     go_quiet (fail)
     go_wp2
     go_roundw
     case rel=>exact ⟨j+1,by omega,by go_num,by rw[HS.out,mask_mod f t (by omega) (by omega),u32_or_nat _ _ HL.out (mask_lt _ _ (by omega))],below_drewN (hbj.alloc hbj.size _) _⟩
     case measure=>simp [intOf];omega
    ·obtain rfl:j=sp.length:=by omega
     rw[List.take_length]
     have hbw:=bstep hb5 hbj
     have hbl2:=bstep hbl hbw
     have HT2:=jD ((hbw.block (w.heap.size+1) (by have:=HT.out;exact (Array.getElem?_eq_some_iff.1 this).1)).trans HT.out)
     have HZ2:=jD ((hbw.block w.heap.size (by have:=HZ.out;exact (Array.getElem?_eq_some_iff.1 this).1)).trans HZ.out)
     have Q2:=jD (ckeep hbj Q0.out)
     have Q3:=jD (ckeep hbj Q1.out)
     have hT2:w.heap.size+1 < wo.heap.size:=(Array.getElem?_eq_some_iff.1 HT.out).1
     have hz6:wo.heap.size < wr.heap.size:=blt Q2.out
     clear HT HZ Q0 Q1 hbl hbw hbj hsl hb5
     obtain⟨w6,hw6⟩: ∃w6,w6=wr:=⟨_,rfl⟩
     subst hw6
     have HNN:=HOK
     generalize spN 0 sp=nn at*
     go_wp2
     go_loopw [33] (fun i wr=> ∃j:Nat,j≤16∧i= .int .i64 j∧wr.heap[w.heap.size+1]? =some (.cells (tabC fun q=>if q < j then(if cubeIn y n q then tabN (l.take k) q ||| nn else tabN (l.take k) q) else tabN (l.take k) q) 182 (0,0))∧wr.heap[w.heap.size]? =some (.cells (tabC fun _=>0) 182 (0,0))∧Below w.heap.size w wr∧wr.cell? ⟨wo.heap.size,0,none⟩=some (.int .i64 y)∧wr.cell? ⟨wo.heap.size,1,none⟩=some (.int .i64 n)) (fun i _=>16 - (intOf i).toNat)
     case atStart=>exact ⟨0,by omega,rfl,by simpa using HT2.out,HZ2.out,hbl2,Q2.out,Q3.out⟩
     case round=>
      obtain⟨j,hj,rfl,hT,hZ,hbl,q0,q1⟩:=hrel
      have HT:=jD hT
      have HZ:=jD hZ
      clear hT hZ
      by_cases hjl:j < 16
      ·go_wp2_with fail
       (with_reducible refine(cubeIn_c _ _ _ _).mono ?_)
       rintro e w7 ⟨rfl,hb7⟩
       replace hbl:=bstep hbl hb7
       replace q0:=ckeep hb7 q0
       replace q1:=ckeep hb7 q1
       replace HT:=jD ((hb7.block (w.heap.size+1) (by have:=HT.out;exact (Array.getElem?_eq_some_iff.1 this).1)).trans HT.out)
       replace HZ:=jD ((hb7.block w.heap.size (by have:=HZ.out;exact (Array.getElem?_eq_some_iff.1 this).1)).trans HZ.out)
       clear hb7
       have HB:=jD (HTB.out j)
       cases hin:cubeIn y n j
       ·have HI:=jD hin
        clear hin
        go_wp2
        go_roundw
        case rel=>
         refine⟨j+1,by omega,by go_num, ?_,HZ.out,hbl,q0,q1⟩
         rw[HT.out];congr 3;funext q
         by_cases e1:q=j
         ·subst e1;simp [HI.out]
         ·by_cases e2:q < j
          ·simp[e2,show q < j+1 by omega]
          ·simp[e2,show ¬q < j+1 by omega]
        case measure=>simp [intOf];omega
       ·have HI:=jD hin
        have cT:=cell_of_block (j:=j) HT.out (by rw[tabC_get _ _ hjl,if_neg (Nat.lt_irrefl _)])
        have fT:=free_of_block (j:=j) HT.out
        clear hin
        go_wp2
        go_roundw
        case rel=>
         rw[u32_or_nat _ _ HB.out HNN.out]
         refine⟨j+1,by omega,by go_num, ?_,(heap_set_other (by omega)).trans HZ.out,hbl.setCell (by simp) _,(cell_set_other (by omega)).trans q0,(cell_set_other (by omega)).trans q1⟩
         rw[heap_set_same HT.out,tabC_set];congr 3;funext q
         by_cases e1:q=j
         ·subst e1;simp [HI.out]
         ·by_cases e2:q < j
          ·simp[e1,e2,show q < j+1 by omega]
          ·simp[e1,e2,show ¬q < j+1 by omega]
        case measure=>simp [intOf];omega
      ·obtain rfl:j=16:=by omega
       go_wp2
       go_roundw
       case rel=>
        refine⟨k+1,by omega,by go_num, ?_,HZ.out,hbl⟩
        rw[HT.out];congr 2;unfold tabC;congr 1
        refine List.map_congr_left fun q hq=> ?_
        simp only[List.mem_range.1 hq,if_true,HTK.out]
       case measure=>simp [intOf];omega
  ·obtain rfl:k=l.length:=by omega
   rw[List.take_length] at HT
   have hi:=jD (show(Tryz.prog.info? 182).map (·.size)=some (tabC (tabN l)).size by rw[tabC_size];kernel_rfl)
   go_wp2_with (first | (with_reducible refine wpList_load_row rfl 182 (.tmp 3) rfl (w.heap.size+1) rfl 182 (tabC (tabN l)) (0,0) _ HT.out Tryz.underlying182 rfl hi.out ?_) | (with_reducible refine wpList_store_row rfl 182 (.tmp 2) (.tmp 48) rfl w.heap.size (tabC (tabN l)) rfl rfl 182 _ HZ.out hi.out ?sz ?one ?_))
   case sz=>simp [tabC_size]
   case one=>simp [tabC,Value.oneCell']
   exact bodyPost_ret (results_cell_row rfl _ _ w.heap.size 182 (tabC (tabN l)) (0,0) _ rfl (setRow_heap _ _ _ _ _ _ HZ.out) Tryz.underlying182 rfl hi.out) rfl ⟨rfl,below_setRow hbl (Nat.le_refl _) _⟩
theorem BoxTy.info:(Tryz.prog.info? 124).map (fun i=>(i.zero,i.size,i.bytes))=some (some (.agg #[.int .i64 0, .int .i64 0, .slice none 0 0]),3,40):=by kernel_rfl
theorem boxes1_c (n:Nat) (hn:n < 32) (x y:Nat) (q:Nat→Nat) (hq: ∀k,k < 16→q k < 4294967296) (T:Nat) (hT:T < 16) (W:World) (h1:W.heap[x]? =some (.cells (tabC q) 182 (0,0))) (h2:W.cell? ⟨y,0,none⟩=some (.int .i64 T)):
  Calls Tryz.prog 174 #[.int .i64 n, .pointer (some ⟨x,0,none⟩), .pointer (some ⟨y,0,none⟩)] W fun e w'=>e= .returned (.bool ((q T).testBit n))∧Below W.heap.size W w':=by
 have c:=cell_of_block (j:=T) h1 (tabC_get q T hT)
 have H:=jD (bit_u32 (q T:Int) n (by omega) (by have:=hq T hT;omega))
 have hb:bitOf (q T:Int) n=(q T).testBit n:=by
  unfold bitOf
  rw[Nat.testBit_eq_decide_div_mod_eq,show(q T:Int) / 2^n%2=((q T / 2^n%2:Nat):Int) from by simp]
  generalize q T / 2^n%2=z
  rw[Bool.eq_iff_iff,beq_iff_eq,decide_eq_true_eq]
  omega
 clear h1 hq
 go_enter Tryz.func174,Tryz.ntmps174
 go_wp2
 go_ret
 exact⟨ret_bool (by rw[←hb];exact H.out),Below.refl _ _⟩
structure BoxRel (q:Nat→Nat) (w wr:World) (T:Nat) (vo:Value) (l:Bxs) (dn:Nat→Bool):Prop where
 st:BoxSt q T l dn
 own:BxsOwn wr (w.heap.size+2) 124 119 vo l
 tab:wr.heap[w.heap.size]? =some (.cells (tabC q) 182 (0,0))
 flg:wr.heap[w.heap.size+1]? =some (.cells (flagC dn) 240 (0,0))
 bel:Below w.heap.size w wr
theorem own_low {W:World} {base e size n g j:Nat} {v u:Value} {xs:List Value} (h:W.ownsRow base e size v n xs) (hg:g < base):(W.setCell ⟨g,j,none⟩ u).ownsRow base e size v n xs:=by
 refine⟨h.1, ?_⟩
 rcases h.2 with hn | ⟨k,cap,cur,rfl,hk,hh,rest⟩
 ·exact .inl hn
 ·exact .inr ⟨k,cap,cur,rfl,hk,by rw[heap_set_other (by omega)];exact hh,rest⟩
theorem BxsOwn.low {W:World} {base eB eS g j:Nat} {v u:Value} {l:Bxs} (h:BxsOwn W base eB eS v l) (hg:g < base):BxsOwn (W.setCell ⟨g,j,none⟩ u) base eB eS v l:=by
 obtain⟨us,h1,h2,h3⟩:=h
 exact⟨us,h1,own_low h2 hg,fun i hi hi'=>own_low (h3 i hi hi') hg⟩
theorem BxsOwn.push {w w':World} {base eB eS:Nat} {v v' u:Value} {l:Bxs} {b:Bx} {us:List Value} (hne:eB≠eS) (h1:us.length=l.length) (h2:w.ownsRow base eB 3 v l.length (bxCells l us)) (h3: ∀i (h:i < l.length) (h':i < us.length),w.ownsRow base eS 2 us[i] l[i].sp.length (spansCells l[i].sp))
  (hu:w.ownsRow base eS 2 u b.sp.length (spansCells b.sp)) (hn:w'.ownsRow base eB 3 v' (l.length+1) (bxCells l us++[.int .i64 b.y, .int .i64 b.n,u])) (hg:w.grownBy w' v.ownBlock):BxsOwn w' base eB eS v' (l++[b]):=by
 refine⟨us++[u],by simp[h1], ?_,fun i hi hi'=> ?_⟩
 ·rw[bxCells_append _ _ _ _ h1,List.length_append,List.length_singleton];exact hn
 ·by_cases e:i < l.length
  ·simp only[List.getElem_append_left e,List.getElem_append_left (show i < us.length by omega)]
   exact own_other hne h2 (h3 i e (by omega)) hg
  ·have e2:i=l.length:=by simp at hi;omega
   subst e2
   simp only[List.getElem_append_right (Nat.le_refl _),List.getElem_append_right (show us.length≤l.length by omega),Nat.sub_self,h1,List.getElem_singleton]
   exact own_other hne h2 hu hg
theorem pow_wrap: ∀k:Nat,k < 4→wrap64 ((2:Int)^k)=2^k:=by
 intro k hk
 have:k=0∨k=1∨k=2∨k=3:=by omega
 rcases this with rfl | rfl | rfl | rfl <;> exact IntWalk.wrap64_in _ (by decide)
def sameTo (q:Nat→Nat) (T y n j:Nat):Prop:= ∀o:Nat,o < j→cubeIn (y:Int) (n:Int) (o:Int)=true→q o=q T
theorem sameTo_succ {q:Nat→Nat} {T y n j:Nat} :sameTo q T y n (j+1)↔sameTo q T y n j∧(cubeIn (y:Int) (n:Int) (j:Int)=true→q j=q T):=
 ⟨fun h=>⟨fun o ho=>h o (by omega),h j (by omega)⟩,fun h o ho=>by
  by_cases e:o=j
  ·subst e;exact h.2
  ·exact h.1 o (by omega)⟩
theorem boxes_c (q:Nat→Nat) (hq: ∀k,k < 16→q k < 4294967296) (w:World):
  Calls Tryz.prog 134 #[.agg (tabC q)] w fun e w'=> ∃v l,e= .returned v∧BxsOwn w' w.heap.size 124 119 v l∧(∃dn,BoxSt q 16 l dn)∧Below w.heap.size w w':=by
 have HQ:=jD hq
 clear hq
 go_enter Tryz.func134,Tryz.ntmps134
 go_wp2
 go_loopw [3,12] (fun vo i wr=> ∃T l dn,T≤16∧i= .int .i64 (T:Nat)∧BoxRel q w wr T vo l dn) (fun _ i _=>16 - (intOf i).toNat)
 case atStart=>
  refine⟨0,[],fun _=>false,by omega,rfl,BoxSt.zero q,BxsOwn.nil _ _ _ _, ?_, ?_,(bal _).alloc (by simp) _⟩
  ·exact(heap_alloc_old _ _ (by simp)).trans (heap_alloc_new _ _)
  ·have h:=fun (o1 o2:Obj)=>heap_alloc_new (w.alloc o1) o2
   simp only[World.size_alloc] at h
   rw[flagC_zero];exact h _ _
 case round=>
  obtain⟨T,l,dn,hT,rfl,R⟩:=hrel
  by_cases hlt:T < 16
  rotate_left
  ·obtain rfl:T=16:=by omega
   obtain⟨st,own, -, -,bel⟩:=R
   obtain⟨va,vc,hv⟩:=own.shape
   subst hv
   go_wp2
   go_ret
   obtain⟨us,h1,h2,h3⟩:=own
   exact⟨_,l,rfl,⟨us,h1,owns_mono h2 (by omega),fun i hi hi'=>owns_mono (h3 i hi hi') (by omega)⟩,⟨dn,st⟩,bel⟩
  have hdT:decide ((T:Int) < 16)=true:=by simp only[decide_eq_true_eq];omega
  obtain⟨st,own,tab,flg,bel⟩:=R
  have hsz:w.heap.size+1 < wr.heap.size:=(Array.getElem?_eq_some_iff.1 flg).1
  have hsz0:w.heap.size < wr.heap.size:=by omega
  have cf:=cell_of_block (j:=T) flg (flagC_get dn T hlt)
  have ct:=cell_of_block (j:=T) tab (tabC_get q T hlt)
  have ST:=jD st
  have OW:=jD own
  have TB:=jD tab
  have FL:=jD flg
  clear st own tab flg
  cases hd:dn T
  rotate_left
  ·have HD:=jD hd
   rw[hd] at cf
   clear hd
   go_wp2
   go_roundw
   case rel=>exact ⟨T+1,l,dn,by omega,by go_num,ST.out.skip (.inl HD.out),OW.out.below (bal _),(heap_alloc_old _ _ (by omega)).trans TB.out,(heap_alloc_old _ _ (by omega)).trans FL.out,bel.alloc bel.size _⟩
   case measure=>first | (simp[intOf];done) | (simp[intOf];omega)
  rw[hd] at cf
  have HD:=jD hd
  clear hd
  cases hz:((q T:Int)==0)
  rotate_left
  ·have HZ:=jD (show q T=0 by simpa using hz)
   go_wp2
   go_roundw
   case rel=>exact ⟨T+1,l,dn,by omega,by go_num,ST.out.skip (.inr HZ.out),OW.out.below (bal _),(heap_alloc_old _ _ (by omega)).trans TB.out,(heap_alloc_old _ _ (by omega)).trans FL.out,bel.alloc bel.size _⟩
   case measure=>first | (simp[intOf];done) | (simp[intOf];omega)
  have HZ:=jD (show q T≠0 by simpa using hz)
  go_wp2
  obtain⟨w5,hw5⟩: ∃w5,w5=wr.alloc (.cells #[.int .i64 (T:Int)] 3):=⟨_,rfl⟩
  rw[←hw5]
  have hb5:Below wr.heap.size wr w5:=by rw[hw5];exact bal _
  have hz5:w5.heap.size=wr.heap.size+1:=by rw[hw5];simp
  have t5:w5.heap[wr.heap.size]? =some (.cells #[.int .i64 (T:Int)] 3 (0,0)):=by rw[hw5];exact heap_alloc_new _ _
  have TB5:=jD ((hb5.block w.heap.size (by omega)).trans TB.out)
  have FL5:=jD ((hb5.block (w.heap.size+1) (by omega)).trans FL.out)
  have OW5:=jD (OW.out.below hb5)
  replace bel:=bstep bel hb5
  have T5:=jD t5
  clear t5 hw5 hb5 TB FL OW cf ct
  rw[←hz5]
  have hs15:((15:Int) - (T:Int))=((15 - T:Nat):Int):=by omega
  rw[hs15]
  clear hs15
  have hl5:wr.heap.size < w5.heap.size:=by omega
  have hq5:w.heap.size+1 < w5.heap.size:=by omega
  clear hz5
  generalize wr.heap.size=B5 at*
  go_loopw [28] (fun i wx=> ∃k y n,k≤4∧i= .int .i64 (k:Nat)∧CubeSt q T y n∧wx.heap[w5.heap.size]? =some (.cells #[.int .i64 (y:Nat), .int .i64 (n:Nat)] 122 (0,0))∧Below w5.heap.size w5 wx) (fun i _=>4 - (intOf i).toNat)
  case atStart=>exact ⟨0,T,15 - T,by omega,rfl,CubeSt.zero q hlt,heap_alloc_new _ _,bal _⟩
  case round=>
   obtain⟨k,y,n,hk,rfl,cs,hC,hb6⟩:=hrel
   skip
   have CS:=jD cs
   have hy:=cs.y16
   have hn:=cs.n16
   have HC:=jD hC
   have hz6:w5.heap.size < wr.heap.size:=(Array.getElem?_eq_some_iff.1 hC).1
   clear cs hC
   obtain⟨w6,hw6⟩: ∃w6,w6=wr:=⟨_,rfl⟩
   subst hw6
   by_cases hkl:k < 4
   rotate_left
   ·obtain rfl:k=4:=by omega
    rw[show((4:Nat):Int)=4 from rfl]
    have TB6:=jD ((hb6.block w.heap.size (by omega)).trans TB5.out)
    have FL6:=jD ((hb6.block (w.heap.size+1) (by omega)).trans FL5.out)
    have OW6:=jD (OW5.out.below hb6)
    have T6:=jD ((hb6.block B5 (by omega)).trans T5.out)
    have bel6:=bstep bel hb6
    clear TB5 FL5 OW5 T5 bel hb6
    go_wp2
    go_loopw [65] (fun i wx=> ∃j:Nat,j≤16∧i= .int .i64 j∧wx.heap[w.heap.size+1]? =some (.cells (flagC fun o=>dn o || (decide (o < j)&&cubeIn (y:Int) (n:Int) (o:Int))) 240 (0,0))∧wx.heap[w.heap.size]? =some (.cells (tabC q) 182 (0,0))∧wx.heap[w5.heap.size]? =some (.cells #[.int .i64 (y:Nat), .int .i64 (n:Nat)] 122 (0,0))∧wx.heap[B5]? =some (.cells #[.int .i64 (T:Int)] 3 (0,0))∧BxsOwn wx (w.heap.size+2) 124 119 u3 l∧Below w.heap.size w wx) (fun i _=>16 - (intOf i).toNat)
    case atStart=>exact ⟨0,by omega,rfl,by simpa using FL6.out,TB6.out,HC.out,T6.out,OW6.out,bel6⟩
    case round=>
     clear TB6 FL6 OW6 T6 bel6 HC
     obtain⟨j,hj,rfl,hF,hTb,hC,hT5,own,bel⟩:=hrel
     obtain⟨w8,hw8⟩: ∃w8,w8=wr:=⟨_,rfl⟩
     subst hw8
     have FL:=jD hF
     have TB:=jD hTb
     have HC:=jD hC
     have T5:=jD hT5
     have OW:=jD own
     have hz8:w5.heap.size < w8.heap.size:=(Array.getElem?_eq_some_iff.1 hC).1
     clear hF hTb hC hT5 own
     by_cases hjl:j < 16
     ·have hdj:decide ((j:Int) < 16)=true:=by simp only[decide_eq_true_eq];omega
      have cf:=cell_of_block (j:=j) FL.out (flagC_get _ j hjl)
      simp only[Nat.lt_irrefl,decide_false,Bool.false_and,Bool.or_false] at cf
      have ff:=free_of_block (j:=j) FL.out
      have c0:=cell_of_block (j:=0) HC.out rfl
      have c1:=cell_of_block (j:=1) HC.out rfl
      cases hd:dn j
      rotate_left
      ·have HDJ:=jD hd
       rw[hd] at cf
       clear hd
       go_wp2
       go_roundw
       case rel=>
        refine⟨j+1,by omega,by go_num, ?_,(heap_set_other (by omega)).trans TB.out,(heap_set_other (by omega)).trans HC.out,(heap_set_other (by omega)).trans T5.out,OW.out.low (by omega),bel.setCell (by simp) _⟩
        rw[heap_set_same FL.out,flagC_set];congr 2;unfold flagC;congr 1
        refine List.map_congr_left fun o _=> ?_
        by_cases e1:o=j
        ·subst e1;simp [HDJ.out]
        ·by_cases e2:o < j
         ·simp[e1,e2,show o < j+1 by omega]
         ·simp[e1,e2,show ¬o < j+1 by omega]
       case measure=>first | (simp[intOf];done) | (simp[intOf];omega)
      have HDJ:=jD hd
      rw[hd] at cf
      clear hd
      go_wp2_with fail
      (with_reducible refine(cubeIn_c _ _ _ _).mono ?_)
      rintro e w9 ⟨rfl,hb⟩
      replace cf:=ckeep hb cf
      replace ff:=(hb.frozen (p:=⟨w.heap.size+1,j,none⟩) (by show w.heap.size+1 < w8.heap.size;omega)).trans ff
      have hz9:=hb.size
      clear c0 c1
      have HB:=jD hb
      clear hb
      go_wp2
      go_roundw
      case rel=>
       refine⟨j+1,by omega,by go_num, ?_,(heap_set_other (by omega)).trans ((HB.out.block _ (by omega)).trans TB.out),(heap_set_other (by omega)).trans ((HB.out.block _ (by omega)).trans HC.out),(heap_set_other (by omega)).trans ((HB.out.block _ (by omega)).trans T5.out),(OW.out.below HB.out).low (by omega),(bstep bel HB.out).setCell (by simp) _⟩
       rw[heap_set_same ((HB.out.block _ (by omega)).trans FL.out),flagC_set];congr 2;unfold flagC;congr 1
       refine List.map_congr_left fun o _=> ?_
       by_cases e1:o=j
       ·subst e1;simp [HDJ.out]
       ·by_cases e2:o < j
        ·simp[e1,e2,show o < j+1 by omega]
        ·simp[e1,e2,show ¬o < j+1 by omega]
      case measure=>first | (simp[intOf];done) | (simp[intOf];omega)
     ·obtain rfl:j=16:=by omega
      obtain⟨us,o1,o2,o3⟩:=OW.out
      have hl16:=ST.out.len
      have O1:=jD o1
      have O2:=jD o2
      have O3:=jD o3
      clear o1 o2 o3
      have hm: ∀args W,(callFunc 174 args).run Tryz.prog W= .ok (.enter 174 args) W:=fun _ _=>by kernel_rfl
      have HM:=jD hm
      clear hm
      go_wp2_with fail
      refine Cl.region0 88 rfl [6] (fun w=>Below w8.heap.size w8 w) (fun jq=>match jq with | 3=>[6] | 4=>[6] | 5=>[6] | _=>[]) (fun jq v ww=>match jq with | 0=>v=u3 | 1=>v= .agg #[.int .i64 (y:Nat), .int .i64 (n:Nat)] | 2=>v= .func (.func 174) #[] #[.pointer (some ⟨w.heap.size,0,none⟩), .pointer (some ⟨B5,0,none⟩)] | 3=>ww.ownsRow (w.heap.size+2) 119 2 v (make fun i=>(q T).testBit i).length (spansCells (make fun i=>(q T).testBit i)) | 4=> ∃u,v= .agg #[.int .i64 (y:Nat), .int .i64 (n:Nat),u]∧ww.ownsRow (w.heap.size+2) 119 2 u (make fun i=>(q T).testBit i).length (spansCells (make fun i=>(q T).testBit i)) | 5=> ∃u,CellsAt ww v 1 [.int .i64 (y:Nat), .int .i64 (n:Nat),u]∧ww.ownsRow (w.heap.size+2) 119 2 u (make fun i=>(q T).testBit i).length (spansCells (make fun i=>(q T).testBit i)) | 6=>BxsOwn ww (w.heap.size+2) 124 119 v (l++[(⟨y,n,make fun i=>(q T).testBit i⟩:Bx)]) | 7=>BxsOwn ww (w.heap.size+2) 124 119 v (l++[(⟨y,n,make fun i=>(q T).testBit i⟩:Bx)]) | _=>True) (fun ww=>Below (w.heap.size+2) w8 ww) (fun jq ww ww'=>jq≠6→Below ww.heap.size ww ww') Tryz.mixed (by decide+kernel) (Below.refl _ _).drew ((Below.refl _ _).drew) ?_ (fun q w w' hk h hR=>bstep h (hR (by simpa using hk))) ?_ ?_
      ·intro q r v w w' hne hk hlt h hR
       match r,hk,hlt,h,hne with
       | 0,_,_,h,_=>exact h
       | 1,_,_,h,_=>exact h
       | 2,_,_,h,_=>exact h
       | 3,hk,_,h,_=>exact owns_below h (hR (by simpa using hk))
       | 4,hk,_,h,_=>exact (fun hb=>let ⟨u,h1,h2⟩:=h;⟨u,h1,owns_below h2 hb⟩) (hR (by simpa using hk))
       | 5,hk,_,h,_=>exact (fun hb=>let ⟨u,h1,h2⟩:=h;⟨u,h1.below hb,owns_below h2 hb⟩) (hR (by simpa using hk))
       | 6,_,_,h,hne=>exact h.below (hR (by exact hne))
       | 7,_,hlt,h,_=>exact h.below (hR (by intro e;subst e;exact absurd hlt (by decide+kernel)))
       | _+8,_,_,_,_=>trivial
      ·refine⟨?_, ?_, ?_, ?_, ?_, ?_, ?_, ?_,trivial⟩
       ·intro x wx hG
        have f3:=hG.o 3
        replace hG:=hG.good
        go_wp2
        exact⟨_,rfl,rfl,hG,fun _=>Below.refl _ _⟩
       ·intro x wx hG
        have f6:=hG.o 6
        have hp:=hG.p
        replace hG:=hG.good
        have hC:=(hp.block w5.heap.size (by omega)).trans HC.out
        have c0:=cell_of_block (j:=0) hC rfl
        have c1:=cell_of_block (j:=1) hC rfl
        clear hC hp
        go_wp2
        exact⟨_,rfl,rfl,hG,fun _=>Below.refl _ _⟩
       ·intro x wx hG
        have f1:=hG.o 1
        have f5:=hG.o 5
        replace hG:=hG.good
        go_wp2
        exact⟨_,rfl,rfl,hG,fun _=>Below.refl _ _⟩
       ·intro x wx hG
        have g2:(x.tmps.getD 81 undef)= .func (.func 174) #[] #[.pointer (some ⟨w.heap.size,0,none⟩), .pointer (some ⟨B5,0,none⟩)]:=hG.c 2 _ rfl
        have hp:=hG.p
        replace hG:=hG.good
        have HP:=jD hp
        clear hp
        have hpd:Pred 174 #[.pointer (some ⟨w.heap.size,0,none⟩), .pointer (some ⟨B5,0,none⟩)] (fun i=>(q T).testBit i) wx:=⟨HM.out,fun i W hi hW=>boxes1_c i hi _ _ q HQ.out T hlt W ((hW.block w.heap.size (by have:=HP.out.size;omega)).trans ((HP.out.block w.heap.size (by omega)).trans TB.out)) (ckeep hW (cell_of_block (j:=0) ((HP.out.block B5 (by omega)).trans T5.out) rfl))⟩
        have HPD:=jD hpd
        clear hpd
        go_wp2_with fail
        (with_reducible refine(make_c _ _ (fun i=>(q T).testBit i) _ HPD.out).mono ?_)
        rintro e w9 ⟨v9,rfl,ho,hb⟩
        clear g2
        go_wp2
        exact⟨_,rfl,owns_mono ho (by have:=HP.out.size;omega),hG.trans (hb.mono (by have:=HP.out.size;omega)),fun _=>hb⟩
       ·intro x wx hG
        have g1:(x.tmps.getD 80 undef)= .agg #[.int .i64 (y:Nat), .int .i64 (n:Nat)]:=hG.c 1 _ rfl
        have g3:wx.ownsRow (w.heap.size+2) 119 2 (x.tmps.getD 82 undef) (make fun i=>(q T).testBit i).length (spansCells (make fun i=>(q T).testBit i)):=hG.c 3 _ rfl
        replace hG:=hG.good
        generalize hx:x.tmps.getD 82 undef=x82 at*
        have hxb:=hx
        rw[Array.getD_eq_getD_getElem?] at hxb
        have g1b:=gd g1
        obtain⟨sa,sc,hs⟩:=owns_slice g3
        subst hs
        have G3:=jD g3
        clear g3
        go_wp2
        exact⟨_,rfl,⟨_,rfl,G3.out⟩,hG,fun _=>Below.refl _ _⟩
       ·intro x wx hG
        have g4: ∃u,(x.tmps.getD 83 undef)= .agg #[.int .i64 (y:Nat), .int .i64 (n:Nat),u]∧wx.ownsRow (w.heap.size+2) 119 2 u (make fun i=>(q T).testBit i).length (spansCells (make fun i=>(q T).testBit i)):=hG.c 4 _ rfl
        have hp:=hG.p
        replace hG:=hG.good
        obtain⟨u,g4,hu⟩:=g4
        have g4b:=gd g4
        obtain⟨sa,sc,hs⟩:=owns_slice hu
        subst hs
        have HU:=jD hu
        have HP:=jD hp
        clear hu hp
        go_wp2
        exact⟨_,rfl,⟨_,CellsAt.mk (Nat.le_refl _) (by decide) (by simp) (fun j z hj=>by rw[Nat.zero_add,World.cell?_alloc_at _ _ _ _ rfl];simpa using hj),owns_below HU.out (bal _)⟩,hG.alloc (by have:=HP.out.size;omega) _,fun _=>bal _⟩
       ·intro x wx hG
        have g0:(x.tmps.getD 79 undef)=u3:=hG.c 0 _ rfl
        have g5: ∃u,CellsAt wx (x.tmps.getD 84 undef) 1 [.int .i64 (y:Nat), .int .i64 (n:Nat),u]∧wx.ownsRow (w.heap.size+2) 119 2 u (make fun i=>(q T).testBit i).length (spansCells (make fun i=>(q T).testBit i)):=hG.c 5 _ rfl
        have hp:=hG.p
        replace hG:=hG.good
        obtain⟨u,hc,hu⟩:=g5
        refine wpList_append_cells2 rfl (.tmp 79) (.tmp 84) 33 rfl (w.heap.size+2) 124 _ 3 40 Tryz.underlying33 BoxTy.info rfl (by decide) u3 l.length _ g0 (owns_below O2.out hp) _ 1 _ rfl hc rfl (by intro z hz;simp at hz;rcases hz with rfl | rfl | rfl;rfl;rfl;(obtain⟨sa,sc,rfl⟩:=owns_slice hu;rfl)) (by have:=hp.size;omega) (by unfold maxLen;omega) (by omega) ?_
        intro v9 w9 ho hgr
        refine wpList_nil ?_
        exact⟨v9,rfl,BxsOwn.push (by decide) O1.out (owns_below O2.out hp) (fun i hi hi'=>owns_below (O3.out i hi hi') hp) hu ho hgr,hG.grown hgr (by have:=hp.size;omega) (fun k hk=>((owns_below O2.out hp).lt k hk).1),fun h=>absurd rfl h⟩
       ·intro x wx hG
        have g6:BxsOwn wx (w.heap.size+2) 124 119 (x.tmps.getD 85 undef) (l++[(⟨y,n,make fun i=>(q T).testBit i⟩:Bx)]):=hG.c 6 _ rfl
        replace hG:=hG.good
        generalize hx:x.tmps.getD 85 undef=x85 at*
        have hxb:=hx
        rw[Array.getD_eq_getD_getElem?] at hxb
        have G6:=jD g6
        clear g6
        go_wp2
        exact⟨_,rfl,G6.out,hG,fun _=>Below.refl _ _⟩
      ·intro vals w11 hg hF
       obtain⟨g0,g1,g2,g3,g4,g5,g6,g7, -⟩:=hF
       have e0:=gq (vals 0) g0
       have e1:=gq (vals 1) g1
       have e2:=gq (vals 2) g2
       replace g7:BxsOwn w11 (w.heap.size+2) 124 119 (vals 7) (l++[(⟨y,n,make fun i=>(q T).testBit i⟩:Bx)]):=g7 rfl
       simp only[Cl.puts,e0,e1,e2]
       clear e0 e1 e2 g0 g1 g2 g3 g4 g5 g6
       go_simp
       generalize vals 7=v10 at*
       have G7:=jD g7
       clear g7
       go_wp2
       go_roundw
       case rel=>
        refine⟨T+1,l++[(⟨y,n,make fun i=>(q T).testBit i⟩:Bx)],(fun k=>dn k || cubeIn (y:Int) (n:Int) (k:Int)),by omega,by go_num,ST.out.push hlt HZ.out CS.out,G7.out,(hg.block w.heap.size (by omega)).trans TB.out, ?_,bel.trans (hg.mono (by omega))⟩
        refine((hg.block (w.heap.size+1) (by omega)).trans FL.out).trans (congrArg (fun c=>some (Obj.cells c 240 (0,0))) ?_)
        unfold flagC
        congr 1
        all_goals (refine List.map_congr_left fun o ho=> ?_)
        all_goals (simp only[List.mem_range.1 ho,decide_true,Bool.true_and])
       case measure=>first | (simp[intOf];done) | (simp[intOf];omega)
   have hdk:decide ((k:Int) < 4)=true:=by simp only[decide_eq_true_eq];omega
   have ha1:=(andNot_fact y hy k hkl)
   have ha2:=(andNot_fact n hn k hkl)
   go_wp2_with fail
   refine Cl.region0 88 rfl [11] (fun ww=>ww.heap.size=w6.heap.size) (fun _=>[]) (fun jq v ww=>match jq with | 0=>v= .pointer (some ⟨w5.heap.size,0,none⟩) | 1=>v= .int .i64 (y:Nat) | 2=>v= .int .i64 (k:Nat) | 3=>v= .int .i64 ((2:Int)^k) | 4=>v= .int .i64 (dropB y k:Nat) | 5=>v= .pointer (some ⟨w5.heap.size,1,none⟩) | 6=>v= .int .i64 (n:Nat) | 7=>v= .int .i64 (k:Nat) | 8=>v= .int .i64 ((2:Int)^k) | 9=>v= .int .i64 (dropB n k:Nat) | 10=>v= .agg #[.int .i64 (dropB y k:Nat), .int .i64 (dropB n k:Nat)] | 11=>(∃c0 c1,ww.heap[w6.heap.size]? =some (.cells #[c0,c1] 122 (0,0)))∧v= .pointer (some ⟨w6.heap.size,0,none⟩) | 12=>ww.heap[w6.heap.size]? =some (.cells #[.int .i64 (dropB y k:Nat), .int .i64 (dropB n k:Nat)] 122 (0,0)) | _=>True) (fun ww=>Below w6.heap.size w6 ww) (fun jq ww ww'=>(jq=11∨ww'.heap.size=ww.heap.size)∧(jq=11∨jq=12∨ww'.heap=ww.heap)∧ ∀c0 c1,ww.heap[w6.heap.size]? =some (.cells #[c0,c1] 122 (0,0))→ ∃d0 d1,ww'.heap[w6.heap.size]? =some (.cells #[d0,d1] 122 (0,0))) Tryz.mixed (by decide+kernel) (Below.refl _ _).drew rfl ?_ (fun jq ww ww' hk h hR=>by rcases hR.1 with e | e;exact absurd e (by simpa using hk);exact e.trans h) ?_ ?_
   ·intro q r v w w' hne hk hlt h hR
    match r,hk,hlt,h,hne with
    | 0,_,_,h,_=>exact h
    | 1,_,_,h,_=>exact h
    | 2,_,_,h,_=>exact h
    | 3,_,_,h,_=>exact h
    | 4,_,_,h,_=>exact h
    | 5,_,_,h,_=>exact h
    | 6,_,_,h,_=>exact h
    | 7,_,_,h,_=>exact h
    | 8,_,_,h,_=>exact h
    | 9,_,_,h,_=>exact h
    | 10,_,_,h,_=>exact h
    | 11,_,_,h,_=>obtain ⟨⟨c0,c1,h1⟩,h2⟩:=h;exact ⟨hR.2.2 c0 c1 h1,h2⟩
    | 12,_,hlt,h,hne=>rcases hR.2.1 with e | e | e;(subst e;exact absurd hlt (by decide+kernel));(exact absurd e hne);(exact(congrArg (fun (x:Array Obj)=>x[w6.heap.size]?) e).trans h)
    | _+13,_,_,_,_=>trivial
   ·refine⟨?_, ?_, ?_, ?_, ?_, ?_, ?_, ?_, ?_, ?_, ?_, ?_, ?_,trivial⟩
    ·intro x wx hG
     have f6:=hG.o 6
     replace hG:=hG.good
     go_wp2
     exact⟨_,rfl,rfl,hG,⟨.inr rfl, .inr (.inr rfl),fun c0 c1 h=>⟨c0,c1,h⟩⟩⟩
    ·intro x wx hG
     have g0:(x.tmps.getD 31 undef)= .pointer (some ⟨w5.heap.size,0,none⟩):=hG.c 0 _ rfl
     replace hG:=hG.good
     have hC:=(hG.block w5.heap.size (by omega)).trans HC.out
     have c:=cell_of_block (j:=0) hC rfl
     clear hC
     go_wp2
     exact⟨_,rfl,rfl,hG,⟨.inr rfl, .inr (.inr rfl),fun c0 c1 h=>⟨c0,c1,h⟩⟩⟩
    ·intro x wx hG
     have f7:=hG.o 7
     replace hG:=hG.good
     go_wp2
     exact⟨_,rfl,rfl,hG,⟨.inr rfl, .inr (.inr rfl),fun c0 c1 h=>⟨c0,c1,h⟩⟩⟩
    ·intro x wx hG
     have g2:(x.tmps.getD 33 undef)= .int .i64 (k:Nat):=hG.c 2 _ rfl
     replace hG:=hG.good
     go_wp2
     exact⟨_,rfl,(by show Value.int _ _=_;rw [pow_wrap k hkl]),hG,⟨.inr rfl, .inr (.inr rfl),fun c0 c1 h=>⟨c0,c1,h⟩⟩⟩
    ·intro x wx hG
     have g1:(x.tmps.getD 32 undef)= .int .i64 (y:Nat):=hG.c 1 _ rfl
     have g3:(x.tmps.getD 34 undef)= .int .i64 ((2:Int)^k):=hG.c 3 _ rfl
     replace hG:=hG.good
     go_wp2
     exact⟨_,rfl,rfl,hG,⟨.inr rfl, .inr (.inr rfl),fun c0 c1 h=>⟨c0,c1,h⟩⟩⟩
    ·intro x wx hG
     have f6:=hG.o 6
     replace hG:=hG.good
     go_wp2
     exact⟨_,rfl,rfl,hG,⟨.inr rfl, .inr (.inr rfl),fun c0 c1 h=>⟨c0,c1,h⟩⟩⟩
    ·intro x wx hG
     have g5:(x.tmps.getD 36 undef)= .pointer (some ⟨w5.heap.size,1,none⟩):=hG.c 5 _ rfl
     replace hG:=hG.good
     have hC:=(hG.block w5.heap.size (by omega)).trans HC.out
     have c:=cell_of_block (j:=1) hC rfl
     clear hC
     go_wp2
     exact⟨_,rfl,rfl,hG,⟨.inr rfl, .inr (.inr rfl),fun c0 c1 h=>⟨c0,c1,h⟩⟩⟩
    ·intro x wx hG
     have f7:=hG.o 7
     replace hG:=hG.good
     go_wp2
     exact⟨_,rfl,rfl,hG,⟨.inr rfl, .inr (.inr rfl),fun c0 c1 h=>⟨c0,c1,h⟩⟩⟩
    ·intro x wx hG
     have g7:(x.tmps.getD 38 undef)= .int .i64 (k:Nat):=hG.c 7 _ rfl
     replace hG:=hG.good
     go_wp2
     exact⟨_,rfl,(by show Value.int _ _=_;rw [pow_wrap k hkl]),hG,⟨.inr rfl, .inr (.inr rfl),fun c0 c1 h=>⟨c0,c1,h⟩⟩⟩
    ·intro x wx hG
     have g6:(x.tmps.getD 37 undef)= .int .i64 (n:Nat):=hG.c 6 _ rfl
     have g8:(x.tmps.getD 39 undef)= .int .i64 ((2:Int)^k):=hG.c 8 _ rfl
     replace hG:=hG.good
     go_wp2
     exact⟨_,rfl,rfl,hG,⟨.inr rfl, .inr (.inr rfl),fun c0 c1 h=>⟨c0,c1,h⟩⟩⟩
    ·intro x wx hG
     have g4:(x.tmps.getD 35 undef)= .int .i64 (dropB y k:Nat):=hG.c 4 _ rfl
     have g4b:=gd g4
     have g9:(x.tmps.getD 40 undef)= .int .i64 (dropB n k:Nat):=hG.c 9 _ rfl
     have g9b:=gd g9
     replace hG:=hG.good
     go_wp2
     exact⟨_,rfl,rfl,hG,⟨.inr rfl, .inr (.inr rfl),fun c0 c1 h=>⟨c0,c1,h⟩⟩⟩
    ·intro x wx hG
     have hp:=hG.p
     replace hG:=hG.good
     have HP:=jD hp
     clear hp
     go_wp2
     exact⟨_,rfl,⟨⟨_,_,by have h:=heap_alloc_new wx (.cells #[.int .i64 0, .int .i64 0] 122);rw [HP.out] at h;exact h⟩,by show Value.pointer _=_;rw [HP.out]⟩,hG.alloc hG.size _, .inl rfl, .inl rfl,fun c0 c1 h=>absurd (Array.getElem?_eq_some_iff.1 h).1 (by rw[HP.out];exact Nat.lt_irrefl _)⟩
    ·intro x wx hG
     have g10:(x.tmps.getD 41 undef)= .agg #[.int .i64 (dropB y k:Nat), .int .i64 (dropB n k:Nat)]:=hG.c 10 _ rfl
     have g11:(∃c0 c1,wx.heap[w6.heap.size]? =some (.cells #[c0,c1] 122 (0,0)))∧(x.tmps.getD 8 undef)= .pointer (some ⟨w6.heap.size,0,none⟩):=hG.c 11 _ rfl
     replace hG:=hG.good
     obtain⟨⟨c0,c1,hb⟩,g11⟩:=g11
     have k0:=cell_of_block (j:=0) hb rfl
     have k1:=cell_of_block (j:=1) hb rfl
     have l0:=free_of_block (j:=0) hb
     have l1:=free_of_block (j:=1) hb
     have HB:=jD hb
     clear hb
     go_wp2
     exact⟨undef,rfl,heap_set_same (heap_set_same HB.out),(hG.setCell (Nat.le_refl _) _).setCell (Nat.le_refl _) _, .inr (by simp), .inr (.inl rfl),fun _ _ _=>⟨_,_,heap_set_same (heap_set_same HB.out)⟩⟩
   ·intro vals w7 hg hF
    obtain⟨g0,g1,g2,g3,g4,g5,g6,g7,g8,g9,g10,g11,g12, -⟩:=hF
    have e0:=gq (vals 0) g0
    have e1:=gq (vals 1) g1
    have e2:=gq (vals 2) g2
    have e3:=gq (vals 3) g3
    have e4:=gq (vals 4) g4
    have e5:=gq (vals 5) g5
    have e6:=gq (vals 6) g6
    have e7:=gq (vals 7) g7
    have e8:=gq (vals 8) g8
    have e9:=gq (vals 9) g9
    have e10:=gq (vals 10) g10
    have e11:vals 11= .pointer (some ⟨w6.heap.size,0,none⟩):=(g11 rfl).2
    replace g12:w7.heap[w6.heap.size]? =some (.cells #[.int .i64 (dropB y k:Nat), .int .i64 (dropB n k:Nat)] 122 (0,0)):=g12 rfl
    simp only[Cl.puts,e0,e1,e2,e3,e4,e5,e6,e7,e8,e9,e10,e11]
    clear e0 e1 e2 e3 e4 e5 e6 e7 e8 e9 e10 e11 g0 g1 g2 g3 g4 g5 g6 g7 g8 g9 g10 g11
    go_simp
    have hz7:w6.heap.size < w7.heap.size:=(Array.getElem?_eq_some_iff.1 g12).1
    have G7:=jD g12
    have HC7:=jD ((hg.block w5.heap.size (by omega)).trans HC.out)
    have hb7:=bstep hb6 hg
    have TB7:=jD ((hb7.block w.heap.size (by omega)).trans TB5.out)
    have T7:=jD ((hb7.block B5 (by omega)).trans T5.out)
    clear g12 hg hb6 HC
    go_wp2
    go_loopw [9,42] (fun bb i wx=> ∃(j:Nat) (b:Bool),j≤16∧i= .int .i64 j∧bb= .bool b∧(b=true↔sameTo q T (dropB y k) (dropB n k) j)∧Below w7.heap.size w7 wx) (fun _ i _=>16 - (intOf i).toNat)
    case atStart=>exact ⟨0,true,by omega,rfl,rfl,⟨fun _ o ho=>by omega,fun _=>rfl⟩,Below.refl _ _⟩
    case round=>
     obtain⟨j,b,hj,rfl,rfl,hsame,hb8⟩:=hrel
     have HS:=jD hsame
     clear hsame
     obtain⟨w8,hw8⟩: ∃w8,w8=wr:=⟨_,rfl⟩
     subst hw8
     by_cases hjl:j < 16
     rotate_left
     ·obtain rfl:j=16:=by omega
      have hz8:=hb8.size
      cases b
      ·go_wp2
       go_roundw
       case rel=>exact ⟨k+1,y,n,by omega,by go_num,CS.out,(hb8.block _ (by omega)).trans HC7.out,hb7.trans (hb8.mono (by omega))⟩
       case measure=>first | (simp[intOf];done) | (simp[intOf];omega)
      ·have hC:=jD ((hb8.block w5.heap.size (by omega)).trans HC7.out)
       have hG:=jD ((hb8.block w6.heap.size (by omega)).trans G7.out)
       have k0:=cell_of_block (j:=0) hC.out rfl
       have k1:=cell_of_block (j:=1) hC.out rfl
       have l0:=free_of_block (j:=0) hC.out
       have l1:=free_of_block (j:=1) hC.out
       have m0:=cell_of_block (j:=0) hG.out rfl
       have m1:=cell_of_block (j:=1) hG.out rfl
       go_wp2
       go_roundw
       case rel=>exact ⟨k+1,dropB y k,dropB n k,by omega,by go_num,CS.out.drop hlt hkl (fun o ho=>HS.out.1 (by simp) o ho),heap_set_same (heap_set_same hC.out),((hb7.trans (hb8.mono (by omega))).setCell (Nat.le_refl _) _).setCell (Nat.le_refl _) _⟩
       case measure=>first | (simp[intOf];done) | (simp[intOf];omega)
     have hdj:decide ((j:Int) < 16)=true:=by simp only[decide_eq_true_eq];omega
     have tb:=(hb8.block w.heap.size (by omega)).trans TB7.out
     have cj:=cell_of_block (j:=j) tb (tabC_get q j hjl)
     have cT:=cell_of_block (j:=T) tb (tabC_get q T hlt)
     have t8:=cell_of_block (j:=0) ((hb8.block B5 (by omega)).trans T7.out) rfl
     have hG:=((hb8.block w6.heap.size (by omega)).trans G7.out)
     have m0:=cell_of_block (j:=0) hG rfl
     have m1:=cell_of_block (j:=1) hG rfl
     clear tb hG
     have CJ:=jD cj
     have CT:=jD cT
     have T8:=jD t8
     have M0:=jD m0
     have M1:=jD m1
     clear cj cT t8 m0 m1
     cases b
     ·have HI:=jD (rfl:(0:Nat)=0)
      go_wp2_with fail
      refine Cl.region0 88 rfl [] (fun _=>True) (fun _=>[]) (fun jq v ww=>match jq with | 0=>v= .bool false | 1=>v= .bool false | 2=>v=undef | 3=>v=undef | 4=>v=undef | 5=>v=undef | 6=>v=undef | 7=>v=undef | 8=>v=undef | 9=>v=undef | 10=>v=undef | 11=>v=undef | 12=>v=undef | 13=>v=undef | 14=>v=undef | 15=>v= .bool false | 16=>v= .bool false | _=>True) (fun ww=>Below w8.heap.size w8 ww) (fun jq ww ww'=>Below ww.heap.size ww ww') Tryz.mixed (by decide+kernel) (Below.refl _ _).drew trivial (fun q r v w w' _ _ _ h _=>h) (fun _ _ _ _ _ _=>trivial) ?_ ?_
      ·refine⟨?_, ?_, ?_, ?_, ?_, ?_, ?_, ?_, ?_, ?_, ?_, ?_, ?_, ?_, ?_, ?_, ?_,trivial⟩
       ·intro x wx hG
        have f9:=hG.o 9
        replace hG:=hG.good
        go_wp2
        exact⟨_,rfl,rfl,hG,Below.refl _ _⟩
       ·intro x wx hG
        have g0:(x.tmps.getD 45 undef)= .bool false:=hG.c 0 _ rfl
        replace hG:=hG.good
        go_wp2
        exact⟨_,rfl,rfl,hG,Below.refl _ _⟩
       ·intro x wx hG
        have gg:(x.tmps.getD 46 undef)= .bool false:=hG.c 1 _ rfl
        replace gg:=Cl.opt (hG.size.trans (show _=88 from rfl)) (by decide) gg
        replace hG:=hG.good
        go_wp2
        exact⟨_,rfl,rfl,hG,Below.refl _ _⟩
       ·intro x wx hG
        have gg:(x.tmps.getD 46 undef)= .bool false:=hG.c 1 _ rfl
        replace gg:=Cl.opt (hG.size.trans (show _=88 from rfl)) (by decide) gg
        replace hG:=hG.good
        go_wp2
        exact⟨_,rfl,rfl,hG,Below.refl _ _⟩
       ·intro x wx hG
        have gg:(x.tmps.getD 46 undef)= .bool false:=hG.c 1 _ rfl
        replace gg:=Cl.opt (hG.size.trans (show _=88 from rfl)) (by decide) gg
        replace hG:=hG.good
        go_wp2
        exact⟨_,rfl,rfl,hG,Below.refl _ _⟩
       ·intro x wx hG
        have gg:(x.tmps.getD 46 undef)= .bool false:=hG.c 1 _ rfl
        replace gg:=Cl.opt (hG.size.trans (show _=88 from rfl)) (by decide) gg
        replace hG:=hG.good
        go_wp2
        exact⟨_,rfl,rfl,hG,Below.refl _ _⟩
       ·intro x wx hG
        have gg:(x.tmps.getD 46 undef)= .bool false:=hG.c 1 _ rfl
        replace gg:=Cl.opt (hG.size.trans (show _=88 from rfl)) (by decide) gg
        replace hG:=hG.good
        go_wp2
        exact⟨_,rfl,rfl,hG,Below.refl _ _⟩
       ·intro x wx hG
        have gg:(x.tmps.getD 51 undef)=undef:=hG.c 6 _ rfl
        replace gg:=Cl.opt (hG.size.trans (show _=88 from rfl)) (by decide) gg
        unfold undef at gg
        replace hG:=hG.good
        go_wp2
        exact⟨_,rfl,rfl,hG,Below.refl _ _⟩
       ·intro x wx hG
        have gg:(x.tmps.getD 51 undef)=undef:=hG.c 6 _ rfl
        replace gg:=Cl.opt (hG.size.trans (show _=88 from rfl)) (by decide) gg
        unfold undef at gg
        replace hG:=hG.good
        go_wp2
        exact⟨_,rfl,rfl,hG,Below.refl _ _⟩
       ·intro x wx hG
        have gg:(x.tmps.getD 51 undef)=undef:=hG.c 6 _ rfl
        replace gg:=Cl.opt (hG.size.trans (show _=88 from rfl)) (by decide) gg
        unfold undef at gg
        replace hG:=hG.good
        go_wp2
        exact⟨_,rfl,rfl,hG,Below.refl _ _⟩
       ·intro x wx hG
        have gg:(x.tmps.getD 51 undef)=undef:=hG.c 6 _ rfl
        replace gg:=Cl.opt (hG.size.trans (show _=88 from rfl)) (by decide) gg
        unfold undef at gg
        replace hG:=hG.good
        go_wp2
        exact⟨_,rfl,rfl,hG,Below.refl _ _⟩
       ·intro x wx hG
        have gg:(x.tmps.getD 51 undef)=undef:=hG.c 6 _ rfl
        replace gg:=Cl.opt (hG.size.trans (show _=88 from rfl)) (by decide) gg
        unfold undef at gg
        replace hG:=hG.good
        go_wp2
        exact⟨_,rfl,rfl,hG,Below.refl _ _⟩
       ·intro x wx hG
        have gg:(x.tmps.getD 51 undef)=undef:=hG.c 6 _ rfl
        replace gg:=Cl.opt (hG.size.trans (show _=88 from rfl)) (by decide) gg
        unfold undef at gg
        replace hG:=hG.good
        go_wp2
        exact⟨_,rfl,rfl,hG,Below.refl _ _⟩
       ·intro x wx hG
        have gg:(x.tmps.getD 51 undef)=undef:=hG.c 6 _ rfl
        replace gg:=Cl.opt (hG.size.trans (show _=88 from rfl)) (by decide) gg
        unfold undef at gg
        replace hG:=hG.good
        go_wp2
        exact⟨_,rfl,rfl,hG,Below.refl _ _⟩
       ·intro x wx hG
        have gg:(x.tmps.getD 46 undef)= .bool false:=hG.c 1 _ rfl
        replace gg:=Cl.opt (hG.size.trans (show _=88 from rfl)) (by decide) gg
        replace hG:=hG.good
        go_wp2
        exact⟨_,rfl,rfl,hG,Below.refl _ _⟩
       ·intro x wx hG
        have g1:(x.tmps.getD 46 undef)= .bool false:=hG.c 1 _ rfl
        have g14:(x.tmps.getD 59 undef)=undef:=hG.c 14 _ rfl
        replace hG:=hG.good
        go_wp2
        exact⟨_,rfl,rfl,hG,Below.refl _ _⟩
       ·intro x wx hG
        have g15:(x.tmps.getD 60 undef)= .bool false:=hG.c 15 _ rfl
        replace hG:=hG.good
        go_wp2
        exact⟨_,rfl,rfl,hG,Below.refl _ _⟩
      ·intro vals w10 hg hF
       obtain⟨g0,g1,g2,g3,g4,g5,g6,g7,g8,g9,g10,g11,g12,g13,g14,g15,g16, -⟩:=hF
       have e0:=gq (vals 0) g0
       have e1:=gq (vals 1) g1
       have e2:=gq (vals 2) g2
       have e3:=gq (vals 3) g3
       have e4:=gq (vals 4) g4
       have e5:=gq (vals 5) g5
       have e6:=gq (vals 6) g6
       have e7:=gq (vals 7) g7
       have e8:=gq (vals 8) g8
       have e9:=gq (vals 9) g9
       have e10:=gq (vals 10) g10
       have e11:=gq (vals 11) g11
       have e12:=gq (vals 12) g12
       have e13:=gq (vals 13) g13
       have e14:=gq (vals 14) g14
       have e15:=gq (vals 15) g15
       have e16:=gq (vals 16) g16
       simp only[Cl.puts,e0,e1,e2,e3,e4,e5,e6,e7,e8,e9,e10,e11,e12,e13,e14,e15,e16]
       clear e0 e1 e2 e3 e4 e5 e6 e7 e8 e9 e10 e11 e12 e13 e14 e15 e16 g0 g1 g2 g3 g4 g5 g6 g7 g8 g9 g10 g11 g12 g13 g14 g15 g16
       go_simp
       go_wp2
       go_roundw
       case rel=>exact ⟨j+1,false,by omega,by go_num,rfl,⟨fun h=>zd h,fun h=>HS.out.2 (sameTo_succ.1 h).1⟩,bstep hb8 hg⟩
       case measure=>first | (simp[intOf];done) | (simp[intOf];omega)
     cases hin:cubeIn (dropB y k:Int) (dropB n k:Int) (j:Int)
     ·have HI:=jD hin
      clear hin
      go_wp2_with fail
      refine Cl.region0 88 rfl [] (fun _=>True) (fun _=>[]) (fun jq v ww=>match jq with | 0=>v= .bool true | 1=>v= .bool true | 2=>v= .agg #[.int .i64 (dropB y k:Nat), .int .i64 (dropB n k:Nat)] | 3=>v= .int .i64 (j:Nat) | 4=>v= .bool false | 5=>v= .bool true | 6=>v= .bool true | 7=>v=undef | 8=>v=undef | 9=>v=undef | 10=>v=undef | 11=>v=undef | 12=>v=undef | 13=>v=undef | 14=>v= .bool true | 15=>v= .bool true | 16=>v= .bool true | _=>True) (fun ww=>Below w8.heap.size w8 ww) (fun jq ww ww'=>Below ww.heap.size ww ww') Tryz.mixed (by decide+kernel) (Below.refl _ _).drew trivial (fun q r v w w' _ _ _ h _=>h) (fun _ _ _ _ _ _=>trivial) ?_ ?_
      ·refine⟨?_, ?_, ?_, ?_, ?_, ?_, ?_, ?_, ?_, ?_, ?_, ?_, ?_, ?_, ?_, ?_, ?_,trivial⟩
       ·intro x wx hG
        have f9:=hG.o 9
        replace hG:=hG.good
        go_wp2
        exact⟨_,rfl,rfl,hG,Below.refl _ _⟩
       ·intro x wx hG
        have g0:(x.tmps.getD 45 undef)= .bool true:=hG.c 0 _ rfl
        replace hG:=hG.good
        go_wp2
        exact⟨_,rfl,rfl,hG,Below.refl _ _⟩
       ·intro x wx hG
        have f8:=hG.o 8
        have gg:(x.tmps.getD 46 undef)= .bool true:=hG.c 1 _ rfl
        replace gg:=Cl.opt (hG.size.trans (show _=88 from rfl)) (by decide) gg
        replace hG:=hG.good
        have cM0:=ckeep hG M0.out
        have cM1:=ckeep hG M1.out
        go_wp2
        exact⟨_,rfl,rfl,hG,Below.refl _ _⟩
       ·intro x wx hG
        have f10:=hG.o 10
        have gg:(x.tmps.getD 46 undef)= .bool true:=hG.c 1 _ rfl
        replace gg:=Cl.opt (hG.size.trans (show _=88 from rfl)) (by decide) gg
        replace hG:=hG.good
        go_wp2
        exact⟨_,rfl,rfl,hG,Below.refl _ _⟩
       ·intro x wx hG
        have g2:(x.tmps.getD 47 undef)= .agg #[.int .i64 (dropB y k:Nat), .int .i64 (dropB n k:Nat)]:=hG.c 2 _ rfl
        have g3:(x.tmps.getD 48 undef)= .int .i64 (j:Nat):=hG.c 3 _ rfl
        have gg:(x.tmps.getD 46 undef)= .bool true:=hG.c 1 _ rfl
        replace gg:=Cl.opt (hG.size.trans (show _=88 from rfl)) (by decide) gg
        replace hG:=hG.good
        go_wp2_with fail
        (with_reducible refine(cubeIn_c _ _ _ _).mono ?_)
        rintro e w9 ⟨rfl,hb⟩
        rw[HI.out]
        clear g2 g3 gg
        go_wp2
        exact⟨_,rfl,rfl,bstep hG hb,hb⟩
       ·intro x wx hG
        have g4:(x.tmps.getD 49 undef)= .bool false:=hG.c 4 _ rfl
        have gg:(x.tmps.getD 46 undef)= .bool true:=hG.c 1 _ rfl
        replace gg:=Cl.opt (hG.size.trans (show _=88 from rfl)) (by decide) gg
        replace hG:=hG.good
        go_wp2
        exact⟨_,rfl,rfl,hG,Below.refl _ _⟩
       ·intro x wx hG
        have g5:(x.tmps.getD 50 undef)= .bool true:=hG.c 5 _ rfl
        have gg:(x.tmps.getD 46 undef)= .bool true:=hG.c 1 _ rfl
        replace gg:=Cl.opt (hG.size.trans (show _=88 from rfl)) (by decide) gg
        replace hG:=hG.good
        go_wp2
        exact⟨_,rfl,rfl,hG,Below.refl _ _⟩
       ·intro x wx hG
        have gg:(x.tmps.getD 51 undef)= .bool true:=hG.c 6 _ rfl
        replace gg:=Cl.opt (hG.size.trans (show _=88 from rfl)) (by decide) gg
        replace hG:=hG.good
        go_wp2
        exact⟨_,rfl,rfl,hG,Below.refl _ _⟩
       ·intro x wx hG
        have gg:(x.tmps.getD 51 undef)= .bool true:=hG.c 6 _ rfl
        replace gg:=Cl.opt (hG.size.trans (show _=88 from rfl)) (by decide) gg
        replace hG:=hG.good
        go_wp2
        exact⟨_,rfl,rfl,hG,Below.refl _ _⟩
       ·intro x wx hG
        have gg:(x.tmps.getD 51 undef)= .bool true:=hG.c 6 _ rfl
        replace gg:=Cl.opt (hG.size.trans (show _=88 from rfl)) (by decide) gg
        replace hG:=hG.good
        go_wp2
        exact⟨_,rfl,rfl,hG,Below.refl _ _⟩
       ·intro x wx hG
        have gg:(x.tmps.getD 51 undef)= .bool true:=hG.c 6 _ rfl
        replace gg:=Cl.opt (hG.size.trans (show _=88 from rfl)) (by decide) gg
        replace hG:=hG.good
        go_wp2
        exact⟨_,rfl,rfl,hG,Below.refl _ _⟩
       ·intro x wx hG
        have gg:(x.tmps.getD 51 undef)= .bool true:=hG.c 6 _ rfl
        replace gg:=Cl.opt (hG.size.trans (show _=88 from rfl)) (by decide) gg
        replace hG:=hG.good
        go_wp2
        exact⟨_,rfl,rfl,hG,Below.refl _ _⟩
       ·intro x wx hG
        have gg:(x.tmps.getD 51 undef)= .bool true:=hG.c 6 _ rfl
        replace gg:=Cl.opt (hG.size.trans (show _=88 from rfl)) (by decide) gg
        replace hG:=hG.good
        go_wp2
        exact⟨_,rfl,rfl,hG,Below.refl _ _⟩
       ·intro x wx hG
        have gg:(x.tmps.getD 51 undef)= .bool true:=hG.c 6 _ rfl
        replace gg:=Cl.opt (hG.size.trans (show _=88 from rfl)) (by decide) gg
        replace hG:=hG.good
        go_wp2
        exact⟨_,rfl,rfl,hG,Below.refl _ _⟩
       ·intro x wx hG
        have g6:(x.tmps.getD 51 undef)= .bool true:=hG.c 6 _ rfl
        have g13:(x.tmps.getD 58 undef)=undef:=hG.c 13 _ rfl
        have gg:(x.tmps.getD 46 undef)= .bool true:=hG.c 1 _ rfl
        replace gg:=Cl.opt (hG.size.trans (show _=88 from rfl)) (by decide) gg
        replace hG:=hG.good
        go_wp2
        exact⟨_,rfl,rfl,hG,Below.refl _ _⟩
       ·intro x wx hG
        have g1:(x.tmps.getD 46 undef)= .bool true:=hG.c 1 _ rfl
        have g14:(x.tmps.getD 59 undef)= .bool true:=hG.c 14 _ rfl
        replace hG:=hG.good
        go_wp2
        exact⟨_,rfl,rfl,hG,Below.refl _ _⟩
       ·intro x wx hG
        have g15:(x.tmps.getD 60 undef)= .bool true:=hG.c 15 _ rfl
        replace hG:=hG.good
        go_wp2
        exact⟨_,rfl,rfl,hG,Below.refl _ _⟩
      ·intro vals w10 hg hF
       obtain⟨g0,g1,g2,g3,g4,g5,g6,g7,g8,g9,g10,g11,g12,g13,g14,g15,g16, -⟩:=hF
       have e0:=gq (vals 0) g0
       have e1:=gq (vals 1) g1
       have e2:=gq (vals 2) g2
       have e3:=gq (vals 3) g3
       have e4:=gq (vals 4) g4
       have e5:=gq (vals 5) g5
       have e6:=gq (vals 6) g6
       have e7:=gq (vals 7) g7
       have e8:=gq (vals 8) g8
       have e9:=gq (vals 9) g9
       have e10:=gq (vals 10) g10
       have e11:=gq (vals 11) g11
       have e12:=gq (vals 12) g12
       have e13:=gq (vals 13) g13
       have e14:=gq (vals 14) g14
       have e15:=gq (vals 15) g15
       have e16:=gq (vals 16) g16
       simp only[Cl.puts,e0,e1,e2,e3,e4,e5,e6,e7,e8,e9,e10,e11,e12,e13,e14,e15,e16]
       clear e0 e1 e2 e3 e4 e5 e6 e7 e8 e9 e10 e11 e12 e13 e14 e15 e16 g0 g1 g2 g3 g4 g5 g6 g7 g8 g9 g10 g11 g12 g13 g14 g15 g16
       go_simp
       go_wp2
       go_roundw
       case rel=>exact ⟨j+1,true,by omega,by go_num,rfl,⟨fun _=>sameTo_succ.2 ⟨HS.out.1 (by simp),fun h=>by rw[HI.out] at h;exact absurd h (by decide)⟩,fun _=>rfl⟩,bstep hb8 hg⟩
       case measure=>first | (simp[intOf];done) | (simp[intOf];omega)
     ·have HI:=jD hin
      clear hin
      go_wp2_with fail
      refine Cl.region0 88 rfl [] (fun _=>True) (fun _=>[]) (fun jq v ww=>match jq with | 0=>v= .bool true | 1=>v= .bool true | 2=>v= .agg #[.int .i64 (dropB y k:Nat), .int .i64 (dropB n k:Nat)] | 3=>v= .int .i64 (j:Nat) | 4=>v= .bool true | 5=>v= .bool false | 6=>v= .bool false | 7=>v= .int .i64 (j:Nat) | 8=>v= .pointer (some ⟨w.heap.size,j,none⟩) | 9=>v= .int .u32 (q j:Nat) | 10=>v= .int .i64 (T:Nat) | 11=>v= .pointer (some ⟨w.heap.size,T,none⟩) | 12=>v= .int .u32 (q T:Nat) | 13=>v= .bool ((q j:Int)==(q T:Int)) | 14=>v= .bool ((q j:Int)==(q T:Int)) | 15=>v= .bool ((q j:Int)==(q T:Int)) | 16=>v= .bool ((q j:Int)==(q T:Int)) | _=>True) (fun ww=>Below w8.heap.size w8 ww) (fun jq ww ww'=>Below ww.heap.size ww ww') Tryz.mixed (by decide+kernel) (Below.refl _ _).drew trivial (fun q r v w w' _ _ _ h _=>h) (fun _ _ _ _ _ _=>trivial) ?_ ?_
      ·refine⟨?_, ?_, ?_, ?_, ?_, ?_, ?_, ?_, ?_, ?_, ?_, ?_, ?_, ?_, ?_, ?_, ?_,trivial⟩
       ·intro x wx hG
        have f9:=hG.o 9
        replace hG:=hG.good
        go_wp2
        exact⟨_,rfl,rfl,hG,Below.refl _ _⟩
       ·intro x wx hG
        have g0:(x.tmps.getD 45 undef)= .bool true:=hG.c 0 _ rfl
        replace hG:=hG.good
        go_wp2
        exact⟨_,rfl,rfl,hG,Below.refl _ _⟩
       ·intro x wx hG
        have f8:=hG.o 8
        have gg:(x.tmps.getD 46 undef)= .bool true:=hG.c 1 _ rfl
        replace gg:=Cl.opt (hG.size.trans (show _=88 from rfl)) (by decide) gg
        replace hG:=hG.good
        have cM0:=ckeep hG M0.out
        have cM1:=ckeep hG M1.out
        go_wp2
        exact⟨_,rfl,rfl,hG,Below.refl _ _⟩
       ·intro x wx hG
        have f10:=hG.o 10
        have gg:(x.tmps.getD 46 undef)= .bool true:=hG.c 1 _ rfl
        replace gg:=Cl.opt (hG.size.trans (show _=88 from rfl)) (by decide) gg
        replace hG:=hG.good
        go_wp2
        exact⟨_,rfl,rfl,hG,Below.refl _ _⟩
       ·intro x wx hG
        have g2:(x.tmps.getD 47 undef)= .agg #[.int .i64 (dropB y k:Nat), .int .i64 (dropB n k:Nat)]:=hG.c 2 _ rfl
        have g3:(x.tmps.getD 48 undef)= .int .i64 (j:Nat):=hG.c 3 _ rfl
        have gg:(x.tmps.getD 46 undef)= .bool true:=hG.c 1 _ rfl
        replace gg:=Cl.opt (hG.size.trans (show _=88 from rfl)) (by decide) gg
        replace hG:=hG.good
        go_wp2_with fail
        (with_reducible refine(cubeIn_c _ _ _ _).mono ?_)
        rintro e w9 ⟨rfl,hb⟩
        rw[HI.out]
        clear g2 g3 gg
        go_wp2
        exact⟨_,rfl,rfl,bstep hG hb,hb⟩
       ·intro x wx hG
        have g4:(x.tmps.getD 49 undef)= .bool true:=hG.c 4 _ rfl
        have gg:(x.tmps.getD 46 undef)= .bool true:=hG.c 1 _ rfl
        replace gg:=Cl.opt (hG.size.trans (show _=88 from rfl)) (by decide) gg
        replace hG:=hG.good
        go_wp2
        exact⟨_,rfl,rfl,hG,Below.refl _ _⟩
       ·intro x wx hG
        have g5:(x.tmps.getD 50 undef)= .bool false:=hG.c 5 _ rfl
        have gg:(x.tmps.getD 46 undef)= .bool true:=hG.c 1 _ rfl
        replace gg:=Cl.opt (hG.size.trans (show _=88 from rfl)) (by decide) gg
        replace hG:=hG.good
        go_wp2
        exact⟨_,rfl,rfl,hG,Below.refl _ _⟩
       ·intro x wx hG
        have f10:=hG.o 10
        have gg:(x.tmps.getD 51 undef)= .bool false:=hG.c 6 _ rfl
        replace gg:=Cl.opt (hG.size.trans (show _=88 from rfl)) (by decide) gg
        replace hG:=hG.good
        go_wp2
        exact⟨_,rfl,rfl,hG,Below.refl _ _⟩
       ·intro x wx hG
        have f1:=hG.o 1
        have g7:(x.tmps.getD 52 undef)= .int .i64 (j:Nat):=hG.c 7 _ rfl
        have gg:(x.tmps.getD 51 undef)= .bool false:=hG.c 6 _ rfl
        replace gg:=Cl.opt (hG.size.trans (show _=88 from rfl)) (by decide) gg
        replace hG:=hG.good
        go_wp2
        exact⟨_,rfl,rfl,hG,Below.refl _ _⟩
       ·intro x wx hG
        have g8:(x.tmps.getD 53 undef)= .pointer (some ⟨w.heap.size,j,none⟩):=hG.c 8 _ rfl
        have gg:(x.tmps.getD 51 undef)= .bool false:=hG.c 6 _ rfl
        replace gg:=Cl.opt (hG.size.trans (show _=88 from rfl)) (by decide) gg
        replace hG:=hG.good
        have cCJ:=ckeep hG CJ.out
        go_wp2
        exact⟨_,rfl,rfl,hG,Below.refl _ _⟩
       ·intro x wx hG
        have f5:=hG.o 5
        have gg:(x.tmps.getD 51 undef)= .bool false:=hG.c 6 _ rfl
        replace gg:=Cl.opt (hG.size.trans (show _=88 from rfl)) (by decide) gg
        replace hG:=hG.good
        have cT8:=ckeep hG T8.out
        go_wp2
        exact⟨_,rfl,rfl,hG,Below.refl _ _⟩
       ·intro x wx hG
        have f1:=hG.o 1
        have g10:(x.tmps.getD 55 undef)= .int .i64 (T:Nat):=hG.c 10 _ rfl
        have gg:(x.tmps.getD 51 undef)= .bool false:=hG.c 6 _ rfl
        replace gg:=Cl.opt (hG.size.trans (show _=88 from rfl)) (by decide) gg
        replace hG:=hG.good
        go_wp2
        exact⟨_,rfl,rfl,hG,Below.refl _ _⟩
       ·intro x wx hG
        have g11:(x.tmps.getD 56 undef)= .pointer (some ⟨w.heap.size,T,none⟩):=hG.c 11 _ rfl
        have gg:(x.tmps.getD 51 undef)= .bool false:=hG.c 6 _ rfl
        replace gg:=Cl.opt (hG.size.trans (show _=88 from rfl)) (by decide) gg
        replace hG:=hG.good
        have cCT:=ckeep hG CT.out
        go_wp2
        exact⟨_,rfl,rfl,hG,Below.refl _ _⟩
       ·intro x wx hG
        have g9:(x.tmps.getD 54 undef)= .int .u32 (q j:Nat):=hG.c 9 _ rfl
        have g12:(x.tmps.getD 57 undef)= .int .u32 (q T:Nat):=hG.c 12 _ rfl
        have gg:(x.tmps.getD 51 undef)= .bool false:=hG.c 6 _ rfl
        replace gg:=Cl.opt (hG.size.trans (show _=88 from rfl)) (by decide) gg
        replace hG:=hG.good
        go_wp2
        exact⟨_,rfl,rfl,hG,Below.refl _ _⟩
       ·intro x wx hG
        have g6:(x.tmps.getD 51 undef)= .bool false:=hG.c 6 _ rfl
        have g13:(x.tmps.getD 58 undef)= .bool ((q j:Int)==(q T:Int)):=hG.c 13 _ rfl
        have gg:(x.tmps.getD 46 undef)= .bool true:=hG.c 1 _ rfl
        replace gg:=Cl.opt (hG.size.trans (show _=88 from rfl)) (by decide) gg
        replace hG:=hG.good
        go_wp2
        exact⟨_,rfl,rfl,hG,Below.refl _ _⟩
       ·intro x wx hG
        have g1:(x.tmps.getD 46 undef)= .bool true:=hG.c 1 _ rfl
        have g14:(x.tmps.getD 59 undef)= .bool ((q j:Int)==(q T:Int)):=hG.c 14 _ rfl
        replace hG:=hG.good
        go_wp2
        exact⟨_,rfl,rfl,hG,Below.refl _ _⟩
       ·intro x wx hG
        have g15:(x.tmps.getD 60 undef)= .bool ((q j:Int)==(q T:Int)):=hG.c 15 _ rfl
        replace hG:=hG.good
        go_wp2
        exact⟨_,rfl,rfl,hG,Below.refl _ _⟩
      ·intro vals w10 hg hF
       obtain⟨g0,g1,g2,g3,g4,g5,g6,g7,g8,g9,g10,g11,g12,g13,g14,g15,g16, -⟩:=hF
       have e0:=gq (vals 0) g0
       have e1:=gq (vals 1) g1
       have e2:=gq (vals 2) g2
       have e3:=gq (vals 3) g3
       have e4:=gq (vals 4) g4
       have e5:=gq (vals 5) g5
       have e6:=gq (vals 6) g6
       have e7:=gq (vals 7) g7
       have e8:=gq (vals 8) g8
       have e9:=gq (vals 9) g9
       have e10:=gq (vals 10) g10
       have e11:=gq (vals 11) g11
       have e12:=gq (vals 12) g12
       have e13:=gq (vals 13) g13
       have e14:=gq (vals 14) g14
       have e15:=gq (vals 15) g15
       have e16:=gq (vals 16) g16
       simp only[Cl.puts,e0,e1,e2,e3,e4,e5,e6,e7,e8,e9,e10,e11,e12,e13,e14,e15,e16]
       clear e0 e1 e2 e3 e4 e5 e6 e7 e8 e9 e10 e11 e12 e13 e14 e15 e16 g0 g1 g2 g3 g4 g5 g6 g7 g8 g9 g10 g11 g12 g13 g14 g15 g16
       go_simp
       go_wp2
       go_roundw
       case rel=>exact ⟨j+1,((q j:Int)==(q T:Int)),by omega,by go_num,rfl,⟨fun h=>sameTo_succ.2 ⟨HS.out.1 (by simp),fun _=>by simp at h;omega⟩,fun h=>by have:=(sameTo_succ.1 h).2 HI.out;simp;omega⟩,bstep hb8 hg⟩
       case measure=>first | (simp[intOf];done) | (simp[intOf];omega)
theorem meet1_f (a b:Nat) (ha:a < 4294967296) (hb:b < 4294967296) (w:World):Calls Tryz.prog 167 #[.int .u32 (a:Nat), .int .u32 (b:Nat)] w fun e w'=>e= .returned (.int .u32 ((a &&& b:Nat):Int))∧w=w':=by
 go_enter Tryz.func167,Tryz.ntmps167
 go_wp2
 go_ret
 exact⟨ret_int (u32_and_nat a b ha hb),rfl⟩
theorem less1_f (a b:Nat) (ha:a < 4294967296) (hb:b < 4294967296) (w:World):Calls Tryz.prog 82 #[.int .u32 (a:Nat), .int .u32 (b:Nat)] w fun e w'=>e= .returned (.int .u32 ((a &&& (4294967295 - b):Nat):Int))∧w=w':=by
 go_enter Tryz.func82,Tryz.ntmps82
 go_wp2
 go_ret
 exact⟨ret_int (u32_andNot_nat a b ha hb),rfl⟩
theorem same1_f (a b:Nat) (ha:a < 4294967296) (hb:b < 4294967296) (w:World):Calls Tryz.prog 152 #[.int .u32 (a:Nat), .int .u32 (b:Nat)] w fun e w'=>e= .returned (.int .u32 ((a ^^^ b:Nat):Int))∧w=w':=by
 go_enter Tryz.func152,Tryz.ntmps152
 go_wp2
 go_ret
 exact⟨ret_int (u32_xor_nat a b ha hb),rfl⟩
theorem tabC_congr {q r:Nat→Nat} (h: ∀k,k < 16→q k=r k):tabC q=tabC r:=by
 unfold tabC
 rw[List.map_congr_left fun k hk=>congrArg (fun (x:Nat)=>Value.int .u32 (x:Int)) (h k (List.mem_range.1 hk))]
def fTwo (f g:Bxs):Int:=if fChk f=0 then fChk g else fChk f
structure FGood (l:Bxs) (p:Nat→Nat→Bool):Prop where
 len:l.length≤16
 ok: ∀b∈l,bxChk b=0
 pts: ∀k n:Nat,k < 16→n < 32→inF l k n=p k n
 nil:l=[]↔ ∀k n:Nat,k < 16→n < 32→p k n=false
theorem FGood.of_st {q:Nat→Nat} {l:Bxs} {dn:Nat→Bool} {p:Nat→Nat→Bool} (h:BoxSt q 16 l dn) (hq: ∀k,k < 16→q k < 4294967296) (hp: ∀k n:Nat,k < 16→n < 32→(q k).testBit n=p k n):FGood l p:=by
 have hpts: ∀k n:Nat,k < 16→n < 32→inF l k n=p k n:=by
  intro k n hk hn
  rw[h.pts k n hk hn,←hp k n hk hn]
  by_cases hz:q k=0
  ·rw[hz];simp
  ·rw[h.all k hk hz];simp
 refine⟨h.len,h.ok,hpts,fun e k n hk hn=> ?_,fun hall=> ?_⟩
 ·rw[←hpts k n hk hn,e];rfl
 ·by_cases e:l=[]
  ·exact e
  ·obtain⟨k,hk,hz⟩:=h.some_ e
   exfalso;apply hz
   apply Nat.eq_of_testBit_eq
   intro n
   rw[Nat.zero_testBit]
   by_cases hn:n < 32
   ·rw[hp k n hk hn];exact hall k n hk hn
   ·exact Nat.testBit_lt_two_pow (Nat.lt_of_lt_of_le (hq k hk) (show 2^32≤2^n from Nat.pow_le_pow_right (by decide) (by omega)))
def FOut (base:Nat) (w:World) (v:Value) (E:Int) (p:Nat→Nat→Bool):Prop:=(E=0→ ∃l,BxsOwn w base 124 119 v l∧FGood l p)∧(E≠0→v= .slice none 0 0)
theorem BxsOwn.mono {w:World} {base base' eB eS:Nat} {v:Value} {l:Bxs} (h:BxsOwn w base eB eS v l) (hb:base'≤base):BxsOwn w base' eB eS v l:=by
 obtain⟨us,h1,h2,h3⟩:=h
 exact⟨us,h1,owns_mono h2 hb,fun i hi hi'=>owns_mono (h3 i hi hi') hb⟩
theorem both_c (F:FuncId) (op:Nat→Nat→Nat) (hm: ∀args W,(callFunc F args).run Tryz.prog W= .ok (.enter F args) W)
  (hc: ∀a b:Nat,a < 4294967296→b < 4294967296→ ∀W,Calls Tryz.prog F #[.int .u32 (a:Nat), .int .u32 (b:Nat)] W fun e w'=>e= .returned (.int .u32 (op a b:Nat))∧W=w')
  (ho: ∀a b:Nat,a < 4294967296→b < 4294967296→op a b < 4294967296) (p:Nat→Nat→Bool) (va vb:Value) (f g:Bxs)
  (hp:fTwo f g=0→ ∀k n:Nat,k < 16→n < 32→(op (tabN f k) (tabN g k)).testBit n=p k n) (w:World) (hf:BxsAt w va f) (hg:BxsAt w vb g):
  Calls Tryz.prog 81 #[va,vb, .func (.func F) #[] #[]] w fun e w'=> ∃v,e= .returned (.tuple #[v, .int .i64 (fTwo f g)])∧FOut w.heap.size w' v (fTwo f g) p∧Below w.heap.size w w':=by
 obtain⟨fa,fc,rfl⟩:=hf.shape
 obtain⟨ga,gc,rfl⟩:=hg.shape
 have HM:=jD hm
 have HCALL:=jD hc
 have HO:=jD ho
 have HP:=jD hp
 clear hm hc ho hp
 go_enter Tryz.func81,Tryz.ntmps81
 go_wp2_with fail
 (with_reducible refine(fChk_c _ f _ hf).mono ?_)
 rintro e w1 ⟨rfl,hb⟩
 replace hf:=hf.below hb
 replace hg:=hg.below hb
 have hbel:=hb
 clear hb
 cases hx:(fChk f==0)
 ·have H:=jD (show fTwo f g=fChk f∧fChk f≠0 by simp at hx;simp [fTwo,hx])
  have h':(fChk f != 0)=true:=by simp[bne,hx]
  clear hx
  go_wp2
  go_ret2
  exact⟨_,ret_ve H.out.1.symm,⟨fun h=>absurd (H.out.1.symm.trans h) H.out.2,fun _=>rfl⟩,hbel⟩
 have h0:fChk f=0:=by simpa using hx
 have HF:=jD h0
 rw[h0]
 clear h0 hx
 go_wp2_with fail
 (with_reducible refine(fChk_c _ g _ hg).mono ?_)
 rintro e w2 ⟨rfl,hb⟩
 replace hf:=hf.below hb
 replace hg:=hg.below hb
 replace hbel:=bstep hbel hb
 clear hb
 cases hx:(fChk g==0)
 ·have H:=jD (show fTwo f g=fChk g∧fChk g≠0 by simp at hx;simp [fTwo,HF.out,hx])
  have h':(fChk g != 0)=true:=by simp[bne,hx]
  clear hx
  go_wp2
  go_ret2
  exact⟨_,ret_ve H.out.1.symm,⟨fun h=>absurd (H.out.1.symm.trans h) H.out.2,fun _=>rfl⟩,hbel⟩
 have h0:fChk g=0:=by simpa using hx
 have HG:=jD h0
 have H2:=jD (show fTwo f g=0 by simp[fTwo,HF.out,h0])
 rw[h0]
 clear h0 hx
 have hfo:=(fChk_zero.1 HF.out).2
 have hgo:=(fChk_zero.1 HG.out).2
 have HTF:=jD (fun k=>(tabN_good f k hfo).1)
 have HTG:=jD (fun k=>(tabN_good g k hgo).1)
 go_wp2_with fail
 (with_reducible refine(tabled_c _ f _ hf hfo).mono ?_)
 rintro e w3 ⟨rfl,hb⟩
 replace hg:=hg.below hb
 replace hbel:=bstep hbel hb
 clear hb hf
 go_wp2_with fail
 (with_reducible refine(tabled_c _ g _ hg hgo).mono ?_)
 rintro e w4 ⟨rfl,hb⟩
 replace hbel:=bstep hbel hb
 clear hb hg hfo hgo
 generalize htf:tabN f=tf at*
 generalize htg:tabN g=tg at*
 clear htf htg
 have hi:=jD (fun (t:Nat→Nat)=>(show(Tryz.prog.info? 182).map (·.size)=some (tabC t).size by rw[tabC_size];kernel_rfl))
 have hall:=jD (fun (t:Nat→Nat)=>(show(tabC t).all (·.oneCell')=true by simp[tabC,Value.oneCell']))
 go_wp2_with (first | (with_reducible refine wpList_store_row rfl 182 (.tmp 10) (.tmp 24) rfl w4.heap.size (tabC tf) rfl rfl 182 #[.int .u32 0, .int .u32 0, .int .u32 0, .int .u32 0, .int .u32 0, .int .u32 0, .int .u32 0, .int .u32 0, .int .u32 0, .int .u32 0, .int .u32 0, .int .u32 0, .int .u32 0, .int .u32 0, .int .u32 0, .int .u32 0] ?a1 (hi.out _) ?a2 (hall.out _) ?_) | (with_reducible refine wpList_store_row rfl 182 (.tmp 11) (.tmp 26) rfl (w4.heap.size+1) (tabC tg) rfl rfl 182 #[.int .u32 0, .int .u32 0, .int .u32 0, .int .u32 0, .int .u32 0, .int .u32 0, .int .u32 0, .int .u32 0, .int .u32 0, .int .u32 0, .int .u32 0, .int .u32 0, .int .u32 0, .int .u32 0, .int .u32 0, .int .u32 0] ?b1 (hi.out _) ?b2 (hall.out _) ?_))
 case a1=>exact (heap_alloc_old _ _ (by simp)).trans (heap_alloc_new _ _)
 case a2=>simp [tabC_size]
 case b1=>
  rw[setRow_other _ _ _ _ (by omega)]
  have h:=fun (o1 o2:Obj)=>heap_alloc_new (w4.alloc o1) o2
  simp only[World.size_alloc] at h
  exact h _ _
 case b2=>simp [tabC_size]
 obtain⟨w5,hw5⟩: ∃w5,w5=(((w4.alloc (.cells #[.int .u32 0, .int .u32 0, .int .u32 0, .int .u32 0, .int .u32 0, .int .u32 0, .int .u32 0, .int .u32 0, .int .u32 0, .int .u32 0, .int .u32 0, .int .u32 0, .int .u32 0, .int .u32 0, .int .u32 0, .int .u32 0] 182)).alloc (.cells #[.int .u32 0, .int .u32 0, .int .u32 0, .int .u32 0, .int .u32 0, .int .u32 0, .int .u32 0, .int .u32 0, .int .u32 0, .int .u32 0, .int .u32 0, .int .u32 0, .int .u32 0, .int .u32 0, .int .u32 0, .int .u32 0] 182)).setRow w4.heap.size (tabC tf)).setRow (w4.heap.size+1) (tabC tg):=⟨_,rfl⟩
 have hA:w5.heap[w4.heap.size]? =some (.cells (tabC tf) 182 (0,0)):=by
  rw[hw5,setRow_other _ _ _ _ (by omega)]
  exact setRow_heap _ _ _ _ _ _ ((heap_alloc_old _ _ (by simp)).trans (heap_alloc_new _ _))
 have hB:w5.heap[w4.heap.size+1]? =some (.cells (tabC tg) 182 (0,0)):=by
  rw[hw5]
  refine setRow_heap _ _ #[.int .u32 0, .int .u32 0, .int .u32 0, .int .u32 0, .int .u32 0, .int .u32 0, .int .u32 0, .int .u32 0, .int .u32 0, .int .u32 0, .int .u32 0, .int .u32 0, .int .u32 0, .int .u32 0, .int .u32 0, .int .u32 0] _ _ _ ?_
  rw[setRow_other _ _ _ _ (by omega)]
  have h:=fun (o1 o2:Obj)=>heap_alloc_new (w4.alloc o1) o2
  simp only[World.size_alloc] at h
  exact h _ _
 have hb5:Below w4.heap.size w4 w5:=by
  rw[hw5];exact below_setRow (below_setRow ((bal _).alloc (by simp) _) (Nat.le_refl _) _) (by omega) _
 rw[←hw5]
 clear hw5
 go_loopw [27] (fun i wr=> ∃j:Nat,j≤16∧i= .int .i64 j∧wr.heap[w4.heap.size]? =some (.cells (tabC fun k=>if k < j then op (tf k) (tg k) else tf k) 182 (0,0))∧wr.heap[w4.heap.size+1]? =some (.cells (tabC tg) 182 (0,0))∧Below w4.heap.size w4 wr) (fun i _=>16 - (intOf i).toNat)
 case atStart=>exact ⟨0,by omega,rfl,by simpa using hA,hB,hb5⟩
 case round=>
  clear hA hB hb5
  obtain⟨j,hj,rfl,hA,hB,hb5⟩:=hrel
  have HA:=jD hA
  have HB:=jD hB
  have hz5:w4.heap.size+1 < wr.heap.size:=(Array.getElem?_eq_some_iff.1 hB).1
  clear hA hB
  obtain⟨w6,hw6⟩: ∃w6,w6=wr:=⟨_,rfl⟩
  subst hw6
  by_cases hjl:j < 16
  ·have hdj:decide ((j:Int) < 16)=true:=by simp only[decide_eq_true_eq];omega
   go_wp2_with fail
   refine Cl.region0 43 rfl [10] (fun ww=>ww.heap=w6.heap) (fun _=>[]) (fun jq v ww=>match jq with | 0=>v= .int .i64 (j:Nat) | 1=>v= .func (.func F) #[] #[] | 2=>v= .int .i64 (j:Nat) | 3=>v= .pointer (some ⟨w4.heap.size,j,none⟩) | 4=>v= .int .u32 (tf j:Nat) | 5=>v= .int .i64 (j:Nat) | 6=>v= .pointer (some ⟨w4.heap.size+1,j,none⟩) | 7=>v= .int .u32 (tg j:Nat) | 8=>v= .int .u32 (op (tf j) (tg j):Nat) | 9=>v= .pointer (some ⟨w4.heap.size,j,none⟩) | 10=>ww.heap[w4.heap.size]? =some (.cells (tabC fun k=>if k=j then op (tf j) (tg j) else if k < j then op (tf k) (tg k) else tf k) 182 (0,0)) | _=>True) (fun ww=>w6.grownBy ww (some w4.heap.size)) (fun jq ww ww'=>jq≠10→ww'.heap=ww.heap) Tryz.mixed (by decide+kernel) ⟨rfl,rfl,rfl,Nat.le_refl _,fun _ _ _=>rfl⟩ rfl ?_ (fun jq ww ww' hk h hR=>(hR (by simpa using hk)).trans h) ?_ ?_
   ·intro q r v w w' hne hk hlt h hR
    match r,hk,hlt,h,hne with
    | 0,_,_,h,_=>exact h
    | 1,_,_,h,_=>exact h
    | 2,_,_,h,_=>exact h
    | 3,_,_,h,_=>exact h
    | 4,_,_,h,_=>exact h
    | 5,_,_,h,_=>exact h
    | 6,_,_,h,_=>exact h
    | 7,_,_,h,_=>exact h
    | 8,_,_,h,_=>exact h
    | 9,_,_,h,_=>exact h
    | 10,_,_,h,hne=>exact (congrArg (fun (x:Array Obj)=>x[w4.heap.size]?) (hR hne)).trans h
    | _+11,_,_,_,_=>trivial
   ·refine⟨?_, ?_, ?_, ?_, ?_, ?_, ?_, ?_, ?_, ?_, ?_,trivial⟩
    ·intro x wx hG
     have f12:=hG.o 12
     replace hG:=hG.good
     go_wp2
     exact⟨_,rfl,rfl,hG,fun _=>rfl⟩
    ·intro x wx hG
     have f2:=hG.o 2
     replace hG:=hG.good
     go_wp2
     exact⟨_,rfl,rfl,hG,fun _=>rfl⟩
    ·intro x wx hG
     have f12:=hG.o 12
     replace hG:=hG.good
     go_wp2
     exact⟨_,rfl,rfl,hG,fun _=>rfl⟩
    ·intro x wx hG
     have f10:=hG.o 10
     have g2:(x.tmps.getD 32 undef)= .int .i64 (j:Nat):=hG.c 2 _ rfl
     replace hG:=hG.good
     go_wp2
     exact⟨_,rfl,rfl,hG,fun _=>rfl⟩
    ·intro x wx hG
     have g3:(x.tmps.getD 33 undef)= .pointer (some ⟨w4.heap.size,j,none⟩):=hG.c 3 _ rfl
     have hp:=hG.p
     replace hG:=hG.good
     have h:=HA.out
     rw[←hp] at h
     have c:=cell_of_block (j:=j) h (tabC_get _ j hjl)
     simp only[Nat.lt_irrefl,if_false] at c
     clear h hp
     go_wp2
     exact⟨_,rfl,rfl,hG,fun _=>rfl⟩
    ·intro x wx hG
     have f12:=hG.o 12
     replace hG:=hG.good
     go_wp2
     exact⟨_,rfl,rfl,hG,fun _=>rfl⟩
    ·intro x wx hG
     have f11:=hG.o 11
     have g5:(x.tmps.getD 35 undef)= .int .i64 (j:Nat):=hG.c 5 _ rfl
     replace hG:=hG.good
     go_wp2
     exact⟨_,rfl,rfl,hG,fun _=>rfl⟩
    ·intro x wx hG
     have g6:(x.tmps.getD 36 undef)= .pointer (some ⟨w4.heap.size+1,j,none⟩):=hG.c 6 _ rfl
     have hp:=hG.p
     replace hG:=hG.good
     have h:=HB.out
     rw[←hp] at h
     have c:=cell_of_block (j:=j) h (tabC_get _ j hjl)
     skip
     clear h hp
     go_wp2
     exact⟨_,rfl,rfl,hG,fun _=>rfl⟩
    ·intro x wx hG
     have g1:(x.tmps.getD 31 undef)= .func (.func F) #[] #[]:=hG.c 1 _ rfl
     have g4:(x.tmps.getD 34 undef)= .int .u32 (tf j:Nat):=hG.c 4 _ rfl
     have g7:(x.tmps.getD 37 undef)= .int .u32 (tg j:Nat):=hG.c 7 _ rfl
     replace hG:=hG.good
     have hm:=HM.out
     go_wp2_with fail
     (with_reducible refine(HCALL.out _ _ (HTF.out j) (HTG.out j) _).mono ?_)
     rintro e w7 ⟨rfl,rfl⟩
     clear hm
     go_wp2
     exact⟨_,rfl,rfl,hG,fun _=>rfl⟩
    ·intro x wx hG
     have f10:=hG.o 10
     have g0:(x.tmps.getD 30 undef)= .int .i64 (j:Nat):=hG.c 0 _ rfl
     replace hG:=hG.good
     go_wp2
     exact⟨_,rfl,rfl,hG,fun _=>rfl⟩
    ·intro x wx hG
     have g8:(x.tmps.getD 38 undef)= .int .u32 (op (tf j) (tg j):Nat):=hG.c 8 _ rfl
     have g9:(x.tmps.getD 39 undef)= .pointer (some ⟨w4.heap.size,j,none⟩):=hG.c 9 _ rfl
     have hp:=hG.p
     replace hG:=hG.good
     have h:=HA.out
     rw[←hp] at h
     have c:=cell_of_block (j:=j) h (tabC_get _ j hjl)
     have ff:=free_of_block (j:=j) h
     have H:=jD h
     have HPP:=jD hp
     clear h hp
     go_wp2
     exact⟨undef,rfl,(heap_set_same H.out).trans (by rw[tabC_set]),⟨hG.os,hG.tape,hG.output,by simpa using hG.size,fun k hk hne=>(heap_set_other (by intro e;subst e;exact hne rfl)).trans (hG.block k hk hne)⟩,fun h=>absurd rfl h⟩
   ·intro vals w7 hg hF
    obtain⟨g0,g1,g2,g3,g4,g5,g6,g7,g8,g9,g10, -⟩:=hF
    have e0:=gq (vals 0) g0
    have e1:=gq (vals 1) g1
    have e2:=gq (vals 2) g2
    have e3:=gq (vals 3) g3
    have e4:=gq (vals 4) g4
    have e5:=gq (vals 5) g5
    have e6:=gq (vals 6) g6
    have e7:=gq (vals 7) g7
    have e8:=gq (vals 8) g8
    have e9:=gq (vals 9) g9
    replace g10:w7.heap[w4.heap.size]? =some (.cells (tabC fun k=>if k=j then op (tf j) (tg j) else if k < j then op (tf k) (tg k) else tf k) 182 (0,0)):=g10 rfl
    simp only[Cl.puts,e0,e1,e2,e3,e4,e5,e6,e7,e8,e9]
    clear e0 e1 e2 e3 e4 e5 e6 e7 e8 e9 g0 g1 g2 g3 g4 g5 g6 g7 g8 g9
    go_simp
    have G10:=jD g10
    clear g10
    go_wp2
    go_roundw
    case rel=>
     refine⟨j+1,by omega,by go_num,G10.out.trans (congrArg (fun c=>some (Obj.cells c 182 (0,0))) (tabC_congr fun o _=> ?_)),(hg.block _ hz5 (by simp)).trans HB.out,hb5.grown hg hb5.size (fun k hk=>by simp at hk;omega)⟩
     by_cases e1:o=j
     ·subst e1;simp
     ·by_cases e2:o < j
      ·simp[e1,e2,show o < j+1 by omega]
      ·simp[e1,e2,show ¬o < j+1 by omega]
    case measure=>first | (simp[intOf];done) | (simp[intOf];omega)
  ·obtain rfl:j=16:=by omega
   have e:tabC (fun k=>if k < 16 then op (tf k) (tg k) else tf k)=tabC fun k=>op (tf k) (tg k):=tabC_congr fun o ho=>if_pos ho
   rw[e] at HA
   clear e
   have hi2:=jD (hi.out fun k=>op (tf k) (tg k))
   go_wp2_with (with_reducible refine wpList_load_row rfl 182 (.tmp 10) rfl w4.heap.size rfl 182 (tabC fun k=>op (tf k) (tg k)) (0,0) _ HA.out Tryz.underlying182 rfl hi2.out ?_)
   (with_reducible refine(boxes_c (fun k=>op (tf k) (tg k)) (fun k _=>HO.out _ _ (HTF.out k) (HTG.out k)) _).mono ?_)
   rintro e w7 ⟨v,l,rfl,hown,⟨dn,hst⟩,hb7⟩
   have hl:=hst.len
   obtain⟨xa,xc,hv⟩:=hown.shape
   subst hv
   have HOW:=jD hown
   have HST:=jD hst
   clear hown hst
   go_wp2
   go_ret2
   refine⟨_,ret_ve H2.out.symm,⟨fun _=>⟨l,HOW.out.mono (by have h1:=hb5.size;have h2:=hbel.size;omega),FGood.of_st HST.out (fun k _=>HO.out _ _ (HTF.out k) (HTG.out k)) (HP.out H2.out)⟩,fun h=>absurd H2.out h⟩, ?_⟩
   exact hbel.trans ((hb5.trans (hb7.mono hb5.size)).mono hbel.size)
end Go.Proofs.YtgkgdedhicnohaaGreat
