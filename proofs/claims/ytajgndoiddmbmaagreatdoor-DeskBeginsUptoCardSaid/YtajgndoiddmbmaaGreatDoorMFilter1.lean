/- Towards what desk.Run answers. -/
import Derived.Test.YtajgndoiddmbmaaGreatDoorMFilterP
import Derived.Test.YtajgndoiddmbmaaGreatDoorMClaims
namespace Go.Proofs.YtajgndoiddmbmaaGreatDoor
set_option maxRecDepth 100000
set_option maxHeartbeats 40000000
open Go.RowKit
theorem qg (v:Value) (l:bB) (w:World) (hs:bZ w v l):
  Calls Tryz.prog 86 #[v] w fun e w'=>e= .returned (.int .i64 (bP l))∧Below w.heap.size w w':=by
 have gM:=jD hs;obtain⟨a,cap,rfl,hcap,hm, -,hl⟩:=hs.open_;clear hs;by_cases h40:40 < l.length
 ·have H:=jD (show bP l=2 by simp[bP,h40]);clear hl;go_enter Tryz.func86,Tryz.ntmps86;go_wp2;go_ret;exact⟨bw H.o.symm,br⟩
 have HF:=jD (show bP l=bxsFrom (l.drop 0) by rw[bP,if_neg h40];rfl);go_enter Tryz.func86,Tryz.ntmps86;go_wp2;go_loopw [12] (fun i wr=> ∃k:Nat,k≤l.length∧i= .int .i64 k∧bP l=bxsFrom (l.drop k)∧Below w.heap.size w wr) (fun i _=>l.length - (intOf i).toNat)
 case atStart=>exact ⟨0,Nat.zero_le _,rfl,HF.o,br⟩
 case round=>
  obtain⟨k,hk,rfl,hno,hbl⟩:=hrel;have HN:=jD hno;clear hno HF;by_cases hlt:k < l.length
  ·rcases hl with rfl | ⟨b,off,rfl,hb,hc⟩
   ·simp at hlt
   obtain⟨u,d1,d2,d3,hsp⟩:=hc k hlt;replace d1:=(hbl.cell (p:=⟨b,off+k*3,none⟩) hb).trans d1;replace d2:=(hbl.cell (p:=⟨b,off+k*3+1,none⟩) hb).trans d2;replace d3:=(hbl.cell (p:=⟨b,off+k*3+2,none⟩) hb).trans d3;have cz:=jD (fun h=>HN.o.trans (Oy l k hlt h));have eT:=jD (fun h=>HN.o.trans (LJ l k hlt h));obtain⟨ua,uc,rfl⟩:=hsp.shape;replace hsp:=hsp.below hbl;clear hc;generalize hx:l[k]=bx at*;obtain⟨y,n,sp⟩:=bx;simp only at d1 d2 d3 hsp;clear hx;have HC:=jD (fun (w1:World) (h:Below (wr.alloc (.cells #[.int .i64 y, .int .i64 n, .slice ua sp.length uc] 177)).heap.size (wr.alloc (.cells #[.int .i64 y, .int .i64 n, .slice ua sp.length uc] 177)) w1)=>
    (show w1.cell? ⟨wr.heap.size,2,none⟩=some (.slice ua sp.length uc)∧Below w.heap.size w w1∧fJ w1 (.slice ua sp.length uc) sp from
     ⟨ah h (cat _ _ _ 2 _ rfl _ rfl),aj hbl (zO h),hsp.below (zO h)⟩))
   go_wp2_with fail
   (with_reducible refine(QI _ _ _).mono ?_);rintro e w1 ⟨rfl,hb1⟩;obtain⟨c2,cQ,Y7⟩:=HC.o _ hb1;clear HC hb1 hbl hsp d1 d2 d3;cases hc:(eo y n==0)
   ·have h':(eo y n != 0)=true:=by simp[bne,hc]
    have hv:iC ⟨y,n,sp⟩=eo y n:=by simp at hc;simp [iC,hc]
    have H:=jD ((eT.o (by rw[hv];simpa using hc)).trans hv);clear cz eT hv hc;go_wp2;go_ret;exact⟨bw H.o.symm,cQ⟩
   have h0:eo y n=0:=by simpa using hc
   have hv:iC ⟨y,n,sp⟩=dH sp:=by simp[iC,h0]
   rw[h0];rw[hv] at cz eT;clear h0 hc hv;go_wp2_with fail
   (with_reducible refine(Pj _ sp _ Y7).mono ?_);rintro e w2 ⟨rfl,hb2⟩;replace cQ:=aj cQ hb2;clear c2 Y7;cases hc:(dH sp==0)
   ·have h':(dH sp != 0)=true:=by simp[bne,hc]
    have H:=jD (eT.o (by simpa using hc));clear cz eT hc;go_wp2;go_ret;exact⟨bw H.o.symm,cQ⟩
   have h0:dH sp=0:=by simpa using hc
   have H:=jD (cz.o h0);rw[h0];clear cz eT hc h0;go_wp2;go_roundw
   case rel=>exact ⟨k+1,by omega,by go_num,H.o,cQ⟩
   case measure=>simp [intOf];omega
  ·obtain rfl:k=l.length:=by omega
   go_wp2;go_ret;exact⟨bw (by rw[HN.o];simp [bxsFrom]),hbl⟩
def cL (q:Nat→Nat):Array Value:=((List.range 16).map fun k=>Value.int .u32 (q k)).toArray
theorem nr (q:Nat→Nat):(cL q).size=16:=by simp[cL]
theorem lS (q:Nat→Nat) (k:Nat) (h:k < 16):(cL q)[k]? =some (.int .u32 (q k)):=by simp[cL,h]
theorem IG (q:Nat→Nat) (k:Nat) (x:Nat):(cL q).setIfInBounds k (.int .u32 x)=cL (fun j=>if j=k then x else q j):=by
 apply Array.ext
 ·simp[cL]
 ·intro i h1 h2;simp only[Array.size_setIfInBounds,nr] at h1;by_cases h:k=i
  ·subst h;simp [cL]
  ·rw[Array.getElem_setIfInBounds_ne (by simpa[cL] using h1) h];simp[cL,show ¬i=k from fun e=>h e.symm]
theorem Pg:cL (fun _=>0)=Array.replicate 16 (.int .u32 0):=by
 apply Array.ext
 ·simp[cL]
 ·intro i h1 h2;simp [cL]
theorem Tc (f t:Nat) (h:f≤t) (h2:t≤32):((2:Int)^t - 2^f)%4294967296=((2^t - 2^f:Nat):Int):=by
 have h1:2^f≤2^t:=Nat.pow_le_pow_right (by decide) h;have h3:=EJ f t h2;rw[show((2:Int)^t - 2^f)=((2^t - 2^f:Nat):Int) from by rw[Int.ofNat_sub h1];simp];omega
theorem xd (v:Value) (l:bB) (w:World) (hs:bZ w v l) (hok: ∀b∈l,iC b=0):
  Calls Tryz.prog 87 #[v] w fun e w'=>e= .returned (.agg (cL (fu l)))∧Below w.heap.size w w':=by
 obtain⟨a,cap,rfl,hcap,hm, -,hl⟩:=hs.open_;clear hs;go_enter Tryz.func87,Tryz.ntmps87;go_wp2;go_loopw [12] (fun i wr=> ∃k:Nat,k≤l.length∧i= .int .i64 k∧wr.heap[w.heap.size+1]? =some (.cells (cL (fu (l.take k))) 133 (0,0))∧wr.heap[w.heap.size]? =some (.cells (cL fun _=>0) 133 (0,0))∧Below w.heap.size w wr) (fun i _=>l.length - (intOf i).toNat)
 case atStart=>
  have e0:cL (fu (l.take 0))=cL fun _=>0:=by rw[List.take_zero];rfl
  have e1:cL (fun _=>0)= #[Value.int IntKind.u32 0,Value.int IntKind.u32 0,Value.int IntKind.u32 0,Value.int IntKind.u32 0,
     Value.int IntKind.u32 0,Value.int IntKind.u32 0,Value.int IntKind.u32 0,Value.int IntKind.u32 0,
     Value.int IntKind.u32 0,Value.int IntKind.u32 0,Value.int IntKind.u32 0,Value.int IntKind.u32 0,
     Value.int IntKind.u32 0,Value.int IntKind.u32 0,Value.int IntKind.u32 0,Value.int IntKind.u32 0]:=by rw[Pg];rfl
  refine⟨0,Nat.zero_le _,rfl, ?_, ?_,(aG _).alloc (by simp) _⟩
  ·rw[e0,e1];have h:=fun (o1 o2:Obj)=>heap_alloc_new (w.alloc o1) o2;simp only[World.size_alloc] at h;exact h _ _
  ·rw[e1];exact (heap_alloc_old _ _ (by simp)).trans (heap_alloc_new _ _)
 case round=>
  obtain⟨k,hk,rfl,hT,hZ,hbl⟩:=hrel;have HT:=jD hT;have HZ:=jD hZ;clear hT hZ;by_cases hlt:k < l.length
  ·rcases hl with rfl | ⟨b,off,rfl,hb,hc⟩
   ·simp at hlt
   obtain⟨u,d1,d2,d3,hsp⟩:=hc k hlt;replace d1:=(hbl.cell (p:=⟨b,off+k*3,none⟩) hb).trans d1;replace d2:=(hbl.cell (p:=⟨b,off+k*3+1,none⟩) hb).trans d2;replace d3:=(hbl.cell (p:=⟨b,off+k*3+2,none⟩) hb).trans d3;have Ty:=(lY.1 (hok _ (List.getElem_mem hlt)))
   have kG:=jD (show ∀q,fu (l.take (k+1)) q=if dK l[k].y l[k].n q then fu (l.take k) q ||| spN 0 l[k].sp else fu (l.take k) q from fun q=>by rw[List.take_succ_eq_append_getElem hlt,FM]);have Rn:=jD (fun q=>(iE (l.take k) q fun b hb=>hok b (List.mem_of_mem_take hb)).1);obtain⟨ua,uc,rfl⟩:=hsp.shape;replace hsp:=hsp.below hbl;clear hc;generalize hx:l[k]=bx at*;obtain⟨y,n,sp⟩:=bx;simp only at d1 d2 d3 hsp Ty kG;clear hx;obtain⟨Ty,ae3⟩:=Ty;have hbd:=(mN ae3).2;have cz:=jD (show spN 0 sp < 4294967296 from II sp 0 (by decide) hbd);obtain⟨wo,hwo⟩: ∃wo,wo=wr:=⟨_,rfl⟩
   subst hwo;go_wp2;obtain⟨w5,lD⟩: ∃w5,w5=wo.alloc (.cells #[.int .i64 y, .int .i64 n, .slice ua sp.length uc] 177):=⟨_,rfl⟩
   rw[←lD];have bR:Below wo.heap.size wo w5:=by rw[lD];exact aG _
   have L8:wo.heap.size < w5.heap.size:=by rw[lD];simp
   have q0:w5.cell? ⟨wo.heap.size,0,none⟩=some (.int .i64 y):=by rw[lD];exact cat _ _ _ 0 _ rfl _ rfl
   have q1:w5.cell? ⟨wo.heap.size,1,none⟩=some (.int .i64 n):=by rw[lD];exact cat _ _ _ 1 _ rfl _ rfl
   obtain⟨a',c',hv,hcap',hm',hsl⟩:=(hsp.below bR).open_;simp only[Value.slice.injEq] at hv;obtain⟨rfl, -,rfl⟩:=hv;clear lD d1 d2 d3 hsp;have Q0:=jD q0;have Q1:=jD q1;clear q0 q1;go_loopw [6,19] (fun nn i wr=> ∃j:Nat,j≤sp.length∧i= .int .i64 j∧nn= .int .u32 (spN 0 (sp.take j):Nat)∧Below w5.heap.size w5 wr) (fun _ i _=>sp.length - (intOf i).toNat)
   case atStart=>exact ⟨0,Nat.zero_le _,rfl,rfl,br⟩
   case round=>
    obtain⟨j,hj,rfl,rfl,Gj⟩:=hrel;by_cases hjl:j < sp.length
    ·rcases hsl with rfl | ⟨b2,off2,rfl,hb2,hc2⟩
     ·simp at hjl
     obtain⟨g1,g2⟩:=hc2 j hjl;replace g1:=(Gj.cell (p:=⟨b2,off2+j*2,none⟩) hb2).trans g1;replace g2:=(Gj.cell (p:=⟨b2,off2+j*2+1,none⟩) hb2).trans g2;obtain⟨r1,r2,r3⟩:=hbd _ (List.getElem_mem hjl);have HS:=jD (show spN 0 (sp.take (j+1))=spN 0 (sp.take j) ||| (2^sp[j].2.toNat - 2^sp[j].1.toNat) from by rw[List.take_succ_eq_append_getElem hjl,Ni];rfl);have HL:=jD (show spN 0 (sp.take j) < 4294967296 from II _ 0 (by decide) fun s hs=>hbd s (List.mem_of_mem_take hs));clear hc2;generalize sp[j]=s at*;obtain⟨s1,s2⟩:=s;simp only at g1 g2 r1 r2 r3 HS;obtain⟨f,rfl⟩:=Int.eq_ofNat_of_zero_le r1;obtain⟨t,rfl⟩:=Int.eq_ofNat_of_zero_le (show 0≤s2 by omega);simp only[Int.toNat_natCast] at HS;generalize spN 0 (sp.take j)=acc at*;go_wp2;go_quiet (fail);go_wp2;go_roundw
     case rel=>exact ⟨j+1,by omega,by go_num,by rw[HS.o,Tc f t (by omega) (by omega),u32_or_nat _ _ HL.o (EJ _ _ (by omega))],below_drewN (Gj.alloc Gj.size _) _⟩
     case measure=>simp [intOf];omega
    ·obtain rfl:j=sp.length:=by omega
     rw[List.take_length];have mq:=aj bR Gj;have sU:=aj hbl mq;have DX:=jD ((mq.block (w.heap.size+1) (by have:=HT.o;exact (Array.getElem?_eq_some_iff.1 this).1)).trans HT.o);have HZ2:=jD ((mq.block w.heap.size (by have:=HZ.o;exact (Array.getElem?_eq_some_iff.1 this).1)).trans HZ.o);have Q2:=jD (ah Gj Q0.o);have Q3:=jD (ah Gj Q1.o);have Zz:w.heap.size+1 < wo.heap.size:=(Array.getElem?_eq_some_iff.1 HT.o).1;have YS:wo.heap.size < wr.heap.size:=blt Q2.o;clear HT HZ Q0 Q1 hbl mq Gj hsl bR;obtain⟨w6,s7⟩: ∃w6,w6=wr:=⟨_,rfl⟩
     subst s7;have sI:=cz;generalize spN 0 sp=nn at*;go_wp2;go_loopw [33] (fun i wr=> ∃j:Nat,j≤16∧i= .int .i64 j∧wr.heap[w.heap.size+1]? =some (.cells (cL fun q=>if q < j then(if dK y n q then fu (l.take k) q ||| nn else fu (l.take k) q) else fu (l.take k) q) 133 (0,0))∧wr.heap[w.heap.size]? =some (.cells (cL fun _=>0) 133 (0,0))∧Below w.heap.size w wr∧wr.cell? ⟨wo.heap.size,0,none⟩=some (.int .i64 y)∧wr.cell? ⟨wo.heap.size,1,none⟩=some (.int .i64 n)) (fun i _=>16 - (intOf i).toNat)
     case atStart=>exact ⟨0,by omega,rfl,by simpa using DX.o,HZ2.o,sU,Q2.o,Q3.o⟩
     case round=>
      obtain⟨j,hj,rfl,hT,hZ,hbl,q0,q1⟩:=hrel;have HT:=jD hT;have HZ:=jD hZ;clear hT hZ;by_cases hjl:j < 16
      ·go_wp2_with fail
       (with_reducible refine(uD _ _ _ _).mono ?_);rintro e w7 ⟨rfl,qC⟩;replace hbl:=aj hbl qC;replace q0:=ah qC q0;replace q1:=ah qC q1;replace HT:=jD ((qC.block (w.heap.size+1) (by have:=HT.o;exact (Array.getElem?_eq_some_iff.1 this).1)).trans HT.o);replace HZ:=jD ((qC.block w.heap.size (by have:=HZ.o;exact (Array.getElem?_eq_some_iff.1 this).1)).trans HZ.o);clear qC;have HB:=jD (Rn.o j);cases hin:dK y n j
       ·have HI:=jD hin;clear hin;go_wp2;go_roundw
        case rel=>
         refine⟨j+1,by omega,by go_num, ?_,HZ.o,hbl,q0,q1⟩;rw[HT.o];congr 3;funext q;by_cases e1:q=j
         ·subst e1;simp [HI.o]
         ·by_cases e2:q < j
          ·simp[e2,show q < j+1 by omega]
          ·simp[e2,show ¬q < j+1 by omega]
        case measure=>simp [intOf];omega
       ·have HI:=jD hin;have cT:=aD (j:=j) HT.o (by rw[lS _ _ hjl,if_neg (Nat.lt_irrefl _)]);have fT:=dS (j:=j) HT.o;clear hin;go_wp2;go_roundw
        case rel=>
         rw[u32_or_nat _ _ HB.o sI.o];refine⟨j+1,by omega,by go_num, ?_,(aC (by omega)).trans HZ.o,hbl.setCell (by simp) _,(rB (by omega)).trans q0,(rB (by omega)).trans q1⟩;rw[ax HT.o,IG];congr 3;funext q;by_cases e1:q=j
         ·subst e1;simp [HI.o]
         ·by_cases e2:q < j
          ·simp[e1,e2,show q < j+1 by omega]
          ·simp[e1,e2,show ¬q < j+1 by omega]
        case measure=>simp [intOf];omega
      ·obtain rfl:j=16:=by omega
       go_wp2;go_roundw
       case rel=>
        refine⟨k+1,by omega,by go_num, ?_,HZ.o,hbl⟩;rw[HT.o];congr 2;unfold cL;congr 1;refine List.map_congr_left fun q hq=> ?_;simp only[List.mem_range.1 hq,if_true,kG.o]
       case measure=>simp [intOf];omega
  ·obtain rfl:k=l.length:=by omega
   rw[List.take_length] at HT;have hi:=jD (show(Tryz.prog.info? 133).map (·.size)=some (cL (fu l)).size by rw[nr];kernel_rfl);go_wp2_with (first | (with_reducible refine wpList_load_row rfl 133 (.tmp 3) rfl (w.heap.size+1) rfl 133 (cL (fu l)) (0,0) _ HT.o Tryz.underlying133 rfl hi.o ?_) | (with_reducible refine wpList_store_row rfl 133 (.tmp 2) (.tmp 48) rfl w.heap.size (cL (fu l)) rfl rfl 133 _ HZ.o hi.o ?sz ?one ?_))
   case sz=>simp [nr]
   case one=>simp [cL,Value.oneCell']
   exact bodyPost_ret (results_cell_row rfl _ _ w.heap.size 133 (cL (fu l)) (0,0) _ rfl (setRow_heap _ _ _ _ _ _ HZ.o) Tryz.underlying133 rfl hi.o) rfl ⟨rfl,below_setRow hbl (Nat.le_refl _) _⟩
theorem Ws.info:(Tryz.prog.info? 177).map (fun i=>(i.zero,i.size,i.bytes))=some (some (.agg #[.int .i64 0, .int .i64 0, .slice none 0 0]),3,40):=by kernel_rfl
theorem UC (n:Nat) (hn:n < 32) (x y:Nat) (q:Nat→Nat) (hq: ∀k,k < 16→q k < 4294967296) (T:Nat) (hT:T < 16) (W:World) (h1:W.heap[x]? =some (.cells (cL q) 133 (0,0))) (h2:W.cell? ⟨y,0,none⟩=some (.int .i64 T)):
  Calls Tryz.prog 189 #[.int .i64 n, .pointer (some ⟨x,0,none⟩), .pointer (some ⟨y,0,none⟩)] W fun e w'=>e= .returned (.bool ((q T).testBit n))∧Below W.heap.size W w':=by
 have c:=aD (j:=T) h1 (lS q T hT);have H:=jD (XZ (q T:Int) n (by omega) (by have:=hq T hT;omega));have hb:Ik (q T:Int) n=(q T).testBit n:=by
  unfold Ik;rw[Nat.testBit_eq_decide_div_mod_eq,show(q T:Int) / 2^n%2=((q T / 2^n%2:Nat):Int) from by simp];generalize q T / 2^n%2=z;rw[Bool.eq_iff_iff,beq_iff_eq,decide_eq_true_eq];omega
 clear h1 hq;go_enter Tryz.func189,Tryz.ntmps189;go_wp2;go_ret;exact⟨dU (by rw[←hb];exact H.o),br⟩
structure abF (q:Nat→Nat) (w wr:World) (T:Nat) (vo:Value) (l:bB) (dn:Nat→Bool):Prop where
 st:oU q T l dn
 own:cB wr (w.heap.size+2) 177 179 vo l
 tab:wr.heap[w.heap.size]? =some (.cells (cL q) 133 (0,0))
 Qp:wr.heap[w.heap.size+1]? =some (.cells (jK dn) 253 (0,0))
 aW:Below w.heap.size w wr
theorem ED {W:World} {base e size n g j:Nat} {v u:Value} {xs:List Value} (h:W.ownsRow base e size v n xs) (hg:g < base):(W.setCell ⟨g,j,none⟩ u).ownsRow base e size v n xs:=by
 refine⟨h.1, ?_⟩;rcases h.2 with hn | ⟨k,cap,cur,rfl,hk,hh,rest⟩
 ·exact .inl hn
 ·exact .inr ⟨k,cap,cur,rfl,hk,by rw[aC (by omega)];exact hh,rest⟩
theorem cB.low {W:World} {base eB eS g j:Nat} {v u:Value} {l:bB} (h:cB W base eB eS v l) (hg:g < base):cB (W.setCell ⟨g,j,none⟩ u) base eB eS v l:=by
 obtain⟨us,h1,h2,h3⟩:=h;exact⟨us,h1,ED h2 hg,fun i hi hi'=>ED (h3 i hi hi') hg⟩
theorem cB.push {w w':World} {base eB eS:Nat} {v v' u:Value} {l:bB} {b:Bx} {us:List Value} (hne:eB≠eS) (h1:us.length=l.length) (h2:w.ownsRow base eB 3 v l.length (bxCells l us)) (h3: ∀i (h:i < l.length) (h':i < us.length),w.ownsRow base eS 2 us[i] l[i].sp.length (az l[i].sp))
  (hu:w.ownsRow base eS 2 u b.sp.length (az b.sp)) (hn:w'.ownsRow base eB 3 v' (l.length+1) (bxCells l us++[.int .i64 b.y, .int .i64 b.n,u])) (hg:w.grownBy w' v.ownBlock):cB w' base eB eS v' (l++[b]):=by
 refine⟨us++[u],by simp[h1], ?_,fun i hi hi'=> ?_⟩
 ·rw[Fi _ _ _ _ h1,List.length_append,List.length_singleton];exact hn
 ·by_cases e:i < l.length
  ·simp only[List.getElem_append_left e,List.getElem_append_left (show i < us.length by omega)];exact F5 hne h2 (h3 i e (by omega)) hg
  ·have e2:i=l.length:=by simp at hi;omega
   subst e2;simp only[List.getElem_append_right (Nat.le_refl _),List.getElem_append_right (show us.length≤l.length by omega),Nat.sub_self,h1,List.getElem_singleton];exact F5 hne h2 hu hg
theorem I2: ∀k:Nat,k < 4→wrap64 ((2:Int)^k)=2^k:=by
 intro k hk;have:k=0∨k=1∨k=2∨k=3:=by omega
 rcases this with rfl | rfl | rfl | rfl <;> exact IntWalk.wrap64_in _ (by decide)
def IM (q:Nat→Nat) (T y n j:Nat):Prop:= ∀o:Nat,o < j→dK (y:Int) (n:Int) (o:Int)=true→q o=q T
theorem rI {q:Nat→Nat} {T y n j:Nat} :IM q T y n (j+1)↔IM q T y n j∧(dK (y:Int) (n:Int) (j:Int)=true→q j=q T):=
 ⟨fun h=>⟨fun o ho=>h o (by omega),h j (by omega)⟩,fun h o ho=>by
  by_cases e:o=j
  ·subst e;exact h.2
  ·exact h.1 o (by omega)⟩
theorem boxes_c (q:Nat→Nat) (hq: ∀k,k < 16→q k < 4294967296) (w:World):
  Calls Tryz.prog 159 #[.agg (cL q)] w fun e w'=> ∃v l,e= .returned v∧cB w' w.heap.size 177 179 v l∧(∃dn,oU q 16 l dn)∧Below w.heap.size w w':=by
 have HQ:=jD hq;clear hq;go_enter Tryz.func159,Tryz.ntmps159;go_wp2;go_loopw [3,12] (fun vo i wr=> ∃T l dn,T≤16∧i= .int .i64 (T:Nat)∧abF q w wr T vo l dn) (fun _ i _=>16 - (intOf i).toNat)
 case atStart=>
  refine⟨0,[],fun _=>false,by omega,rfl,oU.zero q,cB.nil _ _ _ _, ?_, ?_,(aG _).alloc (by simp) _⟩
  ·exact(heap_alloc_old _ _ (by simp)).trans (heap_alloc_new _ _)
  ·have h:=fun (o1 o2:Obj)=>heap_alloc_new (w.alloc o1) o2;simp only[World.size_alloc] at h;rw[Oc];exact h _ _
 case round=>
  obtain⟨T,l,dn,hT,rfl,R⟩:=hrel;by_cases hlt:T < 16;rotate_left
  ·obtain rfl:T=16:=by omega
   obtain⟨st,own, -, -,aW⟩:=R;obtain⟨va,vc,hv⟩:=own.shape;subst hv;go_wp2;go_ret;obtain⟨us,h1,h2,h3⟩:=own;exact⟨_,l,rfl,⟨us,h1,bV h2 (by omega),fun i hi hi'=>bV (h3 i hi hi') (by omega)⟩,⟨dn,st⟩,aW⟩
  have hdT:decide ((T:Int) < 16)=true:=by simp only[decide_eq_true_eq];omega
  obtain⟨st,own,tab,Qp,aW⟩:=R;have hsz:w.heap.size+1 < wr.heap.size:=(Array.getElem?_eq_some_iff.1 Qp).1;have NW:w.heap.size < wr.heap.size:=by omega
  have cf:=aD (j:=T) Qp (Gx dn T hlt);have ct:=aD (j:=T) tab (lS q T hlt);have ST:=jD st;have OW:=jD own;have TB:=jD tab;have FL:=jD Qp;clear st own tab Qp;cases hd:dn T
  rotate_left
  ·have HD:=jD hd;rw[hd] at cf;clear hd;go_wp2;go_roundw
   case rel=>exact ⟨T+1,l,dn,by omega,by go_num,ST.o.skip (.inl HD.o),OW.o.below (aG _),(heap_alloc_old _ _ (by omega)).trans TB.o,(heap_alloc_old _ _ (by omega)).trans FL.o,aW.alloc aW.size _⟩
   case measure=>first | (simp[intOf];done) | (simp[intOf];omega)
  rw[hd] at cf;have HD:=jD hd;clear hd;cases hz:((q T:Int)==0)
  rotate_left
  ·have HZ:=jD (show q T=0 by simpa using hz);go_wp2;go_roundw
   case rel=>exact ⟨T+1,l,dn,by omega,by go_num,ST.o.skip (.inr HZ.o),OW.o.below (aG _),(heap_alloc_old _ _ (by omega)).trans TB.o,(heap_alloc_old _ _ (by omega)).trans FL.o,aW.alloc aW.size _⟩
   case measure=>first | (simp[intOf];done) | (simp[intOf];omega)
  have HZ:=jD (show q T≠0 by simpa using hz);go_wp2;obtain⟨w5,lD⟩: ∃w5,w5=wr.alloc (.cells #[.int .i64 (T:Int)] 3):=⟨_,rfl⟩
  rw[←lD];have bR:Below wr.heap.size wr w5:=by rw[lD];exact aG _
  have L8:w5.heap.size=wr.heap.size+1:=by rw[lD];simp
  have t5:w5.heap[wr.heap.size]? =some (.cells #[.int .i64 (T:Int)] 3 (0,0)):=by rw[lD];exact heap_alloc_new _ _
  have TB5:=jD ((bR.block w.heap.size (by omega)).trans TB.o);have FL5:=jD ((bR.block (w.heap.size+1) (by omega)).trans FL.o);have OW5:=jD (OW.o.below bR);replace aW:=aj aW bR;have T5:=jD t5;clear t5 lD bR TB FL OW cf ct;rw[←L8];have Y8:((15:Int) - (T:Int))=((15 - T:Nat):Int):=by omega
  rw[Y8];clear Y8;have Vp:wr.heap.size < w5.heap.size:=by omega
  have hq5:w.heap.size+1 < w5.heap.size:=by omega
  clear L8;generalize wr.heap.size=B5 at*;go_loopw [28] (fun i wx=> ∃k y n,k≤4∧i= .int .i64 (k:Nat)∧sN q T y n∧wx.heap[w5.heap.size]? =some (.cells #[.int .i64 (y:Nat), .int .i64 (n:Nat)] 174 (0,0))∧Below w5.heap.size w5 wx) (fun i _=>4 - (intOf i).toNat)
  case atStart=>exact ⟨0,T,15 - T,by omega,rfl,sN.zero q hlt,heap_alloc_new _ _,aG _⟩
  case round=>
   obtain⟨k,y,n,hk,rfl,cs,hC,gP⟩:=hrel;skip;have CS:=jD cs;have hy:=cs.U1;have hn:=cs.n16;have HC:=jD hC;have YS:w5.heap.size < wr.heap.size:=(Array.getElem?_eq_some_iff.1 hC).1;clear cs hC;obtain⟨w6,s7⟩: ∃w6,w6=wr:=⟨_,rfl⟩
   subst s7;by_cases hkl:k < 4;rotate_left
   ·obtain rfl:k=4:=by omega
    rw[show((4:Nat):Int)=4 from rfl];have TB6:=jD ((gP.block w.heap.size (by omega)).trans TB5.o);have FL6:=jD ((gP.block (w.heap.size+1) (by omega)).trans FL5.o);have OW6:=jD (OW5.o.below gP);have T6:=jD ((gP.block B5 (by omega)).trans T5.o);have aar:=aj aW gP;clear TB5 FL5 OW5 T5 aW gP;go_wp2;go_loopw [65] (fun i wx=> ∃j:Nat,j≤16∧i= .int .i64 j∧wx.heap[w.heap.size+1]? =some (.cells (jK fun o=>dn o || (decide (o < j)&&dK (y:Int) (n:Int) (o:Int))) 253 (0,0))∧wx.heap[w.heap.size]? =some (.cells (cL q) 133 (0,0))∧wx.heap[w5.heap.size]? =some (.cells #[.int .i64 (y:Nat), .int .i64 (n:Nat)] 174 (0,0))∧wx.heap[B5]? =some (.cells #[.int .i64 (T:Int)] 3 (0,0))∧cB wx (w.heap.size+2) 177 179 u3 l∧Below w.heap.size w wx) (fun i _=>16 - (intOf i).toNat)
    case atStart=>exact ⟨0,by omega,rfl,by simpa using FL6.o,TB6.o,HC.o,T6.o,OW6.o,aar⟩
    case round=>
     clear TB6 FL6 OW6 T6 aar HC;obtain⟨j,hj,rfl,hF,hTb,hC,hT5,own,aW⟩:=hrel;obtain⟨w8,YX⟩: ∃w8,w8=wr:=⟨_,rfl⟩
     subst YX;have FL:=jD hF;have TB:=jD hTb;have HC:=jD hC;have T5:=jD hT5;have OW:=jD own;have hz8:w5.heap.size < w8.heap.size:=(Array.getElem?_eq_some_iff.1 hC).1;clear hF hTb hC hT5 own;by_cases hjl:j < 16
     ·have hdj:decide ((j:Int) < 16)=true:=by simp only[decide_eq_true_eq];omega
      have cf:=aD (j:=j) FL.o (Gx _ j hjl);simp only[Nat.lt_irrefl,decide_false,Bool.false_and,Bool.or_false] at cf;have ff:=dS (j:=j) FL.o;have c0:=cq 0 HC.o rfl;have c1:=cq 1 HC.o rfl;cases hd:dn j
      rotate_left
      ·have HDJ:=jD hd;rw[hd] at cf;clear hd;go_wp2;go_roundw
       case rel=>
        refine⟨j+1,by omega,by go_num, ?_,(aC (by omega)).trans TB.o,(aC (by omega)).trans HC.o,(aC (by omega)).trans T5.o,OW.o.low (by omega),aW.setCell (by simp) _⟩;rw[ax FL.o,Gw];congr 2;unfold jK;congr 1;refine List.map_congr_left fun o _=> ?_;by_cases e1:o=j
        ·subst e1;simp [HDJ.o]
        ·by_cases e2:o < j
         ·simp[e1,e2,show o < j+1 by omega]
         ·simp[e1,e2,show ¬o < j+1 by omega]
       case measure=>first | (simp[intOf];done) | (simp[intOf];omega)
      have HDJ:=jD hd;rw[hd] at cf;clear hd;go_wp2_with fail
      (with_reducible refine(uD _ _ _ _).mono ?_);rintro e w9 ⟨rfl,hb⟩;replace cf:=ah hb cf;replace ff:=(hb.frozen (p:=⟨w.heap.size+1,j,none⟩) (by show w.heap.size+1 < w8.heap.size;omega)).trans ff;have hz9:=hb.size;clear c0 c1;have HB:=jD hb;clear hb;go_wp2;go_roundw
      case rel=>
       refine⟨j+1,by omega,by go_num, ?_,(aC (by omega)).trans ((HB.o.block _ (by omega)).trans TB.o),(aC (by omega)).trans ((HB.o.block _ (by omega)).trans HC.o),(aC (by omega)).trans ((HB.o.block _ (by omega)).trans T5.o),(OW.o.below HB.o).low (by omega),(aj aW HB.o).setCell (by simp) _⟩;rw[ax ((HB.o.block _ (by omega)).trans FL.o),Gw];congr 2;unfold jK;congr 1;refine List.map_congr_left fun o _=> ?_;by_cases e1:o=j
       ·subst e1;simp [HDJ.o]
       ·by_cases e2:o < j
        ·simp[e1,e2,show o < j+1 by omega]
        ·simp[e1,e2,show ¬o < j+1 by omega]
      case measure=>first | (simp[intOf];done) | (simp[intOf];omega)
     ·obtain rfl:j=16:=by omega
      obtain⟨us,o1,o2,o3⟩:=OW.o;have hl16:=ST.o.len;have O1:=jD o1;have O2:=jD o2;have O3:=jD o3;clear o1 o2 o3;have hm: ∀args W,(callFunc 189 args).run Tryz.prog W= .ok (.enter 189 args) W:=fun _ _=>by kernel_rfl
      have HM:=jD hm;clear hm;go_wp2_with fail
      refine Cl.aV 88 rfl [6] (fun w=>Below w8.heap.size w8 w) (fun jq=>match jq with | 3=>[6] | 4=>[6] | 5=>[6] | _=>[]) (fun jq v ww=>match jq with | 0=>v=u3 | 1=>v= .agg #[.int .i64 (y:Nat), .int .i64 (n:Nat)] | 2=>v= .func (.func 189) #[] #[.pointer (some ⟨w.heap.size,0,none⟩), .pointer (some ⟨B5,0,none⟩)] | 3=>ww.ownsRow (w.heap.size+2) 179 2 v (make fun i=>(q T).testBit i).length (az (make fun i=>(q T).testBit i)) | 4=> ∃u,v= .agg #[.int .i64 (y:Nat), .int .i64 (n:Nat),u]∧ww.ownsRow (w.heap.size+2) 179 2 u (make fun i=>(q T).testBit i).length (az (make fun i=>(q T).testBit i)) | 5=> ∃u,aF ww v 1 [.int .i64 (y:Nat), .int .i64 (n:Nat),u]∧ww.ownsRow (w.heap.size+2) 179 2 u (make fun i=>(q T).testBit i).length (az (make fun i=>(q T).testBit i)) | 6=>cB ww (w.heap.size+2) 177 179 v (l++[(⟨y,n,make fun i=>(q T).testBit i⟩:Bx)]) | 7=>cB ww (w.heap.size+2) 177 179 v (l++[(⟨y,n,make fun i=>(q T).testBit i⟩:Bx)]) | _=>True) (fun ww=>Below (w.heap.size+2) w8 ww) (fun jq ww aR=>jq≠6→Below ww.heap.size ww aR) Tryz.mixed (by decide+kernel) (br).drew ((br).drew) ?_ (fun q w w' hk h hR=>aj h (hR (by simpa using hk))) ?_ ?_
      ·intro q r v w w' hne hk hlt h hR;match r,hk,hlt,h,hne with
       | 0,_,_,h,_=>exact h
       | 1,_,_,h,_=>exact h
       | 2,_,_,h,_=>exact h
       | 3,hk,_,h,_=>exact aI h (hR (by simpa using hk))
       | 4,hk,_,h,_=>exact (fun hb=>let ⟨u,h1,h2⟩:=h;⟨u,h1,aI h2 hb⟩) (hR (by simpa using hk))
       | 5,hk,_,h,_=>exact (fun hb=>let ⟨u,h1,h2⟩:=h;⟨u,h1.below hb,aI h2 hb⟩) (hR (by simpa using hk))
       | 6,_,_,h,hne=>exact h.below (hR (by exact hne))
       | 7,_,hlt,h,_=>exact h.below (hR (by intro e;subst e;exact absurd hlt (by decide+kernel)))
       | _+8,_,_,_,_=>trivial
      ·refine⟨?_, ?_, ?_, ?_, ?_, ?_, ?_, ?_,trivial⟩
       ·intro x wx hG;have f3:=hG.o 3;replace hG:=hG.g;go_wp2;exact⟨_,rfl,rfl,hG,fun _=>br⟩
       ·intro x wx hG;have f6:=hG.o 6;have hp:=hG.p 0;replace hG:=hG.g;have hC:=(hp.block w5.heap.size (by omega)).trans HC.o;have c0:=cq 0 hC rfl;have c1:=cq 1 hC rfl;clear hC hp;go_wp2;exact⟨_,rfl,rfl,hG,fun _=>br⟩
       ·intro x wx hG;have f1:=hG.o 1;have f5:=hG.o 5;replace hG:=hG.g;go_wp2;exact⟨_,rfl,rfl,hG,fun _=>br⟩
       ·intro x wx hG;have g2:=gr 81 (hG.c 2 _ rfl);have hp:=hG.p 0;replace hG:=hG.g;have HP:=jD hp;clear hp;have hpd:Pred 189 #[.pointer (some ⟨w.heap.size,0,none⟩), .pointer (some ⟨B5,0,none⟩)] (fun i=>(q T).testBit i) wx:=⟨HM.o,fun i W hi hW=>UC i hi _ _ q HQ.o T hlt W ((hW.block w.heap.size (by have:=HP.o.size;omega)).trans ((HP.o.block w.heap.size (by omega)).trans TB.o)) (ah hW (cq 0 ((HP.o.block B5 (by omega)).trans T5.o) rfl))⟩
        have HPD:=jD hpd;clear hpd;go_wp2_with fail
        (with_reducible refine(YK _ _ (fun i=>(q T).testBit i) _ HPD.o).mono ?_);rintro e w9 ⟨v9,rfl,ho,hb⟩;clear g2;go_wp2;exact⟨_,rfl,bV ho (by have:=HP.o.size;omega),hG.trans (hb.mono (by have:=HP.o.size;omega)),fun _=>hb⟩
       ·intro x wx hG;have g1:=gr 80 (hG.c 1 _ rfl);have g3:wx.ownsRow (w.heap.size+2) 179 2 (x.tmps.getD 82 undef) (make fun i=>(q T).testBit i).length (az (make fun i=>(q T).testBit i)):=hG.c 3 _ rfl;replace hG:=hG.g;generalize hx:x.tmps.getD 82 undef=x82 at*;have zo:=hx;rw[Array.getD_eq_getD_getElem?] at zo;have tq:=gd g1;obtain⟨sa,sc,hs⟩:=ay g3;subst hs;have G3:=jD g3;clear g3;go_wp2;exact⟨_,rfl,⟨_,rfl,G3.o⟩,hG,fun _=>br⟩
       ·intro x wx hG;have g4: ∃u,(x.tmps.getD 83 undef)= .agg #[.int .i64 (y:Nat), .int .i64 (n:Nat),u]∧wx.ownsRow (w.heap.size+2) 179 2 u (make fun i=>(q T).testBit i).length (az (make fun i=>(q T).testBit i)):=hG.c 4 _ rfl;have hp:=hG.p 0;replace hG:=hG.g;obtain⟨u,g4,hu⟩:=g4;have qE:=gd g4;obtain⟨sa,sc,hs⟩:=ay hu;subst hs;have HU:=jD hu;have HP:=jD hp;clear hu hp;go_wp2;exact⟨_,rfl,⟨_,aF.mk (Nat.le_refl _) (by decide) (by simp) (fun j z hj=>by rw[Nat.zero_add,World.cell?_alloc_at _ _ _ _ rfl];simpa using hj),aI HU.o (aG _)⟩,hG.alloc (by have:=HP.o.size;omega) _,fun _=>aG _⟩
       ·intro x wx hG;have g0:=gr 79 (hG.c 0 _ rfl);have g5: ∃u,aF wx (x.tmps.getD 84 undef) 1 [.int .i64 (y:Nat), .int .i64 (n:Nat),u]∧wx.ownsRow (w.heap.size+2) 179 2 u (make fun i=>(q T).testBit i).length (az (make fun i=>(q T).testBit i)):=hG.c 5 _ rfl;have hp:=hG.p 0;replace hG:=hG.g;obtain⟨u,hc,hu⟩:=g5;refine bM rfl (.tmp 79) (.tmp 84) 89 rfl (w.heap.size+2) 177 _ 3 40 Tryz.underlying89 Ws.info rfl (by decide) u3 l.length _ g0 (aI O2.o hp) _ 1 _ rfl hc rfl (by intro z hz;simp at hz;rcases hz with rfl | rfl | rfl;rfl;rfl;(obtain⟨sa,sc,rfl⟩:=ay hu;rfl)) (by have:=hp.size;omega) (by unfold maxLen;omega) (by omega) ?_;intro v9 w9 ho hgr;refine wpList_nil ?_;exact⟨v9,rfl,cB.push (by decide) O1.o (aI O2.o hp) (fun i hi hi'=>aI (O3.o i hi hi') hp) hu ho hgr,hG.grown hgr (by have:=hp.size;omega) (fun k hk=>((aI O2.o hp).lt k hk).1),fun h=>absurd rfl h⟩
       ·intro x wx hG;have g6:cB wx (w.heap.size+2) 177 179 (x.tmps.getD 85 undef) (l++[(⟨y,n,make fun i=>(q T).testBit i⟩:Bx)]):=hG.c 6 _ rfl;replace hG:=hG.g;generalize hx:x.tmps.getD 85 undef=x85 at*;have zo:=hx;rw[Array.getD_eq_getD_getElem?] at zo;have G6:=jD g6;clear g6;go_wp2;exact⟨_,rfl,G6.o,hG,fun _=>br⟩
      ·intro af w11 hg hF;obtain⟨g0,g1,g2,g3,g4,g5,g6,g7, -⟩:=hF;replace g7:cB w11 (w.heap.size+2) 177 179 (af 7) (l++[(⟨y,n,make fun i=>(q T).testBit i⟩:Bx)]):=g7 rfl;simp only[Cl3.puts,gq (af 0) g0,gq (af 1) g1,gq (af 2) g2];clear g0 g1 g2 g3 g4 g5 g6;go_simp
       generalize af 7=v10 at*;have G7:=jD g7;clear g7;go_wp2;go_roundw
       case rel=>
        refine⟨T+1,l++[(⟨y,n,make fun i=>(q T).testBit i⟩:Bx)],(fun k=>dn k || dK (y:Int) (n:Int) (k:Int)),by omega,by go_num,ST.o.push hlt HZ.o CS.o,G7.o,(hg.block w.heap.size (by omega)).trans TB.o, ?_,aW.trans (hg.mono (by omega))⟩;refine((hg.block (w.heap.size+1) (by omega)).trans FL.o).trans (congrArg (fun c=>some (Obj.cells c 253 (0,0))) ?_);unfold jK;congr 1;all_goals (refine List.map_congr_left fun o ho=> ?_)
        all_goals (simp only[List.mem_range.1 ho,decide_true,Bool.true_and])
       case measure=>first | (simp[intOf];done) | (simp[intOf];omega)
   have hdk:decide ((k:Int) < 4)=true:=by simp only[decide_eq_true_eq];omega
   have ha1:=(rO y hy k hkl)
   have ha2:=(rO n hn k hkl)
   go_wp2_with fail
   refine Cl.aV 88 rfl [11] (fun ww=>ww.heap.size=w6.heap.size) (fun _=>[]) (fun jq v ww=>match jq with | 0=>v= .pointer (some ⟨w5.heap.size,0,none⟩) | 1=>v= .int .i64 (y:Nat) | 2=>v= .int .i64 (k:Nat) | 3=>v= .int .i64 ((2:Int)^k) | 4=>v= .int .i64 (eV y k:Nat) | 5=>v= .pointer (some ⟨w5.heap.size,1,none⟩) | 6=>v= .int .i64 (n:Nat) | 7=>v= .int .i64 (k:Nat) | 8=>v= .int .i64 ((2:Int)^k) | 9=>v= .int .i64 (eV n k:Nat) | 10=>v= .agg #[.int .i64 (eV y k:Nat), .int .i64 (eV n k:Nat)] | 11=>(∃c0 c1,ww.heap[w6.heap.size]? =some (.cells #[c0,c1] 174 (0,0)))∧v= .pointer (some ⟨w6.heap.size,0,none⟩) | 12=>ww.heap[w6.heap.size]? =some (.cells #[.int .i64 (eV y k:Nat), .int .i64 (eV n k:Nat)] 174 (0,0)) | _=>True) (fun ww=>Below w6.heap.size w6 ww) (fun jq ww aR=>(jq=11∨aR.heap.size=ww.heap.size)∧(jq=11∨jq=12∨aR.heap=ww.heap)∧ ∀c0 c1,ww.heap[w6.heap.size]? =some (.cells #[c0,c1] 174 (0,0))→ ∃d0 d1,aR.heap[w6.heap.size]? =some (.cells #[d0,d1] 174 (0,0))) Tryz.mixed (by decide+kernel) (br).drew rfl ?_ (fun jq ww aR hk h hR=>by rcases hR.1 with e | e;exact absurd e (by simpa using hk);exact e.trans h) ?_ ?_
   ·intro q r v w w' hne hk hlt h hR;match r,hk,hlt,h,hne with
    | 0,_,_,h,_=>exact h
    | 1,_,_,h,_=>exact h
    | 2,_,_,h,_=>exact h
    | 3,_,_,h,_=>exact h
    | 4,_,_,h,_=>exact h
    | 5,_,_,h,_=>exact h
    | 6,_,_,h,_=>exact h
    | 7,_,_,h,_=>exact h
    | 8,_,_,h,_=>exact h
    | 9,_,_,h,_=>exact h
    | 10,_,_,h,_=>exact h
    | 11,_,_,h,_=>obtain ⟨⟨c0,c1,h1⟩,h2⟩:=h;exact ⟨hR.2.2 c0 c1 h1,h2⟩
    | 12,_,hlt,h,hne=>rcases hR.2.1 with e | e | e;(subst e;exact absurd hlt (by decide+kernel));(exact absurd e hne);(exact(congrArg (fun (x:Array Obj)=>x[w6.heap.size]?) e).trans h)
    | _+13,_,_,_,_=>trivial
   ·refine⟨?_, ?_, ?_, ?_, ?_, ?_, ?_, ?_, ?_, ?_, ?_, ?_, ?_,trivial⟩
    ·intro x wx hG;have f6:=hG.o 6;replace hG:=hG.g;go_wp2;exact⟨_,rfl,rfl,hG,⟨.inr rfl, .inr (.inr rfl),fun c0 c1 h=>⟨c0,c1,h⟩⟩⟩
    ·intro x wx hG;have g0:=gr 31 (hG.c 0 _ rfl);replace hG:=hG.g;have hC:=(hG.block w5.heap.size (by omega)).trans HC.o;have c:=cq 0 hC rfl;clear hC;go_wp2;exact⟨_,rfl,rfl,hG,⟨.inr rfl, .inr (.inr rfl),fun c0 c1 h=>⟨c0,c1,h⟩⟩⟩
    ·intro x wx hG;have f7:=hG.o 7;replace hG:=hG.g;go_wp2;exact⟨_,rfl,rfl,hG,⟨.inr rfl, .inr (.inr rfl),fun c0 c1 h=>⟨c0,c1,h⟩⟩⟩
    ·intro x wx hG;have g2:=gr 33 (hG.c 2 _ rfl);replace hG:=hG.g;go_wp2;exact⟨_,rfl,(by show Value.int _ _=_;rw [I2 k hkl]),hG,⟨.inr rfl, .inr (.inr rfl),fun c0 c1 h=>⟨c0,c1,h⟩⟩⟩
    ·intro x wx hG;have g1:=gr 32 (hG.c 1 _ rfl);have g3:=gr 34 (hG.c 3 _ rfl);replace hG:=hG.g;go_wp2;exact⟨_,rfl,rfl,hG,⟨.inr rfl, .inr (.inr rfl),fun c0 c1 h=>⟨c0,c1,h⟩⟩⟩
    ·intro x wx hG;have f6:=hG.o 6;replace hG:=hG.g;go_wp2;exact⟨_,rfl,rfl,hG,⟨.inr rfl, .inr (.inr rfl),fun c0 c1 h=>⟨c0,c1,h⟩⟩⟩
    ·intro x wx hG;have g5:=gr 36 (hG.c 5 _ rfl);replace hG:=hG.g;have hC:=(hG.block w5.heap.size (by omega)).trans HC.o;have c:=cq 1 hC rfl;clear hC;go_wp2;exact⟨_,rfl,rfl,hG,⟨.inr rfl, .inr (.inr rfl),fun c0 c1 h=>⟨c0,c1,h⟩⟩⟩
    ·intro x wx hG;have f7:=hG.o 7;replace hG:=hG.g;go_wp2;exact⟨_,rfl,rfl,hG,⟨.inr rfl, .inr (.inr rfl),fun c0 c1 h=>⟨c0,c1,h⟩⟩⟩
    ·intro x wx hG;have g7:=gr 38 (hG.c 7 _ rfl);replace hG:=hG.g;go_wp2;exact⟨_,rfl,(by show Value.int _ _=_;rw [I2 k hkl]),hG,⟨.inr rfl, .inr (.inr rfl),fun c0 c1 h=>⟨c0,c1,h⟩⟩⟩
    ·intro x wx hG;have g6:=gr 37 (hG.c 6 _ rfl);have g8:=gr 39 (hG.c 8 _ rfl);replace hG:=hG.g;go_wp2;exact⟨_,rfl,rfl,hG,⟨.inr rfl, .inr (.inr rfl),fun c0 c1 h=>⟨c0,c1,h⟩⟩⟩
    ·intro x wx hG;have⟨g4,qE⟩:=gs 35 (hG.c 4 _ rfl);have⟨g9,zy⟩:=gs 40 (hG.c 9 _ rfl);replace hG:=hG.g;go_wp2;exact⟨_,rfl,rfl,hG,⟨.inr rfl, .inr (.inr rfl),fun c0 c1 h=>⟨c0,c1,h⟩⟩⟩
    ·intro x wx hG;have hp:=hG.p 0;replace hG:=hG.g;have HP:=jD hp;clear hp;go_wp2;exact⟨_,rfl,⟨⟨_,_,by have h:=heap_alloc_new wx (.cells #[.int .i64 0, .int .i64 0] 174);rw [HP.o] at h;exact h⟩,by show Value.pointer _=_;rw [HP.o]⟩,hG.alloc hG.size _, .inl rfl, .inl rfl,fun c0 c1 h=>absurd (Array.getElem?_eq_some_iff.1 h).1 (by rw[HP.o];exact Nat.lt_irrefl _)⟩
    ·intro x wx hG;have g10:=gr 41 (hG.c 10 _ rfl);have g11:(∃c0 c1,wx.heap[w6.heap.size]? =some (.cells #[c0,c1] 174 (0,0)))∧(x.tmps.getD 8 undef)= .pointer (some ⟨w6.heap.size,0,none⟩):=hG.c 11 _ rfl;replace hG:=hG.g;obtain⟨⟨c0,c1,hb⟩,g11⟩:=g11;have k0:=cq 0 hb rfl;have k1:=cq 1 hb rfl;have l0:=fq 0 hb;have l1:=fq 1 hb;have HB:=jD hb;clear hb;go_wp2;exact⟨undef,rfl,ax (ax HB.o),(hG.setCell (Nat.le_refl _) _).setCell (Nat.le_refl _) _, .inr (by simp), .inr (.inl rfl),fun _ _ _=>⟨_,_,ax (ax HB.o)⟩⟩
   ·intro af w7 hg hF;obtain⟨g0,g1,g2,g3,g4,g5,g6,g7,g8,g9,g10,g11,g12, -⟩:=hF;have e11:af 11= .pointer (some ⟨w6.heap.size,0,none⟩):=(g11 rfl).2;replace g12:w7.heap[w6.heap.size]? =some (.cells #[.int .i64 (eV y k:Nat), .int .i64 (eV n k:Nat)] 174 (0,0)):=g12 rfl;simp only[Cl3.puts,gq (af 0) g0,gq (af 1) g1,gq (af 2) g2,gq (af 3) g3,gq (af 4) g4,gq (af 5) g5,gq (af 6) g6,gq (af 7) g7,gq (af 8) g8,gq (af 9) g9,gq (af 10) g10,e11];clear e11 g0 g1 g2 g3 g4 g5 g6 g7 g8 g9 g10 g11;go_simp
    have hz7:w6.heap.size < w7.heap.size:=(Array.getElem?_eq_some_iff.1 g12).1;have G7:=jD g12;have HC7:=jD ((hg.block w5.heap.size (by omega)).trans HC.o);have qC:=aj gP hg;have TB7:=jD ((qC.block w.heap.size (by omega)).trans TB5.o);have T7:=jD ((qC.block B5 (by omega)).trans T5.o);clear g12 hg gP HC;go_wp2;go_loopw [9,42] (fun bb i wx=> ∃(j:Nat) (b:Bool),j≤16∧i= .int .i64 j∧bb= .bool b∧(b=true↔IM q T (eV y k) (eV n k) j)∧Below w7.heap.size w7 wx) (fun _ i _=>16 - (intOf i).toNat)
    case atStart=>exact ⟨0,true,by omega,rfl,rfl,⟨fun _ o ho=>by omega,fun _=>rfl⟩,br⟩
    case round=>
     obtain⟨j,b,hj,rfl,rfl,hsame,mz⟩:=hrel;have HS:=jD hsame;clear hsame;obtain⟨w8,YX⟩: ∃w8,w8=wr:=⟨_,rfl⟩
     subst YX;by_cases hjl:j < 16;rotate_left
     ·obtain rfl:j=16:=by omega
      have hz8:=mz.size;cases b
      ·go_wp2;go_roundw
       case rel=>exact ⟨k+1,y,n,by omega,by go_num,CS.o,(mz.block _ (by omega)).trans HC7.o,qC.trans (mz.mono (by omega))⟩
       case measure=>first | (simp[intOf];done) | (simp[intOf];omega)
      ·have hC:=jD ((mz.block w5.heap.size (by omega)).trans HC7.o);have hG:=jD ((mz.block w6.heap.size (by omega)).trans G7.o);have k0:=cq 0 hC.o rfl;have k1:=cq 1 hC.o rfl;have l0:=fq 0 hC.o;have l1:=fq 1 hC.o;have m0:=cq 0 hG.o rfl;have m1:=cq 1 hG.o rfl;go_wp2;go_roundw
       case rel=>exact ⟨k+1,eV y k,eV n k,by omega,by go_num,CS.o.drop hlt hkl (fun o ho=>HS.o.1 (by simp) o ho),ax (ax hC.o),((qC.trans (mz.mono (by omega))).setCell (Nat.le_refl _) _).setCell (Nat.le_refl _) _⟩
       case measure=>first | (simp[intOf];done) | (simp[intOf];omega)
     have hdj:decide ((j:Int) < 16)=true:=by simp only[decide_eq_true_eq];omega
     have tb:=(mz.block w.heap.size (by omega)).trans TB7.o;have cj:=aD (j:=j) tb (lS q j hjl);have cT:=aD (j:=T) tb (lS q T hlt);have t8:=cq 0 ((mz.block B5 (by omega)).trans T7.o) rfl;have hG:=((mz.block w6.heap.size (by omega)).trans G7.o)
     have m0:=cq 0 hG rfl;have m1:=cq 1 hG rfl;clear tb hG;have CJ:=jD cj;have CT:=jD cT;have T8:=jD t8;have M0:=jD m0;have M1:=jD m1;clear cj cT t8 m0 m1;cases b
     ·have HI:=jD (rfl:(0:Nat)=0);go_wp2_with fail
      refine Cl.aV 88 rfl [] (fun _=>True) (fun _=>[]) (fun jq v ww=>match jq with | 0=>v= .bool false | 1=>v= .bool false | 2=>v=undef | 3=>v=undef | 4=>v=undef | 5=>v=undef | 6=>v=undef | 7=>v=undef | 8=>v=undef | 9=>v=undef | 10=>v=undef | 11=>v=undef | 12=>v=undef | 13=>v=undef | 14=>v=undef | 15=>v= .bool false | 16=>v= .bool false | _=>True) (fun ww=>Below w8.heap.size w8 ww) (fun jq ww aR=>Below ww.heap.size ww aR) Tryz.mixed (by decide+kernel) (br).drew trivial (fun q r v w w' _ _ _ h _=>h) (fun _ _ _ _ _ _=>trivial) ?_ ?_
      ·refine⟨?_, ?_, ?_, ?_, ?_, ?_, ?_, ?_, ?_, ?_, ?_, ?_, ?_, ?_, ?_, ?_, ?_,trivial⟩
       ·intro x wx hG;have f9:=hG.o 9;replace hG:=hG.g;go_wp2;exact⟨_,rfl,rfl,hG,br⟩
       ·intro x wx hG;have g0:=gr 45 (hG.c 0 _ rfl);replace hG:=hG.g;go_wp2;exact⟨_,rfl,rfl,hG,br⟩
       ·intro x wx hG;have gg:=gr 46 (hG.c 1 _ rfl);replace gg:=hG.q gg;replace hG:=hG.g;go_wp2;exact⟨_,rfl,rfl,hG,br⟩
       ·intro x wx hG;have gg:=gr 46 (hG.c 1 _ rfl);replace gg:=hG.q gg;replace hG:=hG.g;go_wp2;exact⟨_,rfl,rfl,hG,br⟩
       ·intro x wx hG;have gg:=gr 46 (hG.c 1 _ rfl);replace gg:=hG.q gg;replace hG:=hG.g;go_wp2;exact⟨_,rfl,rfl,hG,br⟩
       ·intro x wx hG;have gg:=gr 46 (hG.c 1 _ rfl);replace gg:=hG.q gg;replace hG:=hG.g;go_wp2;exact⟨_,rfl,rfl,hG,br⟩
       ·intro x wx hG;have gg:=gr 46 (hG.c 1 _ rfl);replace gg:=hG.q gg;replace hG:=hG.g;go_wp2;exact⟨_,rfl,rfl,hG,br⟩
       ·intro x wx hG;have gg:=gr 51 (hG.c 6 _ rfl);replace gg:=hG.q gg;unfold undef at gg;replace hG:=hG.g;go_wp2;exact⟨_,rfl,rfl,hG,br⟩
       ·intro x wx hG;have gg:=gr 51 (hG.c 6 _ rfl);replace gg:=hG.q gg;unfold undef at gg;replace hG:=hG.g;go_wp2;exact⟨_,rfl,rfl,hG,br⟩
       ·intro x wx hG;have gg:=gr 51 (hG.c 6 _ rfl);replace gg:=hG.q gg;unfold undef at gg;replace hG:=hG.g;go_wp2;exact⟨_,rfl,rfl,hG,br⟩
       ·intro x wx hG;have gg:=gr 51 (hG.c 6 _ rfl);replace gg:=hG.q gg;unfold undef at gg;replace hG:=hG.g;go_wp2;exact⟨_,rfl,rfl,hG,br⟩
       ·intro x wx hG;have gg:=gr 51 (hG.c 6 _ rfl);replace gg:=hG.q gg;unfold undef at gg;replace hG:=hG.g;go_wp2;exact⟨_,rfl,rfl,hG,br⟩
       ·intro x wx hG;have gg:=gr 51 (hG.c 6 _ rfl);replace gg:=hG.q gg;unfold undef at gg;replace hG:=hG.g;go_wp2;exact⟨_,rfl,rfl,hG,br⟩
       ·intro x wx hG;have gg:=gr 51 (hG.c 6 _ rfl);replace gg:=hG.q gg;unfold undef at gg;replace hG:=hG.g;go_wp2;exact⟨_,rfl,rfl,hG,br⟩
       ·intro x wx hG;have gg:=gr 46 (hG.c 1 _ rfl);replace gg:=hG.q gg;replace hG:=hG.g;go_wp2;exact⟨_,rfl,rfl,hG,br⟩
       ·intro x wx hG;have g1:=gr 46 (hG.c 1 _ rfl);have g14:=gr 59 (hG.c 14 _ rfl);replace hG:=hG.g;go_wp2;exact⟨_,rfl,rfl,hG,br⟩
       ·intro x wx hG;have g15:=gr 60 (hG.c 15 _ rfl);replace hG:=hG.g;go_wp2;exact⟨_,rfl,rfl,hG,br⟩
      ·intro af w10 hg hF;obtain⟨g0,g1,g2,g3,g4,g5,g6,g7,g8,g9,g10,g11,g12,g13,g14,g15,g16, -⟩:=hF;simp only[Cl3.puts,gq (af 0) g0,gq (af 1) g1,gq (af 2) g2,gq (af 3) g3,gq (af 4) g4,gq (af 5) g5,gq (af 6) g6,gq (af 7) g7,gq (af 8) g8,gq (af 9) g9,gq (af 10) g10,gq (af 11) g11,gq (af 12) g12,gq (af 13) g13,gq (af 14) g14,gq (af 15) g15,gq (af 16) g16];clear g0 g1 g2 g3 g4 g5 g6 g7 g8 g9 g10 g11 g12 g13 g14 g15 g16;go_simp
       go_wp2;go_roundw
       case rel=>exact ⟨j+1,false,by omega,by go_num,rfl,⟨fun h=>zd h,fun h=>HS.o.2 (rI.1 h).1⟩,aj mz hg⟩
       case measure=>first | (simp[intOf];done) | (simp[intOf];omega)
     cases hin:dK (eV y k:Int) (eV n k:Int) (j:Int)
     ·have HI:=jD hin;clear hin;go_wp2_with fail
      refine Cl.aV 88 rfl [] (fun _=>True) (fun _=>[]) (fun jq v ww=>match jq with | 0=>v= .bool true | 1=>v= .bool true | 2=>v= .agg #[.int .i64 (eV y k:Nat), .int .i64 (eV n k:Nat)] | 3=>v= .int .i64 (j:Nat) | 4=>v= .bool false | 5=>v= .bool true | 6=>v= .bool true | 7=>v=undef | 8=>v=undef | 9=>v=undef | 10=>v=undef | 11=>v=undef | 12=>v=undef | 13=>v=undef | 14=>v= .bool true | 15=>v= .bool true | 16=>v= .bool true | _=>True) (fun ww=>Below w8.heap.size w8 ww) (fun jq ww aR=>Below ww.heap.size ww aR) Tryz.mixed (by decide+kernel) (br).drew trivial (fun q r v w w' _ _ _ h _=>h) (fun _ _ _ _ _ _=>trivial) ?_ ?_
      ·refine⟨?_, ?_, ?_, ?_, ?_, ?_, ?_, ?_, ?_, ?_, ?_, ?_, ?_, ?_, ?_, ?_, ?_,trivial⟩
       ·intro x wx hG;have f9:=hG.o 9;replace hG:=hG.g;go_wp2;exact⟨_,rfl,rfl,hG,br⟩
       ·intro x wx hG;have g0:=gr 45 (hG.c 0 _ rfl);replace hG:=hG.g;go_wp2;exact⟨_,rfl,rfl,hG,br⟩
       ·intro x wx hG;have f8:=hG.o 8;have gg:=gr 46 (hG.c 1 _ rfl);replace gg:=hG.q gg;replace hG:=hG.g;have cM0:=ah hG M0.o;have cM1:=ah hG M1.o;go_wp2;exact⟨_,rfl,rfl,hG,br⟩
       ·intro x wx hG;have f10:=hG.o 10;have gg:=gr 46 (hG.c 1 _ rfl);replace gg:=hG.q gg;replace hG:=hG.g;go_wp2;exact⟨_,rfl,rfl,hG,br⟩
       ·intro x wx hG;have g2:=gr 47 (hG.c 2 _ rfl);have g3:=gr 48 (hG.c 3 _ rfl);have gg:=gr 46 (hG.c 1 _ rfl);replace gg:=hG.q gg;replace hG:=hG.g;go_wp2_with fail
        (with_reducible refine(uD _ _ _ _).mono ?_);rintro e w9 ⟨rfl,hb⟩;rw[HI.o];clear g2 g3 gg;go_wp2;exact⟨_,rfl,rfl,aj hG hb,hb⟩
       ·intro x wx hG;have g4:=gr 49 (hG.c 4 _ rfl);have gg:=gr 46 (hG.c 1 _ rfl);replace gg:=hG.q gg;replace hG:=hG.g;go_wp2;exact⟨_,rfl,rfl,hG,br⟩
       ·intro x wx hG;have g5:=gr 50 (hG.c 5 _ rfl);have gg:=gr 46 (hG.c 1 _ rfl);replace gg:=hG.q gg;replace hG:=hG.g;go_wp2;exact⟨_,rfl,rfl,hG,br⟩
       ·intro x wx hG;have gg:=gr 51 (hG.c 6 _ rfl);replace gg:=hG.q gg;replace hG:=hG.g;go_wp2;exact⟨_,rfl,rfl,hG,br⟩
       ·intro x wx hG;have gg:=gr 51 (hG.c 6 _ rfl);replace gg:=hG.q gg;replace hG:=hG.g;go_wp2;exact⟨_,rfl,rfl,hG,br⟩
       ·intro x wx hG;have gg:=gr 51 (hG.c 6 _ rfl);replace gg:=hG.q gg;replace hG:=hG.g;go_wp2;exact⟨_,rfl,rfl,hG,br⟩
       ·intro x wx hG;have gg:=gr 51 (hG.c 6 _ rfl);replace gg:=hG.q gg;replace hG:=hG.g;go_wp2;exact⟨_,rfl,rfl,hG,br⟩
       ·intro x wx hG;have gg:=gr 51 (hG.c 6 _ rfl);replace gg:=hG.q gg;replace hG:=hG.g;go_wp2;exact⟨_,rfl,rfl,hG,br⟩
       ·intro x wx hG;have gg:=gr 51 (hG.c 6 _ rfl);replace gg:=hG.q gg;replace hG:=hG.g;go_wp2;exact⟨_,rfl,rfl,hG,br⟩
       ·intro x wx hG;have gg:=gr 51 (hG.c 6 _ rfl);replace gg:=hG.q gg;replace hG:=hG.g;go_wp2;exact⟨_,rfl,rfl,hG,br⟩
       ·intro x wx hG;have g6:=gr 51 (hG.c 6 _ rfl);have g13:=gr 58 (hG.c 13 _ rfl);have gg:=gr 46 (hG.c 1 _ rfl);replace gg:=hG.q gg;replace hG:=hG.g;go_wp2;exact⟨_,rfl,rfl,hG,br⟩
       ·intro x wx hG;have g1:=gr 46 (hG.c 1 _ rfl);have g14:=gr 59 (hG.c 14 _ rfl);replace hG:=hG.g;go_wp2;exact⟨_,rfl,rfl,hG,br⟩
       ·intro x wx hG;have g15:=gr 60 (hG.c 15 _ rfl);replace hG:=hG.g;go_wp2;exact⟨_,rfl,rfl,hG,br⟩
      ·intro af w10 hg hF;obtain⟨g0,g1,g2,g3,g4,g5,g6,g7,g8,g9,g10,g11,g12,g13,g14,g15,g16, -⟩:=hF;simp only[Cl3.puts,gq (af 0) g0,gq (af 1) g1,gq (af 2) g2,gq (af 3) g3,gq (af 4) g4,gq (af 5) g5,gq (af 6) g6,gq (af 7) g7,gq (af 8) g8,gq (af 9) g9,gq (af 10) g10,gq (af 11) g11,gq (af 12) g12,gq (af 13) g13,gq (af 14) g14,gq (af 15) g15,gq (af 16) g16];clear g0 g1 g2 g3 g4 g5 g6 g7 g8 g9 g10 g11 g12 g13 g14 g15 g16;go_simp
       go_wp2;go_roundw
       case rel=>exact ⟨j+1,true,by omega,by go_num,rfl,⟨fun _=>rI.2 ⟨HS.o.1 (by simp),fun h=>by rw[HI.o] at h;exact absurd h (by decide)⟩,fun _=>rfl⟩,aj mz hg⟩
       case measure=>first | (simp[intOf];done) | (simp[intOf];omega)
     ·have HI:=jD hin;clear hin;go_wp2_with fail
      refine Cl.aV 88 rfl [] (fun _=>True) (fun _=>[]) (fun jq v ww=>match jq with | 0=>v= .bool true | 1=>v= .bool true | 2=>v= .agg #[.int .i64 (eV y k:Nat), .int .i64 (eV n k:Nat)] | 3=>v= .int .i64 (j:Nat) | 4=>v= .bool true | 5=>v= .bool false | 6=>v= .bool false | 7=>v= .int .i64 (j:Nat) | 8=>v= .pointer (some ⟨w.heap.size,j,none⟩) | 9=>v= .int .u32 (q j:Nat) | 10=>v= .int .i64 (T:Nat) | 11=>v= .pointer (some ⟨w.heap.size,T,none⟩) | 12=>v= .int .u32 (q T:Nat) | 13=>v= .bool ((q j:Int)==(q T:Int)) | 14=>v= .bool ((q j:Int)==(q T:Int)) | 15=>v= .bool ((q j:Int)==(q T:Int)) | 16=>v= .bool ((q j:Int)==(q T:Int)) | _=>True) (fun ww=>Below w8.heap.size w8 ww) (fun jq ww aR=>Below ww.heap.size ww aR) Tryz.mixed (by decide+kernel) (br).drew trivial (fun q r v w w' _ _ _ h _=>h) (fun _ _ _ _ _ _=>trivial) ?_ ?_
      ·refine⟨?_, ?_, ?_, ?_, ?_, ?_, ?_, ?_, ?_, ?_, ?_, ?_, ?_, ?_, ?_, ?_, ?_,trivial⟩
       ·intro x wx hG;have f9:=hG.o 9;replace hG:=hG.g;go_wp2;exact⟨_,rfl,rfl,hG,br⟩
       ·intro x wx hG;have g0:=gr 45 (hG.c 0 _ rfl);replace hG:=hG.g;go_wp2;exact⟨_,rfl,rfl,hG,br⟩
       ·intro x wx hG;have f8:=hG.o 8;have gg:=gr 46 (hG.c 1 _ rfl);replace gg:=hG.q gg;replace hG:=hG.g;have cM0:=ah hG M0.o;have cM1:=ah hG M1.o;go_wp2;exact⟨_,rfl,rfl,hG,br⟩
       ·intro x wx hG;have f10:=hG.o 10;have gg:=gr 46 (hG.c 1 _ rfl);replace gg:=hG.q gg;replace hG:=hG.g;go_wp2;exact⟨_,rfl,rfl,hG,br⟩
       ·intro x wx hG;have g2:=gr 47 (hG.c 2 _ rfl);have g3:=gr 48 (hG.c 3 _ rfl);have gg:=gr 46 (hG.c 1 _ rfl);replace gg:=hG.q gg;replace hG:=hG.g;go_wp2_with fail
        (with_reducible refine(uD _ _ _ _).mono ?_);rintro e w9 ⟨rfl,hb⟩;rw[HI.o];clear g2 g3 gg;go_wp2;exact⟨_,rfl,rfl,aj hG hb,hb⟩
       ·intro x wx hG;have g4:=gr 49 (hG.c 4 _ rfl);have gg:=gr 46 (hG.c 1 _ rfl);replace gg:=hG.q gg;replace hG:=hG.g;go_wp2;exact⟨_,rfl,rfl,hG,br⟩
       ·intro x wx hG;have g5:=gr 50 (hG.c 5 _ rfl);have gg:=gr 46 (hG.c 1 _ rfl);replace gg:=hG.q gg;replace hG:=hG.g;go_wp2;exact⟨_,rfl,rfl,hG,br⟩
       ·intro x wx hG;have f10:=hG.o 10;have gg:=gr 51 (hG.c 6 _ rfl);replace gg:=hG.q gg;replace hG:=hG.g;go_wp2;exact⟨_,rfl,rfl,hG,br⟩
       ·intro x wx hG;have f1:=hG.o 1;have g7:=gr 52 (hG.c 7 _ rfl);have gg:=gr 51 (hG.c 6 _ rfl);replace gg:=hG.q gg;replace hG:=hG.g;go_wp2;exact⟨_,rfl,rfl,hG,br⟩
       ·intro x wx hG;have g8:=gr 53 (hG.c 8 _ rfl);have gg:=gr 51 (hG.c 6 _ rfl);replace gg:=hG.q gg;replace hG:=hG.g;have cCJ:=ah hG CJ.o;go_wp2;exact⟨_,rfl,rfl,hG,br⟩
       ·intro x wx hG;have f5:=hG.o 5;have gg:=gr 51 (hG.c 6 _ rfl);replace gg:=hG.q gg;replace hG:=hG.g;have cT8:=ah hG T8.o;go_wp2;exact⟨_,rfl,rfl,hG,br⟩
       ·intro x wx hG;have f1:=hG.o 1;have g10:=gr 55 (hG.c 10 _ rfl);have gg:=gr 51 (hG.c 6 _ rfl);replace gg:=hG.q gg;replace hG:=hG.g;go_wp2;exact⟨_,rfl,rfl,hG,br⟩
       ·intro x wx hG;have g11:=gr 56 (hG.c 11 _ rfl);have gg:=gr 51 (hG.c 6 _ rfl);replace gg:=hG.q gg;replace hG:=hG.g;have cCT:=ah hG CT.o;go_wp2;exact⟨_,rfl,rfl,hG,br⟩
       ·intro x wx hG;have g9:=gr 54 (hG.c 9 _ rfl);have g12:=gr 57 (hG.c 12 _ rfl);have gg:=gr 51 (hG.c 6 _ rfl);replace gg:=hG.q gg;replace hG:=hG.g;go_wp2;exact⟨_,rfl,rfl,hG,br⟩
       ·intro x wx hG;have g6:=gr 51 (hG.c 6 _ rfl);have g13:=gr 58 (hG.c 13 _ rfl);have gg:=gr 46 (hG.c 1 _ rfl);replace gg:=hG.q gg;replace hG:=hG.g;go_wp2;exact⟨_,rfl,rfl,hG,br⟩
       ·intro x wx hG;have g1:=gr 46 (hG.c 1 _ rfl);have g14:=gr 59 (hG.c 14 _ rfl);replace hG:=hG.g;go_wp2;exact⟨_,rfl,rfl,hG,br⟩
       ·intro x wx hG;have g15:=gr 60 (hG.c 15 _ rfl);replace hG:=hG.g;go_wp2;exact⟨_,rfl,rfl,hG,br⟩
      ·intro af w10 hg hF;obtain⟨g0,g1,g2,g3,g4,g5,g6,g7,g8,g9,g10,g11,g12,g13,g14,g15,g16, -⟩:=hF;simp only[Cl3.puts,gq (af 0) g0,gq (af 1) g1,gq (af 2) g2,gq (af 3) g3,gq (af 4) g4,gq (af 5) g5,gq (af 6) g6,gq (af 7) g7,gq (af 8) g8,gq (af 9) g9,gq (af 10) g10,gq (af 11) g11,gq (af 12) g12,gq (af 13) g13,gq (af 14) g14,gq (af 15) g15,gq (af 16) g16];clear g0 g1 g2 g3 g4 g5 g6 g7 g8 g9 g10 g11 g12 g13 g14 g15 g16;go_simp
       go_wp2;go_roundw
       case rel=>exact ⟨j+1,((q j:Int)==(q T:Int)),by omega,by go_num,rfl,⟨fun h=>rI.2 ⟨HS.o.1 (by simp),fun _=>by simp at h;omega⟩,fun h=>by have:=(rI.1 h).2 HI.o;simp;omega⟩,aj mz hg⟩
       case measure=>first | (simp[intOf];done) | (simp[intOf];omega)
theorem Xv (a b:Nat) (ha:a < 4294967296) (hb:b < 4294967296) (w:World):Calls Tryz.prog 157 #[.int .u32 (a:Nat), .int .u32 (b:Nat)] w fun e w'=>e= .returned (.int .u32 ((a ||| b:Nat):Int))∧w=w':=by
 go_enter Tryz.func157,Tryz.ntmps157;go_wp2;go_ret;exact⟨bw (u32_or_nat a b ha hb),rfl⟩
theorem Xl (a b:Nat) (ha:a < 4294967296) (hb:b < 4294967296) (w:World):Calls Tryz.prog 156 #[.int .u32 (a:Nat), .int .u32 (b:Nat)] w fun e w'=>e= .returned (.int .u32 ((a &&& b:Nat):Int))∧w=w':=by
 go_enter Tryz.func156,Tryz.ntmps156;go_wp2;go_ret;exact⟨bw (u32_and_nat a b ha hb),rfl⟩
theorem Xr (a b:Nat) (ha:a < 4294967296) (hb:b < 4294967296) (w:World):Calls Tryz.prog 155 #[.int .u32 (a:Nat), .int .u32 (b:Nat)] w fun e w'=>e= .returned (.int .u32 ((a &&& (4294967295 - b):Nat):Int))∧w=w':=by
 go_enter Tryz.func155,Tryz.ntmps155;go_wp2;go_ret;exact⟨bw (u32_andNot_nat a b ha hb),rfl⟩
theorem WS (a b:Nat) (ha:a < 4294967296) (hb:b < 4294967296) (w:World):Calls Tryz.prog 123 #[.int .u32 (a:Nat), .int .u32 (b:Nat)] w fun e w'=>e= .returned (.int .u32 ((a ^^^ b:Nat):Int))∧w=w':=by
 go_enter Tryz.func123,Tryz.ntmps123;go_wp2;go_ret;exact⟨bw (u32_xor_nat a b ha hb),rfl⟩
theorem CH {q r:Nat→Nat} (h: ∀k,k < 16→q k=r k):cL q=cL r:=by
 unfold cL;rw[List.map_congr_left fun k hk=>congrArg (fun (x:Nat)=>Value.int .u32 (x:Int)) (h k (List.mem_range.1 hk))]
def dI (f g:bB):Int:=if bP f=0 then bP g else bP f
structure ng (l:bB) (p:Nat→Nat→Bool):Prop where
 len:l.length≤16
 ok: ∀b∈l,iC b=0
 pts: ∀k n:Nat,k < 16→n < 32→cE l k n=p k n
 nil:l=[]↔ ∀k n:Nat,k < 16→n < 32→p k n=false
theorem ng.Vd {q:Nat→Nat} {l:bB} {dn:Nat→Bool} {p:Nat→Nat→Bool} (h:oU q 16 l dn) (hq: ∀k,k < 16→q k < 4294967296) (hp: ∀k n:Nat,k < 16→n < 32→(q k).testBit n=p k n):ng l p:=by
 have Zb: ∀k n:Nat,k < 16→n < 32→cE l k n=p k n:=by
  intro k n hk hn;rw[h.pts k n hk hn,←hp k n hk hn];by_cases hz:q k=0
  ·rw[hz];simp
  ·rw[h.all k hk hz];simp
 refine⟨h.len,h.ok,Zb,fun e k n hk hn=> ?_,fun hall=> ?_⟩
 ·rw[←Zb k n hk hn,e];rfl
 ·by_cases e:l=[]
  ·exact e
  ·obtain⟨k,hk,hz⟩:=h.some_ e;exfalso;apply hz;apply Nat.eq_of_testBit_eq;intro n;rw[Nat.zero_testBit];by_cases hn:n < 32
   ·rw[hp k n hk hn];exact hall k n hk hn
   ·exact Nat.testBit_lt_two_pow (Nat.lt_of_lt_of_le (hq k hk) (show 2^32≤2^n from Nat.pow_le_pow_right (by decide) (by omega)))
def CA (base:Nat) (w:World) (v:Value) (E:Int) (p:Nat→Nat→Bool):Prop:=(E=0→ ∃l,cB w base 177 179 v l∧ng l p)∧(E≠0→v= .slice none 0 0)
theorem cB.mono {w:World} {base base' eB eS:Nat} {v:Value} {l:bB} (h:cB w base eB eS v l) (hb:base'≤base):cB w base' eB eS v l:=by
 obtain⟨us,h1,h2,h3⟩:=h;exact⟨us,h1,bV h2 hb,fun i hi hi'=>bV (h3 i hi hi') hb⟩
theorem both_c (F:FuncId) (op:Nat→Nat→Nat) (hm: ∀args W,(callFunc F args).run Tryz.prog W= .ok (.enter F args) W)
  (hc: ∀a b:Nat,a < 4294967296→b < 4294967296→ ∀W,Calls Tryz.prog F #[.int .u32 (a:Nat), .int .u32 (b:Nat)] W fun e w'=>e= .returned (.int .u32 (op a b:Nat))∧W=w')
  (ho: ∀a b:Nat,a < 4294967296→b < 4294967296→op a b < 4294967296) (p:Nat→Nat→Bool) (va vb:Value) (f g:bB)
  (hp:dI f g=0→ ∀k n:Nat,k < 16→n < 32→(op (fu f k) (fu g k)).testBit n=p k n) (w:World) (hf:bZ w va f) (hg:bZ w vb g):
  Calls Tryz.prog 122 #[va,vb, .func (.func F) #[] #[]] w fun e w'=> ∃v,e= .returned (.tuple #[v, .int .i64 (dI f g)])∧CA w.heap.size w' v (dI f g) p∧Below w.heap.size w w':=by
 obtain⟨fa,fc,rfl⟩:=hf.shape;obtain⟨ga,gc,rfl⟩:=hg.shape;have HM:=jD hm;have acU:=jD hc;have HO:=jD ho;have HP:=jD hp;clear hm hc ho hp;go_enter Tryz.func122,Tryz.ntmps122;go_wp2_with fail
 (with_reducible refine(qg _ f _ hf).mono ?_);rintro e w1 ⟨rfl,hb⟩;replace hf:=hf.below hb;replace hg:=hg.below hb;have hbel:=hb;clear hb;cases hx:(bP f==0)
 ·have H:=jD (show dI f g=bP f∧bP f≠0 by simp at hx;simp [dI,hx]);have h':(bP f != 0)=true:=by simp[bne,hx]
  clear hx;go_wp2;go_ret2;exact⟨_,fW H.o.1.symm,⟨fun h=>absurd (H.o.1.symm.trans h) H.o.2,fun _=>rfl⟩,hbel⟩
 have h0:bP f=0:=by simpa using hx
 have HF:=jD h0;rw[h0];clear h0 hx;go_wp2_with fail
 (with_reducible refine(qg _ g _ hg).mono ?_);rintro e w2 ⟨rfl,hb⟩;replace hf:=hf.below hb;replace hg:=hg.below hb;replace hbel:=aj hbel hb;clear hb;cases hx:(bP g==0)
 ·have H:=jD (show dI f g=bP g∧bP g≠0 by simp at hx;simp [dI,HF.o,hx]);have h':(bP g != 0)=true:=by simp[bne,hx]
  clear hx;go_wp2;go_ret2;exact⟨_,fW H.o.1.symm,⟨fun h=>absurd (H.o.1.symm.trans h) H.o.2,fun _=>rfl⟩,hbel⟩
 have h0:bP g=0:=by simpa using hx
 have HG:=jD h0;have H2:=jD (show dI f g=0 by simp[dI,HF.o,h0]);rw[h0];clear h0 hx;have hfo:=(gj.1 HF.o).2;have hgo:=(gj.1 HG.o).2;have HTF:=jD (fun k=>(iE f k hfo).1);have DW:=jD (fun k=>(iE g k hgo).1);go_wp2_with fail
 (with_reducible refine(xd _ f _ hf hfo).mono ?_);rintro e w3 ⟨rfl,hb⟩;replace hg:=hg.below hb;replace hbel:=aj hbel hb;clear hb hf;go_wp2_with fail
 (with_reducible refine(xd _ g _ hg hgo).mono ?_);rintro e w4 ⟨rfl,hb⟩;replace hbel:=aj hbel hb;clear hb hg hfo hgo;generalize htf:fu f=tf at*;generalize htg:fu g=tg at*;clear htf htg;have hi:=jD (fun (t:Nat→Nat)=>(show(Tryz.prog.info? 133).map (·.size)=some (cL t).size by rw[nr];kernel_rfl));have hall:=jD (fun (t:Nat→Nat)=>(show(cL t).all (·.oneCell')=true by simp[cL,Value.oneCell']));go_wp2_with (first | (with_reducible refine wpList_store_row rfl 133 (.tmp 10) (.tmp 24) rfl w4.heap.size (cL tf) rfl rfl 133 #[.int .u32 0, .int .u32 0, .int .u32 0, .int .u32 0, .int .u32 0, .int .u32 0, .int .u32 0, .int .u32 0, .int .u32 0, .int .u32 0, .int .u32 0, .int .u32 0, .int .u32 0, .int .u32 0, .int .u32 0, .int .u32 0] ?a1 (hi.o _) ?a2 (hall.o _) ?_) | (with_reducible refine wpList_store_row rfl 133 (.tmp 11) (.tmp 26) rfl (w4.heap.size+1) (cL tg) rfl rfl 133 #[.int .u32 0, .int .u32 0, .int .u32 0, .int .u32 0, .int .u32 0, .int .u32 0, .int .u32 0, .int .u32 0, .int .u32 0, .int .u32 0, .int .u32 0, .int .u32 0, .int .u32 0, .int .u32 0, .int .u32 0, .int .u32 0] ?b1 (hi.o _) ?b2 (hall.o _) ?_))
 case a1=>exact (heap_alloc_old _ _ (by simp)).trans (heap_alloc_new _ _)
 case a2=>simp [nr]
 case b1=>
  rw[setRow_other _ _ _ _ (by omega)];have h:=fun (o1 o2:Obj)=>heap_alloc_new (w4.alloc o1) o2;simp only[World.size_alloc] at h;exact h _ _
 case b2=>simp [nr]
 obtain⟨w5,lD⟩: ∃w5,w5=(((w4.alloc (.cells #[.int .u32 0, .int .u32 0, .int .u32 0, .int .u32 0, .int .u32 0, .int .u32 0, .int .u32 0, .int .u32 0, .int .u32 0, .int .u32 0, .int .u32 0, .int .u32 0, .int .u32 0, .int .u32 0, .int .u32 0, .int .u32 0] 133)).alloc (.cells #[.int .u32 0, .int .u32 0, .int .u32 0, .int .u32 0, .int .u32 0, .int .u32 0, .int .u32 0, .int .u32 0, .int .u32 0, .int .u32 0, .int .u32 0, .int .u32 0, .int .u32 0, .int .u32 0, .int .u32 0, .int .u32 0] 133)).setRow w4.heap.size (cL tf)).setRow (w4.heap.size+1) (cL tg):=⟨_,rfl⟩
 have hA:w5.heap[w4.heap.size]? =some (.cells (cL tf) 133 (0,0)):=by
  rw[lD,setRow_other _ _ _ _ (by omega)];exact setRow_heap _ _ _ _ _ _ ((heap_alloc_old _ _ (by simp)).trans (heap_alloc_new _ _))
 have hB:w5.heap[w4.heap.size+1]? =some (.cells (cL tg) 133 (0,0)):=by
  rw[lD];refine setRow_heap _ _ #[.int .u32 0, .int .u32 0, .int .u32 0, .int .u32 0, .int .u32 0, .int .u32 0, .int .u32 0, .int .u32 0, .int .u32 0, .int .u32 0, .int .u32 0, .int .u32 0, .int .u32 0, .int .u32 0, .int .u32 0, .int .u32 0] _ _ _ ?_;rw[setRow_other _ _ _ _ (by omega)];have h:=fun (o1 o2:Obj)=>heap_alloc_new (w4.alloc o1) o2;simp only[World.size_alloc] at h;exact h _ _
 have bR:Below w4.heap.size w4 w5:=by
  rw[lD];exact below_setRow (below_setRow ((aG _).alloc (by simp) _) (Nat.le_refl _) _) (by omega) _
 rw[←lD];clear lD;go_loopw [27] (fun i wr=> ∃j:Nat,j≤16∧i= .int .i64 j∧wr.heap[w4.heap.size]? =some (.cells (cL fun k=>if k < j then op (tf k) (tg k) else tf k) 133 (0,0))∧wr.heap[w4.heap.size+1]? =some (.cells (cL tg) 133 (0,0))∧Below w4.heap.size w4 wr) (fun i _=>16 - (intOf i).toNat)
 case atStart=>exact ⟨0,by omega,rfl,by simpa using hA,hB,bR⟩
 case round=>
  clear hA hB bR;obtain⟨j,hj,rfl,hA,hB,bR⟩:=hrel;have HA:=jD hA;have HB:=jD hB;have L8:w4.heap.size+1 < wr.heap.size:=(Array.getElem?_eq_some_iff.1 hB).1;clear hA hB;obtain⟨w6,s7⟩: ∃w6,w6=wr:=⟨_,rfl⟩
  subst s7;by_cases hjl:j < 16
  ·have hdj:decide ((j:Int) < 16)=true:=by simp only[decide_eq_true_eq];omega
   go_wp2_with fail
   refine Cl.aV 43 rfl [10] (fun ww=>ww.heap=w6.heap) (fun _=>[]) (fun jq v ww=>match jq with | 0=>v= .int .i64 (j:Nat) | 1=>v= .func (.func F) #[] #[] | 2=>v= .int .i64 (j:Nat) | 3=>v= .pointer (some ⟨w4.heap.size,j,none⟩) | 4=>v= .int .u32 (tf j:Nat) | 5=>v= .int .i64 (j:Nat) | 6=>v= .pointer (some ⟨w4.heap.size+1,j,none⟩) | 7=>v= .int .u32 (tg j:Nat) | 8=>v= .int .u32 (op (tf j) (tg j):Nat) | 9=>v= .pointer (some ⟨w4.heap.size,j,none⟩) | 10=>ww.heap[w4.heap.size]? =some (.cells (cL fun k=>if k=j then op (tf j) (tg j) else if k < j then op (tf k) (tg k) else tf k) 133 (0,0)) | _=>True) (fun ww=>w6.grownBy ww (some w4.heap.size)) (fun jq ww aR=>jq≠10→aR.heap=ww.heap) Tryz.mixed (by decide+kernel) ⟨rfl,rfl,rfl,Nat.le_refl _,fun _ _ _=>rfl⟩ rfl ?_ (fun jq ww aR hk h hR=>(hR (by simpa using hk)).trans h) ?_ ?_
   ·intro q r v w w' hne hk hlt h hR;match r,hk,hlt,h,hne with
    | 0,_,_,h,_=>exact h
    | 1,_,_,h,_=>exact h
    | 2,_,_,h,_=>exact h
    | 3,_,_,h,_=>exact h
    | 4,_,_,h,_=>exact h
    | 5,_,_,h,_=>exact h
    | 6,_,_,h,_=>exact h
    | 7,_,_,h,_=>exact h
    | 8,_,_,h,_=>exact h
    | 9,_,_,h,_=>exact h
    | 10,_,_,h,hne=>exact (congrArg (fun (x:Array Obj)=>x[w4.heap.size]?) (hR hne)).trans h
    | _+11,_,_,_,_=>trivial
   ·refine⟨?_, ?_, ?_, ?_, ?_, ?_, ?_, ?_, ?_, ?_, ?_,trivial⟩
    ·intro x wx hG;have f12:=hG.o 12;replace hG:=hG.g;go_wp2;exact⟨_,rfl,rfl,hG,fun _=>rfl⟩
    ·intro x wx hG;have f2:=hG.o 2;replace hG:=hG.g;go_wp2;exact⟨_,rfl,rfl,hG,fun _=>rfl⟩
    ·intro x wx hG;have f12:=hG.o 12;replace hG:=hG.g;go_wp2;exact⟨_,rfl,rfl,hG,fun _=>rfl⟩
    ·intro x wx hG;have f10:=hG.o 10;have g2:=gr 32 (hG.c 2 _ rfl);replace hG:=hG.g;go_wp2;exact⟨_,rfl,rfl,hG,fun _=>rfl⟩
    ·intro x wx hG;have g3:=gr 33 (hG.c 3 _ rfl);have hp:=hG.p 0;replace hG:=hG.g;have h:=HA.o;rw[←hp] at h;have c:=aD (j:=j) h (lS _ j hjl);simp only[Nat.lt_irrefl,if_false] at c;clear h hp;go_wp2;exact⟨_,rfl,rfl,hG,fun _=>rfl⟩
    ·intro x wx hG;have f12:=hG.o 12;replace hG:=hG.g;go_wp2;exact⟨_,rfl,rfl,hG,fun _=>rfl⟩
    ·intro x wx hG;have f11:=hG.o 11;have g5:=gr 35 (hG.c 5 _ rfl);replace hG:=hG.g;go_wp2;exact⟨_,rfl,rfl,hG,fun _=>rfl⟩
    ·intro x wx hG;have g6:=gr 36 (hG.c 6 _ rfl);have hp:=hG.p 0;replace hG:=hG.g;have h:=HB.o;rw[←hp] at h;have c:=aD (j:=j) h (lS _ j hjl);skip;clear h hp;go_wp2;exact⟨_,rfl,rfl,hG,fun _=>rfl⟩
    ·intro x wx hG;have g1:=gr 31 (hG.c 1 _ rfl);have g4:=gr 34 (hG.c 4 _ rfl);have g7:=gr 37 (hG.c 7 _ rfl);replace hG:=hG.g;have hm:=HM.o;go_wp2_with fail
     (with_reducible refine(acU.o _ _ (HTF.o j) (DW.o j) _).mono ?_);rintro e w7 ⟨rfl,rfl⟩;clear hm;go_wp2;exact⟨_,rfl,rfl,hG,fun _=>rfl⟩
    ·intro x wx hG;have f10:=hG.o 10;have g0:=gr 30 (hG.c 0 _ rfl);replace hG:=hG.g;go_wp2;exact⟨_,rfl,rfl,hG,fun _=>rfl⟩
    ·intro x wx hG;have g8:=gr 38 (hG.c 8 _ rfl);have g9:=gr 39 (hG.c 9 _ rfl);have hp:=hG.p 0;replace hG:=hG.g;have h:=HA.o;rw[←hp] at h;have c:=aD (j:=j) h (lS _ j hjl);have ff:=dS (j:=j) h;have H:=jD h;have Kz:=jD hp;clear h hp;go_wp2;exact⟨undef,rfl,(ax H.o).trans (by rw[IG]),⟨hG.os,hG.tape,hG.output,by simpa using hG.size,fun k hk hne=>(aC (by intro e;subst e;exact hne rfl)).trans (hG.block k hk hne)⟩,fun h=>absurd rfl h⟩
   ·intro af w7 hg hF;obtain⟨g0,g1,g2,g3,g4,g5,g6,g7,g8,g9,g10, -⟩:=hF;replace g10:w7.heap[w4.heap.size]? =some (.cells (cL fun k=>if k=j then op (tf j) (tg j) else if k < j then op (tf k) (tg k) else tf k) 133 (0,0)):=g10 rfl;simp only[Cl3.puts,gq (af 0) g0,gq (af 1) g1,gq (af 2) g2,gq (af 3) g3,gq (af 4) g4,gq (af 5) g5,gq (af 6) g6,gq (af 7) g7,gq (af 8) g8,gq (af 9) g9];clear g0 g1 g2 g3 g4 g5 g6 g7 g8 g9;go_simp
    have G10:=jD g10;clear g10;go_wp2;go_roundw
    case rel=>
     refine⟨j+1,by omega,by go_num,G10.o.trans (congrArg (fun c=>some (Obj.cells c 133 (0,0))) (CH fun o _=> ?_)),(hg.block _ L8 (by simp)).trans HB.o,bR.grown hg bR.size (fun k hk=>by simp at hk;omega)⟩;by_cases e1:o=j
     ·subst e1;simp
     ·by_cases e2:o < j
      ·simp[e1,e2,show o < j+1 by omega]
      ·simp[e1,e2,show ¬o < j+1 by omega]
    case measure=>first | (simp[intOf];done) | (simp[intOf];omega)
  ·obtain rfl:j=16:=by omega
   have e:cL (fun k=>if k < 16 then op (tf k) (tg k) else tf k)=cL fun k=>op (tf k) (tg k):=CH fun o ho=>if_pos ho;rw[e] at HA;clear e;have hi2:=jD (hi.o fun k=>op (tf k) (tg k));go_wp2_with (with_reducible refine wpList_load_row rfl 133 (.tmp 10) rfl w4.heap.size rfl 133 (cL fun k=>op (tf k) (tg k)) (0,0) _ HA.o Tryz.underlying133 rfl hi2.o ?_)
   (with_reducible refine(boxes_c (fun k=>op (tf k) (tg k)) (fun k _=>HO.o _ _ (HTF.o k) (DW.o k)) _).mono ?_);rintro e w7 ⟨v,l,rfl,hown,⟨dn,hst⟩,qC⟩;have hl:=hst.len;obtain⟨xa,xc,hv⟩:=hown.shape;subst hv;have HOW:=jD hown;have HST:=jD hst;clear hown hst;go_wp2;go_ret2;refine⟨_,fW H2.o.symm,⟨fun _=>⟨l,HOW.o.mono (by have h1:=bR.size;have h2:=hbel.size;omega),ng.Vd HST.o (fun k _=>HO.o _ _ (HTF.o k) (DW.o k)) (HP.o H2.o)⟩,fun h=>absurd H2.o h⟩, ?_⟩;exact hbel.trans ((bR.trans (qC.mono bR.size)).mono hbel.size)
end Go.Proofs.YtajgndoiddmbmaaGreatDoor
