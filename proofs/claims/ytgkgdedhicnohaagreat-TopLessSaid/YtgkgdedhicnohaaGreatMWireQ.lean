/- What wire.Pack does. Written by a small program (gen/pack.py). What was unpacked is packed as it was. No walk here. -/
import Derived.Laws.IdiomStrings
import Derived.Test.YtgkgdedhicnohaaGreatMWireU
namespace Go.Proofs.YtgkgdedhicnohaaGreat
set_option maxRecDepth 100000
set_option maxHeartbeats 40000000
open Go.RowKit
theorem flat_take_le {α: Type} {f:α→ List UInt8} {M:Nat} {l:List α} (k:Nat) (h: ∀x∈l,(f x).length≤M):((l.take k).flatMap f).length≤l.length*M:=by
 have h1:=flat_le (l:=l.take k) fun x hx=>h x (List.mem_of_mem_take hx)
 refine Nat.le_trans h1 (Nat.mul_le_mul_right _ ?_)
 rw[List.length_take];omega
def fullW (b:Bt):List UInt8:=bodyW b++nums [sumOf ⟨(bodyW b).toArray⟩]
def packE (b:Bt):Int:=if batchChk b≠0 then batchChk b else if 20000 < (fullW b).length then 2 else 0
def packS (b:Bt):ByteArray:=if packE b=0 then⟨(fullW b).toArray⟩ else⟨#[]⟩
theorem WrSt.conv {base B:Nat} {l:List UInt8} {w:World} (h:WrSt base B l w) (hne:0 < l.length): ∃g cap,w.heap[B]? =some (Obj.cells #[.slice (some ⟨g,0,none⟩) l.length cap] 207 (0,0))∧(convert 205 9 (.slice (some ⟨g,0,none⟩) l.length cap)).run Tryz.prog w= .ok (.string ⟨l.toArray⟩) w:=by
 obtain⟨v,h1,h2⟩:=h.st
 rcases h2.2 with⟨rfl,h0⟩ | ⟨g,cap,cur,rfl, -⟩
 ·omega
 ·refine⟨g,cap,h1,run_convert_bytes_back w _ _ 5 ⟨g,0,none⟩ cap l Tryz.underlying205 Tryz.underlying5 Tryz.underlying9 fun j hj=> ?_⟩
  have h3:=h2.cells (g:=g) rfl j (.int .u8 (l[j].toNat:Nat)) (by simp[byteC,hj])
  exact h3
theorem pack_c (vv gv pv:Value) (b:Bt) (w:World) (hb:BtAt w vv gv pv b):
  Calls Tryz.prog 84 #[.agg #[.int .i64 b.site, .int .i64 b.stamp,vv,gv,pv]] w fun e w'=>e= .returned (.tuple #[.string (packS b), .int .i64 (packE b)])∧Below w.heap.size w w':=by
 obtain⟨va,vc,rfl⟩:=hb.vers.shape
 obtain⟨ga,gc,rfl⟩:=hb.gone.shape
 obtain⟨pa,pc,rfl⟩:=hb.parts.shape
 obtain⟨s,t,V,G,P⟩:=b
 simp only at hb ⊢
 obtain⟨BB,hBB⟩: ∃BB,BB=w.heap.size:=⟨_,rfl⟩
 obtain⟨W,hW⟩: ∃W,W=w.alloc (.cells #[.int .i64 s, .int .i64 t, .slice va V.length vc, .slice ga G.length gc, .slice pa P.length pc] 52):=⟨_,rfl⟩
 have hbW:Below w.heap.size w W:=by rw[hW];exact bal _
 have HBK:=jD (show W.heap[BB]? =some (Obj.cells #[.int .i64 s, .int .i64 t, .slice va V.length vc, .slice ga G.length gc, .slice pa P.length pc] 52 (0,0)) by rw[hW];exact alloc_new _ _ _ _ hBB)
 have HBT:=jD (hb.below hbW)
 have HBW:=jD hbW
 have HC:=jD (batchChk_c _ _ _ ⟨s,t,V,G,P⟩ W (hb.below hbW))
 have HE1:=jD (show batchChk ⟨s,t,V,G,P⟩≠0→packE ⟨s,t,V,G,P⟩=batchChk ⟨s,t,V,G,P⟩ from fun h=>by unfold packE;rw [if_pos h])
 have HE2:=jD (show batchChk ⟨s,t,V,G,P⟩=0→packE ⟨s,t,V,G,P⟩=if 20000 < (fullW ⟨s,t,V,G,P⟩).length then 2 else 0 from fun h=>by unfold packE;rw [if_neg (by omega)])
 have HOKZ:=jD (batchChk_zero (b:=⟨s,t,V,G,P⟩))
 have HSS:=jD (show packS ⟨s,t,V,G,P⟩=if packE ⟨s,t,V,G,P⟩=0 then⟨(fullW ⟨s,t,V,G,P⟩).toArray⟩ else⟨#[]⟩ from rfl)
 have HFW:=jD (show fullW ⟨s,t,V,G,P⟩=bodyW ⟨s,t,V,G,P⟩++nums [sumOf ⟨(bodyW ⟨s,t,V,G,P⟩).toArray⟩] from rfl)
 have HBO:=jD (show bodyW ⟨s,t,V,G,P⟩=nums [s,t,(V.length:Int)]++V.flatMap verW++nums [(G.length:Int)]++G.flatMap goneW++nums [(P.length:Int)]++P.flatMap partW from rfl)
 clear hb hbW
 generalize packS ⟨s,t,V,G,P⟩=pS at*
 generalize packE ⟨s,t,V,G,P⟩=pE at*
 generalize fullW ⟨s,t,V,G,P⟩=fW at*
 generalize bodyW ⟨s,t,V,G,P⟩=bW at*
 go_enter Tryz.func84,Tryz.ntmps84
 go_wp2_with fail
 rw[←hBB,←hW]
 clear hW
 (with_reducible refine(HC.out).mono ?_)
 rintro e W0 ⟨rfl,hb0⟩
 have HB0:=jD (show Below w.heap.size w W0 from bstep HBW.out hb0)
 have HBK0:=jD (below_keep hb0 HBK.out)
 have HBT0:=jD (HBT.out.below hb0)
 clear HC hb0 HBT HBK HBW hBB
 by_cases hz:batchChk ⟨s,t,V,G,P⟩=0
 rotate_left
 ·have H1:=jD (HE1.out hz)
  have H2:=jD (show pS=⟨#[]⟩ by rw[HSS.out,if_neg (by rw[H1.out];exact hz)])
  have hd:decide (batchChk ⟨s,t,V,G,P⟩=0)=false:=by simpa using hz
  have hd2:(batchChk ⟨s,t,V,G,P⟩ != 0)=true:=bne_iff_ne.2 hz
  clear hz HE1 HE2 HOKZ
  generalize batchChk ⟨s,t,V,G,P⟩=q at*
  go_wp2
  go_ret2
  exact⟨by rw[H1.out,H2.out];rfl,HB0.out⟩
 have hok:=HOKZ.out.1 hz
 have HOKV:=jD (show ∀v∈V,VerOk v from hok.vers)
 have HOKG:=jD (show ∀g∈G,GnOk g from hok.gone)
 have HOKP:=jD (show ∀x∈P,PtOk x from hok.parts)
 have hvl:V.length≤60:=hok.vlen
 have hgl:G.length≤60:=hok.glen
 have hpl:P.length≤30:=hok.plen
 have HE:=jD (HE2.out hz)
 rw[hz]
 clear hz hok HE1 HE2 HOKZ
 have HV:=jD (show RowAt verE W0 (.slice va V.length vc) V from HBT0.out.vers)
 have HG:=jD (show RowAt goneE W0 (.slice ga G.length gc) G from HBT0.out.gone)
 have HP:=jD (show RowAt partE W0 (.slice pa P.length pc) P from HBT0.out.parts)
 have hlb:=hlt_of HBK0.out
 have HKB:=jD (fun w' (h:Below W0.heap.size W0 w')=>show w'.heap[BB]? =some (Obj.cells #[.int .i64 s, .int .i64 t, .slice va V.length vc, .slice ga G.length gc, .slice pa P.length pc] 52 (0,0)) from(h.block BB hlb).trans HBK0.out)
 obtain⟨W1,hW1⟩: ∃W1,W1=W0.alloc (.cells #[.slice none 0 0] 207):=⟨_,rfl⟩
 have HB:=jD (show Below W0.heap.size W0 W1 by rw[hW1];exact bal _)
 have HS:=jD (show WrSt W0.heap.size W0.heap.size [] W1 from⟨Nat.le_refl _, .slice none 0 0,by rw[hW1];exact alloc_new _ _ _ _ rfl,World.ownsRow_nil _ _ _ _⟩)
 have HK1:=jD (HKB.out W1 HB.out)
 clear HBT0 hlb
 have k0:=cell_of_block (j:=0) HK1.out rfl
 have k1:=cell_of_block (j:=1) HK1.out rfl
 have k2:=cell_of_block (j:=2) HK1.out rfl
 have kl:=hlt_of HK1.out
 rw[hW1] at k0 k1 k2 kl
 clear HK1
 obtain⟨A1,hA1⟩: ∃A1,A1=W1.alloc (.cells #[.int .i64 s, .int .i64 t, .int .i64 (V.length:Nat)] 3):=⟨_,rfl⟩
 have hbA:Below W1.heap.size W1 A1:=by rw[hA1];exact bal _
 have HC:=jD (wnums_lit W0.heap.size W0.heap.size (W0.heap.size+1) 3 [s,t,(V.length:Int)] #[.int .i64 s, .int .i64 t, .int .i64 (V.length:Nat)] _ A1 (HS.out.below hbA) (by rw[hA1];exact alloc_new _ _ _ _ (by rw[hW1];simp)) rfl rfl (by(try simp only[List.length_append,textW_len,nums_len,knW_len,boxW_len,List.length_cons,List.length_nil]);omega))
 have HBA:=jD (HB.out.trans (hbA.mono HS.out.size))
 clear hbA HS HB
 go_wp2_with fail
 rw[←hW1]
 rw[←hA1]
 clear hA1 hW1
 (with_reducible refine(HC.out).mono ?_)
 rintro e w2 ⟨rfl,hs1,hb1,hk1⟩
 have HS:=jD hs1
 have HB:=jD (HBA.out.trans hb1)
 clear HC hs1 hb1 hk1 HBA k0 k1 k2 kl
 rw[List.nil_append] at HS
 obtain⟨o0,ho0⟩: ∃o0,o0=nums [s,t,(V.length:Int)]:=⟨_,rfl⟩
 have hl0:o0.length=9:=by rw[ho0,nums_len];rfl
 have HO0:=jD ho0
 rw[←ho0] at HS
 clear ho0
 have kb:=cell_of_block (j:=2) (HKB.out _ HB.out) rfl
 go_wp2
 clear kb
 go_loopw [36] (fun i wr=> ∃k:Nat,k≤V.length∧i= .int .i64 k∧WrSt W0.heap.size W0.heap.size (o0++(V.take k).flatMap verW) wr∧Below W0.heap.size W0 wr) (fun i _=>V.length - (intOf i).toNat)
 case atStart=>exact ⟨0,Nat.zero_le _,rfl,by rw[List.take_zero,List.flatMap_nil,List.append_nil];exact HS.out,HB.out⟩
 case round=>
  clear HS HB
  obtain⟨k,hk,rfl,hs,hb⟩:=hrel
  by_cases hlt:k < V.length
  ·have HB:=jD hb
   have hol:(o0++(V.take k).flatMap verW).length≤50000:=by
    have h9:=flat_take_le (l:=V) (f:=verW) (M:=500) k fun x hx=>verW_len (HOKV.out x hx)
    have h8:V.length*500≤60*500:=Nat.mul_le_mul_right _ (by omega)
    rw[List.length_append];omega
   obtain⟨o,ho⟩: ∃o,o=o0++(V.take k).flatMap verW:=⟨_,rfl⟩
   have HT:=jD (show o++verW V[k]=o0++(V.take (k+1)).flatMap verW by rw[ho,flatw_take verW hlt,List.append_assoc])
   rw[←ho] at hs hol
   have HS:=jD hs
   clear ho hs hb
   obtain⟨a',cap',ha', -, -, -,hvl2⟩:=HV.out.open_
   simp only[Value.slice.injEq,true_and] at ha'
   obtain⟨ha',rfl⟩:=ha'
   rcases hvl2 with hnil | ⟨b,off,rfl,hb,hc⟩
   ·rw[hnil] at hlt;simp at hlt
   subst ha'
   obtain⟨c,hE,hcc⟩:=hc k hlt
   have HOK:=jD (HOKV.out _ (List.getElem_mem hlt))
   obtain⟨u,x,rfl,hk2⟩:=hE
   have hcl:=fun (j:Nat) (y:Value) (hy:(verC V[k] u x).toList[j]? =some y)=>row8 (w:=wr) (b:=b) (off:=off) (i:=k) (fun j y hy=>(HB.out.cell (p:=⟨b,off+(k*verE.size+j),none⟩) hb).trans (hcc j y hy)) hy
   have c0:=hcl 0 _ rfl
   have c1:=hcl 1 _ rfl
   have c2:=hcl 2 _ rfl
   have c3:=hcl 3 _ rfl
   have c4:=hcl 4 _ rfl
   have c5:=hcl 5 _ rfl
   have c6:=hcl 6 _ rfl
   have c7:=hcl 7 _ rfl
   rw[Nat.add_zero] at c0
   obtain⟨ua,uc,rfl⟩:=hk2.vec.shape
   obtain⟨xa,xc,rfl⟩:=hk2.more.shape
   have HKN:=jD hk2
   have hbw:b < wr.heap.size:=Nat.lt_of_lt_of_le hb HB.out.size
   clear hc hcc hcl hk2 hb
   generalize V[k]=v1 at*
   have hi1:=id_size HOK.out.id
   have hi2:=HOK.out.past.len
   have hi3:=HOK.out.len
   have hltb:decide ((k:Int) < (V.length:Int))=true:=by simp;omega
   obtain⟨BV,hBV⟩: ∃BV,BV=wr.heap.size:=⟨_,rfl⟩
   obtain⟨WV,hWV⟩: ∃WV,WV=wr.alloc (.cells #[.string v1.id, .int .i64 v1.ds, .int .i64 v1.dc, .int .i64 v1.tg, .int .i64 v1.nm, .int .i64 v1.bd, .slice ua v1.past.vec.length uc, .slice xa v1.past.more.length xc] 75):=⟨_,rfl⟩
   have hbW:Below wr.heap.size wr WV:=by rw[hWV];exact bal _
   have KV7:=jD (show WV.heap[BV]? =some (Obj.cells #[.string v1.id, .int .i64 v1.ds, .int .i64 v1.dc, .int .i64 v1.tg, .int .i64 v1.nm, .int .i64 v1.bd, .slice ua v1.past.vec.length uc, .slice xa v1.past.more.length xc] 75 (0,0)) by rw[hWV];exact alloc_new _ _ _ _ hBV)
   replace HB:=jD (HB.out.trans (hbW.mono HS.out.size))
   replace HS:=jD (HS.out.below hbW)
   clear hbW
   have HC:=jD (wtext_c W0.heap.size W0.heap.size v1.id _ WV HS.out (by(try simp only[List.length_append,textW_len,nums_len,knW_len,boxW_len,List.length_cons,List.length_nil]);omega))
   have HBA:=jD HB.out
   clear HS HB
   go_wp2_with fail
   rw[←hBV]
   rw[←hWV]
   clear hBV hWV
   (with_reducible refine(HC.out).mono ?_)
   rintro e w3 ⟨rfl,hs1,hb1,hk1⟩
   have HS:=jD hs1
   have HB:=jD (HBA.out.trans hb1)
   replace KV7:=jD (hk1.blk _ _ _ _ KV7.out (by decide) (by decide))
   clear HC hs1 hb1 hk1 HBA c0 c1 c2 c3 c4 c5 c6 c7
   have k1:=cell_of_block (j:=1) KV7.out rfl
   have k2:=cell_of_block (j:=2) KV7.out rfl
   have k3:=cell_of_block (j:=3) KV7.out rfl
   have k4:=cell_of_block (j:=4) KV7.out rfl
   have k5:=cell_of_block (j:=5) KV7.out rfl
   have kl:=hlt_of KV7.out
   obtain⟨A4,hA4⟩: ∃A4,A4=w3.alloc (.cells #[.int .i64 v1.ds, .int .i64 v1.dc, .int .i64 v1.tg, .int .i64 v1.nm, .int .i64 v1.bd] 3):=⟨_,rfl⟩
   have hbA:Below w3.heap.size w3 A4:=by rw[hA4];exact bal _
   have HC:=jD (wnums_lit W0.heap.size W0.heap.size (w3.heap.size) 5 [v1.ds,v1.dc,v1.tg,v1.nm,v1.bd] #[.int .i64 v1.ds, .int .i64 v1.dc, .int .i64 v1.tg, .int .i64 v1.nm, .int .i64 v1.bd] _ A4 (HS.out.below hbA) (by rw[hA4];exact alloc_new _ _ _ _ (rfl)) rfl rfl (by(try simp only[List.length_append,textW_len,nums_len,knW_len,boxW_len,List.length_cons,List.length_nil]);omega))
   have HBA:=jD (HB.out.trans (hbA.mono HS.out.size))
   replace KV7:=jD (below_keep hbA KV7.out)
   clear hbA HS HB
   go_wp2_with fail
   rw[←hA4]
   clear hA4
   (with_reducible refine(HC.out).mono ?_)
   rintro e w5 ⟨rfl,hs1,hb1,hk1⟩
   have HS:=jD hs1
   have HB:=jD (HBA.out.trans hb1)
   replace KV7:=jD (hk1.blk _ _ _ _ KV7.out (by decide) (by decide))
   clear HC hs1 hb1 hk1 HBA k1 k2 k3 k4 k5 kl
   have k6:=cell_of_block (j:=6) KV7.out rfl
   have k7:=cell_of_block (j:=7) KV7.out rfl
   have kl:=hlt_of KV7.out
   have HC:=jD (wknow_c W0.heap.size W0.heap.size _ _ v1.past _ w5 HS.out (StayK.below HKN.out rfl HB.out) (by(try simp only[List.length_append,textW_len,nums_len,knW_len,boxW_len,List.length_cons,List.length_nil]);omega))
   have HBA:=jD HB.out
   clear HS HB
   go_wp2_with fail
   (with_reducible refine(HC.out).mono ?_)
   rintro e w6 ⟨rfl,hs1,hb1,hk1⟩
   have HS:=jD hs1
   have HB:=jD (HBA.out.trans hb1)
   clear HC hs1 hb1 hk1 HBA k6 k7 kl
   have HS9:=jD (show WrSt W0.heap.size W0.heap.size _ _ from HS.out)
   have hs9:=HS.out
   rw[List.append_assoc,List.append_assoc,←List.append_assoc (textW v1.id),show textW v1.id++nums [v1.ds,v1.dc,v1.tg,v1.nm,v1.bd]++knW v1.past=verW v1 from rfl,HT.out] at hs9
   have HSF:=jD hs9
   clear hs9 HS HS9
   go_wp2
   go_roundw
   case rel=>exact ⟨k+1,by omega,by go_num,HSF.out,HB.out⟩
   case measure=>simp [intOf] <;> omega
  ·obtain rfl:k=V.length:=by omega
   rw[List.take_length] at hs
   obtain⟨wV,hwV⟩: ∃wV,wV=wr:=⟨_,rfl⟩
   rw[←hwV] at hs hb ⊢
   have HS:=jD hs
   have HB:=jD hb
   clear hwV hs hb hlt hk
   have hfv:=flat_le (l:=V) (f:=verW) (M:=500) fun x hx=>verW_len (HOKV.out x hx)
   have kb:=cell_of_block (j:=3) (HKB.out _ HB.out) rfl
   obtain⟨A7,hA7⟩: ∃A7,A7=wV.alloc (.cells #[.int .i64 (G.length:Nat)] 3):=⟨_,rfl⟩
   have hbA:Below wV.heap.size wV A7:=by rw[hA7];exact bal _
   have HC:=jD (wnums_lit W0.heap.size W0.heap.size (wV.heap.size) 1 [(G.length:Int)] #[.int .i64 (G.length:Nat)] _ A7 (HS.out.below hbA) (by rw[hA7];exact alloc_new _ _ _ _ (rfl)) rfl rfl (by(try simp only[List.length_append,textW_len,nums_len,knW_len,boxW_len,List.length_cons,List.length_nil]);omega))
   have HBA:=jD (HB.out.trans (hbA.mono HS.out.size))
   clear hbA HS HB
   go_wp2_with fail
   rw[←hA7]
   clear hA7
   (with_reducible refine(HC.out).mono ?_)
   rintro e w8 ⟨rfl,hs1,hb1,hk1⟩
   have HS:=jD hs1
   have HB:=jD (HBA.out.trans hb1)
   clear HC hs1 hb1 hk1 HBA kb
   obtain⟨o1,ho1⟩: ∃o1,o1=o0++V.flatMap verW++nums [(G.length:Int)]:=⟨_,rfl⟩
   have hl1:o1.length≤31000:=by
    have h9:=flat_le (l:=V) (f:=verW) (M:=500) fun x hx=>verW_len (HOKV.out x hx)
    rw[ho1,List.length_append,List.length_append,nums_len];simp only[List.length_cons,List.length_nil];omega
   have HO1:=jD ho1
   rw[←ho1] at HS
   clear ho1
   have kb:=cell_of_block (j:=3) (HKB.out _ HB.out) rfl
   go_wp2
   clear kb
   go_loopw [75] (fun i wr=> ∃k:Nat,k≤G.length∧i= .int .i64 k∧WrSt W0.heap.size W0.heap.size (o1++(G.take k).flatMap goneW) wr∧Below W0.heap.size W0 wr) (fun i _=>G.length - (intOf i).toNat)
   case atStart=>exact ⟨0,Nat.zero_le _,rfl,by rw[List.take_zero,List.flatMap_nil,List.append_nil];exact HS.out,HB.out⟩
   case round=>
    clear HS HB
    obtain⟨k,hk,rfl,hs,hb⟩:=hrel
    by_cases hlt:k < G.length
    ·have HB:=jD hb
     have hol:(o1++(G.take k).flatMap goneW).length≤80000:=by
      have h9:=flat_take_le (l:=G) (f:=goneW) (M:=500) k fun x hx=>goneW_len (HOKG.out x hx)
      have h8:G.length*500≤60*500:=Nat.mul_le_mul_right _ (by omega)
      rw[List.length_append];omega
     obtain⟨o,ho⟩: ∃o,o=o1++(G.take k).flatMap goneW:=⟨_,rfl⟩
     have HT:=jD (show o++goneW G[k]=o1++(G.take (k+1)).flatMap goneW by rw[ho,flatw_take goneW hlt,List.append_assoc])
     rw[←ho] at hs hol
     have HS:=jD hs
     clear ho hs hb
     obtain⟨a',cap',ha', -, -, -,hvl2⟩:=HG.out.open_
     simp only[Value.slice.injEq,true_and] at ha'
     obtain⟨ha',rfl⟩:=ha'
     rcases hvl2 with hnil | ⟨b,off,rfl,hb,hc⟩
     ·rw[hnil] at hlt;simp at hlt
     subst ha'
     obtain⟨c,hE,hcc⟩:=hc k hlt
     have HOK:=jD (HOKG.out _ (List.getElem_mem hlt))
     obtain⟨u,x,rfl,hk2⟩:=hE
     have hcl:=fun (j:Nat) (y:Value) (hy:[.string G[k].id,u,x][j]? =some y)=>row3 (w:=wr) (b:=b) (off:=off) (i:=k) (fun j y hy=>(HB.out.cell (p:=⟨b,off+(k*3+j),none⟩) hb).trans (hcc j y hy)) hy
     have c0:=hcl 0 _ rfl
     have c1:=hcl 1 _ rfl
     have c2:=hcl 2 _ rfl
     rw[Nat.add_zero] at c0
     obtain⟨ua,uc,rfl⟩:=hk2.vec.shape
     obtain⟨xa,xc,rfl⟩:=hk2.more.shape
     have HKN:=jD hk2
     have hbw:b < wr.heap.size:=Nat.lt_of_lt_of_le hb HB.out.size
     clear hc hcc hcl hk2 hb
     generalize G[k]=g1 at*
     have hi1:=id_size HOK.out.id
     have hi2:=HOK.out.past.len
     have hi3:=HOK.out.len
     have hltb:decide ((k:Int) < (G.length:Int))=true:=by simp;omega
     obtain⟨BG,hBG⟩: ∃BG,BG=wr.heap.size:=⟨_,rfl⟩
     obtain⟨WG,hWG⟩: ∃WG,WG=wr.alloc (.cells #[.string g1.id, .slice ua g1.past.vec.length uc, .slice xa g1.past.more.length xc] 101):=⟨_,rfl⟩
     have hbW:Below wr.heap.size wr WG:=by rw[hWG];exact bal _
     have KG7:=jD (show WG.heap[BG]? =some (Obj.cells #[.string g1.id, .slice ua g1.past.vec.length uc, .slice xa g1.past.more.length xc] 101 (0,0)) by rw[hWG];exact alloc_new _ _ _ _ hBG)
     replace HB:=jD (HB.out.trans (hbW.mono HS.out.size))
     replace HS:=jD (HS.out.below hbW)
     clear hbW
     have HC:=jD (wtext_c W0.heap.size W0.heap.size g1.id _ WG HS.out (by(try simp only[List.length_append,textW_len,nums_len,knW_len,boxW_len,List.length_cons,List.length_nil]);omega))
     have HBA:=jD HB.out
     clear HS HB
     go_wp2_with fail
     rw[←hBG]
     rw[←hWG]
     clear hBG hWG
     (with_reducible refine(HC.out).mono ?_)
     rintro e w9 ⟨rfl,hs1,hb1,hk1⟩
     have HS:=jD hs1
     have HB:=jD (HBA.out.trans hb1)
     replace KG7:=jD (hk1.blk _ _ _ _ KG7.out (by decide) (by decide))
     clear HC hs1 hb1 hk1 HBA c0 c1 c2
     have k1:=cell_of_block (j:=1) KG7.out rfl
     have k2:=cell_of_block (j:=2) KG7.out rfl
     have kl:=hlt_of KG7.out
     have HC:=jD (wknow_c W0.heap.size W0.heap.size _ _ g1.past _ w9 HS.out (StayK.below HKN.out rfl HB.out) (by(try simp only[List.length_append,textW_len,nums_len,knW_len,boxW_len,List.length_cons,List.length_nil]);omega))
     have HBA:=jD HB.out
     clear HS HB
     go_wp2_with fail
     (with_reducible refine(HC.out).mono ?_)
     rintro e w10 ⟨rfl,hs1,hb1,hk1⟩
     have HS:=jD hs1
     have HB:=jD (HBA.out.trans hb1)
     clear HC hs1 hb1 hk1 HBA k1 k2 kl
     have hs9:=HS.out
     rw[List.append_assoc,show textW g1.id++knW g1.past=goneW g1 from rfl,HT.out] at hs9
     have HSF:=jD hs9
     clear hs9 HS
     go_wp2
     go_roundw
     case rel=>exact ⟨k+1,by omega,by go_num,HSF.out,HB.out⟩
     case measure=>simp [intOf] <;> omega
    ·obtain rfl:k=G.length:=by omega
     rw[List.take_length] at hs
     obtain⟨wG,hwG⟩: ∃wG,wG=wr:=⟨_,rfl⟩
     rw[←hwG] at hs hb ⊢
     have HS:=jD hs
     have HB:=jD hb
     clear hwG hs hb hlt hk
     have hfg:=flat_le (l:=G) (f:=goneW) (M:=500) fun x hx=>goneW_len (HOKG.out x hx)
     have kb:=cell_of_block (j:=4) (HKB.out _ HB.out) rfl
     obtain⟨A11,hA11⟩: ∃A11,A11=wG.alloc (.cells #[.int .i64 (P.length:Nat)] 3):=⟨_,rfl⟩
     have hbA:Below wG.heap.size wG A11:=by rw[hA11];exact bal _
     have HC:=jD (wnums_lit W0.heap.size W0.heap.size (wG.heap.size) 1 [(P.length:Int)] #[.int .i64 (P.length:Nat)] _ A11 (HS.out.below hbA) (by rw[hA11];exact alloc_new _ _ _ _ (rfl)) rfl rfl (by(try simp only[List.length_append,textW_len,nums_len,knW_len,boxW_len,List.length_cons,List.length_nil]);omega))
     have HBA:=jD (HB.out.trans (hbA.mono HS.out.size))
     clear hbA HS HB
     go_wp2_with fail
     rw[←hA11]
     clear hA11
     (with_reducible refine(HC.out).mono ?_)
     rintro e w12 ⟨rfl,hs1,hb1,hk1⟩
     have HS:=jD hs1
     have HB:=jD (HBA.out.trans hb1)
     clear HC hs1 hb1 hk1 HBA kb
     obtain⟨o2,ho2⟩: ∃o2,o2=o1++G.flatMap goneW++nums [(P.length:Int)]:=⟨_,rfl⟩
     have hl2:o2.length≤62000:=by
      have h9:=flat_le (l:=G) (f:=goneW) (M:=500) fun x hx=>goneW_len (HOKG.out x hx)
      rw[ho2,List.length_append,List.length_append,nums_len];simp only[List.length_cons,List.length_nil];omega
     have HO2:=jD ho2
     rw[←ho2] at HS
     clear ho2
     have kb:=cell_of_block (j:=4) (HKB.out _ HB.out) rfl
     go_wp2
     clear kb
     go_loopw [97] (fun i wr=> ∃k:Nat,k≤P.length∧i= .int .i64 k∧WrSt W0.heap.size W0.heap.size (o2++(P.take k).flatMap partW) wr∧Below W0.heap.size W0 wr) (fun i _=>P.length - (intOf i).toNat)
     case atStart=>exact ⟨0,Nat.zero_le _,rfl,by rw[List.take_zero,List.flatMap_nil,List.append_nil];exact HS.out,HB.out⟩
     case round=>
      clear HS HB
      obtain⟨k,hk,rfl,hs,hb⟩:=hrel
      by_cases hlt:k < P.length
      ·have HB:=jD hb
       have hol:(o2++(P.take k).flatMap partW).length≤300000:=by
        have h9:=flat_take_le (l:=P) (f:=partW) (M:=5000) k fun x hx=>partW_len (HOKP.out x hx)
        have h8:P.length*5000≤30*5000:=Nat.mul_le_mul_right _ (by omega)
        rw[List.length_append];omega
       obtain⟨o,ho⟩: ∃o,o=o2++(P.take k).flatMap partW:=⟨_,rfl⟩
       have HT:=jD (show o++partW P[k]=o2++(P.take (k+1)).flatMap partW by rw[ho,flatw_take partW hlt,List.append_assoc])
       rw[←ho] at hs hol
       have HS:=jD hs
       clear ho hs hb
       obtain⟨a',cap',ha', -, -, -,hvl2⟩:=HP.out.open_
       simp only[Value.slice.injEq,true_and] at ha'
       obtain⟨ha',rfl⟩:=ha'
       rcases hvl2 with hnil | ⟨b,off,rfl,hb,hc⟩
       ·rw[hnil] at hlt;simp at hlt
       subst ha'
       obtain⟨c,hE,hcc⟩:=hc k hlt
       have HOK:=jD (HOKP.out _ (List.getElem_mem hlt))
       obtain⟨f,u,x,rfl,hf2,hk2⟩:=hE
       have hcl:=fun (j:Nat) (y:Value) (hy:[f,u,x][j]? =some y)=>row3 (w:=wr) (b:=b) (off:=off) (i:=k) (fun j y hy=>(HB.out.cell (p:=⟨b,off+(k*3+j),none⟩) hb).trans (hcc j y hy)) hy
       have c0:=hcl 0 _ rfl
       have c1:=hcl 1 _ rfl
       have c2:=hcl 2 _ rfl
       rw[Nat.add_zero] at c0
       obtain⟨fa,fc,rfl⟩:=hf2.shape
       obtain⟨ua,uc,rfl⟩:=hk2.vec.shape
       obtain⟨xa,xc,rfl⟩:=hk2.more.shape
       have HKN:=jD hk2
       have HFB:=jD hf2
       have hbw:b < wr.heap.size:=Nat.lt_of_lt_of_le hb HB.out.size
       clear hc hcc hcl hk2 hf2 hb
       generalize P[k]=p1 at*
       obtain⟨pf,pk⟩:=p1
       simp only at HKN HFB c0 c1 c2
       have hf1:=fChk_zero.1 HOK.out.f
       have HFO:=jD hf1.2
       have hfl:pf.length≤40:=hf1.1
       have hi2:pk.vec.length≤5:=(knChk_zero.1 HOK.out.k).1.len
       have hi3:pk.more.length≤60:=(knChk_zero.1 HOK.out.k).2
       clear hf1
       have hltb:decide ((k:Int) < (P.length:Int))=true:=by simp;omega
       obtain⟨BP,hBP⟩: ∃BP,BP=wr.heap.size:=⟨_,rfl⟩
       obtain⟨WP,hWP⟩: ∃WP,WP=wr.alloc (.cells #[.slice fa pf.length fc, .slice ua pk.vec.length uc, .slice xa pk.more.length xc] 105):=⟨_,rfl⟩
       have hbW:Below wr.heap.size wr WP:=by rw[hWP];exact bal _
       have KP7:=jD (show WP.heap[BP]? =some (Obj.cells #[.slice fa pf.length fc, .slice ua pk.vec.length uc, .slice xa pk.more.length xc] 105 (0,0)) by rw[hWP];exact alloc_new _ _ _ _ hBP)
       replace HB:=jD (HB.out.trans (hbW.mono HS.out.size))
       replace HS:=jD (HS.out.below hbW)
       clear hbW
       obtain⟨A13,hA13⟩: ∃A13,A13=WP.alloc (.cells #[.int .i64 (pf.length:Nat)] 3):=⟨_,rfl⟩
       have hbA:Below WP.heap.size WP A13:=by rw[hA13];exact bal _
       have HC:=jD (wnums_lit W0.heap.size W0.heap.size (BP+1) 1 [(pf.length:Int)] #[.int .i64 (pf.length:Nat)] _ A13 (HS.out.below hbA) (by rw[hA13];exact alloc_new _ _ _ _ (by rw[hWP,hBP];simp)) rfl rfl (by(try simp only[List.length_append,textW_len,nums_len,knW_len,boxW_len,List.length_cons,List.length_nil]);omega))
       have HBA:=jD (HB.out.trans (hbA.mono HS.out.size))
       replace KP7:=jD (below_keep hbA KP7.out)
       clear hbA HS HB
       go_wp2_with fail
       rw[←hBP]
       rw[←hWP]
       rw[←hA13]
       clear hA13 hBP hWP
       (with_reducible refine(HC.out).mono ?_)
       rintro e w14 ⟨rfl,hs1,hb1,hk1⟩
       have HS:=jD hs1
       have HB:=jD (HBA.out.trans hb1)
       replace KP7:=jD (hk1.blk _ _ _ _ KP7.out (by decide) (by decide))
       clear HC hs1 hb1 hk1 HBA c0 c1 c2
       obtain⟨o3,ho3⟩: ∃o3,o3=o++nums [(pf.length:Int)]:=⟨_,rfl⟩
       have hl3:o3.length≤310000:=by rw[ho3,List.length_append,nums_len];simp only[List.length_cons,List.length_nil];omega
       have HO3:=jD ho3
       rw[←ho3] at HS
       clear ho3
       have k0:=cell_of_block (j:=0) KP7.out rfl
       have kl:=hlt_of KP7.out
       go_wp2
       clear k0 kl
       go_loopw [110] (fun i wr=> ∃m:Nat,m≤pf.length∧i= .int .i64 m∧WrSt W0.heap.size W0.heap.size (o3++(pf.take m).flatMap boxW) wr∧Below W0.heap.size W0 wr∧wr.heap[BP]? =some (Obj.cells #[.slice fa pf.length fc, .slice ua pk.vec.length uc, .slice xa pk.more.length xc] 105 (0,0))) (fun i _=>pf.length - (intOf i).toNat)
       case atStart=>exact ⟨0,Nat.zero_le _,rfl,by rw[List.take_zero,List.flatMap_nil,List.append_nil];exact HS.out,HB.out,KP7.out⟩
       case round=>
        clear HS HB KP7
        obtain⟨m,hm,rfl,hs,hb,hkp⟩:=hrel
        have KP7:=jD hkp
        by_cases hmt:m < pf.length
        ·have HB:=jD hb
         have hol4:(o3++(pf.take m).flatMap boxW).length≤320000:=by
          have h9:=flat_take_le (l:=pf) (f:=boxW) (M:=105) m fun x hx=>by rw[boxW_len];have:=bx_spans (HFO.out x hx);omega
          have h8:pf.length*105≤40*105:=Nat.mul_le_mul_right _ (by omega)
          rw[List.length_append];omega
         obtain⟨o4,ho4⟩: ∃o4,o4=o3++(pf.take m).flatMap boxW:=⟨_,rfl⟩
         have HT4:=jD (show o4++boxW pf[m]=o3++(pf.take (m+1)).flatMap boxW by rw[ho4,flatw_take boxW hmt,List.append_assoc])
         rw[←ho4] at hs hol4
         have HS:=jD hs
         have hsp:=bx_spans (HFO.out _ (List.getElem_mem hmt))
         clear ho4 hs hb hkp
         obtain⟨a4,cap4,ha4, -, -, -,hvl4⟩:=HFB.out.open_
         simp only[Value.slice.injEq,true_and] at ha4
         obtain⟨ha4,rfl⟩:=ha4
         rcases hvl4 with hnil | ⟨b4,off4,rfl,hb4,hc4⟩
         ·rw[hnil] at hmt;simp at hmt
         subst ha4
         obtain⟨su,d0,d1,d2,hsu⟩:=hc4 m hmt
         replace d0:=(HB.out.cell (p:=⟨b4,off4+m*3,none⟩) hb4).trans d0
         replace d1:=(HB.out.cell (p:=⟨b4,off4+m*3+1,none⟩) hb4).trans d1
         replace d2:=(HB.out.cell (p:=⟨b4,off4+m*3+2,none⟩) hb4).trans d2
         obtain⟨sa,sc,rfl⟩:=hsu.shape
         have HSP:=jD hsu
         have hbw4:b4 < wr.heap.size:=Nat.lt_of_lt_of_le hb4 HB.out.size
         clear hc4 hsu hb4
         generalize pf[m]=x1 at*
         have hmtb:decide ((m:Int) < (pf.length:Int))=true:=by simp;omega
         obtain⟨BX,hBX⟩: ∃BX,BX=wr.heap.size:=⟨_,rfl⟩
         obtain⟨WX,hWX⟩: ∃WX,WX=wr.alloc (.cells #[.int .i64 x1.y, .int .i64 x1.n, .slice sa x1.sp.length sc] 124):=⟨_,rfl⟩
         have hbW:Below wr.heap.size wr WX:=by rw[hWX];exact bal _
         have KX7:=jD (show WX.heap[BX]? =some (Obj.cells #[.int .i64 x1.y, .int .i64 x1.n, .slice sa x1.sp.length sc] 124 (0,0)) by rw[hWX];exact alloc_new _ _ _ _ hBX)
         replace HB:=jD (HB.out.trans (hbW.mono HS.out.size))
         replace HS:=jD (HS.out.below hbW)
         replace KP7:=jD (below_keep hbW KP7.out)
         clear hbW
         obtain⟨A15,hA15⟩: ∃A15,A15=WX.alloc (.cells #[.int .i64 x1.y, .int .i64 x1.n, .int .i64 (x1.sp.length:Nat)] 3):=⟨_,rfl⟩
         have hbA:Below WX.heap.size WX A15:=by rw[hA15];exact bal _
         have HC:=jD (wnums_lit W0.heap.size W0.heap.size (BX+1) 3 [x1.y,x1.n,(x1.sp.length:Int)] #[.int .i64 x1.y, .int .i64 x1.n, .int .i64 (x1.sp.length:Nat)] _ A15 (HS.out.below hbA) (by rw[hA15];exact alloc_new _ _ _ _ (by rw[hWX,hBX];simp)) rfl rfl (by(try simp only[List.length_append,textW_len,nums_len,knW_len,boxW_len,List.length_cons,List.length_nil]);omega))
         have HBA:=jD (HB.out.trans (hbA.mono HS.out.size))
         replace KP7:=jD (below_keep hbA KP7.out)
         replace KX7:=jD (below_keep hbA KX7.out)
         clear hbA HS HB
         go_wp2_with fail
         rw[←hBX]
         rw[←hWX]
         rw[←hA15]
         clear hA15 hBX hWX
         (with_reducible refine(HC.out).mono ?_)
         rintro e w16 ⟨rfl,hs1,hb1,hk1⟩
         have HS:=jD hs1
         have HB:=jD (HBA.out.trans hb1)
         replace KP7:=jD (hk1.blk _ _ _ _ KP7.out (by decide) (by decide))
         replace KX7:=jD (hk1.blk _ _ _ _ KX7.out (by decide) (by decide))
         clear HC hs1 hb1 hk1 HBA d0 d1 d2
         obtain⟨o5,ho5⟩: ∃o5,o5=o4++nums [x1.y,x1.n,(x1.sp.length:Int)]:=⟨_,rfl⟩
         have hl5:o5.length≤330000:=by rw[ho5,List.length_append,nums_len];simp only[List.length_cons,List.length_nil];omega
         have HO5:=jD ho5
         rw[←ho5] at HS
         clear ho5
         have k2:=cell_of_block (j:=2) KX7.out rfl
         have kl:=hlt_of KX7.out
         go_wp2
         clear k2 kl KX7
         go_loopw [129] (fun i wr=> ∃q:Nat,q≤x1.sp.length∧i= .int .i64 q∧WrSt W0.heap.size W0.heap.size (o5++nums (dotI (x1.sp.take q))) wr∧Below W0.heap.size W0 wr∧wr.heap[BP]? =some (Obj.cells #[.slice (some ⟨b4,off4,none⟩) pf.length fc, .slice ua pk.vec.length uc, .slice xa pk.more.length xc] 105 (0,0))) (fun i _=>x1.sp.length - (intOf i).toNat)
         case atStart=>exact ⟨0,Nat.zero_le _,rfl,by rw[List.take_zero];simpa [dotI,nums] using HS.out,HB.out,KP7.out⟩
         case round=>
          clear HS HB KP7
          obtain⟨q,hq,rfl,hs,hb,hkp⟩:=hrel
          have KP7:=jD hkp
          by_cases hqt:q < x1.sp.length
          ·have HB:=jD hb
           have HT6:=jD (dotI_take hqt)
           have HN6:=jD (show(dotI (x1.sp.take q)).length=2*q by rw[dotI_len,List.length_take];omega)
           have HS:=jD hs
           clear hs hb hkp
           obtain⟨a6,cap6,ha6, -, -,hvl6⟩:=HSP.out.open_
           simp only[Value.slice.injEq,true_and] at ha6
           obtain⟨ha6,rfl⟩:=ha6
           rcases hvl6 with hnil | ⟨b6,off6,rfl,hb6,hc6⟩
           ·rw[hnil] at hqt;simp at hqt
           subst ha6
           obtain⟨d0,d1⟩:=hc6 q hqt
           replace d0:=(HB.out.cell (p:=⟨b6,off6+q*2,none⟩) hb6).trans d0
           replace d1:=(HB.out.cell (p:=⟨b6,off6+q*2+1,none⟩) hb6).trans d1
           have hbw6:b6 < wr.heap.size:=Nat.lt_of_lt_of_le hb6 HB.out.size
           clear hc6 hb6
           generalize x1.sp[q]=s1 at*
           have hqtb:decide ((q:Int) < (x1.sp.length:Int))=true:=by simp;omega
           have hn6:=HN6.out
           obtain⟨BS,hBS⟩: ∃BS,BS=wr.heap.size:=⟨_,rfl⟩
           obtain⟨WS,hWS⟩: ∃WS,WS=wr.alloc (.cells #[.int .i64 s1.1, .int .i64 s1.2] 119):=⟨_,rfl⟩
           have hbW:Below wr.heap.size wr WS:=by rw[hWS];exact bal _
           have KS7:=jD (show WS.heap[BS]? =some (Obj.cells #[.int .i64 s1.1, .int .i64 s1.2] 119 (0,0)) by rw[hWS];exact alloc_new _ _ _ _ hBS)
           replace HB:=jD (HB.out.trans (hbW.mono HS.out.size))
           replace HS:=jD (HS.out.below hbW)
           replace KP7:=jD (below_keep hbW KP7.out)
           clear hbW KS7
           obtain⟨A17,hA17⟩: ∃A17,A17=WS.alloc (.cells #[.int .i64 s1.1, .int .i64 s1.2] 3):=⟨_,rfl⟩
           have hbA:Below WS.heap.size WS A17:=by rw[hA17];exact bal _
           have HC:=jD (wnums_lit W0.heap.size W0.heap.size (BS+1) 2 [s1.1,s1.2] #[.int .i64 s1.1, .int .i64 s1.2] _ A17 (HS.out.below hbA) (by rw[hA17];exact alloc_new _ _ _ _ (by rw[hWS,hBS];simp)) rfl rfl (by(try simp only[List.length_append,textW_len,nums_len,knW_len,boxW_len,List.length_cons,List.length_nil]);omega))
           have HBA:=jD (HB.out.trans (hbA.mono HS.out.size))
           replace KP7:=jD (below_keep hbA KP7.out)
           clear hbA HS HB
           go_wp2_with fail
           rw[←hBS]
           rw[←hWS]
           rw[←hA17]
           clear hA17 hBS hWS
           (with_reducible refine(HC.out).mono ?_)
           rintro e w18 ⟨rfl,hs1,hb1,hk1⟩
           have HS:=jD hs1
           have HB:=jD (HBA.out.trans hb1)
           replace KP7:=jD (hk1.blk _ _ _ _ KP7.out (by decide) (by decide))
           clear HC hs1 hb1 hk1 HBA d0 d1
           have hs9:=HS.out
           rw[List.append_assoc,←nums_append,←HT6.out] at hs9
           have HSF:=jD hs9
           clear hs9 HS hn6
           go_wp2
           go_roundw
           case rel=>exact ⟨q+1,by omega,by go_num,HSF.out,HB.out,KP7.out⟩
           case measure=>simp [intOf] <;> omega
          ·obtain rfl:q=x1.sp.length:=by omega
           rw[List.take_length,HO5.out,List.append_assoc,show nums [x1.y,x1.n,(x1.sp.length:Int)]++nums (dotI x1.sp)=boxW x1 from rfl,HT4.out] at hs
           have HSF:=jD hs
           have HBF:=jD hb
           clear hs hb hkp
           go_wp2
           go_roundw
           case rel=>exact ⟨m+1,by omega,by go_num,HSF.out,HBF.out,KP7.out⟩
           case measure=>simp [intOf] <;> omega
        ·obtain rfl:m=pf.length:=by omega
         rw[List.take_length] at hs
         obtain⟨wF,hwF⟩: ∃wF,wF=wr:=⟨_,rfl⟩
         rw[←hwF] at hs hb KP7 ⊢
         have HS:=jD hs
         have HB:=jD hb
         have hol6:(o3++pf.flatMap boxW).length≤320000:=by
          have h9:=flat_le (l:=pf) (f:=boxW) (M:=105) fun x hx=>by rw[boxW_len];have:=bx_spans (HFO.out x hx);omega
          rw[List.length_append];omega
         clear hwF hs hb hkp hmt
         have k1:=cell_of_block (j:=1) KP7.out rfl
         have k2:=cell_of_block (j:=2) KP7.out rfl
         have kl:=hlt_of KP7.out
         have HC:=jD (wknow_c W0.heap.size W0.heap.size _ _ pk _ wF HS.out (StayK.below HKN.out rfl HB.out) (by omega))
         have HBA:=jD HB.out
         clear HS HB
         go_wp2_with fail
         (with_reducible refine(HC.out).mono ?_)
         rintro e w19 ⟨rfl,hs1,hb1,hk1⟩
         have HS:=jD hs1
         have HB:=jD (HBA.out.trans hb1)
         clear HC hs1 hb1 hk1 HBA k1 k2 kl
         have hs9:=HS.out
         rw[HO3.out,List.append_assoc,List.append_assoc,←List.append_assoc (nums [(pf.length:Int)]),show nums [(pf.length:Int)]++pf.flatMap boxW++knW pk=partW ⟨pf,pk⟩ from rfl,HT.out] at hs9
         have HSF:=jD hs9
         clear hs9 HS
         go_wp2
         go_roundw
         case rel=>exact ⟨k+1,by omega,by go_num,HSF.out,HB.out⟩
         case measure=>simp [intOf] <;> omega
      ·obtain rfl:k=P.length:=by omega
       rw[List.take_length] at hs
       obtain⟨wP,hwP⟩: ∃wP,wP=wr:=⟨_,rfl⟩
       rw[←hwP] at hs hb ⊢
       have HS:=jD hs
       have HB:=jD hb
       clear hwP hs hb hlt hk
       rw[HO2.out,HO1.out,HO0.out,←HBO.out] at HS
       have hbl:bW.length≤300000:=by
        have h7:=flat_le (l:=V) (f:=verW) (M:=500) fun x hx=>verW_len (HOKV.out x hx)
        have h8:=flat_le (l:=G) (f:=goneW) (M:=500) fun x hx=>goneW_len (HOKG.out x hx)
        have h9:=flat_le (l:=P) (f:=partW) (M:=5000) fun x hx=>partW_len (HOKP.out x hx)
        rw[HBO.out];simp only[List.length_append,nums_len,List.length_cons,List.length_nil];omega
       have hbp:9≤bW.length:=by rw[HBO.out];simp only[List.length_append,nums_len,List.length_cons,List.length_nil];omega
       have hfin0:=HB0.out
       obtain⟨g1,p1,hk1,hc1⟩:=HS.out.conv (by omega)
       have kb:=cell_of_block (j:=0) hk1 rfl
       have hkl:=hlt_of hk1
       have HCS:=jD (sum_c ⟨bW.toArray⟩ (by show bW.toArray.size≤_;rw [List.size_toArray];omega) wP)
       clear hk1
       go_wp2_with fail
       (with_reducible refine(HCS.out).mono ?_)
       rintro e w99 ⟨rfl,hw9⟩
       rw[hw9]
       clear hw9 w99 hc1 kb hkl HCS hfin0
       obtain⟨A20,hA20⟩: ∃A20,A20=wP.alloc (.cells #[.int .i64 (sumOf ⟨bW.toArray⟩)] 3):=⟨_,rfl⟩
       have hbA:Below wP.heap.size wP A20:=by rw[hA20];exact bal _
       have HC:=jD (wnums_lit W0.heap.size W0.heap.size (wP.heap.size) 1 [sumOf ⟨bW.toArray⟩] #[.int .i64 (sumOf ⟨bW.toArray⟩)] _ A20 (HS.out.below hbA) (by rw[hA20];exact alloc_new _ _ _ _ (rfl)) rfl rfl (by(try simp only[List.length_append,textW_len,nums_len,knW_len,boxW_len,List.length_cons,List.length_nil]);omega))
       have HBA:=jD (HB.out.trans (hbA.mono HS.out.size))
       clear hbA HS HB
       go_wp2_with fail
       rw[←hA20]
       clear hA20
       (with_reducible refine(HC.out).mono ?_)
       rintro e w21 ⟨rfl,hs1,hb1,hk1⟩
       have HS:=jD hs1
       have HB:=jD (HBA.out.trans hb1)
       clear HC hs1 hb1 hk1 HBA
       rw[←HFW.out] at HS
       have hfl:fW.length=bW.length+3:=by rw[HFW.out,List.length_append,nums_len];simp
       obtain⟨g2,p2,hk2,hc2⟩:=HS.out.conv (by omega)
       have kb:=cell_of_block (j:=0) hk2 rfl
       have hkl:=hlt_of hk2
       have hfin:=bstep HB0.out HB.out
       clear hk2 hfl
       by_cases h20:20000 < fW.length
       ·have H1:=jD (show pE=2 by rw[HE.out,if_pos h20])
        have H2:=jD (show pS=⟨#[]⟩ by rw[HSS.out,if_neg (by rw[H1.out];decide)])
        have hd:decide (20000 < (fW.length:Int))=true:=by simp;omega
        clear h20
        go_wp2
        go_ret2
        exact⟨by rw[H1.out,H2.out];rfl,hfin⟩
       ·have H1:=jD (show pE=0 by rw[HE.out,if_neg h20])
        have H2:=jD (show pS=⟨fW.toArray⟩ by rw[HSS.out,if_pos H1.out])
        have hd:decide (20000 < (fW.length:Int))=false:=by simp;omega
        clear h20
        go_wp2
        go_ret2
        exact⟨by rw[H1.out,H2.out];rfl,hfin⟩
theorem last3 {u:ByteArray} (h:u.size=3):u.data.toList=b3 (headN u):=by
 have h1:numB u false (headN u)=false:=by
  unfold numB;rw [if_neg (by omega),if_neg (by omega)]
 obtain⟨h2, -⟩:=num_fore h1
 have h3:numV u (headN u)=headN u:=by unfold numV;rw [if_neg (by omega),if_neg (by omega)]
 rw[h3] at h2
 have h4:=congrArg List.length h2
 rw[List.length_append,←size_list] at h4
 have h5:(b3 (headN u)).length=3:=rfl
 have h6:(numR u).data.toList=[]:=List.eq_nil_of_length_eq_zero (by omega)
 rw[h6,List.append_nil] at h2
 exact h2
theorem split3 {s:ByteArray} (h: ¬s.size < 3):s.data.toList=(upT s).data.toList++b3 (upSum s):=by
 have h1:(s.extract (s.size - 3) s.size).size=3:=by rw[ByteArray.size_extract];omega
 unfold upT upSum
 rw[←last3 h1,extract_take,extract_list,List.take_append_drop]
theorem bytes_list (s:ByteArray):(⟨s.data.toList.toArray⟩:ByteArray)=s:=by
 obtain⟨⟨l⟩⟩:=s;rfl
theorem BtOk.rows {w:World} {base:Nat} {vv gv pv:Value} {b:Bt} (h:UpRes w base vv gv pv b) (hb:BtOk b):BtAt w vv gv pv b:=
 ⟨h.v.at_ (fun v hv=>⟨(hb.vers v hv).past.len,(hb.vers v hv).len⟩) (by have:=hb.vlen;omega),h.g.at_ (fun g hg=>⟨(hb.gone g hg).past.len,(hb.gone g hg).len⟩) (by have:=hb.glen;omega),h.p.at_ (fun p hp=>hb.parts p hp) (by have:=hb.plen;omega)⟩
end Go.Proofs.YtgkgdedhicnohaaGreat
