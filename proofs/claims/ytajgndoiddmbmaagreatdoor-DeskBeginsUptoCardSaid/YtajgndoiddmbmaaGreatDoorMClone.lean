/- Towards what desk.Run answers. -/
import Derived.Test.YtajgndoiddmbmaaGreatDoorMBase
import Derived.Test.YtajgndoiddmbmaaGreatDoorChecked
import Derived.Lib.AppendZeros
namespace Go.Proofs.YtajgndoiddmbmaaGreatDoor
set_option maxRecDepth 100000
set_option maxHeartbeats 40000000
open Go.RowKit
abbrev rP:=List (Value×Nat×List Value)
def qo (w:World) (v:Value) (rs:rP):Prop:=aF w v rs.length (rs.map (·.1))∧ ∀r∈rs,aF w r.1 r.2.1 r.2.2
def tot (rs:rP):Nat:=(rs.map (·.2.1)).sum
def flat (rs:rP):List Value:=rs.flatMap (·.2.2)
theorem wZ (rs:rP) (k:Nat) (hk:k < rs.length):tot (rs.take (k+1))=tot (rs.take k)+rs[k].2.1:=by
 rw[List.take_succ_eq_append_getElem hk];simp only[tot,List.map_append,List.map_cons,List.map_nil,List.sum_append,List.sum_cons,List.sum_nil];omega
theorem Gv (rs:rP) (k:Nat) (hk:k < rs.length):flat (rs.take (k+1))=flat (rs.take k)++rs[k].2.2:=by
 rw[List.take_succ_eq_append_getElem hk];simp only[flat,List.flatMap_append,List.flatMap_cons,List.flatMap_nil,List.append_nil]
theorem CG (rs:rP) (k:Nat):tot (rs.take k)≤tot rs:=by
 have:tot rs=tot (rs.take k)+tot (rs.drop k):=by
  unfold tot;rw [←List.sum_append,←List.map_append,List.take_append_drop]
 omega
theorem OQ.info:(Tryz.prog.info? 3).map (fun i=>(i.zero,i.size,i.bytes))=some (some (.int .i64 0),1,8):=by kernel_rfl
theorem GM (v:Value) (n:Nat) (xs:List Value) (w:World) (hs:aF w v n xs) (hl:xs.length=n*1) (h1: ∀u∈xs,u.oneCell'=true) (hb:n*8≤140737488355328):
  Calls Tryz.prog 194 #[v] w fun e w'=> ∃v',e= .returned v'∧w'.ownsRow w.heap.size 3 1 v' n xs∧Below w.heap.size w w':=by
 obtain⟨i0,hi,hz0,hz1,hz2⟩:=info_parts OQ.info;have hs0:=hs;obtain⟨a,cap,rfl,hn,hm,h0,hc⟩:=hs;cases a with
 | none=>
  obtain rfl:=h0 rfl;obtain rfl:n=0:=by omega
  obtain rfl:xs=[]:=List.eq_nil_of_length_eq_zero (by simpa using hl);clear hc hs0 h0 hn hm hl;have heq:=Lib.run_eql_slice_nil (P:=Tryz.prog) w 115 3 none 0 0 0 0 Tryz.underlying115;go_enter Tryz.func194,Tryz.ntmps194;go_wp2;go_ret;exact⟨_,rfl,World.ownsRow_nil _ _ _ _,br⟩
 | some ad=>
  have HS:=jD (hs0.below (aG (.cells #[] 3)));have HO:=jD (Dd w w.heap.size 1 3 #[] 0 _ rfl (Nat.le_refl _) (by decide) rfl);have HL:=jD hl;clear hc hs0 h0 hl;have heq:=Lib.run_eql_slice_nil (P:=Tryz.prog) w 115 3 (some ad) n cap 0 0 Tryz.underlying115;go_enter Tryz.func194,Tryz.ntmps194;go_wp2_with (at_builtin;refine fH (w0:=w) rfl (.tmp 5) (.tmp 6) 115 rfl w.heap.size 3 (.int .i64 0) 1 8 Tryz.underlying115 OQ.info rfl (by decide) _ 0 [] rfl HO.o _ n xs rfl HS.o HL.o h1 (aG _) (by simp) (by unfold maxLen;omega) (by omega) ?_)
  intro v' w1 hown hb1;go_wp2;go_ret;exact⟨_,rfl,by simpa using hown,hb1⟩
theorem K2.info:(Tryz.prog.info? 103).map (fun i=>(i.zero,i.size,i.bytes))=some (some (.agg #[.int .i64 0, .int .i64 0]),2,16):=by kernel_rfl
theorem Hl (v:Value) (n:Nat) (xs:List Value) (w:World) (hs:aF w v n xs) (hl:xs.length=n*2) (h1: ∀u∈xs,u.oneCell'=true) (hb:n*16≤140737488355328):
  Calls Tryz.prog 191 #[v] w fun e w'=> ∃v',e= .returned v'∧w'.ownsRow w.heap.size 103 2 v' n xs∧Below w.heap.size w w':=by
 obtain⟨i0,hi,hz0,hz1,hz2⟩:=info_parts K2.info;have hs0:=hs;obtain⟨a,cap,rfl,hn,hm,h0,hc⟩:=hs;cases a with
 | none=>
  obtain rfl:=h0 rfl;obtain rfl:n=0:=by omega
  obtain rfl:xs=[]:=List.eq_nil_of_length_eq_zero (by simpa using hl);clear hc hs0 h0 hn hm hl;have heq:=Lib.run_eql_slice_nil (P:=Tryz.prog) w 116 103 none 0 0 0 0 Tryz.underlying116;go_enter Tryz.func191,Tryz.ntmps191;go_wp2;go_ret;exact⟨_,rfl,World.ownsRow_nil _ _ _ _,br⟩
 | some ad=>
  have HS:=jD (hs0.below (aG (.cells #[] 103)));have HO:=jD (Dd w w.heap.size 2 103 #[] 0 _ rfl (Nat.le_refl _) (by decide) rfl);have HL:=jD hl;clear hc hs0 h0 hl;have heq:=Lib.run_eql_slice_nil (P:=Tryz.prog) w 116 103 (some ad) n cap 0 0 Tryz.underlying116;go_enter Tryz.func191,Tryz.ntmps191;go_wp2_with (at_builtin;refine fH (w0:=w) rfl (.tmp 5) (.tmp 6) 116 rfl w.heap.size 103 (.agg #[.int .i64 0, .int .i64 0]) 2 16 Tryz.underlying116 K2.info rfl (by decide) _ 0 [] rfl HO.o _ n xs rfl HS.o HL.o h1 (aG _) (by simp) (by unfold maxLen;omega) (by omega) ?_)
  intro v' w1 hown hb1;go_wp2;go_ret;exact⟨_,rfl,by simpa using hown,hb1⟩
theorem abz.info:(Tryz.prog.info? 103).map (fun i=>(i.zero,i.size,i.bytes))=some (some (.agg #[.int .i64 0, .int .i64 0]),2,16):=by kernel_rfl
theorem UY (n:Nat) (hn:n*16≤140737488355328) (w:World):
  Calls Tryz.prog 238 #[.slice none 0 0, .int .i64 n] w fun e w'=> ∃v,e= .returned v∧w'.ownsRow w.heap.size 103 2 v 0 []∧Below w.heap.size w w':=by
 obtain⟨i0,hi,hz0,hz1,hz2⟩:=info_parts abz.info;by_cases h0:n=0
 ·subst h0;go_enter Tryz.func238,Tryz.ntmps238;go_wp2;go_ret;exact⟨_,rfl,World.ownsRow_nil _ _ _ _,br⟩
 ·have hpos:0 < n:=by omega
  have hr:=jD (Lib.run_append_nil_zeros (P:=Tryz.prog) w 116 3 116 103 i0 (.agg #[.int .i64 0, .int .i64 0]) .i64 .i64 Tryz.underlying116 Tryz.underlying3 hi hz0 n hpos (by omega) (by omega) (by rw[hz2];omega));have hge:=grownCap_ge w n 0 103;have hcm:=grownCap_le_maxLen w n 0 103 (by unfold maxLen;omega);go_enter Tryz.func238,Tryz.ntmps238;go_wp2_with (at_builtin;refine Lib.wpList_append_run _ rfl (.tmp 20) (.tmp 21) _ _ rfl _ _ rfl rfl _ _ hr.o ?_)
  go_wp2;go_ret;exact⟨_,rfl,World.ownsRow_made w.drew _ _ (Nat.le_refl _) hcm (by simp only[Array.size_append,size_zeroCells];rw [←Nat.add_mul];show _*2=_;congr 1;omega),(br).drew.alloc (Nat.le_refl _) _⟩
theorem O0 (v:Value) (rs:rP) (w:World) (hs:qo w v rs) (hl: ∀r∈rs,r.2.2.length=r.2.1*2) (h1: ∀r∈rs,∀u∈r.2.2,u.oneCell'=true) (hsum:tot rs*16≤140737488355328):
  Calls Tryz.prog 236 #[v] w fun e w'=> ∃v',e= .returned v'∧w'.ownsRow w.heap.size 103 2 v' (tot rs) (flat rs)∧Below w.heap.size w w':=by
 obtain⟨hc,hr⟩:=hs;obtain⟨a,cap,rfl,hcap,hm, -,hcs⟩:=hc;go_enter Tryz.func236,Tryz.ntmps236;go_wp2;go_loop [3,11] (fun u i=> ∃k:Nat,k≤rs.length∧i= .int .i64 k∧u= .int .i64 (tot (rs.take k))) (fun _ i=>rs.length - (intOf i).toNat)
 case atStart=>exact ⟨0,Nat.zero_le _,rfl,rfl⟩
 case round=>
  obtain⟨k,hk,rfl,rfl⟩:=hrel;by_cases hlt:k < rs.length
  ·have ht:=wZ rs k hlt;have hle:=CG rs (k+1);rcases hcs with hnil | ⟨b,off,rfl,hb,hcc⟩
   ·simp at hnil;subst hnil;simp at hlt
   have d1:=hcc k rs[k].1 (by simp[hlt]);obtain⟨xa,xc,hv⟩:=(hr _ (List.getElem_mem hlt)).shape;rw[hv] at d1;clear hcc;have HT:=jD ht;have hb0:(tot (rs.take k):Int)+(rs[k].2.1:Int)≤140737488355328:=by have:=ht;omega
   clear ht hv hr h1 hl;generalize rs[k].2.1=n at*;generalize tot (rs.take k)=s at*;go_wp2;go_round
   case rel=>exact ⟨k+1,by omega,by go_num,by rw[HT.o];go_num⟩
   case measure=>simp [intOf];omega
  ·obtain rfl:k=rs.length:=by omega
   rw[List.take_length];go_wp2_with fail
   refine(UY (tot rs) hsum _).mono ?_;rintro e w1 ⟨v1,rfl,hown,hb1⟩;have HR:=jD (show ∀r∈rs,∀W,Below w.heap.size w W→aF W r.1 r.2.1 r.2.2 from fun r h W hW=>(hr r h).below hW);clear hr;go_wp2;go_loopw [6,27] (fun u i wr=> ∃k:Nat,k≤rs.length∧i= .int .i64 k∧wr.ownsRow w.heap.size 103 2 u (tot (rs.take k)) (flat (rs.take k))∧Below w.heap.size w wr) (fun _ i _=>rs.length - (intOf i).toNat)
   case atStart=>exact ⟨0,Nat.zero_le _,rfl,hown,hb1⟩
   case round=>
    obtain⟨k,hk,rfl,hown',hbl⟩:=hrel;clear hown hb1;by_cases hlt:k < rs.length
    ·have ht:=wZ rs k hlt;have hle:=CG rs (k+1);rcases hcs with hnil | ⟨b,off,rfl,hb,hcc⟩
     ·simp at hnil;subst hnil;simp at hlt
     have d1:=(hbl.cell (p:=⟨b,off+k,none⟩) hb).trans (hcc k rs[k].1 (by simp[hlt]));have HC:=jD (HR.o _ (List.getElem_mem hlt) _ hbl);have HL:=jD (hl _ (List.getElem_mem hlt));have H1:=jD (h1 _ (List.getElem_mem hlt));have HF:=jD (Gv rs k hlt);have HT:=jD ht;have HO:=jD hown';have HS:=jD (show(tot (rs.take k)+rs[k].2.1)*16≤140737488355328 by rw[←ht];exact Nat.le_trans (Nat.mul_le_mul_right _ hle) hsum);clear hcc ht hl h1 hown';generalize rs[k].1=v0 at*;generalize rs[k].2.1=n at*;generalize rs[k].2.2=ys at*;go_wp2_with (at_builtin;refine fH (w0:=w) rfl (.tmp 31) (.tmp 32) 116 rfl w.heap.size 103 (.agg #[.int .i64 0, .int .i64 0]) 2 16 Tryz.underlying116 abz.info rfl (by decide) _ _ _ rfl HO.o v0 n ys rfl HC.o HL.o H1.o hbl hbl.size (by have:=HS.o;unfold maxLen;omega) HS.o ?_)
     intro v' w2 hown2 sU;go_wp2;go_roundw
     case rel=>exact ⟨k+1,by omega,by go_num,by rw[HT.o,HF.o];exact hown2,sU⟩
     case measure=>simp [intOf];omega
    ·obtain rfl:k=rs.length:=by omega
     rw[List.take_length] at hown';go_wp2;go_ret;exact⟨_,rfl,hown',hbl⟩
theorem afz.info:(Tryz.prog.info? 115).map (fun i=>(i.zero,i.size,i.bytes))=some (some (.slice none 0 0),1,24):=by kernel_rfl
end Go.Proofs.YtajgndoiddmbmaaGreatDoor
