/- Towards what desk.Run answers. -/
import Derived.Test.YtajgndoiddmbmaaGreatDoorChecked
import Derived.Test.YtajgndoiddmbmaaGreatDoorMPure
import Derived.Deep.QuietTactic
import Derived.BigQuiet
namespace Go.Proofs.YtajgndoiddmbmaaGreatDoor
set_option maxRecDepth 100000
set_option maxHeartbeats 40000000
open Go.RowKit
theorem Tq (l:cp) (n:Int) (k:Nat) (hk:k < l.length):jM (l.take (k+1)) n=(jM (l.take k) n || (decide (l[k].1≤n)&&decide (n < l[k].2))):=by
 rw[List.take_succ_eq_append_getElem hk];simp only[jM,List.any_append,List.any_cons,List.any_nil,Bool.or_false]
theorem Xw (l:cp) (n:Int) (k:Nat) (hk:k < l.length) (h1:l[k].1≤n) (h2:n < l[k].2):jM l n=true:=
 List.any_eq_true.2 ⟨l[k],List.getElem_mem hk,by simp[h1,h2]⟩
theorem aeU (v:Value) (l:cp) (n:Int) (w:World) (hs:fJ w v l):
  Calls Tryz.prog 127 #[v, .int .i64 n] w fun e w'=>e= .returned (.bool (jM l n))∧Below w.heap.size w w':=by
 obtain⟨a,cap,rfl,hcap,hm,hl⟩:=hs.open_;clear hs hcap;go_enter Tryz.func127,Tryz.ntmps127;go_wp2;go_loopw [9] (fun i wr=> ∃k:Nat,k≤l.length∧i= .int .i64 k∧jM (l.take k) n=false∧Below w.heap.size w wr) (fun i _=>l.length - (intOf i).toNat)
 case atStart=>exact ⟨0,Nat.zero_le _,rfl,rfl,br⟩
 case round=>
  obtain⟨k,hk,rfl,hno,hbl⟩:=hrel;by_cases hlt:k < l.length
  ·rcases hl with rfl | ⟨b,off,rfl,hb,hc⟩
   ·simp at hlt
   obtain⟨c1,c2⟩:=hc k hlt;have d1:=(hbl.cell (p:=⟨b,off+k*2,none⟩) hb).trans c1;have d2:=(hbl.cell (p:=⟨b,off+k*2+1,none⟩) hb).trans c2;have HN:=jD hno;clear c1 c2 hc hno;go_wp2
   ·go_ret;exact⟨dU (Xw l n k hlt (by assumption) (by assumption)).symm,(hbl.alloc hbl.size _)⟩
   all_goals
    go_roundw
    case rel=>exact ⟨k+1,by omega,by go_num,by rw[Tq l n k hlt,HN.o];simp [*];try omega,hbl.alloc hbl.size _⟩
    case measure=>simp [intOf];omega
  ·go_wp2;go_ret;have:k=l.length:=by omega
   subst this;exact⟨dU (by rw[List.take_length] at hno;exact hno.symm),hbl⟩
def iR (l:cp) (k:Nat):Int:=chkFrom (if h:k=0∨l.length < k then -1 else(l[k - 1]'(by omega)).2) (l.drop k)
theorem xS (l:cp):iR l 0=chkFrom (-1) l:=by simp[iR]
theorem QO (l:cp):iR l l.length=0:=by simp[iR,chkFrom]
theorem QS (l:cp) (k:Nat) (hk:k < l.length) (h:l[k].1 < 0∨32 < l[k].2∨l[k].2≤l[k].1):iR l k=1:=by
 unfold iR;rw [List.drop_eq_getElem_cons hk];simp only[chkFrom];rw [if_pos h]
theorem Ow (l:cp) (k:Nat) (hk:k+1 < l.length) (h: ¬(l[k+1].1 < 0∨32 < l[k+1].2∨l[k+1].2≤l[k+1].1)) (h2:l[k+1].1≤l[k].2):iR l (k+1)=3:=by
 unfold iR;rw [List.drop_eq_getElem_cons hk];simp only[chkFrom];rw [if_neg h,dif_neg (by omega)];simp [h2]
theorem Hu (l:cp) (hk:0 < l.length) (h: ¬(l[0].1 < 0∨(32:Int) < l[0].2∨l[0].2≤l[0].1)):iR l 0=iR l 1:=by
 have e:iR l 1=chkFrom l[0].2 (l.drop 1):=by unfold iR;rw [dif_neg (by omega)]
 rw[e];unfold iR;rw [dif_pos (.inl rfl),List.drop_eq_getElem_cons hk];simp only[chkFrom];rw [if_neg h,if_neg (by omega)]
theorem Hv (l:cp) (k:Nat) (hk:k+1 < l.length) (h: ¬(l[k+1].1 < 0∨32 < l[k+1].2∨l[k+1].2≤l[k+1].1)) (h2:l[k].2 < l[k+1].1):iR l (k+1)=iR l (k+2):=by
 have e:iR l (k+2)=chkFrom l[k+1].2 (l.drop (k+2)):=by unfold iR;rw [dif_neg (by omega)];rfl
 rw[e];unfold iR;rw [dif_neg (by omega),List.drop_eq_getElem_cons hk];simp only[chkFrom];rw [if_neg h,if_neg (by simp;omega)]
theorem Pj (v:Value) (l:cp) (w:World) (hs:fJ w v l):
  Calls Tryz.prog 120 #[v] w fun e w'=>e= .returned (.int .i64 (dH l))∧Below w.heap.size w w':=by
 obtain⟨a,cap,rfl,hcap,hm,hl⟩:=hs.open_;clear hs hcap;by_cases VC:16 < l.length
 ·go_enter Tryz.func120,Tryz.ntmps120;go_wp2;go_ret;exact⟨bw (by simp[dH,VC]),br⟩
 go_enter Tryz.func120,Tryz.ntmps120;go_wp2;go_loopw [10] (fun i wr=> ∃k:Nat,k≤l.length∧i= .int .i64 k∧iR l 0=iR l k∧Below w.heap.size w wr) (fun i _=>l.length - (intOf i).toNat)
 case atStart=>exact ⟨0,Nat.zero_le _,rfl,rfl,br⟩
 case round=>
  obtain⟨k,hk,rfl,hno,hbl⟩:=hrel;by_cases hlt:k < l.length
  ·rcases hl with rfl | ⟨b,off,rfl,hb,hc⟩
   ·simp at hlt
   obtain⟨c1,c2⟩:=hc k hlt;have d1:=(hbl.cell (p:=⟨b,off+k*2,none⟩) hb).trans c1;have d2:=(hbl.cell (p:=⟨b,off+k*2+1,none⟩) hb).trans c2;have HN:=jD hno;clear c1 c2 hno;by_cases hbad:l[k].1 < 0∨32 < l[k].2∨l[k].2≤l[k].1
   ·have hch:=QS l k hlt hbad;clear hc;have hr:dH l=1:=by rw[dH,if_neg VC,←xS,HN.o,hch]
    have HR:=jD hr;clear hr hch;go_wp2;all_goals go_ret
    all_goals exact⟨bw HR.o.symm,hbl.alloc hbl.size _⟩
   ·cases k with
    | zero=>
     have HC:=jD (Hu l hlt hbad);rw[Nat.zero_mul,Nat.add_zero] at d1 d2;clear hc;have hq:(decide (l[0].1 < 0) || decide (32 < l[0].2) || decide (l[0].2≤l[0].1))=false:=by simp;omega
     go_wp2;go_quiet (fail);go_wp2;go_roundw
     case rel=>exact ⟨1,by omega,by go_num,HC.o,below_drewN (hbl.alloc hbl.size _) _⟩
     case measure=>simp [intOf];omega
    | succ k=>
     obtain⟨-,c2⟩:=hc k (by omega);have d3:=(hbl.cell (p:=⟨b,off+k*2+1,none⟩) hb).trans c2;have HF:=jD (Ow l k hlt hbad);have HO:=jD (Hv l k hlt hbad);clear hc c2;have hk0:decide ((0:Int) < (k:Int)+1)=true:=by simp
     have hw:=IntWalk.i64_in ((k:Int)+1 - 1) (by omega);have hw2:((k:Int)+1 - 1)=k:=by omega
     rw[hw2] at hw;have hi:(k:Int) < l.length:=by omega
     have mq:b < wr.heap.size:=Nat.lt_of_lt_of_le hb hbl.size;go_wp2;go_quiet (fail);go_wp2
     ·go_ret;exact⟨bw (by rw[dH,if_neg VC,←xS,HN.o,HF.o (by assumption)]),below_drewN (hbl.alloc hbl.size _) _⟩
     ·go_roundw
      case rel=>exact ⟨k+2,by omega,by go_num,HN.o.trans (HO.o (by assumption)),below_drewN (hbl.alloc hbl.size _) _⟩
      case measure=>simp [intOf];omega
  ·go_wp2;go_ret;have:k=l.length:=by omega
   subst this;exact⟨bw (by rw[QO] at hno;rw [dH,if_neg VC,←xS,hno]),hbl⟩
theorem zS.info:(Tryz.prog.info? 179).map (fun i=>(i.zero,i.size,i.bytes))=some (some (.agg #[.int .i64 0, .int .i64 0]),2,16):=by kernel_rfl
def Pred (g:FuncId) (caps:Array Value) (p:Nat→Bool) (w:World):Prop:=
 (∀args W,(callFunc g args).run Tryz.prog W= .ok (.enter g args) W)∧ ∀(n:Nat) (W:World),n < 32→Below w.heap.size w W→Calls Tryz.prog g (#[.int .i64 n]++caps) W fun e w'=>e= .returned (.bool (p n))∧Below W.heap.size W w'
theorem Li (l:cp) (n:Int):(put1 l n).length≤l.length+1:=by
 unfold put1;split
 ·split <;> simp
 ·simp
theorem PM (p:Nat→Bool) (k:Nat):(mk p k).length≤k:=by
 induction k with
 | zero=>simp [mk]
 | succ k ih=>
         simp only[mk];split;· have:=Li (mk p k) k;omega
         omega
theorem YK (g:FuncId) (caps:Array Value) (p:Nat→Bool) (w:World) (hg:Pred g caps p w):
  Calls Tryz.prog 188 #[.func (.func g) #[] caps] w fun e w'=> ∃v,e= .returned v∧w'.ownsRow w.heap.size 179 2 v (make p).length (az (make p))∧Below w.heap.size w w':=by
 obtain⟨i0,hi,hz0,hz1,hz2⟩:=info_parts zS.info;obtain⟨hcall,hg⟩:=hg;have HG:=jD hg;clear hg;go_enter Tryz.func188,Tryz.ntmps188;go_wp2;go_loopw [3,4] (fun v i wr=> ∃k:Nat,k≤32∧i= .int .i64 k∧wr.ownsRow w.heap.size 179 2 v (mk p k).length (az (mk p k))∧Below w.heap.size w wr) (fun _ i _=>32 - (intOf i).toNat)
 case atStart=>exact ⟨0,Nat.zero_le _,rfl,World.ownsRow_nil _ _ _ _,br⟩
 case round=>
  obtain⟨k,hk,rfl,hown,hbl⟩:=hrel;by_cases hlt:k < 32
  ·go_wp2_with fail
   refine(HG.o k _ hlt hbl).mono ?_;rintro e w1 ⟨rfl,hb1⟩;have cQ:=aj hbl hb1;have hown1:=aI hown hb1;cases hp:p k
   ·go_wp2;go_roundw
    case rel=>exact ⟨k+1,by omega,by go_num,by simpa[mk,hp] using hown1,cQ⟩
    case measure=>simp [intOf];omega
   have hmk:mk p (k+1)=put1 (mk p k) k:=by simp[mk,hp]
   have hle:=PM p k;clear hown hb1 hbl;generalize mk p k=m at*;have HM:=jD hmk;clear hmk;obtain⟨a,cap,rfl⟩:=ay hown1;rcases List.eq_nil_or_concat m with rfl | ⟨l,s,hcc⟩
   ·have HO:=jD hown1;clear hown1;go_wp2_with (at_builtin;refine sZ rfl (.tmp 36) (.tmp 41) 175 rfl w.heap.size 179 (.agg #[.int .i64 0, .int .i64 0]) 2 16 Tryz.underlying175 zS.info rfl (by decide) _ 0 [] rfl HO.o [.int .i64 k, .int .i64 (k+1)] rfl (by simp[Value.oneCell']) rfl cQ cQ.size (by decide) (by decide) ?_)
    intro v' w2 hown2 sU;go_wp2;go_roundw
    case rel=>exact ⟨k+1,by omega,by go_num,by rw[HM.o];exact hown2,sU⟩
    case measure=>simp [intOf];omega
   ·rw[List.concat_eq_append] at hcc;subst hcc;have hl32:l.length < 32:=by simp at hle;omega
    clear hle;rcases hown1.2 with⟨-,h0⟩ | ⟨g1,cap1,cur,hv,hg1,hgg, -⟩
    ·simp at h0
    simp only[Value.slice.injEq,true_and] at hv;obtain⟨rfl,rfl⟩:=hv;have hc1:w1.cell? ⟨g1,l.length*2+1,none⟩=some (.int .i64 s.2):=by
     rw[hown1.cellAt _ (by simp;omega),fC,List.getElem?_append_right (by rw[cC];omega),cC,show l.length*2+1 - l.length*2=1 from by omega];rfl
    have rX:=hown1.frozenAt (l.length*2+1);have hgl:g1 < w1.heap.size:=(Array.getElem?_eq_some_iff.1 hgg).1;clear hgg;have hlen:(l++[s]).length=l.length+1:=by simp
    by_cases hs:s.2=k
    ·have HS:=jD hs;rw[hs] at hc1;clear hs;have HST:=jD (hown1.stored (l.length*2+1) (.int .i64 (k+1)));clear hown1;go_wp2;go_roundw
     case rel=>
      have e:put1 (l++[s]) k=l++[(s.1,(k:Int)+1)]:=by unfold put1;simp [HS.o]
      refine⟨k+1,by omega,by go_num, ?_,cQ.setCell (by exact hg1) _⟩;rw[HM.o,e];have:=HST.o.1;rw[fC,List.set_append_right _ _ (by rw[cC];omega),cC,show l.length*2+1 - l.length*2=1 from by omega] at this;simpa[az] using this
     case measure=>simp [intOf];omega
    have hne:(s.2==(k:Int))=false:=by simpa using hs
    rw[hlen] at hown1;have HO:=jD hown1;clear hs hown1;go_wp2_with (at_builtin;refine sZ rfl (.tmp 36) (.tmp 41) 175 rfl w.heap.size 179 (.agg #[.int .i64 0, .int .i64 0]) 2 16 Tryz.underlying175 zS.info rfl (by decide) _ (l.length+1) _ rfl HO.o [.int .i64 k, .int .i64 (k+1)] rfl (by simp[Value.oneCell']) rfl cQ cQ.size (by unfold maxLen;omega) (by omega) ?_)
    intro v' w2 hown2 sU;go_wp2;go_roundw
    case rel=>
     have e:put1 (l++[s]) k=(l++[s])++[((k:Int),(k:Int)+1)]:=by unfold put1;simp only[List.getLast?_append,List.getLast?_singleton,Option.some_or];rw [if_neg (by simpa using hne)]
     refine⟨k+1,by omega,by go_num, ?_,sU⟩;rw[HM.o,e,fC];simpa[az] using hown2
    case measure=>simp [intOf];omega
  ·go_wp2;go_ret;obtain rfl:k=32:=by omega
   exact⟨_,rfl,hown,hbl⟩
def two (a b:cp):Int:=if dH a=0 then dH b else dH a
theorem Fe (last:Int) (l:cp) (h:chkFrom last l=0): ∀s∈l,0≤s.1∧s.1 < s.2∧s.2≤32:=by
 induction l generalizing last with
 | nil=>simp
 | cons s l ih=>
  simp only[chkFrom] at h;split at h
  ·simp at h
  split at h
  ·simp at h
  intro t ht;rcases List.mem_cons.1 ht with rfl | ht
  ·omega
  ·exact ih _ h t ht
theorem mN {l:cp} (h:dH l=0):l.length≤16∧ ∀s∈l,0≤s.1∧s.1 < s.2∧s.2≤32:=by
 unfold dH at h;split at h
 ·simp at h
 ·exact⟨by omega,Fe _ l h⟩
def tstep (p:Nat→Bool) (n:Nat) (out:cp):cp:=
 if p n then
  match out with
  | []=>[((n:Int),(n:Int)+1)]
  | s::r=>if s.1=(n:Int)+1 then((n:Int),s.2)::r else((n:Int),(n:Int)+1)::s::r
 else out
def toldK (p:Nat→Bool):Nat→cp
 | 0=>[]
 | k+1=>tstep p (31 - k) (toldK p k)
def told (p:Nat→Bool):cp:=toldK p 32
def Ik (x:Int) (n:Nat):Bool:=x / 2^n%2==1
theorem XZ (x:Int) (k:Nat) (h0:0≤x) (h1:x < 4294967296):(bits BinOp.and IntKind.u32 (x / 2^k) 1==1)=Ik x k:=by
 have hle:x / 2^k≤x:=Int.ediv_le_self _ h0;have hnn:0≤x / 2^k:=Int.ediv_nonneg h0 (Int.le_of_lt (Int.pow_pos (by decide)));rw[u32_and _ _ hnn (by omega) (by decide) (by decide)];unfold Ik;generalize x / 2^k=y at*;have:(1:Int).toNat=1:=rfl;rw[this,Nat.and_one_is_mod];have e:((y.toNat%2:Nat):Int)=y%2:=by omega
 rw[e]
end Go.Proofs.YtajgndoiddmbmaaGreatDoor
namespace Go.Proofs.YtajgndoiddmbmaaGreatDoor
set_option maxRecDepth 100000
set_option maxHeartbeats 40000000
theorem EN (n:Int):jM [] n=false:=rfl
theorem xG (s:Int×Int) (l:cp) (n:Int):jM (s::l) n=((decide (s.1≤n)&&decide (n < s.2)) || jM l n):=rfl
theorem xH (l m:cp) (n:Int):jM (l++m) n=(jM l n || jM m n):=by simp[jM]
theorem lX (last:Int) (s:Int×Int) (l:cp):chkFrom last (s::l)=0↔(0≤s.1∧s.1 < s.2∧s.2≤32)∧last < s.1∧chkFrom s.2 l=0:=by
 simp only[chkFrom];split
 ·constructor
  ·intro h;simp at h
  ·intro h;omega
 split
 ·constructor
  ·intro h;simp at h
  ·intro h;omega
 constructor
 ·intro h;exact ⟨by omega,by omega,h⟩
 ·intro h;exact h.2.2
theorem Ov {last:Int} {l:cp} (h:chkFrom last l=0) (hl:last≤32):2*(l.length:Int)+last≤32:=by
 induction l generalizing last with
 | nil=>simpa using hl
 | cons s l ih=>rw [lX] at h;have:=ih h.2.2 (by omega);simp only[List.length_cons];omega
theorem Lc {l:cp} (h:chkFrom (-1) l=0):dH l=0:=by
 unfold dH;have:=Ov h (by decide);rw [if_neg (by omega)];exact h
theorem DF {last:Int} {l:cp} {s:Int×Int} (h:chkFrom last l=0) (hs:0≤s.1∧s.1 < s.2∧s.2≤32) (hl:last < s.1) (ho: ∀t∈l,t.2 < s.1):chkFrom last (l++[s])=0:=by
 induction l generalizing last with
 | nil=>show chkFrom last [s]=0;rw [lX];exact ⟨hs,hl,rfl⟩
 | cons t l ih=>
  rw[lX] at h;rw[List.cons_append,lX];exact⟨h.1,h.2.1,ih h.2.2 (ho t (by simp)) fun u hu=>ho u (by simp[hu])⟩
theorem Ux {last:Int} {l m:cp} (h:chkFrom last (l++m)=0):chkFrom last l=0:=by
 induction l generalizing last with
 | nil=>rfl
 | cons t l ih=>rw [List.cons_append,lX] at h;rw [lX];exact ⟨h.1,h.2.1,ih h.2.2⟩
theorem Uw {last:Int} {l:cp} {s:Int×Int} (h:chkFrom last (l++[s])=0):(0≤s.1∧s.1 < s.2∧s.2≤32)∧last < s.1∧ ∀t∈l,t.2 < s.1:=by
 induction l generalizing last with
 | nil=>have h':chkFrom last [s]=0:=h;rw [lX] at h';exact ⟨h'.1,h'.2.1,by simp⟩
 | cons t l ih=>
  rw[List.cons_append,lX] at h;obtain⟨a,b,c⟩:=ih h.2.2;refine⟨a,by omega,fun u hu=> ?_⟩;rcases List.mem_cons.1 hu with rfl | hu
  ·exact b
  ·exact c u hu
theorem L3 (p:Nat→Bool) (k:Nat) (hk:k≤32):chkFrom (-1) (mk p k)=0∧(∀s∈mk p k,s.2≤(k:Int))∧ ∀n:Int,jM (mk p k) n=(decide (0≤n)&&decide (n < (k:Int))&&p n.toNat):=by
 induction k with
 | zero=>refine ⟨rfl,by simp[mk],fun n=> ?_⟩;simp [mk,EN];omega
 | succ k ih=>
  obtain⟨h1,h2,h3⟩:=ih (by omega);have hin: ∀(b:Bool) (n:Int),b=p k→(jM (mk p k) n || (decide ((k:Int)≤n)&&decide (n < (k:Int)+1)&&b))=(decide (0≤n)&&decide (n < ((k+1:Nat):Int))&&p n.toNat):=by
   intro b n hb;rw[h3 n];by_cases hc:n=k
   ·subst hc;simp [hb]
   ·by_cases hn:n < k
    ·have e1:decide ((k:Int)≤n)=false:=by simp;omega
     have e2:decide (n < ((k+1:Nat):Int))=true:=by rw[decide_eq_true_iff];omega
     rw[e1,e2];simp [hn]
    ·have e1:decide (n < (k:Int)+1)=false:=by simp;omega
     have e2:decide (n < ((k+1:Nat):Int))=false:=by simp;omega
     rw[e1,e2];simp [hn]
  cases hp:p k
  ·simp only[mk,hp,Bool.false_eq_true,if_false];refine⟨h1,fun s hs=>by have:=h2 s hs;omega,fun n=> ?_⟩;rw[←hin false n hp.symm];simp
  ·simp only[mk,hp,if_true];rcases List.eq_nil_or_concat (mk p k) with hm | ⟨l,s,hm⟩
   ·rw[hm] at h3 hin ⊢;have e:put1 [] (k:Int)=[((k:Int),(k:Int)+1)]:=rfl;rw[e];refine⟨by rw[lX];exact ⟨by simp;omega,by simp;omega,rfl⟩,by simp,fun n=> ?_⟩;rw[←hin true n hp.symm];simp [jM]
   ·rw[List.concat_eq_append] at hm;rw[hm] at h1 h2 h3 hin ⊢;have hl:=Uw h1;by_cases hs:s.2=(k:Int)
    ·have e:put1 (l++[s]) k=l++[(s.1,(k:Int)+1)]:=by unfold put1;simp [hs]
     rw[e];refine⟨DF (Ux h1) ⟨hl.1.1,by simp;omega,by simp;omega⟩ (by simp;omega) hl.2.2, ?_,fun n=> ?_⟩
     ·intro t ht;rcases List.mem_append.1 ht with ht | ht
      ·have:=h2 t (by simp[ht]);omega
      ·simp at ht;subst ht;simp
     ·rw[←hin true n hp.symm,xH,xH,xG,xG,EN];cases jM l n
      ·have hx:=hl.1.2.1;rw[Bool.eq_iff_iff];simp;omega
      ·simp
    ·have e:put1 (l++[s]) k=(l++[s])++[((k:Int),(k:Int)+1)]:=by
      unfold put1;simp only[List.getLast?_append,List.getLast?_singleton,Option.some_or];rw [if_neg hs]
     have hsk:s.2 < (k:Int):=by have:=h2 s (by simp);omega
     rw[e];refine⟨DF h1 ⟨by simp,by simp;omega,by simp;omega⟩ (by simp;omega) ?_, ?_,fun n=> ?_⟩
     ·intro t ht;rcases List.mem_append.1 ht with ht | ht
      ·have:=hl.2.2 t ht;simp;omega
      ·simp at ht;subst ht;simpa using hsk
     ·intro t ht;rcases List.mem_append.1 ht with ht | ht
      ·have:=h2 t ht;omega
      ·simp at ht;subst ht;simp
     ·rw[←hin true n hp.symm,xH,xG,EN];simp
theorem Tf (p:Nat→Bool):dH (make p)=0:=Lc (L3 p 32 (Nat.le_refl _)).1
theorem Xm (p:Nat→Bool) (n:Int):jM (make p) n=(decide (0≤n)&&decide (n < 32)&&p n.toNat):=(L3 p 32 (Nat.le_refl _)).2.2 n
theorem Ls (p:Nat→Bool) (n:Nat) (h:n < 32):jM (make p) n=p n:=by rw[Xm];simp;omega
def cnt (p:Nat→Bool):Nat→Int
 | 0=>0
 | k+1=>cnt p k+if p k then 1 else 0
end Go.Proofs.YtajgndoiddmbmaaGreatDoor
namespace Go.Proofs.YtajgndoiddmbmaaGreatDoor
set_option maxRecDepth 100000
set_option maxHeartbeats 40000000
open Go.RowKit
def UE (f:Nat→Bool):Bool:=(List.range 32).all f
theorem UD (f:Nat→Bool):UE f=true↔ ∀n,n < 32→f n=true:=by simp[UE]
theorem QK (k:Nat):cnt (fun _=>false) k=0:=by
 induction k with
 | zero=>rfl
 | succ k ih=>simp [cnt,ih]
theorem J5 (p:Nat→Bool) (k:Nat):0≤cnt p k∧cnt p k≤k:=by
 induction k with
 | zero=>simp [cnt]
 | succ k ih=>simp only[cnt];split <;> omega
end Go.Proofs.YtajgndoiddmbmaaGreatDoor
