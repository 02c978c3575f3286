/- Towards what desk.Run answers. -/
import Derived.Test.YtajgndoiddmbmaaGreatDoorMBase
import Derived.Test.YtajgndoiddmbmaaGreatDoorChecked
import Derived.Deep.QuietTactic
import Derived.BigQuiet
namespace Go.Proofs.YtajgndoiddmbmaaGreatDoor
set_option maxRecDepth 100000
set_option maxHeartbeats 40000000
open Go.RowKit
structure Nd where
 k:Int
 a:Int
 b:Int
 deriving DecidableEq
abbrev cH:=List Nd
def gh (l:cH):List Value:=l.flatMap fun n=>[.int .i64 n.k, .int .i64 n.a, .int .i64 n.b]
theorem EG (l m:cH):gh (l++m)=gh l++gh m:=by simp[gh]
theorem Lr (l:cH) (i:Nat) (h:i < l.length):(gh l)[i*3]? =some (.int .i64 l[i].k)∧(gh l)[i*3+1]? =some (.int .i64 l[i].a)∧(gh l)[i*3+2]? =some (.int .i64 l[i].b):=by
 induction l generalizing i with
 | nil=>simp at h
 | cons s l ih=>
  cases i with
  | zero=>simp [gh]
  | succ i=>
   have:=ih i (by simpa using h);have e:gh (s::l)= .int .i64 s.k:: .int .i64 s.a:: .int .i64 s.b::gh l:=rfl;rw[e,show(i+1)*3=i*3+1+1+1 from by omega];simpa using this
def jm (w:World) (v:Value) (l:cH):Prop:=aF w v l.length (gh l)
theorem jm.below {w w':World} {v:Value} {l:cH} (h:jm w v l) (hb:Below w.heap.size w w'):jm w' v l:=aF.below h hb
theorem jm.open_ {w:World} {v:Value} {l:cH} (h:jm w v l): ∃a cap,v= .slice a l.length cap∧l.length≤cap∧l.length≤140737488355328∧(a=none→cap=0)∧
  (l=[]∨ ∃b off,a=some ⟨b,off,none⟩∧b < w.heap.size∧ ∀i (h:i < l.length),w.cell? ⟨b,off+i*3,none⟩=some (.int .i64 l[i].k)∧w.cell? ⟨b,off+i*3+1,none⟩=some (.int .i64 l[i].a)∧w.cell? ⟨b,off+i*3+2,none⟩=some (.int .i64 l[i].b)):=by
 obtain⟨a,cap,hv,hn,hm,h0,h⟩:=h;refine⟨a,cap,hv,hn,hm,h0, ?_⟩;rcases h with h | ⟨b,off,ha,hlt,hc⟩
 ·left;cases l with
  | nil=>rfl
  | cons s l=>simp [gh] at h
 ·refine .inr ⟨b,off,ha,hlt,fun i hi=> ?_⟩;obtain⟨g1,g2,g3⟩:=Lr l i hi;exact⟨hc _ _ g1,by rw[Nat.add_assoc];exact hc _ _ g2,by rw[Nat.add_assoc];exact hc _ _ g3⟩
def ez (i:Nat) (n:Nd):Int:=
 if n.k=1 then 0
 else if n.k=2 then(if n.a < 0∨4≤n.a then 1 else 0)
 else if n.k=3 then(if n.a < 0∨32 < n.b∨n.b≤n.a then 1 else 0)
 else if n.k=4 then(if n.a < 0∨(i:Int)≤n.a then 1 else 0)
 else if n.k=5∨n.k=6 then(if n.a < 0∨(i:Int)≤n.a∨n.b < 0∨(i:Int)≤n.b then 1 else 0)
 else 3
def ndsFrom:Nat→cH→Int
 | _,[]=>0
 | i,n::l=>if ez i n=0 then ndsFrom (i+1) l else ez i n
def cI (l:cH):Int:=if l.length=0∨30 < l.length then 2 else ndsFrom 0 l
theorem NJ (l:cH) (k:Nat) (hk:k < l.length) (h:ez k l[k]=0):ndsFrom k (l.drop k)=ndsFrom (k+1) (l.drop (k+1)):=by
 rw[List.drop_eq_getElem_cons hk];simp only[ndsFrom];rw [if_pos h]
theorem Lp (l:cH) (k:Nat) (hk:k < l.length) (h:ez k l[k]≠0):ndsFrom k (l.drop k)=ez k l[k]:=by
 rw[List.drop_eq_getElem_cons hk];simp only[ndsFrom];rw [if_neg h]
theorem Lq (l:cH) (i:Nat) (h:ndsFrom i l=0): ∀k (hk:k < l.length),ez (i+k) l[k]=0:=by
 induction l generalizing i with
 | nil=>intro k hk;simp at hk
 | cons n l ih=>
  simp only[ndsFrom] at h;by_cases h1:ez i n=0
  ·rw[if_pos h1] at h;intro k hk;cases k with
   | zero=>simpa using h1
   | succ k=>
    have:=ih (i+1) h k (by simpa using hk);rw[show i+(k+1)=i+1+k from by omega];simpa using this
  ·rw[if_neg h1] at h;exact absurd h h1
theorem Bc {l:cH} (h:cI l=0):0 < l.length∧l.length≤30∧ ∀k (hk:k < l.length),ez k l[k]=0:=by
 unfold cI at h;split at h
 ·simp at h
 ·refine⟨by omega,by omega,fun k hk=> ?_⟩;have:=Lq l 0 h k hk;simpa using this
theorem C8 {i:Nat} {x:Nd} (h:ez i x=0):x.k=1∨(x.k=2∧0≤x.a∧x.a < 4)∨(x.k=3∧0≤x.a∧x.a < x.b∧x.b≤32)∨(x.k=4∧0≤x.a∧x.a < i)∨((x.k=5∨x.k=6)∧0≤x.a∧x.a < i∧0≤x.b∧x.b < i):=by
 unfold ez at h;repeat' split at h
 all_goals first | omega | (simp at h)
theorem NQ (k:Int):k=1∨k=2∨k=3∨k=4∨k=5∨k=6∨((k==1)=false∧(k==2)=false∧(k==3)=false∧(k==4)=false∧(k==5)=false∧(k==6)=false):=by
 simp;omega
theorem zz (v:Value) (l:cH) (w:World) (hs:jm w v l):
  Calls Tryz.prog 20 #[v] w fun e w'=>e= .returned (.int .i64 (cI l))∧Below w.heap.size w w':=by
 obtain⟨a,cap,rfl,hcap,hm, -,hl⟩:=hs.open_;clear hs;by_cases h0:l.length=0
 ·have H:=jD (show cI l=2 by simp[cI,h0]);rw[h0];clear h0 hcap hm hl;go_enter Tryz.func20,Tryz.ntmps20;go_wp2;go_ret;exact⟨bw H.o.symm,br⟩
 have hz:((l.length:Int)==0)=false:=by rw[beq_eq_false_iff_ne];omega
 have hne:0 < l.length:=by omega
 clear h0;by_cases se:30 < l.length
 ·have H:=jD (show cI l=2 by simp[cI,se]);clear hl;go_enter Tryz.func20,Tryz.ntmps20;go_wp2;go_ret;exact⟨bw H.o.symm,br⟩
 have HF:=jD (show cI l=ndsFrom 0 (l.drop 0) by rw[cI,if_neg (by omega)];rfl);go_enter Tryz.func20,Tryz.ntmps20;go_wp2;go_loopw [15] (fun i wr=> ∃k:Nat,k≤l.length∧i= .int .i64 k∧cI l=ndsFrom k (l.drop k)∧Below w.heap.size w wr) (fun i _=>l.length - (intOf i).toNat)
 case atStart=>exact ⟨0,Nat.zero_le _,rfl,HF.o,br⟩
 case round=>
  obtain⟨k,hk,rfl,hno,hbl⟩:=hrel;have HN:=jD hno;clear hno HF;by_cases hlt:k < l.length
  ·rcases hl with rfl | ⟨b,off,rfl,hb,hc⟩
   ·simp at hlt
   obtain⟨c1,c2,c3⟩:=hc k hlt;have d1:=(hbl.cell (p:=⟨b,off+k*3,none⟩) hb).trans c1;have d2:=(hbl.cell (p:=⟨b,off+k*3+1,none⟩) hb).trans c2;have d3:=(hbl.cell (p:=⟨b,off+k*3+2,none⟩) hb).trans c3;have cz:=jD (fun h=>HN.o.trans (NJ l k hlt h));have eT:=jD (fun h=>HN.o.trans (Lp l k hlt h));clear c1 c2 c3 hc;generalize l[k]=nd at*;obtain⟨kk,aa,bb⟩:=nd;rcases NQ kk with rfl | rfl | rfl | rfl | rfl | rfl | ⟨e1,e2,e3,e4,e5,e6⟩
   ·have H:=jD (cz.o (by simp[ez]));clear cz eT;go_wp2;go_roundw
    case rel=>exact ⟨k+1,by omega,by go_num,H.o,hbl.alloc hbl.size _⟩
    case measure=>simp [intOf];omega
   ·by_cases hbad:aa < 0∨4≤aa
    ·have H:=jD ((eT.o (by simp[ez,hbad])).trans (show _=(1:Int) by simp[ez,hbad]));clear cz eT;go_wp2;all_goals go_ret
     all_goals exact⟨bw H.o.symm,hbl.alloc hbl.size _⟩
    ·have H:=jD (cz.o (by simp[ez,hbad]));clear cz eT;go_wp2;all_goals go_roundw
     case rel=>exact ⟨k+1,by omega,by go_num,H.o,hbl.alloc hbl.size _⟩
     case measure=>simp [intOf];omega
   ·by_cases hbad:aa < 0∨32 < bb∨bb≤aa
    ·have H:=jD ((eT.o (by simp[ez,hbad])).trans (show _=(1:Int) by simp[ez,hbad]));clear cz eT;go_wp2;all_goals go_ret
     all_goals exact⟨bw H.o.symm,hbl.alloc hbl.size _⟩
    ·have H:=jD (cz.o (by simp[ez,hbad]));clear cz eT;go_wp2;all_goals go_roundw
     case rel=>exact ⟨k+1,by omega,by go_num,H.o,hbl.alloc hbl.size _⟩
     case measure=>simp [intOf];omega
   ·by_cases hbad:aa < 0∨(k:Int)≤aa
    ·have H:=jD ((eT.o (by simp[ez,hbad])).trans (show _=(1:Int) by simp[ez,hbad]));clear cz eT;go_wp2;all_goals go_ret
     all_goals exact⟨bw H.o.symm,hbl.alloc hbl.size _⟩
    ·have H:=jD (cz.o (by simp[ez,hbad]));clear cz eT;go_wp2;all_goals go_roundw
     case rel=>exact ⟨k+1,by omega,by go_num,H.o,hbl.alloc hbl.size _⟩
     case measure=>simp [intOf];omega
   ·by_cases hbad:aa < 0∨(k:Int)≤aa∨bb < 0∨(k:Int)≤bb
    ·have H:=jD ((eT.o (by simp[ez,hbad])).trans (show _=(1:Int) by simp[ez,hbad]));clear cz eT;go_wp2;all_goals go_ret
     all_goals exact⟨bw H.o.symm,hbl.alloc hbl.size _⟩
    ·have H:=jD (cz.o (by simp[ez,hbad]));clear cz eT;go_wp2;all_goals go_roundw
     case rel=>exact ⟨k+1,by omega,by go_num,H.o,hbl.alloc hbl.size _⟩
     case measure=>simp [intOf];omega
   ·by_cases hbad:aa < 0∨(k:Int)≤aa∨bb < 0∨(k:Int)≤bb
    ·have H:=jD ((eT.o (by simp[ez,hbad])).trans (show _=(1:Int) by simp[ez,hbad]));clear cz eT;go_wp2;all_goals go_ret
     all_goals exact⟨bw H.o.symm,hbl.alloc hbl.size _⟩
    ·have H:=jD (cz.o (by simp[ez,hbad]));clear cz eT;go_wp2;all_goals go_roundw
     case rel=>exact ⟨k+1,by omega,by go_num,H.o,hbl.alloc hbl.size _⟩
     case measure=>simp [intOf];omega
   ·have f: ¬kk=1∧ ¬kk=2∧ ¬kk=3∧ ¬kk=4∧ ¬(kk=5∨kk=6):=by simp at e1 e2 e3 e4 e5 e6;omega
    have hv:ez k ⟨kk,aa,bb⟩=3:=by simp[ez,f]
    have H:=jD ((eT.o (by rw[hv];decide)).trans hv);clear cz eT f hv;go_wp2;all_goals go_ret
    all_goals exact⟨bw H.o.symm,hbl.alloc hbl.size _⟩
  ·obtain rfl:k=l.length:=by omega
   go_wp2;go_ret;exact⟨bw (by rw[HN.o];simp [ndsFrom]),hbl⟩
def rG (n:Int):Bool:=decide (0≤n)&&decide (n≤15)
def eo (y n:Int):Int:=if rG y&&rG n then(if bits .and .i64 y n==0 then 0 else 3) else 1
def dK (y n t:Int):Bool:=(bits .and .i64 t y==y)&&(bits .and .i64 t n==0)
theorem yL (n:Int) (w:World):
  Calls Tryz.prog 124 #[.int .i64 n] w fun e w'=>e= .returned (.bool (rG n))∧w'=w:=by
 go_enter Tryz.func124,Tryz.ntmps124;go_wp2;all_goals go_ret
 all_goals exact⟨dU (by simp[rG];try omega),rfl⟩
theorem QI (y n:Int) (w:World):
  Calls Tryz.prog 119 #[.agg #[.int .i64 y, .int .i64 n]] w fun e w'=>e= .returned (.int .i64 (eo y n))∧Below w.heap.size w w':=by
 have hb:Below w.heap.size w (w.alloc (.cells #[.int .i64 y, .int .i64 n] 174)):=aG _;go_enter Tryz.func119,Tryz.ntmps119;go_wp2_with fail
 refine(yL _ _).mono ?_;rintro e w1 ⟨rfl,rfl⟩;cases hy:rG y
 ·have H:=jD (show eo y n=1 by simp[eo,hy]);go_wp2;go_ret;exact⟨bw H.o.symm,hb⟩
 go_wp2_with fail
 refine(yL _ _).mono ?_;rintro e w1 ⟨rfl,rfl⟩;cases hn:rG n
 ·have H:=jD (show eo y n=1 by simp[eo,hn]);go_wp2;go_ret;exact⟨bw H.o.symm,hb⟩
 cases ha:(bits .and .i64 y n==0)
 ·have H:=jD (show eo y n=3 by simp only[eo,hy,hn,ha];rfl);clear hy hn;go_wp2;go_ret;exact⟨bw H.o.symm,hb⟩
 ·have H:=jD (show eo y n=0 by simp only[eo,hy,hn,ha];rfl);clear hy hn;go_wp2;go_ret;exact⟨bw H.o.symm,hb⟩
theorem uD (y n t:Int) (w:World):
  Calls Tryz.prog 121 #[.agg #[.int .i64 y, .int .i64 n], .int .i64 t] w fun e w'=>e= .returned (.bool (dK y n t))∧Below w.heap.size w w':=by
 go_enter Tryz.func121,Tryz.ntmps121;go_wp2;all_goals go_ret
 all_goals exact⟨dU (by simp[dK, *]),aG _⟩
def eP (t n:Int):Bool:=rG t&&decide (0≤n)&&decide (n < 32)
theorem AA (t n:Int) (w:World):Calls Tryz.prog 90 #[.agg #[.int .i64 t, .int .i64 n]] w fun e w'=>e= .returned (.bool (eP t n))∧Below w.heap.size w w':=by
 cases ht:rG t
 ·have H:=jD (show eP t n=false by simp[eP,ht]);have HT:=jD ht;clear ht;go_enter Tryz.func90,Tryz.ntmps90;go_wp2_with fail
  (with_reducible refine(yL t _).mono ?_);rintro e w1 ⟨rfl,rfl⟩;rw[HT.o];go_wp2;go_ret;exact⟨dU H.o.symm,aG _⟩
 by_cases h0:0≤n
 ·have H:=jD (show eP t n=decide (n < 32) by simp[eP,ht,h0]);have HT:=jD ht;clear ht;go_enter Tryz.func90,Tryz.ntmps90;go_wp2_with fail
  (with_reducible refine(yL t _).mono ?_);rintro e w1 ⟨rfl,rfl⟩;rw[HT.o];go_wp2;go_ret;exact⟨dU H.o.symm,aG _⟩
 ·have H:=jD (show eP t n=false by simp[eP,h0]);have HT:=jD ht;have hd:decide (0≤n)=false:=by simpa using h0
  clear ht;go_enter Tryz.func90,Tryz.ntmps90;go_wp2_with fail
  (with_reducible refine(yL t _).mono ?_);rintro e w1 ⟨rfl,rfl⟩;rw[HT.o];go_wp2;go_ret;exact⟨dU H.o.symm,aG _⟩
theorem R9.info:(Tryz.prog.info? 4).map (fun i=>(i.zero,i.size,i.bytes))=some (some (.bool false),1,1):=by kernel_rfl
def tK (vs:List Bool) (t n:Int) (x:Nd):Bool:=
 if x.k=1 then true
 else if x.k=2 then bits .and .i64 (t / 2^x.a.toNat) 1==1
 else if x.k=3 then decide (x.a≤n)&&decide (n < x.b)
 else if x.k=4 then !(vs.getD x.a.toNat false)
 else if x.k=5 then vs.getD x.a.toNat false&&vs.getD x.b.toNat false
 else vs.getD x.a.toNat false || vs.getD x.b.toNat false
def valsK (l:cH) (t n:Int):Nat→List Bool
 | 0=>[]
 | k+1=>valsK l t n k++[tK (valsK l t n k) t n (l.getD k ⟨0,0,0⟩)]
theorem yK (l:cH) (t n:Int) (k:Nat):(valsK l t n k).length=k:=by
 induction k with
 | zero=>rfl
 | succ k ih=>simp [valsK,ih]
def qV (l:cH) (t n:Int):Bool:=(valsK l t n l.length).getD (l.length - 1) false
end Go.Proofs.YtajgndoiddmbmaaGreatDoor
