/- The reference's sets of dots: what (Dots).Has and (Dots).With do. Written by a small program (gen/dots1.py). The reference's Form: the form of a set of dots. Written by a small program (gen/dots2.py). The laws' sets of dots: what reedkeep.set does. Written by a small program (gen/dots3.py). -/
import Derived.Test.YtgkgdedhicnohaaGreatChecked
import Derived.Laws.Bits64b
import Derived.Deep.QuietTactic
import Derived.BigQuiet
import Derived.Test.YtgkgdedhicnohaaGreatMKnow5
namespace Go.Proofs.YtgkgdedhicnohaaGreat
set_option maxRecDepth 100000
set_option maxHeartbeats 40000000
open Go.RowKit
def dotC (m:Nat→Nat):Array Value:=((List.range 80).map fun k=>Value.int .u64 (m k)).toArray
theorem dotC_size (m:Nat→Nat):(dotC m).size=80:=by simp[dotC]
theorem dotC_get (m:Nat→Nat) (k:Nat) (h:k < 80):(dotC m)[k]? =some (.int .u64 (m k)):=by simp[dotC,h]
theorem dotC_set (m:Nat→Nat) (k:Nat) (x:Nat):(dotC m).setIfInBounds k (.int .u64 x)=dotC (fun j=>if j=k then x else m j):=by
 apply Array.ext
 ·simp[dotC]
 ·intro i h1 h2
  simp only[Array.size_setIfInBounds,dotC_size] at h1
  by_cases h:k=i
  ·subst h;simp [dotC]
  ·rw[Array.getElem_setIfInBounds_ne (by simpa[dotC] using h1) h]
   simp[dotC,show ¬i=k from fun e=>h e.symm]
theorem dotC_zero:dotC (fun _=>0)=Array.replicate 80 (.int .u64 0):=by
 apply Array.ext
 ·simp[dotC]
 ·intro i h1 h2;simp [dotC]
def memD (m:Nat→Nat) (s c:Nat):Bool:=(m (s*16+c / 64)).testBit (c%64)
def withD (m:Nat→Nat) (s c:Nat):Nat→Nat:=fun j=>if j=s*16+c / 64 then m j ||| 2^(c%64) else m j
def DWord (m:Nat→Nat):Prop:= ∀k,m k < 18446744073709551616
theorem withD_word {m:Nat→Nat} (h:DWord m) (s c:Nat):DWord (withD m s c):=by
 intro k
 unfold withD
 split
 ·exact Nat.or_lt_two_pow (n:=64) (h k) (Nat.pow_lt_pow_right (by decide) (Nat.mod_lt _ (by decide)))
 ·exact h k
theorem memD_with (m:Nat→Nat) (s c s' c':Nat) (hc:c < 1024) (hc':c' < 1024):memD (withD m s c) s' c'=(memD m s' c' || decide (s'=s∧c'=c)):=by
 unfold memD withD
 by_cases h:s'*16+c' / 64=s*16+c / 64
 ·have e1:s'=s:=by omega
  have e2:c' / 64=c / 64:=by omega
  rw[if_pos h,Nat.testBit_or,Nat.testBit_two_pow]
  congr 1
  rw[decide_eq_decide]
  omega
 ·rw[if_neg h]
  have: ¬(s'=s∧c'=c):=by rintro⟨rfl,rfl⟩;exact h rfl
  simp[this]
theorem DotsTy.size (m:Nat→Nat):(Tryz.prog.info? 162).map (·.size)=some (dotC m).size:=by rw[dotC_size];kernel_rfl
theorem dotC_one (m:Nat→Nat):(dotC m).all (·.oneCell')=true:=by simp[dotC,Value.oneCell']
theorem bit_u64 (x r:Nat) (hx:x < 18446744073709551616):(bits BinOp.and IntKind.u64 ((x:Int) / 2^r) 1==1)=x.testBit r:=by
 have e:(x:Int) / 2^r=((x / 2^r:Nat):Int):=by simp
 have h:x / 2^r≤x:=Nat.div_le_self _ _
 rw[e,show(1:Int)=((1:Nat):Int) from rfl,bits_and_u64_nat _ _ (by omega) (by decide),Nat.and_one_is_mod,Nat.testBit_eq_decide_div_mod_eq]
 generalize x / 2^r%2=z
 rw[Bool.eq_iff_iff,beq_iff_eq,decide_eq_true_eq]
 omega
theorem dhas_c (m:Nat→Nat) (s c:Nat) (w:World) (hm:DWord m) (hs:s < 5) (hc:c < 1024):
  Calls Tryz.prog 92 #[.agg (dotC m), .agg #[.int .i64 s, .int .i64 c]] w fun e w'=>e= .returned (.bool (memD m s c))∧Below w.heap.size w w':=by
 have HT:=jD (show(w.alloc (.cells (dotC m) 162)).heap[w.heap.size]? =some (Obj.cells (dotC m) 162 (0,0)) from alloc_new _ _ _ _ rfl)
 obtain⟨W,hW⟩: ∃W,W=(w.alloc (.cells (dotC m) 162)).alloc (.cells #[.int .i64 s, .int .i64 c] 41):=⟨_,rfl⟩
 have hbW:Below w.heap.size w W:=by rw[hW];exact (bal _).alloc (by simp) _
 obtain⟨q,hqd⟩: ∃q,q=c / 64:=⟨_,rfl⟩
 obtain⟨r,hrd⟩: ∃r,r=c%64:=⟨_,rfl⟩
 have T:=cell_of_block (j:=s*16+q) (show W.heap[w.heap.size]? =some (Obj.cells (dotC m) 162 (0,0)) by rw[hW];exact alloc_keep _ HT.out) (dotC_get m _ (by omega))
 have S0:=(show W.cell? ⟨w.heap.size+1,0,none⟩=some (.int .i64 s) by rw[hW];exact cat _ _ _ 0 _ rfl _ (by simp))
 have S1:=(show W.cell? ⟨w.heap.size+1,1,none⟩=some (.int .i64 c) by rw[hW];exact cat _ _ _ 1 _ rfl _ (by simp))
 have HBW:=jD hbW
 have HMW:=jD (hm (s*16+q))
 have HM:=jD (show memD m s c=(m (s*16+q)).testBit r by rw[hqd,hrd];rfl)
 clear hbW HT hm
 have hq:((c:Int) / 64)=(q:Int):=by omega
 have hr:((c:Int)%64)=(r:Int):=by omega
 have hq16:q < 16:=by omega
 have hr64:r < 64:=by omega
 clear hqd hrd
 go_enter Tryz.func92,Tryz.ntmps92
 go_wp2_with fail
 rw[←hW]
 clear hW
 go_quiet (fail)
 go_wp2
 go_ret
 exact⟨ret_bool (by rw[HM.out];exact bit_u64 _ _ HMW.out),below_drewN HBW.out _⟩
theorem wrap_pow (r:Nat) (hr:r < 64):IntKind.u64.wrap (2^r)=2^r:=by
 have h:2^r < 2^64:=Nat.pow_lt_pow_right (by decide) hr
 have e:((2:Int)^r)=((2^r:Nat):Int):=by simp
 rw[IntKind.wrap_u64,e]
 generalize 2^r=y at*
 omega
theorem or_bit (x r:Nat) (hx:x < 18446744073709551616) (hr:r < 64):bits .or .u64 (x:Int) (2^r)=((x ||| 2^r:Nat):Int):=by
 have e:((2:Int)^r)=((2^r:Nat):Int):=by simp
 have h:2^r < 2^64:=Nat.pow_lt_pow_right (by decide) hr
 rw[e,bits_or_u64_nat _ _ hx (by omega)]
theorem dwith_c (m:Nat→Nat) (s c:Nat) (w:World) (hm:DWord m) (hs:s < 5) (hc:c < 1024):
  Calls Tryz.prog 148 #[.agg (dotC m), .agg #[.int .i64 s, .int .i64 c]] w fun e w'=>e= .returned (.agg (dotC (withD m s c)))∧Below w.heap.size w w':=by
 have HT:=jD (show(w.alloc (.cells (dotC m) 162)).heap[w.heap.size]? =some (Obj.cells (dotC m) 162 (0,0)) from alloc_new _ _ _ _ rfl)
 obtain⟨z,hz⟩: ∃z,z=dotC (fun _=>0):=⟨_,rfl⟩
 have hz2:z=Tryz.zeroCells162:=by rw[hz,dotC_zero];rfl
 obtain⟨W,hW⟩: ∃W,W=((w.alloc (.cells (dotC m) 162)).alloc (.cells #[.int .i64 s, .int .i64 c] 41)).alloc (.cells z 162):=⟨_,rfl⟩
 have hbW:Below w.heap.size w W:=by rw[hW];exact ((bal _).alloc (by simp) _).alloc (by simp;omega) _
 obtain⟨q,hqd⟩: ∃q,q=c / 64:=⟨_,rfl⟩
 obtain⟨r,hrd⟩: ∃r,r=c%64:=⟨_,rfl⟩
 have BT:=jD (show W.heap[w.heap.size]? =some (Obj.cells (dotC m) 162 (0,0)) by rw[hW];exact alloc_keep _ (alloc_keep _ HT.out))
 have BZ:=jD (show W.heap[w.heap.size+2]? =some (Obj.cells z 162 (0,0)) by rw[hW];exact alloc_new _ _ _ _ (by simp))
 have TC:=jD (cell_of_block (j:=s*16+q) BT.out (dotC_get m _ (by omega)))
 have S0:=jD (show W.cell? ⟨w.heap.size+1,0,none⟩=some (.int .i64 s) by rw[hW];exact cpast _ (cat _ _ _ 0 _ rfl _ (by simp)))
 have S1:=jD (show W.cell? ⟨w.heap.size+1,1,none⟩=some (.int .i64 c) by rw[hW];exact cpast _ (cat _ _ _ 1 _ rfl _ (by simp)))
 have HBW:=jD hbW
 have HMW:=jD (hm (s*16+q))
 have HM:=jD (show withD m s c=fun j=>if j=s*16+q then m (s*16+q) ||| 2^r else m j by
  rw[hqd,hrd];funext j;unfold withD;by_cases e:j=s*16+c / 64;rw [if_pos e,if_pos e,e];rw [if_neg e,if_neg e])
 clear hbW HT hm
 have hq:((c:Int) / 64)=(q:Int):=by omega
 have hr:((c:Int)%64)=(r:Int):=by omega
 have hq16:q < 16:=by omega
 have hr64:r < 64:=by omega
 have HOR:=jD (or_bit (m (s*16+q)) r HMW.out hr64)
 have HWR:=jD (wrap_pow r hr64)
 have HLT:=hlt_of BZ.out
 clear hqd hrd
 go_enter Tryz.func148,Tryz.ntmps148
 go_wp2_with fail
 rw[←hz2,show w.heap.size+1+1=w.heap.size+2 from rfl,←hW]
 clear hW hz2
 refine Cl.region0 21 rfl [15] (fun ww=>Below W.heap.size W ww) (fun _=>[]) (fun jq v ww=>match jq with | 0=>v= .pointer (some ⟨w.heap.size+1,0,none⟩) | 1=>v= .int .i64 s | 2=>v= .pointer (some ⟨w.heap.size+1,1,none⟩) | 3=>v= .int .i64 c | 4=>v= .int .i64 q | 5=>v= .pointer (some ⟨w.heap.size,s*16,none⟩) | 6=>v= .pointer (some ⟨w.heap.size,s*16+q,none⟩) | 7=>v= .int .u64 (m (s*16+q)) | 8=>v= .pointer (some ⟨w.heap.size+1,1,none⟩) | 9=>v= .int .i64 c | 10=>v= .int .i64 r | 11=>v= .int .u64 (2^r) | 12=>v= .int .u64 (((m (s*16+q) ||| 2^r:Nat)):Int) | 13=>v= .pointer (some ⟨w.heap.size,s*16,none⟩) | 14=>v= .pointer (some ⟨w.heap.size,s*16+q,none⟩) | 15=> ∃wz,Below W.heap.size W wz∧Below (wz.setCell ⟨w.heap.size,s*16+q,none⟩ (.int .u64 (((m (s*16+q) ||| 2^r:Nat)):Int))).heap.size (wz.setCell ⟨w.heap.size,s*16+q,none⟩ (.int .u64 (((m (s*16+q) ||| 2^r:Nat)):Int))) ww | _=>True) (fun ww=>True) (fun jq ww ww'=>jq≠15→Below ww.heap.size ww ww') Tryz.mixed (by decide+kernel) trivial ((Below.refl _ _).drew) ?_ (fun jq ww ww' hk h hR=>bstep h (hR (by simpa using hk))) ?_ ?_
 ·intro q r v w w' hne hk hlt h hR
  match r,hk,hlt,h,hne with
  | 0,_,_,h,_=>exact h
  | 1,_,_,h,_=>exact h
  | 2,_,_,h,_=>exact h
  | 3,_,_,h,_=>exact h
  | 4,_,_,h,_=>exact h
  | 5,_,_,h,_=>exact h
  | 6,_,_,h,_=>exact h
  | 7,_,_,h,_=>exact h
  | 8,_,_,h,_=>exact h
  | 9,_,_,h,_=>exact h
  | 10,_,_,h,_=>exact h
  | 11,_,_,h,_=>exact h
  | 12,_,_,h,_=>exact h
  | 13,_,_,h,_=>exact h
  | 14,_,_,h,_=>exact h
  | 15,_,_,h,hne=>obtain ⟨wz,h1,h2⟩:=h;exact ⟨wz,h1,bstep h2 (hR (by exact hne))⟩
  | _+16,_,_,_,_=>trivial
 ·refine⟨?_, ?_, ?_, ?_, ?_, ?_, ?_, ?_, ?_, ?_, ?_, ?_, ?_, ?_, ?_, ?_,trivial⟩
  ·intro x wx hG
   have f3:=hG.o 3
   have hp:=hG.p
   replace hG:=hG.good
   have hG:=hp
   go_wp2
   exact⟨_,rfl,rfl,trivial,fun _=>Below.refl _ _⟩
  ·intro x wx hG
   have g0:(x.tmps.getD 5 undef)= .pointer (some ⟨w.heap.size+1,0,none⟩):=hG.c 0 _ rfl
   have hp:=hG.p
   replace hG:=hG.good
   have hG:=hp
   have c_S0:=ckeep hG S0.out
   go_wp2
   exact⟨_,rfl,rfl,trivial,fun _=>Below.refl _ _⟩
  ·intro x wx hG
   have f3:=hG.o 3
   have hp:=hG.p
   replace hG:=hG.good
   have hG:=hp
   go_wp2
   exact⟨_,rfl,rfl,trivial,fun _=>Below.refl _ _⟩
  ·intro x wx hG
   have g2:(x.tmps.getD 7 undef)= .pointer (some ⟨w.heap.size+1,1,none⟩):=hG.c 2 _ rfl
   have hp:=hG.p
   replace hG:=hG.good
   have hG:=hp
   have c_S1:=ckeep hG S1.out
   go_wp2
   exact⟨_,rfl,rfl,trivial,fun _=>Below.refl _ _⟩
  ·intro x wx hG
   have g3:(x.tmps.getD 8 undef)= .int .i64 c:=hG.c 3 _ rfl
   have hp:=hG.p
   replace hG:=hG.good
   have hG:=hp
   go_wp2
   exact⟨_,rfl,rfl,trivial,fun _=>Below.refl _ _⟩
  ·intro x wx hG
   have f2:=hG.o 2
   have g1:(x.tmps.getD 6 undef)= .int .i64 s:=hG.c 1 _ rfl
   have hp:=hG.p
   replace hG:=hG.good
   have hG:=hp
   go_wp2
   exact⟨_,rfl,rfl,trivial,fun _=>Below.refl _ _⟩
  ·intro x wx hG
   have g5:(x.tmps.getD 10 undef)= .pointer (some ⟨w.heap.size,s*16,none⟩):=hG.c 5 _ rfl
   have g4:(x.tmps.getD 9 undef)= .int .i64 q:=hG.c 4 _ rfl
   have hp:=hG.p
   replace hG:=hG.good
   have hG:=hp
   go_wp2
   exact⟨_,rfl,rfl,trivial,fun _=>Below.refl _ _⟩
  ·intro x wx hG
   have g6:(x.tmps.getD 11 undef)= .pointer (some ⟨w.heap.size,s*16+q,none⟩):=hG.c 6 _ rfl
   have hp:=hG.p
   replace hG:=hG.good
   have hG:=hp
   have c_TC:=ckeep hG TC.out
   go_wp2
   exact⟨_,rfl,rfl,trivial,fun _=>Below.refl _ _⟩
  ·intro x wx hG
   have f3:=hG.o 3
   have hp:=hG.p
   replace hG:=hG.good
   have hG:=hp
   go_wp2
   exact⟨_,rfl,rfl,trivial,fun _=>Below.refl _ _⟩
  ·intro x wx hG
   have g8:(x.tmps.getD 13 undef)= .pointer (some ⟨w.heap.size+1,1,none⟩):=hG.c 8 _ rfl
   have hp:=hG.p
   replace hG:=hG.good
   have hG:=hp
   have c_S1:=ckeep hG S1.out
   go_wp2
   exact⟨_,rfl,rfl,trivial,fun _=>Below.refl _ _⟩
  ·intro x wx hG
   have g9:(x.tmps.getD 14 undef)= .int .i64 c:=hG.c 9 _ rfl
   have hp:=hG.p
   replace hG:=hG.good
   have hG:=hp
   go_wp2
   rw[hr]
   exact⟨_,rfl,rfl,trivial,fun _=>Below.refl _ _⟩
  ·intro x wx hG
   have g10:(x.tmps.getD 15 undef)= .int .i64 r:=hG.c 10 _ rfl
   have hp:=hG.p
   replace hG:=hG.good
   have hG:=hp
   go_wp2
   rw[HWR.out]
   exact⟨_,rfl,rfl,trivial,fun _=>Below.refl _ _⟩
  ·intro x wx hG
   have g7:(x.tmps.getD 12 undef)= .int .u64 (m (s*16+q)):=hG.c 7 _ rfl
   have g11:(x.tmps.getD 16 undef)= .int .u64 (2^r):=hG.c 11 _ rfl
   have hp:=hG.p
   replace hG:=hG.good
   have hG:=hp
   have hor:=HOR.out
   go_wp2
   exact⟨_,rfl,rfl,trivial,fun _=>Below.refl _ _⟩
  ·intro x wx hG
   have f2:=hG.o 2
   have g1:(x.tmps.getD 6 undef)= .int .i64 s:=hG.c 1 _ rfl
   have hp:=hG.p
   replace hG:=hG.good
   have hG:=hp
   go_wp2
   exact⟨_,rfl,rfl,trivial,fun _=>Below.refl _ _⟩
  ·intro x wx hG
   have g13:(x.tmps.getD 18 undef)= .pointer (some ⟨w.heap.size,s*16,none⟩):=hG.c 13 _ rfl
   have g4:(x.tmps.getD 9 undef)= .int .i64 q:=hG.c 4 _ rfl
   have hp:=hG.p
   replace hG:=hG.good
   have hG:=hp
   go_wp2
   exact⟨_,rfl,rfl,trivial,fun _=>Below.refl _ _⟩
  ·intro x wx hG
   have g14:(x.tmps.getD 19 undef)= .pointer (some ⟨w.heap.size,s*16+q,none⟩):=hG.c 14 _ rfl
   have g12:(x.tmps.getD 17 undef)= .int .u64 (((m (s*16+q) ||| 2^r:Nat)):Int):=hG.c 12 _ rfl
   have hp:=hG.p
   replace hG:=hG.good
   have hG:=hp
   have hR:=below_keep hp BT.out
   have r0:=cell_of_block (j:=s*16+q) hR (dotC_get m _ (by omega))
   have f0:=free_of_block (j:=s*16+q) hR
   have hRl:=hlt_of hR
   have HP:=jD hp
   clear hR hp
   generalize ((m (s*16+q) ||| 2^r:Nat):Int)=xx at*
   go_wp2
   exact⟨undef,rfl,⟨_,HP.out,Below.refl _ _⟩,trivial,fun h=>absurd rfl h⟩
 ·intro vals w3 hg hF
  obtain⟨g0,g1,g2,g3,g4,g5,g6,g7,g8,g9,g10,g11,g12,g13,g14,g15, -⟩:=hF
  have e0:=gq (vals 0) g0
  have e1:=gq (vals 1) g1
  have e2:=gq (vals 2) g2
  have e3:=gq (vals 3) g3
  have e4:=gq (vals 4) g4
  have e5:=gq (vals 5) g5
  have e6:=gq (vals 6) g6
  have e7:=gq (vals 7) g7
  have e8:=gq (vals 8) g8
  have e9:=gq (vals 9) g9
  have e10:=gq (vals 10) g10
  have e11:=gq (vals 11) g11
  have e12:=gq (vals 12) g12
  have e13:=gq (vals 13) g13
  have e14:=gq (vals 14) g14
  replace g15: ∃wz,Below W.heap.size W wz∧Below (wz.setCell ⟨w.heap.size,s*16+q,none⟩ (.int .u64 (((m (s*16+q) ||| 2^r:Nat)):Int))).heap.size (wz.setCell ⟨w.heap.size,s*16+q,none⟩ (.int .u64 (((m (s*16+q) ||| 2^r:Nat)):Int))) w3:=g15 rfl
  simp only[Cl.puts,e0,e1,e2,e3,e4,e5,e6,e7,e8,e9,e10,e11,e12,e13,e14]
  clear e0 e1 e2 e3 e4 e5 e6 e7 e8 e9 e10 e11 e12 e13 e14 g0 g1 g2 g3 g4 g5 g6 g7 g8 g9 g10 g11 g12 g13 g14
  go_simp
  obtain⟨wz,h1,h2⟩:=g15
  have hbl:=(HBW.out.trans (h1.mono HBW.out.size)).setCell (p:=⟨w.heap.size,s*16+q,none⟩) (by exact Nat.le_refl _) (.int .u64 ((m (s*16+q) ||| 2^r:Nat):Int))
  have hbl:=hbl.trans (h2.mono hbl.size)
  have hT:=below_keep h2 ((heap_set_same (below_keep h1 BT.out)).trans (congrArg (fun x=>some (Obj.cells x 162 (0,0))) (dotC_set m (s*16+q) (m (s*16+q) ||| 2^r))))
  have hZ:=below_keep h2 ((heap_set_other (by omega)).trans (below_keep h1 BZ.out))
  rw[←HM.out,hz] at*
  have HT:=jD hT
  have HZ:=jD hZ
  have hi:=jD (DotsTy.size (withD m s c))
  clear hT hZ h1 h2 TC
  go_wp2_with (first | (with_reducible refine wpList_load_row rfl 162 (.tmp 2) rfl w.heap.size rfl 162 (dotC (withD m s c)) (0,0) _ HT.out Tryz.underlying162 rfl hi.out ?_) | (with_reducible refine wpList_store_row rfl 162 (.tmp 4) (.tmp 20) rfl (w.heap.size+2) (dotC (withD m s c)) rfl rfl 162 _ HZ.out hi.out ?sz ?one ?_))
  case sz=>simp [dotC_size]
  case one=>simp [dotC,Value.oneCell']
  exact bodyPost_ret (results_cell_row rfl _ _ (w.heap.size+2) 162 (dotC (withD m s c)) (0,0) _ rfl (setRow_heap _ _ _ _ _ _ HZ.out) Tryz.underlying162 rfl hi.out) rfl ⟨rfl,below_setRow hbl (by omega) _⟩
theorem own_kept2 {w w':World} {b1 b2 e1 e2 s1 s2 n k:Nat} {u v:Value} {xs ys:List Value} (h1:w.ownsRow b1 e1 s1 u n xs) (h2:w.ownsRow b2 e2 s2 v k ys) (hne:e1≠e2) (hg:w.grownBy w' v.ownBlock):w'.ownsRow b1 e1 s1 u n xs:=by
 rcases h1.2 with⟨rfl, -⟩ | ⟨g,cap,cur,rfl, -,hg1, -⟩
 ·exact h1.kept hg (.inl rfl)
 ·exact h1.kept hg (.inr (own_off h2 hg1 hne).symm)
section
variable {m:Nat→Nat} {w wr:World} {uv uw:Value} {vs:List Int} {ds:Dots}
end
def wiN (k m:Int):Nat:=(k%18446744073709551616%m).toNat
theorem wiN_lt (k:Int) (m:Nat) (hm:0 < m):wiN k m < m:=by
 have h1:=Int.emod_nonneg (k%18446744073709551616) (show(m:Int)≠0 by omega)
 have h2:=Int.emod_lt_of_pos (k%18446744073709551616) (show 0 < (m:Int) by omega)
 unfold wiN
 generalize k%18446744073709551616%(m:Int)=z at*
 omega
theorem wiN_eq (k m:Int) (hm:1≤m) (hm2:m≤9223372036854775807):wrap64 ((IntKind.u64.wrap k).tmod m)=(wiN k m:Int):=by
 rw[IntKind.wrap_u64]
 have h0:0≤k%18446744073709551616:=Int.emod_nonneg _ (by decide)
 rw[Int.tmod_eq_emod_of_nonneg h0]
 have h1:=Int.emod_nonneg (k%18446744073709551616) (show m≠0 by omega)
 have h2:=Int.emod_lt_of_pos (k%18446744073709551616) (show 0 < m by omega)
 rw[IntWalk.wrap64_in _ (by omega)]
 unfold wiN
 generalize k%18446744073709551616%m=z at*
 omega
theorem wiN_c (k m:Int) (w:World) (hm:1≤m) (hm2:m≤9223372036854775807):
  Calls Tryz.prog 16 #[.int .i64 k, .int .i64 m] w fun e w'=>e= .returned (.int .i64 ((wiN k m:Nat):Int))∧Below w.heap.size w w':=by
 go_enter Tryz.func16,Tryz.ntmps16
 go_wp2
 go_ret
 exact⟨ret_int (wiN_eq k m hm hm2),Below.refl _ _⟩
theorem setRow_other {w:World} {g k:Nat} {cs:Array Value} (h:g≠k):(w.setRow g cs).heap[k]? =w.heap[k]? :=by
 unfold World.setRow
 simp only
 rw[Array.getElem?_modify,if_neg h]
end Go.Proofs.YtgkgdedhicnohaaGreat
