/- What the functions of package span do, one contract a function: span.In, span.Check, span.Make. What the functions of package span do, one contract a function: two, Has, Join, Meet, Less, Within, Count; and slices.Equal at spans. What reedref.Told, reedkeep.spans and reedkeep.every do. Plain laws on sets of numbers: what 'make' has is what its predicate says; its form is the only one; 'told' is 'make'. No program in sight. The contracts of package span at sets that 'make' made: what the laws lean on. -/
import Derived.Test.YtgkgdedhicnohaaGreatChecked
import Derived.Test.YtgkgdedhicnohaaGreatMPure
import Derived.Deep.QuietTactic
import Derived.BigQuiet
import Derived.WalkSmall
namespace Go.Proofs.YtgkgdedhicnohaaGreat
set_option maxRecDepth 100000
set_option maxHeartbeats 40000000
open Go.RowKit
theorem inB_take (l:Spans) (n:Int) (k:Nat) (hk:k < l.length):inB (l.take (k+1)) n=(inB (l.take k) n || (decide (l[k].1≤n)&&decide (n < l[k].2))):=by
 rw[List.take_succ_eq_append_getElem hk];simp only[inB,List.any_append,List.any_cons,List.any_nil,Bool.or_false]
theorem inB_hit (l:Spans) (n:Int) (k:Nat) (hk:k < l.length) (h1:l[k].1≤n) (h2:n < l[k].2):inB l n=true:=
 List.any_eq_true.2 ⟨l[k],List.getElem_mem hk,by simp[h1,h2]⟩
theorem in_c (v:Value) (l:Spans) (n:Int) (w:World) (hs:SpansAt w v l):
  Calls Tryz.prog 124 #[v, .int .i64 n] w fun e w'=>e= .returned (.bool (inB l n))∧Below w.heap.size w w':=by
 obtain⟨a,cap,rfl,hcap,hm,hl⟩:=hs.open_
 clear hs hcap
 go_enter Tryz.func124,Tryz.ntmps124
 go_wp2
 go_loopw [9] (fun i wr=> ∃k:Nat,k≤l.length∧i= .int .i64 k∧inB (l.take k) n=false∧Below w.heap.size w wr) (fun i _=>l.length - (intOf i).toNat)
 case atStart=>exact ⟨0,Nat.zero_le _,rfl,rfl,Below.refl _ _⟩
 case round=>
  obtain⟨k,hk,rfl,hno,hbl⟩:=hrel
  by_cases hlt:k < l.length
  ·rcases hl with rfl | ⟨b,off,rfl,hb,hc⟩
   ·simp at hlt
   obtain⟨c1,c2⟩:=hc k hlt
   have d1:=(hbl.cell (p:=⟨b,off+k*2,none⟩) hb).trans c1
   have d2:=(hbl.cell (p:=⟨b,off+k*2+1,none⟩) hb).trans c2
   have HN:=jD hno
   clear c1 c2 hc hno
   go_wp2
   ·go_ret
    exact⟨ret_bool (inB_hit l n k hlt (by assumption) (by assumption)).symm,(hbl.alloc hbl.size _)⟩
   all_goals
    go_roundw
    case rel=>exact ⟨k+1,by omega,by go_num,by rw[inB_take l n k hlt,HN.out];simp [*];try omega,hbl.alloc hbl.size _⟩
    case measure=>simp [intOf];omega
  ·go_wp2
   go_ret
   have:k=l.length:=by omega
   subst this
   exact⟨ret_bool (by rw[List.take_length] at hno;exact hno.symm),hbl⟩
def chkAt (l:Spans) (k:Nat):Int:=chkFrom (if h:k=0∨l.length < k then -1 else(l[k - 1]'(by omega)).2) (l.drop k)
theorem chkAt_zero (l:Spans):chkAt l 0=chkFrom (-1) l:=by simp[chkAt]
theorem chkAt_end (l:Spans):chkAt l l.length=0:=by simp[chkAt,chkFrom]
theorem chkAt_bad (l:Spans) (k:Nat) (hk:k < l.length) (h:l[k].1 < 0∨32 < l[k].2∨l[k].2≤l[k].1):chkAt l k=1:=by
 unfold chkAt;rw [List.drop_eq_getElem_cons hk];simp only[chkFrom];rw [if_pos h]
theorem chkAt_form (l:Spans) (k:Nat) (hk:k+1 < l.length) (h: ¬(l[k+1].1 < 0∨32 < l[k+1].2∨l[k+1].2≤l[k+1].1)) (h2:l[k+1].1≤l[k].2):chkAt l (k+1)=3:=by
 unfold chkAt;rw [List.drop_eq_getElem_cons hk];simp only[chkFrom];rw [if_neg h,dif_neg (by omega)];simp [h2]
theorem chkAt_zero_ok (l:Spans) (hk:0 < l.length) (h: ¬(l[0].1 < 0∨(32:Int) < l[0].2∨l[0].2≤l[0].1)):chkAt l 0=chkAt l 1:=by
 have e:chkAt l 1=chkFrom l[0].2 (l.drop 1):=by unfold chkAt;rw [dif_neg (by omega)]
 rw[e];unfold chkAt;rw [dif_pos (.inl rfl),List.drop_eq_getElem_cons hk];simp only[chkFrom];rw [if_neg h,if_neg (by omega)]
theorem chkAt_succ_ok (l:Spans) (k:Nat) (hk:k+1 < l.length) (h: ¬(l[k+1].1 < 0∨32 < l[k+1].2∨l[k+1].2≤l[k+1].1)) (h2:l[k].2 < l[k+1].1):chkAt l (k+1)=chkAt l (k+2):=by
 have e:chkAt l (k+2)=chkFrom l[k+1].2 (l.drop (k+2)):=by unfold chkAt;rw [dif_neg (by omega)];rfl
 rw[e];unfold chkAt;rw [dif_neg (by omega),List.drop_eq_getElem_cons hk];simp only[chkFrom];rw [if_neg h,if_neg (by simp;omega)]
theorem spanChk_c (v:Value) (l:Spans) (w:World) (hs:SpansAt w v l):
  Calls Tryz.prog 80 #[v] w fun e w'=>e= .returned (.int .i64 (spansChk l))∧Below w.heap.size w w':=by
 obtain⟨a,cap,rfl,hcap,hm,hl⟩:=hs.open_
 clear hs hcap
 by_cases h16:16 < l.length
 ·go_enter Tryz.func80,Tryz.ntmps80
  go_wp2
  go_ret
  exact⟨ret_int (by simp[spansChk,h16]),Below.refl _ _⟩
 go_enter Tryz.func80,Tryz.ntmps80
 go_wp2
 go_loopw [10] (fun i wr=> ∃k:Nat,k≤l.length∧i= .int .i64 k∧chkAt l 0=chkAt l k∧Below w.heap.size w wr) (fun i _=>l.length - (intOf i).toNat)
 case atStart=>exact ⟨0,Nat.zero_le _,rfl,rfl,Below.refl _ _⟩
 case round=>
  obtain⟨k,hk,rfl,hno,hbl⟩:=hrel
  by_cases hlt:k < l.length
  ·rcases hl with rfl | ⟨b,off,rfl,hb,hc⟩
   ·simp at hlt
   obtain⟨c1,c2⟩:=hc k hlt
   have d1:=(hbl.cell (p:=⟨b,off+k*2,none⟩) hb).trans c1
   have d2:=(hbl.cell (p:=⟨b,off+k*2+1,none⟩) hb).trans c2
   have HN:=jD hno
   clear c1 c2 hno
   by_cases hbad:l[k].1 < 0∨32 < l[k].2∨l[k].2≤l[k].1
   ·have hch:=chkAt_bad l k hlt hbad
    clear hc
    have hr:spansChk l=1:=by rw[spansChk,if_neg h16,←chkAt_zero,HN.out,hch]
    have HR:=jD hr
    clear hr hch
    go_wp2
    all_goals go_ret
    all_goals exact⟨ret_int HR.out.symm,hbl.alloc hbl.size _⟩
   ·cases k with
    | zero=>
     have HC:=jD (chkAt_zero_ok l hlt hbad)
     rw[Nat.zero_mul,Nat.add_zero] at d1 d2
     clear hc
     have hq:(decide (l[0].1 < 0) || decide (32 < l[0].2) || decide (l[0].2≤l[0].1))=false:=by simp;omega
     go_wp2
     go_quiet (fail)
     go_wp2
     go_roundw
     case rel=>exact ⟨1,by omega,by go_num,HC.out,below_drewN (hbl.alloc hbl.size _) _⟩
     case measure=>simp [intOf];omega
    | succ k=>
     obtain⟨-,c2⟩:=hc k (by omega)
     have d3:=(hbl.cell (p:=⟨b,off+k*2+1,none⟩) hb).trans c2
     have HF:=jD (chkAt_form l k hlt hbad)
     have HO:=jD (chkAt_succ_ok l k hlt hbad)
     clear hc c2
     have hk0:decide ((0:Int) < (k:Int)+1)=true:=by simp
     have hw:=IntWalk.i64_in ((k:Int)+1 - 1) (by omega)
     have hw2:((k:Int)+1 - 1)=k:=by omega
     rw[hw2] at hw
     have hi:(k:Int) < l.length:=by omega
     have hbw:b < wr.heap.size:=Nat.lt_of_lt_of_le hb hbl.size
     go_wp2
     go_quiet (fail)
     go_wp2
     ·go_ret
      exact⟨ret_int (by rw[spansChk,if_neg h16,←chkAt_zero,HN.out,HF.out (by assumption)]),below_drewN (hbl.alloc hbl.size _) _⟩
     ·go_roundw
      case rel=>exact ⟨k+2,by omega,by go_num,HN.out.trans (HO.out (by assumption)),below_drewN (hbl.alloc hbl.size _) _⟩
      case measure=>simp [intOf];omega
  ·go_wp2
   go_ret
   have:k=l.length:=by omega
   subst this
   exact⟨ret_int (by rw[chkAt_end] at hno;rw [spansChk,if_neg h16,←chkAt_zero,hno]),hbl⟩
theorem SpanTy.info:(Tryz.prog.info? 119).map (fun i=>(i.zero,i.size,i.bytes))=some (some (.agg #[.int .i64 0, .int .i64 0]),2,16):=by kernel_rfl
def Pred (g:FuncId) (caps:Array Value) (p:Nat→Bool) (w:World):Prop:=
 (∀args W,(callFunc g args).run Tryz.prog W= .ok (.enter g args) W)∧ ∀(n:Nat) (W:World),n < 32→Below w.heap.size w W→Calls Tryz.prog g (#[.int .i64 n]++caps) W fun e w'=>e= .returned (.bool (p n))∧Below W.heap.size W w'
theorem put1_length (l:Spans) (n:Int):(put1 l n).length≤l.length+1:=by
 unfold put1;split
 ·split <;> simp
 ·simp
theorem mk_length (p:Nat→Bool) (k:Nat):(mk p k).length≤k:=by
 induction k with
 | zero=>simp [mk]
 | succ k ih=>
         simp only[mk];split;· have:=put1_length (mk p k) k;omega
         omega
theorem make_c (g:FuncId) (caps:Array Value) (p:Nat→Bool) (w:World) (hg:Pred g caps p w):
  Calls Tryz.prog 173 #[.func (.func g) #[] caps] w fun e w'=> ∃v,e= .returned v∧w'.ownsRow w.heap.size 119 2 v (make p).length (spansCells (make p))∧Below w.heap.size w w':=by
 obtain⟨i0,hi,hz0,hz1,hz2⟩:=info_parts SpanTy.info
 obtain⟨hcall,hg⟩:=hg
 have HG:=jD hg
 clear hg
 go_enter Tryz.func173,Tryz.ntmps173
 go_wp2
 go_loopw [3,4] (fun v i wr=> ∃k:Nat,k≤32∧i= .int .i64 k∧wr.ownsRow w.heap.size 119 2 v (mk p k).length (spansCells (mk p k))∧Below w.heap.size w wr) (fun _ i _=>32 - (intOf i).toNat)
 case atStart=>exact ⟨0,Nat.zero_le _,rfl,World.ownsRow_nil _ _ _ _,Below.refl _ _⟩
 case round=>
  obtain⟨k,hk,rfl,hown,hbl⟩:=hrel
  by_cases hlt:k < 32
  ·go_wp2_with fail
   refine(HG.out k _ hlt hbl).mono ?_
   rintro e w1 ⟨rfl,hb1⟩
   have hbl1:=bstep hbl hb1
   have hown1:=owns_below hown hb1
   cases hp:p k
   ·go_wp2
    go_roundw
    case rel=>exact ⟨k+1,by omega,by go_num,by simpa[mk,hp] using hown1,hbl1⟩
    case measure=>simp [intOf];omega
   have hmk:mk p (k+1)=put1 (mk p k) k:=by simp[mk,hp]
   have hle:=mk_length p k
   clear hown hb1 hbl
   generalize mk p k=m at*
   have HM:=jD hmk
   clear hmk
   obtain⟨a,cap,rfl⟩:=owns_slice hown1
   rcases List.eq_nil_or_concat m with rfl | ⟨l,s,hcc⟩
   ·have HO:=jD hown1
    clear hown1
    go_wp2_with (at_builtin;refine wpList_append_new rfl (.tmp 36) (.tmp 41) 120 rfl w.heap.size 119 (.agg #[.int .i64 0, .int .i64 0]) 2 16 Tryz.underlying120 SpanTy.info rfl (by decide) _ 0 [] rfl HO.out [.int .i64 k, .int .i64 (k+1)] rfl (by simp[Value.oneCell']) rfl hbl1 hbl1.size (by decide) (by decide) ?_)
    intro v' w2 hown2 hbl2
    go_wp2
    go_roundw
    case rel=>exact ⟨k+1,by omega,by go_num,by rw[HM.out];exact hown2,hbl2⟩
    case measure=>simp [intOf];omega
   ·rw[List.concat_eq_append] at hcc;subst hcc
    have hl32:l.length < 32:=by simp at hle;omega
    clear hle
    rcases hown1.2 with⟨-,h0⟩ | ⟨g1,cap1,cur,hv,hg1,hgg, -⟩
    ·simp at h0
    simp only[Value.slice.injEq,true_and] at hv
    obtain⟨rfl,rfl⟩:=hv
    have hc1:w1.cell? ⟨g1,l.length*2+1,none⟩=some (.int .i64 s.2):=by
     rw[hown1.cellAt _ (by simp;omega),spansCells_append,List.getElem?_append_right (by rw[spansCells_length];omega),spansCells_length,show l.length*2+1 - l.length*2=1 from by omega];rfl
    have hf1:=hown1.frozenAt (l.length*2+1)
    have hgl:g1 < w1.heap.size:=(Array.getElem?_eq_some_iff.1 hgg).1
    clear hgg
    have hlen:(l++[s]).length=l.length+1:=by simp
    by_cases hs:s.2=k
    ·have HS:=jD hs
     rw[hs] at hc1
     clear hs
     have HST:=jD (hown1.stored (l.length*2+1) (.int .i64 (k+1)))
     clear hown1
     go_wp2
     go_roundw
     case rel=>
      have e:put1 (l++[s]) k=l++[(s.1,(k:Int)+1)]:=by unfold put1;simp [HS.out]
      refine⟨k+1,by omega,by go_num, ?_,hbl1.setCell (by exact hg1) _⟩
      rw[HM.out,e]
      have:=HST.out.1
      rw[spansCells_append,List.set_append_right _ _ (by rw[spansCells_length];omega),spansCells_length,show l.length*2+1 - l.length*2=1 from by omega] at this
      simpa[spansCells] using this
     case measure=>simp [intOf];omega
    have hne:(s.2==(k:Int))=false:=by simpa using hs
    rw[hlen] at hown1
    have HO:=jD hown1
    clear hs hown1
    go_wp2_with (at_builtin;refine wpList_append_new rfl (.tmp 36) (.tmp 41) 120 rfl w.heap.size 119 (.agg #[.int .i64 0, .int .i64 0]) 2 16 Tryz.underlying120 SpanTy.info rfl (by decide) _ (l.length+1) _ rfl HO.out [.int .i64 k, .int .i64 (k+1)] rfl (by simp[Value.oneCell']) rfl hbl1 hbl1.size (by unfold maxLen;omega) (by omega) ?_)
    intro v' w2 hown2 hbl2
    go_wp2
    go_roundw
    case rel=>
     have e:put1 (l++[s]) k=(l++[s])++[((k:Int),(k:Int)+1)]:=by unfold put1;simp only[List.getLast?_append,List.getLast?_singleton,Option.some_or];rw [if_neg (by simpa using hne)]
     refine⟨k+1,by omega,by go_num, ?_,hbl2⟩
     rw[HM.out,e,spansCells_append]
     simpa[spansCells] using hown2
    case measure=>simp [intOf];omega
  ·go_wp2
   go_ret
   obtain rfl:k=32:=by omega
   exact⟨_,rfl,hown,hbl⟩
def two (a b:Spans):Int:=if spansChk a=0 then spansChk b else spansChk a
theorem chkFrom_bounds (last:Int) (l:Spans) (h:chkFrom last l=0): ∀s∈l,0≤s.1∧s.1 < s.2∧s.2≤32:=by
 induction l generalizing last with
 | nil=>simp
 | cons s l ih=>
  simp only[chkFrom] at h
  split at h
  ·simp at h
  split at h
  ·simp at h
  intro t ht
  rcases List.mem_cons.1 ht with rfl | ht
  ·omega
  ·exact ih _ h t ht
theorem spansChk_bounds {l:Spans} (h:spansChk l=0):l.length≤16∧ ∀s∈l,0≤s.1∧s.1 < s.2∧s.2≤32:=by
 unfold spansChk at h;split at h
 ·simp at h
 ·exact⟨by omega,chkFrom_bounds _ l h⟩
theorem eqSpan (a b c d:Int) (w:World):(Op.equalIn 10000 119 (.agg #[.int .i64 a, .int .i64 b]) (.agg #[.int .i64 c, .int .i64 d])).run Tryz.prog w= .ok (a==c&&b==d) w:=by
 have u3:=Tryz.underlying3
 have a3:=Tryz.isAgg3
 have z3:=Tryz.sizeOf3
 rw[show(10000:Nat)=9999+1 from rfl,run_equalIn_agg w 9999 119 _ _ (by kernel_rfl) (by kernel_rfl)]
 simp only[Program.fieldsOf,Tryz.underlying119]
 go_simp
 by_cases h1:a=c <;> by_cases h2:b=d <;> simp[h1,h2]
theorem eqGuardSpan:Tryz.prog.eqGuardType Tryz.prog.depth 119=false:=by kernel_rfl
theorem eqSpans_c (va vb:Value) (a b:Spans) (w:World) (ha:SpansAt w va a) (hb:SpansAt w vb b):
  Calls Tryz.prog 151 #[va,vb] w fun e w'=>e= .returned (.bool (a==b))∧Below w.heap.size w w':=by
 obtain⟨xa,ca,rfl,hcap,hm,hla⟩:=ha.open_
 obtain⟨xb,cb,rfl,hcapb,hmb,hlb⟩:=hb.open_
 clear ha hb
 go_enter Tryz.func151,Tryz.ntmps151
 by_cases hlen:a.length=b.length
 ·rw[←hlen]
  rw[←hlen] at hcapb hmb
  have HL:=jD hlen
  clear hlen
  go_wp2
  go_loopw [13] (fun i wr=> ∃k:Nat,k≤a.length∧i= .int .i64 k∧a.take k=b.take k∧Below w.heap.size w wr) (fun i _=>a.length - (intOf i).toNat)
  case atStart=>exact ⟨0,Nat.zero_le _,rfl,rfl,Below.refl _ _⟩
  case round=>
   obtain⟨k,hk,rfl,heq,hbl⟩:=hrel
   have HE:=jD heq
   clear heq
   by_cases hlt:k < a.length
   ·rcases hla with rfl | ⟨b0,off,rfl,hb0,hc⟩
    ·simp at hlt
    rcases hlb with rfl | ⟨b1,off1,rfl,hb1,hc1⟩
    ·have:=HL.out;simp at this;rw [this] at hlt;simp at hlt
    have hltb:k < b.length:=by have:=HL.out;omega
    obtain⟨c1,c2⟩:=hc k hlt
    obtain⟨c3,c4⟩:=hc1 k hltb
    have d1:=(hbl.cell (p:=⟨b0,off+k*2,none⟩) hb0).trans c1
    have d2:=(hbl.cell (p:=⟨b0,off+k*2+1,none⟩) hb0).trans c2
    have d3:=(hbl.cell (p:=⟨b1,off1+k*2,none⟩) hb1).trans c3
    have d4:=(hbl.cell (p:=⟨b1,off1+k*2+1,none⟩) hb1).trans c4
    clear c1 c2 c3 c4 hc hc1
    have heqs:=eqSpan
    have heqg:=eqGuardSpan
    go_wp2
    go_quiet (fail)
    go_wp2
    ·go_ret
     have hne:a[k]≠b[k]:=by
      intro e;rename_i hor;revert hor;rw [e];simp
     exact⟨ret_bool (by symm;rw [beq_eq_false_iff_ne];intro e;subst e;exact hne rfl),below_drewN hbl _⟩
    ·go_roundw
     case rel=>
      have he:a[k]=b[k]:=by rename_i hand;simp at hand;exact Prod.ext hand.1 hand.2
      exact⟨k+1,by omega,by go_num,by rw[List.take_succ_eq_append_getElem hlt,List.take_succ_eq_append_getElem hltb,HE.out,he],below_drewN hbl _⟩
     case measure=>simp [intOf];omega
   ·go_wp2
    go_ret
    have:k=a.length:=by omega
    subst this
    exact⟨ret_bool (by have h:=HE.out;rw [List.take_length,HL.out,List.take_length] at h;simp [h]),hbl⟩
 ·have H:=jD hlen
  have h':((a.length:Int) != b.length)=true:=by simp;omega
  clear hlen
  go_wp2
  go_ret
  exact⟨ret_bool (by symm;simpa using fun h=>H.out (by rw[h])),Below.refl _ _⟩
def bitOf (x:Int) (n:Nat):Bool:=x / 2^n%2==1
theorem bit_u32 (x:Int) (k:Nat) (h0:0≤x) (h1:x < 4294967296):(bits BinOp.and IntKind.u32 (x / 2^k) 1==1)=bitOf x k:=by
 have hle:x / 2^k≤x:=Int.ediv_le_self _ h0
 have hnn:0≤x / 2^k:=Int.ediv_nonneg h0 (Int.le_of_lt (Int.pow_pos (by decide)))
 rw[u32_and _ _ hnn (by omega) (by decide) (by decide)]
 unfold bitOf
 generalize x / 2^k=y at*
 have:(1:Int).toNat=1:=rfl
 rw[this,Nat.and_one_is_mod]
 have e:((y.toNat%2:Nat):Int)=y%2:=by omega
 rw[e]
end Go.Proofs.YtgkgdedhicnohaaGreat
namespace Go.Proofs.YtgkgdedhicnohaaGreat
theorem inB_nil (n:Int):inB [] n=false:=rfl
theorem inB_cons (s:Int×Int) (l:Spans) (n:Int):inB (s::l) n=((decide (s.1≤n)&&decide (n < s.2)) || inB l n):=rfl
theorem inB_append (l m:Spans) (n:Int):inB (l++m) n=(inB l n || inB m n):=by simp[inB]
theorem chk_cons (last:Int) (s:Int×Int) (l:Spans):chkFrom last (s::l)=0↔(0≤s.1∧s.1 < s.2∧s.2≤32)∧last < s.1∧chkFrom s.2 l=0:=by
 simp only[chkFrom]
 split
 ·constructor
  ·intro h;simp at h
  ·intro h;omega
 split
 ·constructor
  ·intro h;simp at h
  ·intro h;omega
 constructor
 ·intro h;exact ⟨by omega,by omega,h⟩
 ·intro h;exact h.2.2
theorem chk_length {last:Int} {l:Spans} (h:chkFrom last l=0) (hl:last≤32):2*(l.length:Int)+last≤32:=by
 induction l generalizing last with
 | nil=>simpa using hl
 | cons s l ih=>rw [chk_cons] at h;have:=ih h.2.2 (by omega);simp only[List.length_cons];omega
theorem spansChk_of {l:Spans} (h:chkFrom (-1) l=0):spansChk l=0:=by
 unfold spansChk;have:=chk_length h (by decide);rw [if_neg (by omega)];exact h
theorem chk_append {last:Int} {l:Spans} {s:Int×Int} (h:chkFrom last l=0) (hs:0≤s.1∧s.1 < s.2∧s.2≤32) (hl:last < s.1) (ho: ∀t∈l,t.2 < s.1):chkFrom last (l++[s])=0:=by
 induction l generalizing last with
 | nil=>show chkFrom last [s]=0;rw [chk_cons];exact ⟨hs,hl,rfl⟩
 | cons t l ih=>
  rw[chk_cons] at h
  rw[List.cons_append,chk_cons]
  exact⟨h.1,h.2.1,ih h.2.2 (ho t (by simp)) fun u hu=>ho u (by simp[hu])⟩
theorem chk_init {last:Int} {l m:Spans} (h:chkFrom last (l++m)=0):chkFrom last l=0:=by
 induction l generalizing last with
 | nil=>rfl
 | cons t l ih=>rw [List.cons_append,chk_cons] at h;rw [chk_cons];exact ⟨h.1,h.2.1,ih h.2.2⟩
theorem chk_last {last:Int} {l:Spans} {s:Int×Int} (h:chkFrom last (l++[s])=0):(0≤s.1∧s.1 < s.2∧s.2≤32)∧last < s.1∧ ∀t∈l,t.2 < s.1:=by
 induction l generalizing last with
 | nil=>have h':chkFrom last [s]=0:=h;rw [chk_cons] at h';exact ⟨h'.1,h'.2.1,by simp⟩
 | cons t l ih=>
  rw[List.cons_append,chk_cons] at h
  obtain⟨a,b,c⟩:=ih h.2.2
  refine⟨a,by omega,fun u hu=> ?_⟩
  rcases List.mem_cons.1 hu with rfl | hu
  ·exact b
  ·exact c u hu
theorem mk_good (p:Nat→Bool) (k:Nat) (hk:k≤32):chkFrom (-1) (mk p k)=0∧(∀s∈mk p k,s.2≤(k:Int))∧ ∀n:Int,inB (mk p k) n=(decide (0≤n)&&decide (n < (k:Int))&&p n.toNat):=by
 induction k with
 | zero=>refine ⟨rfl,by simp[mk],fun n=> ?_⟩;simp [mk,inB_nil];omega
 | succ k ih=>
  obtain⟨h1,h2,h3⟩:=ih (by omega)
  have hin: ∀(b:Bool) (n:Int),b=p k→(inB (mk p k) n || (decide ((k:Int)≤n)&&decide (n < (k:Int)+1)&&b))=(decide (0≤n)&&decide (n < ((k+1:Nat):Int))&&p n.toNat):=by
   intro b n hb
   rw[h3 n]
   by_cases hc:n=k
   ·subst hc;simp [hb]
   ·by_cases hn:n < k
    ·have e1:decide ((k:Int)≤n)=false:=by simp;omega
     have e2:decide (n < ((k+1:Nat):Int))=true:=by rw[decide_eq_true_iff];omega
     rw[e1,e2];simp [hn]
    ·have e1:decide (n < (k:Int)+1)=false:=by simp;omega
     have e2:decide (n < ((k+1:Nat):Int))=false:=by simp;omega
     rw[e1,e2];simp [hn]
  cases hp:p k
  ·simp only[mk,hp,Bool.false_eq_true,if_false]
   refine⟨h1,fun s hs=>by have:=h2 s hs;omega,fun n=> ?_⟩
   rw[←hin false n hp.symm];simp
  ·simp only[mk,hp,if_true]
   rcases List.eq_nil_or_concat (mk p k) with hm | ⟨l,s,hm⟩
   ·rw[hm] at h3 hin ⊢
    have e:put1 [] (k:Int)=[((k:Int),(k:Int)+1)]:=rfl
    rw[e]
    refine⟨by rw[chk_cons];exact ⟨by simp;omega,by simp;omega,rfl⟩,by simp,fun n=> ?_⟩
    rw[←hin true n hp.symm];simp [inB]
   ·rw[List.concat_eq_append] at hm
    rw[hm] at h1 h2 h3 hin ⊢
    have hl:=chk_last h1
    by_cases hs:s.2=(k:Int)
    ·have e:put1 (l++[s]) k=l++[(s.1,(k:Int)+1)]:=by unfold put1;simp [hs]
     rw[e]
     refine⟨chk_append (chk_init h1) ⟨hl.1.1,by simp;omega,by simp;omega⟩ (by simp;omega) hl.2.2, ?_,fun n=> ?_⟩
     ·intro t ht
      rcases List.mem_append.1 ht with ht | ht
      ·have:=h2 t (by simp[ht]);omega
      ·simp at ht;subst ht;simp
     ·rw[←hin true n hp.symm,inB_append,inB_append,inB_cons,inB_cons,inB_nil]
      cases inB l n
      ·have hx:=hl.1.2.1
       rw[Bool.eq_iff_iff];simp;omega
      ·simp
    ·have e:put1 (l++[s]) k=(l++[s])++[((k:Int),(k:Int)+1)]:=by
      unfold put1;simp only[List.getLast?_append,List.getLast?_singleton,Option.some_or];rw [if_neg hs]
     have hsk:s.2 < (k:Int):=by have:=h2 s (by simp);omega
     rw[e]
     refine⟨chk_append h1 ⟨by simp,by simp;omega,by simp;omega⟩ (by simp;omega) ?_, ?_,fun n=> ?_⟩
     ·intro t ht
      rcases List.mem_append.1 ht with ht | ht
      ·have:=hl.2.2 t ht;simp;omega
      ·simp at ht;subst ht;simpa using hsk
     ·intro t ht
      rcases List.mem_append.1 ht with ht | ht
      ·have:=h2 t ht;omega
      ·simp at ht;subst ht;simp
     ·rw[←hin true n hp.symm,inB_append,inB_cons,inB_nil];simp
theorem make_chk (p:Nat→Bool):spansChk (make p)=0:=spansChk_of (mk_good p 32 (Nat.le_refl _)).1
theorem make_in (p:Nat→Bool) (n:Int):inB (make p) n=(decide (0≤n)&&decide (n < 32)&&p n.toNat):=(mk_good p 32 (Nat.le_refl _)).2.2 n
theorem make_in_nat (p:Nat→Bool) (n:Nat) (h:n < 32):inB (make p) n=p n:=by rw[make_in];simp;omega
def cnt (p:Nat→Bool):Nat→Int
 | 0=>0
 | k+1=>cnt p k+if p k then 1 else 0
end Go.Proofs.YtgkgdedhicnohaaGreat
namespace Go.Proofs.YtgkgdedhicnohaaGreat
open Go.RowKit
def allB (f:Nat→Bool):Bool:=(List.range 32).all f
theorem allB_iff (f:Nat→Bool):allB f=true↔ ∀n,n < 32→f n=true:=by simp[allB]
theorem cnt_false (k:Nat):cnt (fun _=>false) k=0:=by
 induction k with
 | zero=>rfl
 | succ k ih=>simp [cnt,ih]
theorem cnt_bd (p:Nat→Bool) (k:Nat):0≤cnt p k∧cnt p k≤k:=by
 induction k with
 | zero=>simp [cnt]
 | succ k ih=>simp only[cnt];split <;> omega
end Go.Proofs.YtgkgdedhicnohaaGreat
