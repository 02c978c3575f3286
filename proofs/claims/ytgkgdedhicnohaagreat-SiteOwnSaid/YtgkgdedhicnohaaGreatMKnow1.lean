/- What know.Dot, cmp, vec, In and Check do. What slices.BinarySearchFunc does to dots; know.In. Written by a small program (gen/know2.py). -/
import Derived.Test.YtgkgdedhicnohaaGreatChecked
import Derived.Test.YtgkgdedhicnohaaGreatMPure
import Derived.Test.YtgkgdedhicnohaaGreatMClaims
import Derived.Deep.QuietTactic
import Derived.BigQuiet
import Derived.WalkSmall
import Derived.Outline
import Derived.WalkArith
import Derived.Laws.Shifts
namespace Go.Proofs.YtgkgdedhicnohaaGreat
set_option maxRecDepth 100000
set_option maxHeartbeats 40000000
open Go.RowKit
theorem ret_ib {k:IntKind} {x y:Int} {a b:Bool} (h':x=y) (h:a=b):Ending.returned (.tuple #[.int k x, .bool a])= .returned (.tuple #[.int k y, .bool b]):=by rw[h,h']
def intsC (l:List Int):List Value:=l.map (Value.int .i64)
def IsAt (w:World) (v:Value) (l:List Int):Prop:=CellsAt w v l.length (intsC l)
theorem IsAt.sub {w w':World} {v:Value} {l:List Int} (h:IsAt w v l) (hs:Sub w w'):IsAt w' v l:=CellsAt.sub h hs
theorem IsAt.below {w w':World} {v:Value} {l:List Int} (h:IsAt w v l) (hb:Below w.heap.size w w'):IsAt w' v l:=CellsAt.below h hb
theorem IsAt.shape {w:World} {v:Value} {l:List Int} (h:IsAt w v l): ∃a cap,v= .slice a l.length cap:=CellsAt.shape h
theorem IsAt.open_ {w:World} {v:Value} {l:List Int} (h:IsAt w v l): ∃a cap,v= .slice a l.length cap∧l.length≤cap∧l.length≤140737488355328∧(a=none→cap=0)∧
  (l=[]∨ ∃b off,a=some ⟨b,off,none⟩∧b < w.heap.size∧ ∀i (h:i < l.length),w.cell? ⟨b,off+i,none⟩=some (.int .i64 l[i])):=by
 obtain⟨a,cap,hv,hn,hm,h0,h⟩:=h
 refine⟨a,cap,hv,hn,hm,h0, ?_⟩
 rcases h with h | ⟨b,off,ha,hlt,hc⟩
 ·left;simpa [intsC] using h
 ·exact .inr ⟨b,off,ha,hlt,fun i hi=>hc _ _ (by simp[intsC,hi])⟩
theorem intsC_one (l:List Int): ∀u∈intsC l,u.oneCell'=true:=by
 intro u hu;obtain ⟨z, -,rfl⟩:=List.mem_map.1 hu;rfl
theorem intsC_length (l:List Int):(intsC l).length=l.length:=by simp[intsC]
def DsAt (w:World) (v:Value) (l:Dots):Prop:=CellsAt w v l.length (spansCells l)
theorem DsAt.sub {w w':World} {v:Value} {l:Dots} (h:DsAt w v l) (hs:Sub w w'):DsAt w' v l:=CellsAt.sub h hs
theorem DsAt.below {w w':World} {v:Value} {l:Dots} (h:DsAt w v l) (hb:Below w.heap.size w w'):DsAt w' v l:=CellsAt.below h hb
theorem DsAt.shape {w:World} {v:Value} {l:Dots} (h:DsAt w v l): ∃a cap,v= .slice a l.length cap:=CellsAt.shape h
theorem DsAt.open_ {w:World} {v:Value} {l:Dots} (h:DsAt w v l): ∃a cap,v= .slice a l.length cap∧l.length≤cap∧l.length≤140737488355328∧(a=none→cap=0)∧
  (l=[]∨ ∃b off,a=some ⟨b,off,none⟩∧b < w.heap.size∧ ∀i (h:i < l.length),w.cell? ⟨b,off+i*2,none⟩=some (.int .i64 l[i].1)∧w.cell? ⟨b,off+i*2+1,none⟩=some (.int .i64 l[i].2)):=by
 obtain⟨a,cap,hv,hn,hm,h0,h⟩:=h
 refine⟨a,cap,hv,hn,hm,h0, ?_⟩
 rcases h with h | ⟨b,off,ha,hlt,hc⟩
 ·left
  have:=spansCells_length l
  rw[h] at this
  exact List.eq_nil_of_length_eq_zero (by simp at this;omega)
 ·refine .inr ⟨b,off,ha,hlt,fun i hi=> ?_⟩
  obtain⟨g1,g2⟩:=spansCells_get l i hi
  exact⟨hc _ _ g1,by rw[Nat.add_assoc];exact hc _ _ g2⟩
structure KnAt (w:World) (u v:Value) (k:Kn):Prop where
 vec:IsAt w u k.vec
 more:DsAt w v k.more
theorem KnAt.sub {w w':World} {u v:Value} {k:Kn} (h:KnAt w u v k) (hs:Sub w w'):KnAt w' u v k:=⟨h.vec.sub hs,h.more.sub hs⟩
theorem KnAt.below {w w':World} {u v:Value} {k:Kn} (h:KnAt w u v k) (hb:Below w.heap.size w w'):KnAt w' u v k:=⟨h.vec.below hb,h.more.below hb⟩
theorem dot_c (a b:Int) (w:World):Calls Tryz.prog 159 #[.agg #[.int .i64 a, .int .i64 b]] w fun e w'=>e= .returned (.bool (dotOk (a,b)))∧Below w.heap.size w w':=by
 have H:=jD (show dotOk (a,b)=(decide (0≤a)&&decide (a < 5)&&decide (1≤b)&&decide (b≤1000)) from rfl)
 go_enter Tryz.func159,Tryz.ntmps159
 go_wp2
 all_goals
  go_ret
  exact⟨ret_bool (by rw[H.out];simp [*];try omega),bal _⟩
theorem dcmp_c (a b:Int×Int) (w:World) (h1: -1000000≤a.1) (h2:a.1≤1000000) (h3: -1000000≤a.2) (h4:a.2≤1000000) (h5: -1000000≤b.1) (h6:b.1≤1000000) (h7: -1000000≤b.2) (h8:b.2≤1000000):
  Calls Tryz.prog 157 #[.agg #[.int .i64 a.1, .int .i64 a.2], .agg #[.int .i64 b.1, .int .i64 b.2]] w fun e w'=>e= .returned (.int .i64 (dcmp a b))∧ ∃o1 o2,w'=(w.alloc o1).alloc o2:=by
 by_cases h:a.1=b.1
 ·have H:=jD (show dcmp a b=a.2 - b.2 by unfold dcmp;rw [if_pos h])
  have h':(a.1 != b.1)=false:=by simp[h]
  clear h
  go_enter Tryz.func157,Tryz.ntmps157
  go_wp2
  go_ret
  exact⟨ret_int H.out.symm,_,_,rfl⟩
 ·have H:=jD (show dcmp a b=a.1 - b.1 by unfold dcmp;rw [if_neg h])
  have h':(a.1 != b.1)=true:=by simpa using h
  clear h
  go_enter Tryz.func157,Tryz.ntmps157
  go_wp2
  go_ret
  exact⟨ret_int H.out.symm,_,_,rfl⟩
theorem vec_c (u v:Value) (l:List Int) (s:Int) (w:World) (hs:IsAt w u l) (h0:0≤s):
  Calls Tryz.prog 163 #[.agg #[u,v], .int .i64 s] w fun e w'=>e= .returned (.int .i64 (vecAt l s))∧Below w.heap.size w w':=by
 obtain⟨a,cap,rfl,hcap,hm, -,hl⟩:=hs.open_
 clear hs
 obtain⟨j,rfl⟩:=Int.eq_ofNat_of_zero_le h0
 by_cases hlt:j < l.length
 ·have H:=jD (show vecAt l (j:Int)=l[j] by unfold vecAt;rw [Int.toNat_natCast,List.getD_eq_getElem?_getD,List.getElem?_eq_getElem hlt];rfl)
  rcases hl with rfl | ⟨b,off,rfl,hb,hc⟩
  ·simp at hlt
  have c:=cpast (.cells #[.slice (some ⟨b,off,none⟩) l.length cap,v] 73) (hc j hlt)
  clear hc
  go_enter Tryz.func163,Tryz.ntmps163
  go_wp2
  go_ret
  exact⟨ret_int H.out.symm,bal _⟩
 ·have H:=jD (show vecAt l (j:Int)=0 by unfold vecAt;rw [Int.toNat_natCast,List.getD_eq_getElem?_getD,List.getElem?_eq_none (by omega)];rfl)
  clear hl
  go_enter Tryz.func163,Tryz.ntmps163
  go_wp2
  go_ret
  exact⟨ret_int H.out.symm,bal _⟩
theorem cmpFn: ∀args W,(callFunc 157 args).run Tryz.prog W= .ok (.enter 157 args) W:=fun _ _=>by kernel_rfl
theorem found_in {l:Dots} {t:Int×Int} {i:Nat} (hs:l.Pairwise dlt) (h1: ∀j (h:j < l.length),j < i→dlt l[j] t) (h2: ∀j (h:j < l.length),i≤j→ ¬dlt l[j] t) (hi:i < l.length):decide (t∈l)=(dcmp l[i] t==0):=by
 rw[Bool.eq_iff_iff]
 simp only[decide_eq_true_eq,beq_iff_eq,dcmp_zero]
 constructor
 ·intro hm
  obtain⟨j,hj,rfl⟩:=List.getElem_of_mem hm
  rcases Nat.lt_trichotomy i j with h | h | h
  ·have a:=List.pairwise_iff_getElem.1 hs i j hi hj h
   exact absurd a (h2 i hi (Nat.le_refl _))
  ·subst h;rfl
  ·exact absurd (h1 j hj h) (dlt_irrefl _)
 ·intro e;rw [←e];exact List.getElem_mem hi
theorem found_no {l:Dots} {t:Int×Int} (h1: ∀j (h:j < l.length),dlt l[j] t):decide (t∈l)=false:=by
 simp only[decide_eq_false_iff_not]
 intro hm
 obtain⟨j,hj,rfl⟩:=List.getElem_of_mem hm
 exact dlt_irrefl _ (h1 j hj)
def dotBd (l:Dots):Prop:= ∀d∈l,(-1000000≤d.1∧d.1≤1000000)∧ -1000000≤d.2∧d.2≤1000000
theorem dotBd_of {l:Dots} (h: ∀d∈l,dotOk d=true):dotBd l:=fun d hd=>by have:=h d hd;simp only[dotOk,Bool.and_eq_true,decide_eq_true_eq] at this;omega
theorem dsearch_c (v:Value) (l:Dots) (t:Int×Int) (w:World) (hs:DsAt w v l) (ho:l.Pairwise dlt) (hb:dotBd l) (ht:dotBd [t]):
  Calls Tryz.prog 166 #[v, .agg #[.int .i64 t.1, .int .i64 t.2], .func (.func 157) #[] #[]] w fun e w'=> ∃i:Nat,e= .returned (.tuple #[.int .i64 i, .bool (decide (t∈l))])∧i≤l.length∧Below w.heap.size w w':=by
 obtain⟨a,cap,rfl,hcap,hm, -,hl⟩:=hs.open_
 have hmf:=cmpFn
 have T0:=ht t (by simp)
 have HS:=jD ho
 have HB:=jD hb
 clear hs ho hb ht
 go_enter Tryz.func166,Tryz.ntmps166
 go_wp2
 go_loopw [9,10] (fun x y wr=> ∃i j:Nat,i≤j∧j≤l.length∧x= .int .i64 i∧y= .int .i64 j∧(∀q (h:q < l.length),q < i→dlt l[q] t)∧(∀q (h:q < l.length),j≤q→ ¬dlt l[q] t)∧Below w.heap.size w wr∧
   wr.cell? ⟨w.heap.size,0,none⟩=some (.int .i64 t.1)∧wr.cell? ⟨w.heap.size,1,none⟩=some (.int .i64 t.2)) (fun x y _=>(intOf y).toNat - (intOf x).toNat)
 case atStart=>exact ⟨0,l.length,Nat.zero_le _,Nat.le_refl _,rfl,rfl,fun q _ h=>by omega,fun q h h2=>by omega,bal _,cat _ _ _ 0 _ rfl _ rfl,cat _ _ _ 1 _ rfl _ rfl⟩
 case round=>
  obtain⟨i,j,hij,hj,rfl,rfl,h1,h2,hbl,t0,t1⟩:=hrel
  obtain⟨wo,hwo⟩: ∃wo,wo=wr:=⟨_,rfl⟩
  subst hwo
  have H1:=jD h1
  have H2:=jD h2
  clear h1 h2
  by_cases hlt:i < j
  ·rcases hl with rfl | ⟨b,off,rfl,hb0,hc⟩
   ·simp at hj;omega
   obtain⟨m,hme⟩: ∃m,m=(i+j) / 2:=⟨_,rfl⟩
   have hm1:m < l.length:=by omega
   obtain⟨c1,c2⟩:=hc m hm1
   replace c1:=(hbl.cell (p:=⟨b,off+m*2,none⟩) hb0).trans c1
   replace c2:=(hbl.cell (p:=⟨b,off+m*2+1,none⟩) hb0).trans c2
   have C1:=jD c1
   have C2:=jD c2
   have T0c:=jD t0
   have T1c:=jD t1
   have HM:=jD hme
   clear hc c1 c2 t0 t1 hme
   have hmi:i≤m:=by have:=HM.out;omega
   have hmj:m < j:=by have:=HM.out;omega
   have B0:=HB.out _ (List.getElem_mem hm1)
   go_wp2_with fail
   rw[show((i:Int)+j) / 2=(m:Int) by have:=HM.out;omega]
   generalize hX:l[m]=X at*
   have HX:=jD hX
   clear hX
   refine Cl.region0 49 rfl [] (fun _=>True) (fun _=>[]) (fun jq v ww=>match jq with | 0=>v= .func (.func 157) #[] #[] | 1=>v= .slice (some ⟨b,off,none⟩) l.length cap | 2=>v= .int .i64 (m:Nat) | 3=>v= .pointer (some ⟨b,off+m*2,none⟩) | 4=>v= .agg #[.int .i64 X.1, .int .i64 X.2] | 5=>v= .agg #[.int .i64 t.1, .int .i64 t.2] | 6=>v= .int .i64 (dcmp X t) | 7=>v= .bool (decide (dcmp X t < 0)) | _=>True) (fun ww=>Below wo.heap.size wo ww) (fun jq ww ww'=>Below ww.heap.size ww ww') Tryz.mixed (by decide+kernel) (Below.refl _ _).drew trivial (fun q r v w w' _ _ _ h _=>h) (fun _ _ _ _ _ _=>trivial) ?_ ?_
   ·refine⟨?_, ?_, ?_, ?_, ?_, ?_, ?_, ?_,trivial⟩
    ·intro x wx hG
     have f2:=hG.o 2
     replace hG:=hG.good
     go_wp2
     exact⟨_,rfl,rfl,hG,Below.refl _ _⟩
    ·intro x wx hG
     have f0:=hG.o 0
     replace hG:=hG.good
     go_wp2
     exact⟨_,rfl,rfl,hG,Below.refl _ _⟩
    ·intro x wx hG
     have f11:=hG.o 11
     replace hG:=hG.good
     go_wp2
     exact⟨_,rfl,rfl,hG,Below.refl _ _⟩
    ·intro x wx hG
     have g1:(x.tmps.getD 25 undef)= .slice (some ⟨b,off,none⟩) l.length cap:=hG.c 1 _ rfl
     have g2:(x.tmps.getD 26 undef)= .int .i64 (m:Nat):=hG.c 2 _ rfl
     replace hG:=hG.good
     go_wp2
     exact⟨_,rfl,rfl,hG,Below.refl _ _⟩
    ·intro x wx hG
     have g3:(x.tmps.getD 27 undef)= .pointer (some ⟨b,off+m*2,none⟩):=hG.c 3 _ rfl
     replace hG:=hG.good
     have c_C1:=ckeep hG C1.out
     have c_C2:=ckeep hG C2.out
     go_wp2
     exact⟨_,rfl,rfl,hG,Below.refl _ _⟩
    ·intro x wx hG
     have f4:=hG.o 4
     replace hG:=hG.good
     have c_T0c:=ckeep hG T0c.out
     have c_T1c:=ckeep hG T1c.out
     go_wp2
     exact⟨_,rfl,rfl,hG,Below.refl _ _⟩
    ·intro x wx hG
     have g0:(x.tmps.getD 24 undef)= .func (.func 157) #[] #[]:=hG.c 0 _ rfl
     have g4:(x.tmps.getD 28 undef)= .agg #[.int .i64 X.1, .int .i64 X.2]:=hG.c 4 _ rfl
     have g5:(x.tmps.getD 29 undef)= .agg #[.int .i64 t.1, .int .i64 t.2]:=hG.c 5 _ rfl
     replace hG:=hG.good
     go_wp2_with fail
     (with_reducible refine(dcmp_c X t _ B0.1.1 B0.1.2 B0.2.1 B0.2.2 T0.1.1 T0.1.2 T0.2.1 T0.2.2).mono ?_)
     rintro e wq ⟨rfl,o1,o2,rfl⟩
     go_wp2
     exact⟨_,rfl,rfl,(hG.alloc hG.size _).alloc (by have:=hG.size;simp;omega) _,(bal _).alloc (by simp) _⟩
    ·intro x wx hG
     have g6:(x.tmps.getD 30 undef)= .int .i64 (dcmp X t):=hG.c 6 _ rfl
     replace hG:=hG.good
     go_wp2
     exact⟨_,rfl,rfl,hG,Below.refl _ _⟩
   ·intro vals w1 hg hF
    obtain⟨g0,g1,g2,g3,g4,g5,g6,g7, -⟩:=hF
    have e0:=gq (vals 0) g0
    have e1:=gq (vals 1) g1
    have e2:=gq (vals 2) g2
    have e3:=gq (vals 3) g3
    have e4:=gq (vals 4) g4
    have e5:=gq (vals 5) g5
    have e6:=gq (vals 6) g6
    have e7:=gq (vals 7) g7
    simp only[Cl.puts,e0,e1,e2,e3,e4,e5,e6,e7]
    clear e0 e1 e2 e3 e4 e5 e6 e7 g0 g1 g2 g3 g4 g5 g6 g7
    go_simp
    have hbl1:=bstep hbl hg
    have t0:=ckeep hg T0c.out
    have t1:=ckeep hg T1c.out
    clear hg
    cases hd:decide (dcmp X t < 0)
    ·have HD:=jD (show ¬dlt X t from by rw[←dcmp_lt];simpa using hd)
     clear hd
     go_wp2
     go_roundw
     case rel=>
      refine⟨i,m,hmi,by omega,rfl,rfl,H1.out,fun q h h2=> ?_,hbl1,t0,t1⟩
      rcases Nat.lt_or_eq_of_le h2 with h3 | rfl
      ·intro h4
       have h5:=List.pairwise_iff_getElem.1 HS.out m q hm1 h h3
       rw[HX.out] at h5
       exact HD.out (dlt_trans h5 h4)
      ·rw[HX.out];exact HD.out
     case measure=>simp [intOf];omega
    ·have HD:=jD (show dlt X t from by rw[←dcmp_lt];simpa using hd)
     clear hd
     go_wp2
     go_roundw
     case rel=>
      refine⟨m+1,j,by omega,hj,by go_num,rfl,fun q h h2=> ?_,H2.out,hbl1,t0,t1⟩
      rcases Nat.lt_or_eq_of_le (Nat.le_of_lt_succ h2) with h3 | rfl
      ·have h5:=List.pairwise_iff_getElem.1 HS.out q m h hm1 h3
       rw[HX.out] at h5
       exact dlt_trans h5 HD.out
      ·rw[HX.out];exact HD.out
     case measure=>simp [intOf];omega
  ·obtain rfl:i=j:=by omega
   have T0c:=jD t0
   have T1c:=jD t1
   clear t0 t1
   by_cases hin:i < l.length
   ·rcases hl with rfl | ⟨b,off,rfl,hb0,hc⟩
    ·simp at hin
    obtain⟨c1,c2⟩:=hc i hin
    replace c1:=(hbl.cell (p:=⟨b,off+i*2,none⟩) hb0).trans c1
    replace c2:=(hbl.cell (p:=⟨b,off+i*2+1,none⟩) hb0).trans c2
    have C1:=jD c1
    have C2:=jD c2
    clear hc c1 c2
    have B0:=HB.out _ (List.getElem_mem hin)
    have HF:=jD (found_in HS.out H1.out H2.out hin)
    have hdi:decide (i < l.length)=true:=by simpa using hin
    go_wp2_with fail
    generalize hX:l[i]=X at*
    clear hX
    refine Cl.region0 49 rfl [] (fun _=>True) (fun _=>[]) (fun jq v ww=>match jq with | 0=>v= .int .i64 (i:Nat) | 1=>v= .int .i64 (i:Nat) | 2=>v= .int .i64 (l.length:Nat) | 3=>v= .bool true | 4=>v= .bool true | 5=>v= .func (.func 157) #[] #[] | 6=>v= .slice (some ⟨b,off,none⟩) l.length cap | 7=>v= .int .i64 (i:Nat) | 8=>v= .pointer (some ⟨b,off+i*2,none⟩) | 9=>v= .agg #[.int .i64 X.1, .int .i64 X.2] | 10=>v= .agg #[.int .i64 t.1, .int .i64 t.2] | 11=>v= .int .i64 (dcmp X t) | 12=>v= .bool (dcmp X t==0) | 13=>v= .bool (dcmp X t==0) | 14=>v= .int .i64 (i:Nat) | 15=>v= .bool (dcmp X t==0) | _=>True) (fun ww=>Below wo.heap.size wo ww) (fun jq ww ww'=>Below ww.heap.size ww ww') Tryz.mixed (by decide+kernel) (Below.refl _ _).drew trivial (fun q r v w w' _ _ _ h _=>h) (fun _ _ _ _ _ _=>trivial) ?_ ?_
    ·refine⟨?_, ?_, ?_, ?_, ?_, ?_, ?_, ?_, ?_, ?_, ?_, ?_, ?_, ?_, ?_, ?_,trivial⟩
     ·intro x wx hG
      have f9:=hG.o 9
      replace hG:=hG.good
      go_wp2
      exact⟨_,rfl,rfl,hG,Below.refl _ _⟩
     ·intro x wx hG
      have f9:=hG.o 9
      replace hG:=hG.good
      go_wp2
      exact⟨_,rfl,rfl,hG,Below.refl _ _⟩
     ·intro x wx hG
      have f8:=hG.o 8
      replace hG:=hG.good
      go_wp2
      exact⟨_,rfl,rfl,hG,Below.refl _ _⟩
     ·intro x wx hG
      have g1:(x.tmps.getD 36 undef)= .int .i64 (i:Nat):=hG.c 1 _ rfl
      have g2:(x.tmps.getD 37 undef)= .int .i64 (l.length:Nat):=hG.c 2 _ rfl
      replace hG:=hG.good
      go_wp2
      exact⟨_,rfl,rfl,hG,Below.refl _ _⟩
     ·intro x wx hG
      have g3:(x.tmps.getD 38 undef)= .bool true:=hG.c 3 _ rfl
      replace hG:=hG.good
      go_wp2
      exact⟨_,rfl,rfl,hG,Below.refl _ _⟩
     ·intro x wx hG
      have f2:=hG.o 2
      have gg:(x.tmps.getD 39 undef)= .bool true:=hG.c 4 _ rfl
      replace gg:=Cl.opt (hG.size.trans (show _=49 from rfl)) (by decide) gg
      replace hG:=hG.good
      go_wp2
      exact⟨_,rfl,rfl,hG,Below.refl _ _⟩
     ·intro x wx hG
      have f0:=hG.o 0
      have gg:(x.tmps.getD 39 undef)= .bool true:=hG.c 4 _ rfl
      replace gg:=Cl.opt (hG.size.trans (show _=49 from rfl)) (by decide) gg
      replace hG:=hG.good
      go_wp2
      exact⟨_,rfl,rfl,hG,Below.refl _ _⟩
     ·intro x wx hG
      have f9:=hG.o 9
      have gg:(x.tmps.getD 39 undef)= .bool true:=hG.c 4 _ rfl
      replace gg:=Cl.opt (hG.size.trans (show _=49 from rfl)) (by decide) gg
      replace hG:=hG.good
      go_wp2
      exact⟨_,rfl,rfl,hG,Below.refl _ _⟩
     ·intro x wx hG
      have g6:(x.tmps.getD 41 undef)= .slice (some ⟨b,off,none⟩) l.length cap:=hG.c 6 _ rfl
      have g7:(x.tmps.getD 42 undef)= .int .i64 (i:Nat):=hG.c 7 _ rfl
      have gg:(x.tmps.getD 39 undef)= .bool true:=hG.c 4 _ rfl
      replace gg:=Cl.opt (hG.size.trans (show _=49 from rfl)) (by decide) gg
      replace hG:=hG.good
      go_wp2
      exact⟨_,rfl,rfl,hG,Below.refl _ _⟩
     ·intro x wx hG
      have g8:(x.tmps.getD 43 undef)= .pointer (some ⟨b,off+i*2,none⟩):=hG.c 8 _ rfl
      have gg:(x.tmps.getD 39 undef)= .bool true:=hG.c 4 _ rfl
      replace gg:=Cl.opt (hG.size.trans (show _=49 from rfl)) (by decide) gg
      replace hG:=hG.good
      have c_C1:=ckeep hG C1.out
      have c_C2:=ckeep hG C2.out
      go_wp2
      exact⟨_,rfl,rfl,hG,Below.refl _ _⟩
     ·intro x wx hG
      have f4:=hG.o 4
      have gg:(x.tmps.getD 39 undef)= .bool true:=hG.c 4 _ rfl
      replace gg:=Cl.opt (hG.size.trans (show _=49 from rfl)) (by decide) gg
      replace hG:=hG.good
      have c_T0c:=ckeep hG T0c.out
      have c_T1c:=ckeep hG T1c.out
      go_wp2
      exact⟨_,rfl,rfl,hG,Below.refl _ _⟩
     ·intro x wx hG
      have g5:(x.tmps.getD 40 undef)= .func (.func 157) #[] #[]:=hG.c 5 _ rfl
      have g9:(x.tmps.getD 44 undef)= .agg #[.int .i64 X.1, .int .i64 X.2]:=hG.c 9 _ rfl
      have g10:(x.tmps.getD 45 undef)= .agg #[.int .i64 t.1, .int .i64 t.2]:=hG.c 10 _ rfl
      have gg:(x.tmps.getD 39 undef)= .bool true:=hG.c 4 _ rfl
      replace gg:=Cl.opt (hG.size.trans (show _=49 from rfl)) (by decide) gg
      replace hG:=hG.good
      go_wp2_with fail
      (with_reducible refine(dcmp_c X t _ B0.1.1 B0.1.2 B0.2.1 B0.2.2 T0.1.1 T0.1.2 T0.2.1 T0.2.2).mono ?_)
      rintro e wq ⟨rfl,o1,o2,rfl⟩
      go_wp2
      exact⟨_,rfl,rfl,(hG.alloc hG.size _).alloc (by have:=hG.size;simp;omega) _,(bal _).alloc (by simp) _⟩
     ·intro x wx hG
      have g11:(x.tmps.getD 46 undef)= .int .i64 (dcmp X t):=hG.c 11 _ rfl
      have gg:(x.tmps.getD 39 undef)= .bool true:=hG.c 4 _ rfl
      replace gg:=Cl.opt (hG.size.trans (show _=49 from rfl)) (by decide) gg
      replace hG:=hG.good
      go_wp2
      exact⟨_,rfl,rfl,hG,Below.refl _ _⟩
     ·intro x wx hG
      have g4:(x.tmps.getD 39 undef)= .bool true:=hG.c 4 _ rfl
      have g12:(x.tmps.getD 47 undef)= .bool (dcmp X t==0):=hG.c 12 _ rfl
      replace hG:=hG.good
      go_wp2
      exact⟨_,rfl,rfl,hG,Below.refl _ _⟩
     ·intro x wx hG
      have g0:(x.tmps.getD 35 undef)= .int .i64 (i:Nat):=hG.c 0 _ rfl
      replace hG:=hG.good
      go_wp2
      exact⟨_,rfl,rfl,hG,Below.refl _ _⟩
     ·intro x wx hG
      have g13:(x.tmps.getD 48 undef)= .bool (dcmp X t==0):=hG.c 13 _ rfl
      replace hG:=hG.good
      go_wp2
      exact⟨_,rfl,rfl,hG,Below.refl _ _⟩
    ·intro vals w1 hg hF
     obtain⟨g0,g1,g2,g3,g4,g5,g6,g7,g8,g9,g10,g11,g12,g13,g14,g15, -⟩:=hF
     have e0:=gq (vals 0) g0
     have e1:=gq (vals 1) g1
     have e2:=gq (vals 2) g2
     have e3:=gq (vals 3) g3
     have e4:=gq (vals 4) g4
     have e5:=gq (vals 5) g5
     have e6:=gq (vals 6) g6
     have e7:=gq (vals 7) g7
     have e8:=gq (vals 8) g8
     have e9:=gq (vals 9) g9
     have e10:=gq (vals 10) g10
     have e11:=gq (vals 11) g11
     have e12:=gq (vals 12) g12
     have e13:=gq (vals 13) g13
     have e14:=gq (vals 14) g14
     have e15:=gq (vals 15) g15
     simp only[Cl.puts,e0,e1,e2,e3,e4,e5,e6,e7,e8,e9,e10,e11,e12,e13,e14,e15]
     clear e0 e1 e2 e3 e4 e5 e6 e7 e8 e9 e10 e11 e12 e13 e14 e15 g0 g1 g2 g3 g4 g5 g6 g7 g8 g9 g10 g11 g12 g13 g14 g15
     go_simp
     have hbl1:=bstep hbl hg
     clear hg
     go_wp2
     go_ret2
     exact⟨i,ret_ib rfl HF.out.symm,by omega,hbl1⟩
   ·have hdi:decide (i < l.length)=false:=by simpa using hin
    have HF:=jD (found_no (l:=l) (t:=t) fun q h=>H1.out q h (by omega))
    have hw2:=jD hl
    clear hl
    go_wp2_with fail
    refine Cl.region0 49 rfl [] (fun _=>True) (fun _=>[]) (fun jq v ww=>match jq with | 0=>v= .int .i64 (i:Nat) | 1=>v= .int .i64 (i:Nat) | 2=>v= .int .i64 (l.length:Nat) | 3=>v= .bool false | 4=>v= .bool false | 5=>v=undef | 6=>v=undef | 7=>v=undef | 8=>v=undef | 9=>v=undef | 10=>v=undef | 11=>v=undef | 12=>v=undef | 13=>v= .bool false | 14=>v= .int .i64 (i:Nat) | 15=>v= .bool false | _=>True) (fun ww=>Below wo.heap.size wo ww) (fun jq ww ww'=>Below ww.heap.size ww ww') Tryz.mixed (by decide+kernel) (Below.refl _ _).drew trivial (fun q r v w w' _ _ _ h _=>h) (fun _ _ _ _ _ _=>trivial) ?_ ?_
    ·refine⟨?_, ?_, ?_, ?_, ?_, ?_, ?_, ?_, ?_, ?_, ?_, ?_, ?_, ?_, ?_, ?_,trivial⟩
     ·intro x wx hG
      have f9:=hG.o 9
      replace hG:=hG.good
      go_wp2
      exact⟨_,rfl,rfl,hG,Below.refl _ _⟩
     ·intro x wx hG
      have f9:=hG.o 9
      replace hG:=hG.good
      go_wp2
      exact⟨_,rfl,rfl,hG,Below.refl _ _⟩
     ·intro x wx hG
      have f8:=hG.o 8
      replace hG:=hG.good
      go_wp2
      exact⟨_,rfl,rfl,hG,Below.refl _ _⟩
     ·intro x wx hG
      have g1:(x.tmps.getD 36 undef)= .int .i64 (i:Nat):=hG.c 1 _ rfl
      have g2:(x.tmps.getD 37 undef)= .int .i64 (l.length:Nat):=hG.c 2 _ rfl
      replace hG:=hG.good
      go_wp2
      exact⟨_,rfl,rfl,hG,Below.refl _ _⟩
     ·intro x wx hG
      have g3:(x.tmps.getD 38 undef)= .bool false:=hG.c 3 _ rfl
      replace hG:=hG.good
      go_wp2
      exact⟨_,rfl,rfl,hG,Below.refl _ _⟩
     ·intro x wx hG
      have gg:(x.tmps.getD 39 undef)= .bool false:=hG.c 4 _ rfl
      replace gg:=Cl.opt (hG.size.trans (show _=49 from rfl)) (by decide) gg
      replace hG:=hG.good
      go_wp2
      exact⟨_,rfl,rfl,hG,Below.refl _ _⟩
     ·intro x wx hG
      have gg:(x.tmps.getD 39 undef)= .bool false:=hG.c 4 _ rfl
      replace gg:=Cl.opt (hG.size.trans (show _=49 from rfl)) (by decide) gg
      replace hG:=hG.good
      go_wp2
      exact⟨_,rfl,rfl,hG,Below.refl _ _⟩
     ·intro x wx hG
      have gg:(x.tmps.getD 39 undef)= .bool false:=hG.c 4 _ rfl
      replace gg:=Cl.opt (hG.size.trans (show _=49 from rfl)) (by decide) gg
      replace hG:=hG.good
      go_wp2
      exact⟨_,rfl,rfl,hG,Below.refl _ _⟩
     ·intro x wx hG
      have gg:(x.tmps.getD 39 undef)= .bool false:=hG.c 4 _ rfl
      replace gg:=Cl.opt (hG.size.trans (show _=49 from rfl)) (by decide) gg
      replace hG:=hG.good
      go_wp2
      exact⟨_,rfl,rfl,hG,Below.refl _ _⟩
     ·intro x wx hG
      have gg:(x.tmps.getD 39 undef)= .bool false:=hG.c 4 _ rfl
      replace gg:=Cl.opt (hG.size.trans (show _=49 from rfl)) (by decide) gg
      replace hG:=hG.good
      go_wp2
      exact⟨_,rfl,rfl,hG,Below.refl _ _⟩
     ·intro x wx hG
      have gg:(x.tmps.getD 39 undef)= .bool false:=hG.c 4 _ rfl
      replace gg:=Cl.opt (hG.size.trans (show _=49 from rfl)) (by decide) gg
      replace hG:=hG.good
      go_wp2
      exact⟨_,rfl,rfl,hG,Below.refl _ _⟩
     ·intro x wx hG
      have gg:(x.tmps.getD 39 undef)= .bool false:=hG.c 4 _ rfl
      replace gg:=Cl.opt (hG.size.trans (show _=49 from rfl)) (by decide) gg
      replace hG:=hG.good
      go_wp2
      exact⟨_,rfl,rfl,hG,Below.refl _ _⟩
     ·intro x wx hG
      have gg:(x.tmps.getD 39 undef)= .bool false:=hG.c 4 _ rfl
      replace gg:=Cl.opt (hG.size.trans (show _=49 from rfl)) (by decide) gg
      replace hG:=hG.good
      go_wp2
      exact⟨_,rfl,rfl,hG,Below.refl _ _⟩
     ·intro x wx hG
      have g4:(x.tmps.getD 39 undef)= .bool false:=hG.c 4 _ rfl
      have g12:(x.tmps.getD 47 undef)=undef:=hG.c 12 _ rfl
      replace hG:=hG.good
      go_wp2
      exact⟨_,rfl,rfl,hG,Below.refl _ _⟩
     ·intro x wx hG
      have g0:(x.tmps.getD 35 undef)= .int .i64 (i:Nat):=hG.c 0 _ rfl
      replace hG:=hG.good
      go_wp2
      exact⟨_,rfl,rfl,hG,Below.refl _ _⟩
     ·intro x wx hG
      have g13:(x.tmps.getD 48 undef)= .bool false:=hG.c 13 _ rfl
      replace hG:=hG.good
      go_wp2
      exact⟨_,rfl,rfl,hG,Below.refl _ _⟩
    ·intro vals w1 hg hF
     obtain⟨g0,g1,g2,g3,g4,g5,g6,g7,g8,g9,g10,g11,g12,g13,g14,g15, -⟩:=hF
     have e0:=gq (vals 0) g0
     have e1:=gq (vals 1) g1
     have e2:=gq (vals 2) g2
     have e3:=gq (vals 3) g3
     have e4:=gq (vals 4) g4
     have e5:=gq (vals 5) g5
     have e6:=gq (vals 6) g6
     have e7:=gq (vals 7) g7
     have e8:=gq (vals 8) g8
     have e9:=gq (vals 9) g9
     have e10:=gq (vals 10) g10
     have e11:=gq (vals 11) g11
     have e12:=gq (vals 12) g12
     have e13:=gq (vals 13) g13
     have e14:=gq (vals 14) g14
     have e15:=gq (vals 15) g15
     simp only[Cl.puts,e0,e1,e2,e3,e4,e5,e6,e7,e8,e9,e10,e11,e12,e13,e14,e15]
     clear e0 e1 e2 e3 e4 e5 e6 e7 e8 e9 e10 e11 e12 e13 e14 e15 g0 g1 g2 g3 g4 g5 g6 g7 g8 g9 g10 g11 g12 g13 g14 g15
     go_simp
     have hbl1:=bstep hbl hg
     clear hg
     go_wp2
     go_ret2
     exact⟨i,ret_ib rfl HF.out.symm,by omega,hbl1⟩
end Go.Proofs.YtgkgdedhicnohaaGreat
