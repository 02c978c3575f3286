/- The walk of reedkeep.TextBoth. Written by a small program (gen/textboth.py). -/
import Derived.Test.YtdljflabokhedaaDoorText5
import Derived.Test.YtdljflabokhedaaDoorText9
import Derived.Test.YtdljflabokhedaaDoorForm4
import Derived.Test.YtdljflabokhedaaDoorMFilter4
import Derived.LoopN
namespace Go.Proofs.YtdljflabokhedaaDoor
open Go.RowKit
theorem sBoth_ok:readE ⟨#[33,42]⟩=0∧(readL ⟨#[33,42]⟩).length=2:=by decide+kernel
set_option maxRecDepth 100000 in
theorem formF (v:Value) (l:Nds) (w:World) (hs:NdsAt w v l) (hz:formChk l=0):
  Calls Tryd.prog 7 #[v] w fun e w'=> ∃u,e= .returned (.tuple #[u, .int .i64 0])∧FV w' u (fun t n=>formVal l t n)∧Below w.heap.size w w':=by
 refine(formFilter_c v l w hs).mono ?_
 rintro e w' ⟨u,rfl,h1, -,hb⟩
 exact⟨u,by rw[hz],(h1 hz).fv,hb⟩
theorem readL_chk {s:ByteArray} (h:readE s=0):formChk (readL s)=0:=by
 obtain⟨-,l, -,h1,h2⟩:=readE_zero h
 rw[h2];exact h1
set_option maxRecDepth 100000 in
set_option maxHeartbeats 16000000 in
theorem textBoth_walk (s t:ByteArray) (W:World) (hg:Gl W W.heap.size) (hs:s.size≤140737488355328) (ht:t.size≤140737488355328):
  Calls Tryd.prog 4 #[.string s, .string t] W fun e w'=>e= .returned (.bool true)∧Below W.heap.size W w':=by
 have HG:=Lib.hid hg
 clear hg
 have z1:=twoB_size 38 s t
 have z2:=twoB_size 124 s t
 have z3:=notB_size s
 go_enter Tryd.func4,Tryd.ntmps4
 go_wp2_with fail
 refine(read_c _ _ HG.out (by decide)).mono ?_
 rintro e w1 ⟨u1,rfl,hu1,hb1⟩
 rw[sBoth_ok.1]
 obtain⟨a1,cap1,rfl, -, -, -, -⟩:=hu1.open_
 rw[sBoth_ok.2]
 have HG1:=Lib.hid ((HG.out.below hb1).up hb1.size)
 have HB1:=Lib.hid hb1
 clear hu1 hb1
 go_wp2_with fail
 refine(read_c s _ HG1.out (by omega)).mono ?_
 rintro e w2 ⟨u2,rfl,hu2,hb2⟩
 obtain⟨a2,cap2,rfl, -, -, -, -⟩:=hu2.open_
 have HG2:=Lib.hid ((HG1.out.below hb2).up hb2.size)
 have HB2:=Lib.hid (bstep HB1.out hb2)
 have HA:=Lib.hid hu2
 clear hu2 hb2 HG1 HB1
 go_wp2_with fail
 refine(read_c t _ HG2.out (by omega)).mono ?_
 rintro e w3 ⟨u3,rfl,hu3,hb3⟩
 obtain⟨a3,cap3,rfl, -, -, -, -⟩:=hu3.open_
 have HG3:=Lib.hid ((HG2.out.below hb3).up hb3.size)
 have HB3:=Lib.hid (bstep HB2.out hb3)
 have HT:=Lib.hid hu3
 replace HA:=Lib.hid (HA.out.below hb3)
 clear hu3 hb3 HG2 HB2
 go_wp2_with fail
 refine(read_c (twoB 38 s t) _ HG3.out (by omega)).mono ?_
 rintro e w4 ⟨u4,rfl,hu4,hb4⟩
 obtain⟨a4,cap4,rfl, -, -, -, -⟩:=hu4.open_
 have HG4:=Lib.hid ((HG3.out.below hb4).up hb4.size)
 have HB4:=Lib.hid (bstep HB3.out hb4)
 have HC:=Lib.hid hu4
 replace HA:=Lib.hid (HA.out.below hb4)
 replace HT:=Lib.hid (HT.out.below hb4)
 clear hu4 hb4 HG3 HB3
 go_wp2_with fail
 refine(read_c (twoB 124 s t) _ HG4.out (by omega)).mono ?_
 rintro e w5 ⟨u5,rfl,hu5,hb5⟩
 obtain⟨a5,cap5,rfl, -, -, -, -⟩:=hu5.open_
 have HG5:=Lib.hid ((HG4.out.below hb5).up hb5.size)
 have HB5:=Lib.hid (bstep HB4.out hb5)
 have HD:=Lib.hid hu5
 replace HA:=Lib.hid (HA.out.below hb5)
 replace HT:=Lib.hid (HT.out.below hb5)
 replace HC:=Lib.hid (HC.out.below hb5)
 clear hu5 hb5 HG4 HB4
 go_wp2_with fail
 refine(read_c (notB s) _ HG5.out (by omega)).mono ?_
 rintro e w6 ⟨u6,rfl,hu6,hb6⟩
 obtain⟨a6,cap6,rfl, -, -, -, -⟩:=hu6.open_
 have HG6:=Lib.hid ((HG5.out.below hb6).up hb6.size)
 have HB6:=Lib.hid (bstep HB5.out hb6)
 have HN:=Lib.hid hu6
 replace HA:=Lib.hid (HA.out.below hb6)
 replace HT:=Lib.hid (HT.out.below hb6)
 replace HC:=Lib.hid (HC.out.below hb6)
 replace HD:=Lib.hid (HD.out.below hb6)
 clear hu6 hb6 HG5 HB5
 clear HG6
 by_cases es:readE s=0
 rotate_left
 ·have esb:(readE s==0)=false:=beq_eq_false_iff_ne.2 es
  rw[readL_bad es]
  go_wp2
  go_ret
  exact⟨rfl,HB6.out⟩
 by_cases et:readE t=0
 rotate_left
 ·have etb:(readE t==0)=false:=beq_eq_false_iff_ne.2 et
  have e3:(readE (twoB 38 s t)==0)=false:=beq_eq_false_iff_ne.2 fun h=>et (two_back (.inl rfl) es h)
  have e4:(readE (twoB 124 s t)==0)=false:=beq_eq_false_iff_ne.2 fun h=>et (two_back (.inr rfl) es h)
  have e3b:(readE (twoB 38 s t) != 0)=true:=by rw[bne,e3];rfl
  have e4b:(readE (twoB 124 s t) != 0)=true:=by rw[bne,e4];rfl
  rw[es]
  go_wp2
  go_ret
  exact⟨ret_bool (by simp_all),HB6.out⟩
 have L1:=Lib.hid (two_law (c:=38) (.inl rfl) es et)
 have L2:=Lib.hid (two_law (c:=124) (.inr rfl) es et)
 have L3:=Lib.hid (not_law es)
 have CA:=Lib.hid (readL_chk es)
 have CT:=Lib.hid (readL_chk et)
 have LA:=(formChk_all CA.out).2.1
 have LT:=(formChk_all CT.out).2.1
 have hs4:=(readE_zero es).1
 have ht4:=(readE_zero et).1
 rw[es,et]
 generalize hRA:readL s=RA at*
 generalize hRT:readL t=RT at*
 clear hRA hRT es et
 by_cases hn:s.size < 400∧RA.length < 30
 rotate_left
 ·have q3:readE (notB s)=2:=L3.out.1 (by omega)
  rw[q3]
  clear q3
  have dn:decide ((RA.length:Int) < 30)=false∨decide ((RA.length:Int) < 30)=true∧decide ((s.size:Int) < 400)=false:=by
   by_cases h:RA.length < 30
   ·exact .inr ⟨by rw[decide_eq_true_eq];omega,by rw[decide_eq_false_iff_not];omega⟩
   ·exact .inl (by rw[decide_eq_false_iff_not];omega)
  rcases dn with dn | ⟨dn,dn2⟩
  ·by_cases h2:s.size+t.size+3≤400∧RA.length+RT.length < 30
   rotate_left
   ·have q1:readE (twoB 38 s t)=2:=L1.out.1 (by omega)
    have q2:readE (twoB 124 s t)=2:=L2.out.1 (by omega)
    rw[q1,q2]
    clear q1 q2 L1 L2 L3
    by_cases h3:30≤RA.length+RT.length
    ·have d3:decide ((30:Int)≤(RA.length:Int)+(RT.length:Int))=true:=by rw[decide_eq_true_eq];omega
     have d3b:decide (((30:Nat):Int)≤((RA.length+RT.length:Nat):Int))=true:=by rw[decide_eq_true_eq];omega
     go_wp2
     go_ret
     exact⟨rfl,HB6.out⟩
    ·have d3:decide ((30:Int)≤(RA.length:Int)+(RT.length:Int))=false:=by rw[decide_eq_false_iff_not];omega
     have d4:decide ((400:Int) < (s.size:Int)+(t.size:Int)+3)=true:=by rw[decide_eq_true_eq];omega
     go_wp2
     go_ret
     exact⟨rfl,HB6.out⟩
   obtain⟨q1,g1⟩:=L1.out.2 h2.1 h2.2
   obtain⟨q2,g2⟩:=L2.out.2 h2.1 h2.2
   have CC:=Lib.hid (readL_chk q1)
   have CD:=Lib.hid (readL_chk q2)
   rw[q1,q2]
   have G1:=Lib.hid g1
   have G2:=Lib.hid g2
   clear q1 q2 g1 g2 L1 L2 L3 h2
   go_wp2_with fail
   refine(formF _ _ _ HA.out CA.out).mono ?_
   rintro e w7 ⟨vf,rfl,ff,hb⟩
   obtain⟨adf,nnf,ccf,hv⟩:=ff.shape
   subst hv
   have HFf:=Lib.hid ff
   replace HA:=Lib.hid (HA.out.below hb)
   replace HT:=Lib.hid (HT.out.below hb)
   replace HC:=Lib.hid (HC.out.below hb)
   replace HD:=Lib.hid (HD.out.below hb)
   replace HN:=Lib.hid (HN.out.below hb)
   have HB7:=Lib.hid (bstep HB6.out hb)
   clear ff hb HB6
   go_wp2_with fail
   refine(formF _ _ _ HT.out CT.out).mono ?_
   rintro e w8 ⟨vg,rfl,fg,hb⟩
   obtain⟨adg,nng,ccg,hv⟩:=fg.shape
   subst hv
   have HFg:=Lib.hid fg
   replace HA:=Lib.hid (HA.out.below hb)
   replace HT:=Lib.hid (HT.out.below hb)
   replace HC:=Lib.hid (HC.out.below hb)
   replace HD:=Lib.hid (HD.out.below hb)
   replace HN:=Lib.hid (HN.out.below hb)
   replace HFf:=Lib.hid (HFf.out.below hb)
   have HB8:=Lib.hid (bstep HB7.out hb)
   clear fg hb HB7
   go_wp2_with fail
   refine(formF _ _ _ HC.out CC.out).mono ?_
   rintro e w9 ⟨vh,rfl,fh,hb⟩
   obtain⟨adh,nnh,cch,hv⟩:=fh.shape
   subst hv
   have HFh:=Lib.hid fh
   replace HA:=Lib.hid (HA.out.below hb)
   replace HT:=Lib.hid (HT.out.below hb)
   replace HC:=Lib.hid (HC.out.below hb)
   replace HD:=Lib.hid (HD.out.below hb)
   replace HN:=Lib.hid (HN.out.below hb)
   replace HFf:=Lib.hid (HFf.out.below hb)
   replace HFg:=Lib.hid (HFg.out.below hb)
   have HB9:=Lib.hid (bstep HB8.out hb)
   clear fh hb HB8
   go_wp2_with fail
   refine(formF _ _ _ HD.out CD.out).mono ?_
   rintro e w10 ⟨vi,rfl,fi,hb⟩
   obtain⟨adi,nni,cci,hv⟩:=fi.shape
   subst hv
   have HFi:=Lib.hid fi
   replace HA:=Lib.hid (HA.out.below hb)
   replace HT:=Lib.hid (HT.out.below hb)
   replace HC:=Lib.hid (HC.out.below hb)
   replace HD:=Lib.hid (HD.out.below hb)
   replace HN:=Lib.hid (HN.out.below hb)
   replace HFf:=Lib.hid (HFf.out.below hb)
   replace HFg:=Lib.hid (HFg.out.below hb)
   replace HFh:=Lib.hid (HFh.out.below hb)
   have HB10:=Lib.hid (bstep HB9.out hb)
   clear fi hb HB9
   go_wp2_with fail
   refine(meetF _ _ _ _ _ HFf.out HFg.out).mono ?_
   rintro e w11 ⟨vm,rfl,fm,hb⟩
   obtain⟨adm,nnm,ccm,hv⟩:=fm.shape
   subst hv
   have HFm:=Lib.hid fm
   replace HA:=Lib.hid (HA.out.below hb)
   replace HT:=Lib.hid (HT.out.below hb)
   replace HC:=Lib.hid (HC.out.below hb)
   replace HD:=Lib.hid (HD.out.below hb)
   replace HN:=Lib.hid (HN.out.below hb)
   replace HFf:=Lib.hid (HFf.out.below hb)
   replace HFg:=Lib.hid (HFg.out.below hb)
   replace HFh:=Lib.hid (HFh.out.below hb)
   replace HFi:=Lib.hid (HFi.out.below hb)
   have HB11:=Lib.hid (bstep HB10.out hb)
   clear fm hb HB10
   go_wp2_with fail
   refine(joinF _ _ _ _ _ HFf.out HFg.out).mono ?_
   rintro e w12 ⟨vj,rfl,fj,hb⟩
   obtain⟨adj,nnj,ccj,hv⟩:=fj.shape
   subst hv
   have HFj:=Lib.hid fj
   replace HA:=Lib.hid (HA.out.below hb)
   replace HT:=Lib.hid (HT.out.below hb)
   replace HC:=Lib.hid (HC.out.below hb)
   replace HD:=Lib.hid (HD.out.below hb)
   replace HN:=Lib.hid (HN.out.below hb)
   replace HFf:=Lib.hid (HFf.out.below hb)
   replace HFg:=Lib.hid (HFg.out.below hb)
   replace HFh:=Lib.hid (HFh.out.below hb)
   replace HFi:=Lib.hid (HFi.out.below hb)
   replace HFm:=Lib.hid (HFm.out.below hb)
   have HB12:=Lib.hid (bstep HB11.out hb)
   clear fj hb HB11
   go_wp2_with fail
   refine wp_loop_rounds 7 ?_
   iterate 6 (rw[rounds_succ];go_wp2_with fail)
   rw[rounds_succ]
   have AL:=Lib.hid (bal (W:=w12) (Obj.cells #[Value.int .i64 0,Value.int .i64 0,Value.int .i64 0,Value.int .i64 0,Value.int .i64 0,Value.int .i64 0] 23))
   replace HA:=Lib.hid (HA.out.below AL.out)
   replace HT:=Lib.hid (HT.out.below AL.out)
   replace HC:=Lib.hid (HC.out.below AL.out)
   replace HD:=Lib.hid (HD.out.below AL.out)
   replace HN:=Lib.hid (HN.out.below AL.out)
   replace HFf:=Lib.hid (HFf.out.below AL.out)
   replace HFg:=Lib.hid (HFg.out.below AL.out)
   replace HFh:=Lib.hid (HFh.out.below AL.out)
   replace HFi:=Lib.hid (HFi.out.below AL.out)
   replace HFm:=Lib.hid (HFm.out.below AL.out)
   replace HFj:=Lib.hid (HFj.out.below AL.out)
   have HBz:=Lib.hid (bstep HB12.out AL.out)
   go_wp2_with fail
   refine(sameT _ _ _ _ _ HFh.out HFm.out (fun k n=>by rw[G1.out];rfl)).mono ?_
   rintro e w13 ⟨rfl,hb⟩
   replace HA:=Lib.hid (HA.out.below hb)
   replace HT:=Lib.hid (HT.out.below hb)
   replace HC:=Lib.hid (HC.out.below hb)
   replace HD:=Lib.hid (HD.out.below hb)
   replace HN:=Lib.hid (HN.out.below hb)
   replace HFf:=Lib.hid (HFf.out.below hb)
   replace HFg:=Lib.hid (HFg.out.below hb)
   replace HFh:=Lib.hid (HFh.out.below hb)
   replace HFi:=Lib.hid (HFi.out.below hb)
   replace HFm:=Lib.hid (HFm.out.below hb)
   replace HFj:=Lib.hid (HFj.out.below hb)
   have HB13:=Lib.hid (bstep HBz.out hb)
   clear hb HBz
   go_wp2_with fail
   refine(sameT _ _ _ _ _ HFi.out HFj.out (fun k n=>by rw[G2.out];rfl)).mono ?_
   rintro e w14 ⟨rfl,hb⟩
   replace HA:=Lib.hid (HA.out.below hb)
   replace HT:=Lib.hid (HT.out.below hb)
   replace HC:=Lib.hid (HC.out.below hb)
   replace HD:=Lib.hid (HD.out.below hb)
   replace HN:=Lib.hid (HN.out.below hb)
   replace HFf:=Lib.hid (HFf.out.below hb)
   replace HFg:=Lib.hid (HFg.out.below hb)
   replace HFh:=Lib.hid (HFh.out.below hb)
   replace HFi:=Lib.hid (HFi.out.below hb)
   replace HFm:=Lib.hid (HFm.out.below hb)
   replace HFj:=Lib.hid (HFj.out.below hb)
   have HB14:=Lib.hid (bstep HB13.out hb)
   clear hb HB13
   go_wp2
   go_ret
   exact⟨rfl,HB14.out⟩
  ·by_cases h2:s.size+t.size+3≤400∧RA.length+RT.length < 30
   rotate_left
   ·have q1:readE (twoB 38 s t)=2:=L1.out.1 (by omega)
    have q2:readE (twoB 124 s t)=2:=L2.out.1 (by omega)
    rw[q1,q2]
    clear q1 q2 L1 L2 L3
    by_cases h3:30≤RA.length+RT.length
    ·have d3:decide ((30:Int)≤(RA.length:Int)+(RT.length:Int))=true:=by rw[decide_eq_true_eq];omega
     have d3b:decide (((30:Nat):Int)≤((RA.length+RT.length:Nat):Int))=true:=by rw[decide_eq_true_eq];omega
     go_wp2
     go_ret
     exact⟨rfl,HB6.out⟩
    ·have d3:decide ((30:Int)≤(RA.length:Int)+(RT.length:Int))=false:=by rw[decide_eq_false_iff_not];omega
     have d4:decide ((400:Int) < (s.size:Int)+(t.size:Int)+3)=true:=by rw[decide_eq_true_eq];omega
     go_wp2
     go_ret
     exact⟨rfl,HB6.out⟩
   obtain⟨q1,g1⟩:=L1.out.2 h2.1 h2.2
   obtain⟨q2,g2⟩:=L2.out.2 h2.1 h2.2
   have CC:=Lib.hid (readL_chk q1)
   have CD:=Lib.hid (readL_chk q2)
   rw[q1,q2]
   have G1:=Lib.hid g1
   have G2:=Lib.hid g2
   clear q1 q2 g1 g2 L1 L2 L3 h2
   go_wp2_with fail
   refine(formF _ _ _ HA.out CA.out).mono ?_
   rintro e w7 ⟨vf,rfl,ff,hb⟩
   obtain⟨adf,nnf,ccf,hv⟩:=ff.shape
   subst hv
   have HFf:=Lib.hid ff
   replace HA:=Lib.hid (HA.out.below hb)
   replace HT:=Lib.hid (HT.out.below hb)
   replace HC:=Lib.hid (HC.out.below hb)
   replace HD:=Lib.hid (HD.out.below hb)
   replace HN:=Lib.hid (HN.out.below hb)
   have HB7:=Lib.hid (bstep HB6.out hb)
   clear ff hb HB6
   go_wp2_with fail
   refine(formF _ _ _ HT.out CT.out).mono ?_
   rintro e w8 ⟨vg,rfl,fg,hb⟩
   obtain⟨adg,nng,ccg,hv⟩:=fg.shape
   subst hv
   have HFg:=Lib.hid fg
   replace HA:=Lib.hid (HA.out.below hb)
   replace HT:=Lib.hid (HT.out.below hb)
   replace HC:=Lib.hid (HC.out.below hb)
   replace HD:=Lib.hid (HD.out.below hb)
   replace HN:=Lib.hid (HN.out.below hb)
   replace HFf:=Lib.hid (HFf.out.below hb)
   have HB8:=Lib.hid (bstep HB7.out hb)
   clear fg hb HB7
   go_wp2_with fail
   refine(formF _ _ _ HC.out CC.out).mono ?_
   rintro e w9 ⟨vh,rfl,fh,hb⟩
   obtain⟨adh,nnh,cch,hv⟩:=fh.shape
   subst hv
   have HFh:=Lib.hid fh
   replace HA:=Lib.hid (HA.out.below hb)
   replace HT:=Lib.hid (HT.out.below hb)
   replace HC:=Lib.hid (HC.out.below hb)
   replace HD:=Lib.hid (HD.out.below hb)
   replace HN:=Lib.hid (HN.out.below hb)
   replace HFf:=Lib.hid (HFf.out.below hb)
   replace HFg:=Lib.hid (HFg.out.below hb)
   have HB9:=Lib.hid (bstep HB8.out hb)
   clear fh hb HB8
   go_wp2_with fail
   refine(formF _ _ _ HD.out CD.out).mono ?_
   rintro e w10 ⟨vi,rfl,fi,hb⟩
   obtain⟨adi,nni,cci,hv⟩:=fi.shape
   subst hv
   have HFi:=Lib.hid fi
   replace HA:=Lib.hid (HA.out.below hb)
   replace HT:=Lib.hid (HT.out.below hb)
   replace HC:=Lib.hid (HC.out.below hb)
   replace HD:=Lib.hid (HD.out.below hb)
   replace HN:=Lib.hid (HN.out.below hb)
   replace HFf:=Lib.hid (HFf.out.below hb)
   replace HFg:=Lib.hid (HFg.out.below hb)
   replace HFh:=Lib.hid (HFh.out.below hb)
   have HB10:=Lib.hid (bstep HB9.out hb)
   clear fi hb HB9
   go_wp2_with fail
   refine(meetF _ _ _ _ _ HFf.out HFg.out).mono ?_
   rintro e w11 ⟨vm,rfl,fm,hb⟩
   obtain⟨adm,nnm,ccm,hv⟩:=fm.shape
   subst hv
   have HFm:=Lib.hid fm
   replace HA:=Lib.hid (HA.out.below hb)
   replace HT:=Lib.hid (HT.out.below hb)
   replace HC:=Lib.hid (HC.out.below hb)
   replace HD:=Lib.hid (HD.out.below hb)
   replace HN:=Lib.hid (HN.out.below hb)
   replace HFf:=Lib.hid (HFf.out.below hb)
   replace HFg:=Lib.hid (HFg.out.below hb)
   replace HFh:=Lib.hid (HFh.out.below hb)
   replace HFi:=Lib.hid (HFi.out.below hb)
   have HB11:=Lib.hid (bstep HB10.out hb)
   clear fm hb HB10
   go_wp2_with fail
   refine(joinF _ _ _ _ _ HFf.out HFg.out).mono ?_
   rintro e w12 ⟨vj,rfl,fj,hb⟩
   obtain⟨adj,nnj,ccj,hv⟩:=fj.shape
   subst hv
   have HFj:=Lib.hid fj
   replace HA:=Lib.hid (HA.out.below hb)
   replace HT:=Lib.hid (HT.out.below hb)
   replace HC:=Lib.hid (HC.out.below hb)
   replace HD:=Lib.hid (HD.out.below hb)
   replace HN:=Lib.hid (HN.out.below hb)
   replace HFf:=Lib.hid (HFf.out.below hb)
   replace HFg:=Lib.hid (HFg.out.below hb)
   replace HFh:=Lib.hid (HFh.out.below hb)
   replace HFi:=Lib.hid (HFi.out.below hb)
   replace HFm:=Lib.hid (HFm.out.below hb)
   have HB12:=Lib.hid (bstep HB11.out hb)
   clear fj hb HB11
   go_wp2_with fail
   refine wp_loop_rounds 7 ?_
   iterate 6 (rw[rounds_succ];go_wp2_with fail)
   rw[rounds_succ]
   have AL:=Lib.hid (bal (W:=w12) (Obj.cells #[Value.int .i64 0,Value.int .i64 0,Value.int .i64 0,Value.int .i64 0,Value.int .i64 0,Value.int .i64 0] 23))
   replace HA:=Lib.hid (HA.out.below AL.out)
   replace HT:=Lib.hid (HT.out.below AL.out)
   replace HC:=Lib.hid (HC.out.below AL.out)
   replace HD:=Lib.hid (HD.out.below AL.out)
   replace HN:=Lib.hid (HN.out.below AL.out)
   replace HFf:=Lib.hid (HFf.out.below AL.out)
   replace HFg:=Lib.hid (HFg.out.below AL.out)
   replace HFh:=Lib.hid (HFh.out.below AL.out)
   replace HFi:=Lib.hid (HFi.out.below AL.out)
   replace HFm:=Lib.hid (HFm.out.below AL.out)
   replace HFj:=Lib.hid (HFj.out.below AL.out)
   have HBz:=Lib.hid (bstep HB12.out AL.out)
   go_wp2_with fail
   refine(sameT _ _ _ _ _ HFh.out HFm.out (fun k n=>by rw[G1.out];rfl)).mono ?_
   rintro e w13 ⟨rfl,hb⟩
   replace HA:=Lib.hid (HA.out.below hb)
   replace HT:=Lib.hid (HT.out.below hb)
   replace HC:=Lib.hid (HC.out.below hb)
   replace HD:=Lib.hid (HD.out.below hb)
   replace HN:=Lib.hid (HN.out.below hb)
   replace HFf:=Lib.hid (HFf.out.below hb)
   replace HFg:=Lib.hid (HFg.out.below hb)
   replace HFh:=Lib.hid (HFh.out.below hb)
   replace HFi:=Lib.hid (HFi.out.below hb)
   replace HFm:=Lib.hid (HFm.out.below hb)
   replace HFj:=Lib.hid (HFj.out.below hb)
   have HB13:=Lib.hid (bstep HBz.out hb)
   clear hb HBz
   go_wp2_with fail
   refine(sameT _ _ _ _ _ HFi.out HFj.out (fun k n=>by rw[G2.out];rfl)).mono ?_
   rintro e w14 ⟨rfl,hb⟩
   replace HA:=Lib.hid (HA.out.below hb)
   replace HT:=Lib.hid (HT.out.below hb)
   replace HC:=Lib.hid (HC.out.below hb)
   replace HD:=Lib.hid (HD.out.below hb)
   replace HN:=Lib.hid (HN.out.below hb)
   replace HFf:=Lib.hid (HFf.out.below hb)
   replace HFg:=Lib.hid (HFg.out.below hb)
   replace HFh:=Lib.hid (HFh.out.below hb)
   replace HFi:=Lib.hid (HFi.out.below hb)
   replace HFm:=Lib.hid (HFm.out.below hb)
   replace HFj:=Lib.hid (HFj.out.below hb)
   have HB14:=Lib.hid (bstep HB13.out hb)
   clear hb HB13
   go_wp2
   go_ret
   exact⟨rfl,HB14.out⟩
 obtain⟨q3,g3⟩:=L3.out.2 hn.1 hn.2
 have CN:=Lib.hid (readL_chk q3)
 have G3:=Lib.hid g3
 rw[q3]
 clear q3 g3
 go_wp2_with fail
 refine(formF _ _ _ HA.out CA.out).mono ?_
 rintro e w7 ⟨vx,rfl,fx,hb⟩
 obtain⟨adx,nnx,ccx,hv⟩:=fx.shape
 subst hv
 have HFx:=Lib.hid fx
 replace HA:=Lib.hid (HA.out.below hb)
 replace HT:=Lib.hid (HT.out.below hb)
 replace HC:=Lib.hid (HC.out.below hb)
 replace HD:=Lib.hid (HD.out.below hb)
 replace HN:=Lib.hid (HN.out.below hb)
 have HB7:=Lib.hid (bstep HB6.out hb)
 clear fx hb HB6
 go_wp2_with fail
 refine(formF _ _ _ HN.out CN.out).mono ?_
 rintro e w8 ⟨vy,rfl,fy,hb⟩
 obtain⟨ady,nny,ccy,hv⟩:=fy.shape
 subst hv
 have HFy:=Lib.hid fy
 replace HA:=Lib.hid (HA.out.below hb)
 replace HT:=Lib.hid (HT.out.below hb)
 replace HC:=Lib.hid (HC.out.below hb)
 replace HD:=Lib.hid (HD.out.below hb)
 replace HN:=Lib.hid (HN.out.below hb)
 replace HFx:=Lib.hid (HFx.out.below hb)
 have HB8:=Lib.hid (bstep HB7.out hb)
 clear fy hb HB7
 go_wp2_with fail
 refine(everyF _).mono ?_
 rintro e w9 ⟨ve,rfl,fe,hb⟩
 obtain⟨ade,nne,cce,hv⟩:=fe.shape
 subst hv
 have HFe:=Lib.hid fe
 replace HA:=Lib.hid (HA.out.below hb)
 replace HT:=Lib.hid (HT.out.below hb)
 replace HC:=Lib.hid (HC.out.below hb)
 replace HD:=Lib.hid (HD.out.below hb)
 replace HN:=Lib.hid (HN.out.below hb)
 replace HFx:=Lib.hid (HFx.out.below hb)
 replace HFy:=Lib.hid (HFy.out.below hb)
 have HB9:=Lib.hid (bstep HB8.out hb)
 clear fe hb HB8
 go_wp2_with fail
 refine(lessF _ _ _ _ _ HFe.out HFx.out).mono ?_
 rintro e w10 ⟨vl,rfl,fl,hb⟩
 obtain⟨adl,nnl,ccl,hv⟩:=fl.shape
 subst hv
 have HFl:=Lib.hid fl
 replace HA:=Lib.hid (HA.out.below hb)
 replace HT:=Lib.hid (HT.out.below hb)
 replace HC:=Lib.hid (HC.out.below hb)
 replace HD:=Lib.hid (HD.out.below hb)
 replace HN:=Lib.hid (HN.out.below hb)
 replace HFx:=Lib.hid (HFx.out.below hb)
 replace HFy:=Lib.hid (HFy.out.below hb)
 replace HFe:=Lib.hid (HFe.out.below hb)
 have HB10:=Lib.hid (bstep HB9.out hb)
 clear fl hb HB9
 go_wp2_with fail
 refine(sameT _ _ _ _ _ HFy.out HFl.out (fun k n=>by rw[G3.out];simp)).mono ?_
 rintro e w11 ⟨rfl,hb⟩
 replace HA:=Lib.hid (HA.out.below hb)
 replace HT:=Lib.hid (HT.out.below hb)
 replace HC:=Lib.hid (HC.out.below hb)
 replace HD:=Lib.hid (HD.out.below hb)
 replace HN:=Lib.hid (HN.out.below hb)
 replace HFx:=Lib.hid (HFx.out.below hb)
 replace HFy:=Lib.hid (HFy.out.below hb)
 replace HFe:=Lib.hid (HFe.out.below hb)
 replace HFl:=Lib.hid (HFl.out.below hb)
 have HB11:=Lib.hid (bstep HB10.out hb)
 clear hb HB10
 clear HFx HFy HFe HFl
 by_cases h2:s.size+t.size+3≤400∧RA.length+RT.length < 30
 rotate_left
 ·have q1:readE (twoB 38 s t)=2:=L1.out.1 (by omega)
  have q2:readE (twoB 124 s t)=2:=L2.out.1 (by omega)
  rw[q1,q2]
  clear q1 q2 L1 L2 L3
  by_cases h3:30≤RA.length+RT.length
  ·have d3:decide ((30:Int)≤(RA.length:Int)+(RT.length:Int))=true:=by rw[decide_eq_true_eq];omega
   have d3b:decide (((30:Nat):Int)≤((RA.length+RT.length:Nat):Int))=true:=by rw[decide_eq_true_eq];omega
   go_wp2
   go_ret
   exact⟨rfl,HB11.out⟩
  ·have d3:decide ((30:Int)≤(RA.length:Int)+(RT.length:Int))=false:=by rw[decide_eq_false_iff_not];omega
   have d4:decide ((400:Int) < (s.size:Int)+(t.size:Int)+3)=true:=by rw[decide_eq_true_eq];omega
   go_wp2
   go_ret
   exact⟨rfl,HB11.out⟩
 obtain⟨q1,g1⟩:=L1.out.2 h2.1 h2.2
 obtain⟨q2,g2⟩:=L2.out.2 h2.1 h2.2
 have CC:=Lib.hid (readL_chk q1)
 have CD:=Lib.hid (readL_chk q2)
 rw[q1,q2]
 have G1:=Lib.hid g1
 have G2:=Lib.hid g2
 clear q1 q2 g1 g2 L1 L2 L3 h2
 go_wp2_with fail
 refine(formF _ _ _ HA.out CA.out).mono ?_
 rintro e w12 ⟨vf,rfl,ff,hb⟩
 obtain⟨adf,nnf,ccf,hv⟩:=ff.shape
 subst hv
 have HFf:=Lib.hid ff
 replace HA:=Lib.hid (HA.out.below hb)
 replace HT:=Lib.hid (HT.out.below hb)
 replace HC:=Lib.hid (HC.out.below hb)
 replace HD:=Lib.hid (HD.out.below hb)
 replace HN:=Lib.hid (HN.out.below hb)
 have HB12:=Lib.hid (bstep HB11.out hb)
 clear ff hb HB11
 go_wp2_with fail
 refine(formF _ _ _ HT.out CT.out).mono ?_
 rintro e w13 ⟨vg,rfl,fg,hb⟩
 obtain⟨adg,nng,ccg,hv⟩:=fg.shape
 subst hv
 have HFg:=Lib.hid fg
 replace HA:=Lib.hid (HA.out.below hb)
 replace HT:=Lib.hid (HT.out.below hb)
 replace HC:=Lib.hid (HC.out.below hb)
 replace HD:=Lib.hid (HD.out.below hb)
 replace HN:=Lib.hid (HN.out.below hb)
 replace HFf:=Lib.hid (HFf.out.below hb)
 have HB13:=Lib.hid (bstep HB12.out hb)
 clear fg hb HB12
 go_wp2_with fail
 refine(formF _ _ _ HC.out CC.out).mono ?_
 rintro e w14 ⟨vh,rfl,fh,hb⟩
 obtain⟨adh,nnh,cch,hv⟩:=fh.shape
 subst hv
 have HFh:=Lib.hid fh
 replace HA:=Lib.hid (HA.out.below hb)
 replace HT:=Lib.hid (HT.out.below hb)
 replace HC:=Lib.hid (HC.out.below hb)
 replace HD:=Lib.hid (HD.out.below hb)
 replace HN:=Lib.hid (HN.out.below hb)
 replace HFf:=Lib.hid (HFf.out.below hb)
 replace HFg:=Lib.hid (HFg.out.below hb)
 have HB14:=Lib.hid (bstep HB13.out hb)
 clear fh hb HB13
 go_wp2_with fail
 refine(formF _ _ _ HD.out CD.out).mono ?_
 rintro e w15 ⟨vi,rfl,fi,hb⟩
 obtain⟨adi,nni,cci,hv⟩:=fi.shape
 subst hv
 have HFi:=Lib.hid fi
 replace HA:=Lib.hid (HA.out.below hb)
 replace HT:=Lib.hid (HT.out.below hb)
 replace HC:=Lib.hid (HC.out.below hb)
 replace HD:=Lib.hid (HD.out.below hb)
 replace HN:=Lib.hid (HN.out.below hb)
 replace HFf:=Lib.hid (HFf.out.below hb)
 replace HFg:=Lib.hid (HFg.out.below hb)
 replace HFh:=Lib.hid (HFh.out.below hb)
 have HB15:=Lib.hid (bstep HB14.out hb)
 clear fi hb HB14
 go_wp2_with fail
 refine(meetF _ _ _ _ _ HFf.out HFg.out).mono ?_
 rintro e w16 ⟨vm,rfl,fm,hb⟩
 obtain⟨adm,nnm,ccm,hv⟩:=fm.shape
 subst hv
 have HFm:=Lib.hid fm
 replace HA:=Lib.hid (HA.out.below hb)
 replace HT:=Lib.hid (HT.out.below hb)
 replace HC:=Lib.hid (HC.out.below hb)
 replace HD:=Lib.hid (HD.out.below hb)
 replace HN:=Lib.hid (HN.out.below hb)
 replace HFf:=Lib.hid (HFf.out.below hb)
 replace HFg:=Lib.hid (HFg.out.below hb)
 replace HFh:=Lib.hid (HFh.out.below hb)
 replace HFi:=Lib.hid (HFi.out.below hb)
 have HB16:=Lib.hid (bstep HB15.out hb)
 clear fm hb HB15
 go_wp2_with fail
 refine(joinF _ _ _ _ _ HFf.out HFg.out).mono ?_
 rintro e w17 ⟨vj,rfl,fj,hb⟩
 obtain⟨adj,nnj,ccj,hv⟩:=fj.shape
 subst hv
 have HFj:=Lib.hid fj
 replace HA:=Lib.hid (HA.out.below hb)
 replace HT:=Lib.hid (HT.out.below hb)
 replace HC:=Lib.hid (HC.out.below hb)
 replace HD:=Lib.hid (HD.out.below hb)
 replace HN:=Lib.hid (HN.out.below hb)
 replace HFf:=Lib.hid (HFf.out.below hb)
 replace HFg:=Lib.hid (HFg.out.below hb)
 replace HFh:=Lib.hid (HFh.out.below hb)
 replace HFi:=Lib.hid (HFi.out.below hb)
 replace HFm:=Lib.hid (HFm.out.below hb)
 have HB17:=Lib.hid (bstep HB16.out hb)
 clear fj hb HB16
 go_wp2_with fail
 refine wp_loop_rounds 7 ?_
 iterate 6 (rw[rounds_succ];go_wp2_with fail)
 rw[rounds_succ]
 have AL:=Lib.hid (bal (W:=w17) (Obj.cells #[Value.int .i64 0,Value.int .i64 0,Value.int .i64 0,Value.int .i64 0,Value.int .i64 0,Value.int .i64 0] 23))
 replace HA:=Lib.hid (HA.out.below AL.out)
 replace HT:=Lib.hid (HT.out.below AL.out)
 replace HC:=Lib.hid (HC.out.below AL.out)
 replace HD:=Lib.hid (HD.out.below AL.out)
 replace HN:=Lib.hid (HN.out.below AL.out)
 replace HFf:=Lib.hid (HFf.out.below AL.out)
 replace HFg:=Lib.hid (HFg.out.below AL.out)
 replace HFh:=Lib.hid (HFh.out.below AL.out)
 replace HFi:=Lib.hid (HFi.out.below AL.out)
 replace HFm:=Lib.hid (HFm.out.below AL.out)
 replace HFj:=Lib.hid (HFj.out.below AL.out)
 have HBz:=Lib.hid (bstep HB17.out AL.out)
 go_wp2_with fail
 refine(sameT _ _ _ _ _ HFh.out HFm.out (fun k n=>by rw[G1.out];rfl)).mono ?_
 rintro e w18 ⟨rfl,hb⟩
 replace HA:=Lib.hid (HA.out.below hb)
 replace HT:=Lib.hid (HT.out.below hb)
 replace HC:=Lib.hid (HC.out.below hb)
 replace HD:=Lib.hid (HD.out.below hb)
 replace HN:=Lib.hid (HN.out.below hb)
 replace HFf:=Lib.hid (HFf.out.below hb)
 replace HFg:=Lib.hid (HFg.out.below hb)
 replace HFh:=Lib.hid (HFh.out.below hb)
 replace HFi:=Lib.hid (HFi.out.below hb)
 replace HFm:=Lib.hid (HFm.out.below hb)
 replace HFj:=Lib.hid (HFj.out.below hb)
 have HB18:=Lib.hid (bstep HBz.out hb)
 clear hb HBz
 go_wp2_with fail
 refine(sameT _ _ _ _ _ HFi.out HFj.out (fun k n=>by rw[G2.out];rfl)).mono ?_
 rintro e w19 ⟨rfl,hb⟩
 replace HA:=Lib.hid (HA.out.below hb)
 replace HT:=Lib.hid (HT.out.below hb)
 replace HC:=Lib.hid (HC.out.below hb)
 replace HD:=Lib.hid (HD.out.below hb)
 replace HN:=Lib.hid (HN.out.below hb)
 replace HFf:=Lib.hid (HFf.out.below hb)
 replace HFg:=Lib.hid (HFg.out.below hb)
 replace HFh:=Lib.hid (HFh.out.below hb)
 replace HFi:=Lib.hid (HFi.out.below hb)
 replace HFm:=Lib.hid (HFm.out.below hb)
 replace HFj:=Lib.hid (HFj.out.below hb)
 have HB19:=Lib.hid (bstep HB18.out hb)
 clear hb HB18
 go_wp2
 go_ret
 exact⟨rfl,HB19.out⟩
end Go.Proofs.YtdljflabokhedaaDoor
