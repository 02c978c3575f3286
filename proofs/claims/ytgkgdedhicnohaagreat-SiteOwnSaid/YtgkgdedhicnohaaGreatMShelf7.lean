/- What the reference's SameVersion and SameShelf do. What slices.EqualFunc and the reference's SameShelf do. Written by a small program (gen/shelf8.py). -/
import Derived.Test.YtgkgdedhicnohaaGreatMShelf1
namespace Go.Proofs.YtgkgdedhicnohaaGreat
set_option maxRecDepth 100000
set_option maxHeartbeats 40000000
open Go.RowKit
theorem eqPoint (a b c d:Int) (w:World):(Op.equalIn 10000 39 (.agg #[.int .i64 a, .int .i64 b]) (.agg #[.int .i64 c, .int .i64 d])).run Tryz.prog w= .ok (a==c&&b==d) w:=by
 have u3:=Tryz.underlying3
 have a3:=Tryz.isAgg3
 have z3:=Tryz.sizeOf3
 rw[show(10000:Nat)=9999+1 from rfl,run_equalIn_agg w 9999 39 _ _ (by kernel_rfl) (by kernel_rfl)]
 simp only[Program.fieldsOf,Tryz.underlying39]
 go_simp
 by_cases h1:a=c <;> by_cases h2:b=d <;> simp[h1,h2]
def sameVB (a b:Ver):Bool:=decide (a.id=b.id)&&(a.ds==b.ds&&a.dc==b.dc)&&(a.tg==b.tg&&a.nm==b.nm)&&(a.bd==b.bd)&&decide (a.past=b.past)
theorem sameVB_iff (a b:Ver):sameVB a b=true↔a=b:=by
 obtain⟨i,d,c,t,n,o,p⟩:=a
 obtain⟨i',d',c',t',n',o',p'⟩:=b
 simp only[sameVB,Bool.and_eq_true,decide_eq_true_eq,beq_iff_eq,Ver.mk.injEq]
 constructor
 ·rintro⟨⟨⟨⟨h1,h2,h3⟩,h4,h5⟩,h6⟩,h7⟩;exact ⟨h1,h2,h3,h4,h5,h6,h7⟩
 ·rintro⟨h1,h2,h3,h4,h5,h6,h7⟩;exact ⟨⟨⟨⟨h1,h2,h3⟩,h4,h5⟩,h6⟩,h7⟩
theorem sameV_c (a b:Ver) (u x y z:Value) (w:World) (ha:KnAt w u x a.past) (hb:KnAt w y z b.past):
  Calls Tryz.prog 34 #[.agg (verC a u x), .agg (verC b y z)] w fun e w'=>e= .returned (.bool (sameVB a b))∧Below w.heap.size w w':=by
 obtain⟨xa,ca,rfl⟩:=ha.vec.shape
 obtain⟨ya,da,rfl⟩:=ha.more.shape
 obtain⟨xb,cb,rfl⟩:=hb.vec.shape
 obtain⟨yb,db,rfl⟩:=hb.more.shape
 obtain⟨W,hW⟩: ∃W,W=(w.alloc (.cells (verC a (.slice xa a.past.vec.length ca) (.slice ya a.past.more.length da)) 75)).alloc (.cells (verC b (.slice xb b.past.vec.length cb) (.slice yb b.past.more.length db)) 75):=⟨_,rfl⟩
 have hbel:Below w.heap.size w W:=by rw[hW];exact (bal _).alloc (by simp) _
 have hA:=ha.below hbel
 have hB:=hb.below hbel
 have HO:=jD (show sameVB a b=(decide (a.id=b.id)&&(a.ds==b.ds&&a.dc==b.dc)&&(a.tg==b.tg&&a.nm==b.nm)&&(a.bd==b.bd)&&decide (a.past=b.past)) from rfl)
 have hids:=ids_eq a.id b.id
 have hqd:=fun w=>eqDot a.ds a.dc b.ds b.dc w
 have hqp:=fun w=>eqPoint a.tg a.nm b.tg b.nm w
 clear ha hb
 unfold verC at hW ⊢
 generalize h0:decide (a.id=b.id)=q0 at*
 generalize h1:(a.ds==b.ds&&a.dc==b.dc)=q1 at*
 generalize h2:(a.tg==b.tg&&a.nm==b.nm)=q2 at*
 generalize h3:(a.bd==b.bd)=q3 at*
 clear h0 h1 h2
 cases hq:(q0&&q1&&q2&&q3)
 ·have H:=jD (show sameVB a b=false by rw[HO.out,hq];rfl)
  rw[hW] at hbel
  clear hA hB hW HO
  have HQ:=jD hq
  clear hq
  cases q0
  ·go_enter Tryz.func34,Tryz.ntmps34
   go_wp2
   go_ret
   exact⟨by rw[H.out];rfl,hbel⟩
  cases q1
  ·go_enter Tryz.func34,Tryz.ntmps34
   go_wp2
   go_ret
   exact⟨by rw[H.out];rfl,hbel⟩
  cases q2
  ·go_enter Tryz.func34,Tryz.ntmps34
   go_wp2
   go_ret
   exact⟨by rw[H.out];rfl,hbel⟩
  cases q3
  ·go_enter Tryz.func34,Tryz.ntmps34
   go_wp2
   go_ret
   exact⟨by rw[H.out];rfl,hbel⟩
  exact absurd HQ.out (by decide)
 ·have H:=jD (show sameVB a b=decide (a.past=b.past) by rw[HO.out,hq];rfl)
  simp only[Bool.and_eq_true] at hq
  obtain⟨⟨⟨rfl,rfl⟩,rfl⟩,rfl⟩:=hq
  clear HO
  go_enter Tryz.func34,Tryz.ntmps34
  go_wp2_with fail
  rw[←hW]
  clear hW
  (with_reducible refine(sameK_c _ _ _ _ a.past b.past _ hA hB).mono ?_)
  rintro e w4 ⟨rfl,hb⟩
  replace hbel:=bstep hbel hb
  clear hb
  go_wp2
  go_ret
  exact⟨by rw[H.out];rfl,hbel⟩
theorem sameFn: ∀args W,(callFunc 34 args).run Tryz.prog W= .ok (.enter 34 args) W:=fun _ _=>by kernel_rfl
theorem equalV_c (va vb:Value) (la lb:List Ver) (w:World) (ha:RowAt verE w va la) (hb:RowAt verE w vb lb):
  Calls Tryz.prog 78 #[va,vb, .func (.func 34) #[] #[]] w fun e w'=> ∃b,e= .returned (.bool b)∧(b=true↔la=lb)∧Below w.heap.size w w':=by
 obtain⟨a,ca,rfl,hca,hla, -,hal⟩:=ha.open_
 obtain⟨b,cb,rfl,hcb,hlb, -,hbl0⟩:=hb.open_
 have HA:=jD hal
 have HB:=jD hbl0
 have hsf:=sameFn
 clear ha hb hal hbl0
 by_cases hlen:la.length=lb.length
 rotate_left
 ·have H:=jD (show ¬la=lb from fun h=>hlen (by rw[h]))
  have h':((la.length:Int) != (lb.length:Int))=true:=by simp[bne];omega
  clear hlen
  go_enter Tryz.func78,Tryz.ntmps78
  go_wp2
  go_ret
  exact⟨false,rfl,⟨fun h=>zd h,fun h=>absurd h H.out⟩,Below.refl _ _⟩
 have h':((la.length:Int) != (lb.length:Int))=false:=by simp[bne,hlen]
 have HL:=jD hlen
 clear hlen
 go_enter Tryz.func78,Tryz.ntmps78
 go_wp2
 go_loopw [17] (fun i wr=> ∃k:Nat,k≤la.length∧i= .int .i64 k∧la.take k=lb.take k∧Below w.heap.size w wr) (fun i _=>la.length - (intOf i).toNat)
 case atStart=>exact ⟨0,Nat.zero_le _,rfl,rfl,Below.refl _ _⟩
 case round=>
  obtain⟨k,hk,rfl,htk,hbl⟩:=hrel
  have HT:=jD htk
  have HBL:=jD hbl
  clear htk hbl
  by_cases hlt:k < la.length
  ·have hltb2:k < lb.length:=by have:=HL.out;omega
   rcases HA.out with hnil | ⟨b1,off1,rfl,hb1,hc1⟩
   ·rw[hnil] at hlt;simp at hlt
   obtain⟨c1,⟨u1,x1,rfl,hk1⟩,hcc1⟩:=hc1 k hlt
   have hcl1:=fun (j:Nat) (y:Value) (hy:(verC la[k] u1 x1).toList[j]? =some y)=>row8 (w:=wr) (b:=b1) (off:=off1) (i:=k) (fun j y hy=>(HBL.out.cell (p:=⟨b1,off1+(k*verE.size+j),none⟩) hb1).trans (hcc1 j y hy)) hy
   obtain⟨p1,q1,rfl⟩:=hk1.vec.shape
   obtain⟨r1,s1,rfl⟩:=hk1.more.shape
   have d10:=hcl1 0 _ rfl
   have d11:=hcl1 1 _ rfl
   have d12:=hcl1 2 _ rfl
   have d13:=hcl1 3 _ rfl
   have d14:=hcl1 4 _ rfl
   have d15:=hcl1 5 _ rfl
   have d16:=hcl1 6 _ rfl
   have d17:=hcl1 7 _ rfl
   rw[Nat.add_zero] at d10
   rcases HB.out with hnil | ⟨b2,off2,rfl,hb2,hc2⟩
   ·rw[hnil] at hltb2;simp at hltb2
   obtain⟨c2,⟨u2,x2,rfl,hk2⟩,hcc2⟩:=hc2 k hltb2
   have hcl2:=fun (j:Nat) (y:Value) (hy:(verC lb[k] u2 x2).toList[j]? =some y)=>row8 (w:=wr) (b:=b2) (off:=off2) (i:=k) (fun j y hy=>(HBL.out.cell (p:=⟨b2,off2+(k*verE.size+j),none⟩) hb2).trans (hcc2 j y hy)) hy
   obtain⟨p2,q2,rfl⟩:=hk2.vec.shape
   obtain⟨r2,s2,rfl⟩:=hk2.more.shape
   have d20:=hcl2 0 _ rfl
   have d21:=hcl2 1 _ rfl
   have d22:=hcl2 2 _ rfl
   have d23:=hcl2 3 _ rfl
   have d24:=hcl2 4 _ rfl
   have d25:=hcl2 5 _ rfl
   have d26:=hcl2 6 _ rfl
   have d27:=hcl2 7 _ rfl
   rw[Nat.add_zero] at d20
   have hbx:=bal (W:=wr) (.cells (verC la[k] (.slice p1 la[k].past.vec.length q1) (.slice r1 la[k].past.more.length s1)) 75)
   have hby:=bal (W:=wr.alloc (.cells (verC la[k] (.slice p1 la[k].past.vec.length q1) (.slice r1 la[k].past.more.length s1)) 75)) (.cells (verC lb[k] (.slice p2 lb[k].past.vec.length q2) (.slice r2 lb[k].past.more.length s2)) 75)
   have HSV:=jD (sameV_c la[k] lb[k] _ _ _ _ _ (((hk1.below HBL.out).below hbx).below hby) (((hk2.below HBL.out).below hbx).below hby))
   have HXY:=jD (bstep hbx hby)
   have HNE:=jD (fun (h:sameVB la[k] lb[k]=false) (e:la=lb)=>(show False by subst e;rw [(sameVB_iff _ _).2 rfl] at h;exact absurd h (by decide)))
   have HEQ:=jD (fun (h:sameVB la[k] lb[k]=true)=>(show la.take (k+1)=lb.take (k+1) by rw[List.take_succ_eq_append_getElem hlt,List.take_succ_eq_append_getElem hltb2,HT.out,(sameVB_iff _ _).1 h]))
   clear hc1 hcc1 hcl1 hk1 hc2 hcc2 hcl2 hk2 hbx hby
   generalize la[k]=A at*
   generalize lb[k]=B at*
   unfold verC at HSV HXY
   have hltb:decide ((k:Int) < (la.length:Int))=true:=by simp;omega
   have hbw2:b2 < wr.heap.size:=Nat.lt_of_lt_of_le hb2 HBL.out.size
   go_wp2_with fail
   (with_reducible refine(HSV.out).mono ?_)
   rintro e w1 ⟨rfl,hb1⟩
   have hbl1:=bstep (bstep HBL.out HXY.out) hb1
   clear hb1 HSV d10 d11 d12 d13 d14 d15 d16 d17 d20 d21 d22 d23 d24 d25 d26 d27
   cases hs:sameVB A B
   ·have HN:=jD (HNE.out hs)
    clear hs
    go_wp2
    go_ret
    exact⟨false,rfl,⟨fun h=>zd h,fun h=>(HN.out h).elim⟩,hbl1⟩
   ·have HN:=jD (HEQ.out hs)
    clear hs
    go_wp2
    go_roundw
    case rel=>exact ⟨k+1,by omega,by go_num,HN.out,hbl1⟩
    case measure=>simp [intOf] <;> omega
  ·obtain rfl:k=la.length:=by omega
   have HE:=jD (show la=lb by have h:=HT.out;rw [List.take_length,HL.out,List.take_length] at h;exact h)
   have hbl:=HBL.out
   go_wp2
   go_ret
   exact⟨true,rfl,⟨fun _=>HE.out,fun _=>rfl⟩,hbl⟩
theorem sameS_c (va vb:Value) (la lb:List Ver) (w:World) (ha:RowAt verE w va la) (hb:RowAt verE w vb lb):
  Calls Tryz.prog 26 #[va,vb] w fun e w'=> ∃b,e= .returned (.bool b)∧(b=true↔la=lb)∧Below w.heap.size w w':=by
 have H:=jD (equalV_c va vb la lb w ha hb)
 obtain⟨a,ca,rfl⟩:=ha.shape
 obtain⟨b,cb,rfl⟩:=hb.shape
 clear ha hb
 go_enter Tryz.func26,Tryz.ntmps26
 go_wp2_with fail
 refine(H.out).mono ?_
 rintro e w1 ⟨q,rfl,hq,hb1⟩
 have HQ:=jD hq
 clear hq
 go_wp2
 go_ret
 exact⟨q,rfl,HQ.out,hb1⟩
end Go.Proofs.YtgkgdedhicnohaaGreat
