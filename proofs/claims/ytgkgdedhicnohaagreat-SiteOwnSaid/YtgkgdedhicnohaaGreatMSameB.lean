/- What the reference's SameFilter does: its closure. What the reference's SameFilter does. Written by a small program (gen/same.py). -/
import Derived.Test.YtgkgdedhicnohaaGreatMShelf7
import Derived.Test.YtgkgdedhicnohaaGreatWireKeep
namespace Go.Proofs.YtgkgdedhicnohaaGreat
set_option maxRecDepth 100000
set_option maxHeartbeats 40000000
open Go.RowKit
theorem eqCube (a b c d:Int) (w:World):(Op.equalIn 10000 122 (.agg #[.int .i64 a, .int .i64 b]) (.agg #[.int .i64 c, .int .i64 d])).run Tryz.prog w= .ok (a==c&&b==d) w:=by
 have u3:=Tryz.underlying3
 have a3:=Tryz.isAgg3
 have z3:=Tryz.sizeOf3
 rw[show(10000:Nat)=9999+1 from rfl,run_equalIn_agg w 9999 122 _ _ (by kernel_rfl) (by kernel_rfl)]
 simp only[Program.fieldsOf,Tryz.underlying122]
 go_simp
 by_cases h1:a=c <;> by_cases h2:b=d <;> simp[h1,h2]
def sameBxB (a b:Bx):Bool:=(a.y==b.y&&a.n==b.n)&&(a.sp==b.sp)
theorem sameBxB_iff (a b:Bx):sameBxB a b=true↔a=b:=by
 obtain⟨y,n,s⟩:=a
 obtain⟨y',n',s'⟩:=b
 simp only[sameBxB,Bool.and_eq_true,beq_iff_eq,Bx.mk.injEq]
 constructor
 ·rintro⟨⟨h1,h2⟩,h3⟩;exact ⟨h1,h2,h3⟩
 ·rintro⟨h1,h2,h3⟩;exact ⟨⟨h1,h2⟩,h3⟩
theorem sameBx_c (a b:Bx) (u x:Value) (w:World) (ha:SpansAt w u a.sp) (hb:SpansAt w x b.sp):
  Calls Tryz.prog 150 #[.agg #[.int .i64 a.y, .int .i64 a.n,u], .agg #[.int .i64 b.y, .int .i64 b.n,x]] w fun e w'=>e= .returned (.bool (sameBxB a b))∧Below w.heap.size w w':=by
 obtain⟨xa,ca,rfl⟩:=CellsAt.shape ha
 obtain⟨xb,cb,rfl⟩:=CellsAt.shape hb
 have HBL:=jD (show Below w.heap.size w ((w.alloc (.cells #[.int .i64 a.y, .int .i64 a.n, .slice xa a.sp.length ca] 124)).alloc (.cells #[.int .i64 b.y, .int .i64 b.n, .slice xb b.sp.length cb] 124)) from(bal _).alloc (by simp) _)
 have HK:=jD (eqSpans_c _ _ a.sp b.sp _ (CellsAt.below ha HBL.out) (CellsAt.below hb HBL.out))
 have heqs:=eqCube
 have HO:=jD (show sameBxB a b=((a.y==b.y&&a.n==b.n)&&(a.sp==b.sp)) from rfl)
 clear ha hb
 generalize h0:(a.y==b.y&&a.n==b.n)=q0 at*
 go_enter Tryz.func150,Tryz.ntmps150
 cases q0
 ·clear HK
  go_wp2
  go_ret
  exact⟨by rw[HO.out];rfl,HBL.out⟩
 ·go_wp2_with fail
  (with_reducible refine(HK.out).mono ?_)
  rintro e w1 ⟨rfl,hb1⟩
  have HB1:=jD (bstep HBL.out hb1)
  clear hb1 HK
  generalize (a.sp==b.sp)=q1 at*
  go_wp2
  go_ret
  exact⟨by rw[HO.out];simp,HB1.out⟩
theorem eqBox_c_fn: ∀args W,(callFunc 150 args).run Tryz.prog W= .ok (.enter 150 args) W:=fun _ _=>by kernel_rfl
theorem eqBox_c (va vb:Value) (la lb:List Bx) (w:World) (ha:BxsAt w va la) (hb:BxsAt w vb lb):
  Calls Tryz.prog 149 #[va,vb, .func (.func 150) #[] #[]] w fun e w'=> ∃b,e= .returned (.bool b)∧(b=true↔la=lb)∧Below w.heap.size w w':=by
 obtain⟨a,ca,rfl,hca,hla, -,hal⟩:=ha.open_
 obtain⟨b,cb,rfl,hcb,hlb, -,hbl0⟩:=hb.open_
 have HA:=jD hal
 have HB:=jD hbl0
 have hsf:=eqBox_c_fn
 clear ha hb hal hbl0
 by_cases hlen:la.length=lb.length
 rotate_left
 ·have H:=jD (show ¬la=lb from fun h=>hlen (by rw[h]))
  have h':((la.length:Int) != (lb.length:Int))=true:=by simp[bne];omega
  clear hlen
  go_enter Tryz.func149,Tryz.ntmps149
  go_wp2
  go_ret
  exact⟨false,rfl,⟨fun h=>zd h,fun h=>absurd h H.out⟩,Below.refl _ _⟩
 have h':((la.length:Int) != (lb.length:Int))=false:=by simp[bne,hlen]
 have HL:=jD hlen
 clear hlen
 go_enter Tryz.func149,Tryz.ntmps149
 go_wp2
 go_loopw [17] (fun i wr=> ∃k:Nat,k≤la.length∧i= .int .i64 k∧la.take k=lb.take k∧Below w.heap.size w wr) (fun i _=>la.length - (intOf i).toNat)
 case atStart=>exact ⟨0,Nat.zero_le _,rfl,rfl,Below.refl _ _⟩
 case round=>
  obtain⟨k,hk,rfl,htk,hbl⟩:=hrel
  have HT:=jD htk
  have HBL:=jD hbl
  clear htk hbl
  by_cases hlt:k < la.length
  ·have hltb2:k < lb.length:=by have:=HL.out;omega
   rcases HA.out with hnil | ⟨b1,off1,rfl,hb1,hc1⟩
   ·rw[hnil] at hlt;simp at hlt
   rcases HB.out with hnil | ⟨b2,off2,rfl,hb2,hc2⟩
   ·rw[hnil] at hltb2;simp at hltb2
   obtain⟨u1,e10,e11,e12,hsp1⟩:=hc1 k hlt
   have d10:=(HBL.out.cell (p:=⟨b1,off1+k*3,none⟩) hb1).trans e10
   have d11:=(HBL.out.cell (p:=⟨b1,off1+k*3+1,none⟩) hb1).trans e11
   have d12:=(HBL.out.cell (p:=⟨b1,off1+k*3+2,none⟩) hb1).trans e12
   have hs1:=CellsAt.below hsp1 HBL.out
   obtain⟨p1,q1,rfl⟩:=CellsAt.shape hs1
   obtain⟨u2,e20,e21,e22,hsp2⟩:=hc2 k hltb2
   have d20:=(HBL.out.cell (p:=⟨b2,off2+k*3,none⟩) hb2).trans e20
   have d21:=(HBL.out.cell (p:=⟨b2,off2+k*3+1,none⟩) hb2).trans e21
   have d22:=(HBL.out.cell (p:=⟨b2,off2+k*3+2,none⟩) hb2).trans e22
   have hs2:=CellsAt.below hsp2 HBL.out
   obtain⟨p2,q2,rfl⟩:=CellsAt.shape hs2
   have hbx:=bal (W:=wr) (.cells #[.int .i64 la[k].y, .int .i64 la[k].n, .slice p1 la[k].sp.length q1] 124)
   have hby:=bal (W:=wr.alloc (.cells #[.int .i64 la[k].y, .int .i64 la[k].n, .slice p1 la[k].sp.length q1] 124)) (.cells #[.int .i64 lb[k].y, .int .i64 lb[k].n, .slice p2 lb[k].sp.length q2] 124)
   have HSV:=jD (sameBx_c la[k] lb[k] _ _ _ (CellsAt.below (CellsAt.below hs1 hbx) hby) (CellsAt.below (CellsAt.below hs2 hbx) hby))
   have HXY:=jD (bstep hbx hby)
   have HNE:=jD (fun (h:sameBxB la[k] lb[k]=false) (e:la=lb)=>(show False by subst e;rw [(sameBxB_iff _ _).2 rfl] at h;exact absurd h (by decide)))
   have HEQ:=jD (fun (h:sameBxB la[k] lb[k]=true)=>(show la.take (k+1)=lb.take (k+1) by rw[List.take_succ_eq_append_getElem hlt,List.take_succ_eq_append_getElem hltb2,HT.out,(sameBxB_iff _ _).1 h]))
   clear hc1 hc2 hbx hby e10 e11 e12 e20 e21 e22 hsp1 hsp2 hs1 hs2
   generalize la[k]=A at*
   generalize lb[k]=B at*
   have hltb:decide ((k:Int) < (la.length:Int))=true:=by simp;omega
   have hbw2:b2 < wr.heap.size:=Nat.lt_of_lt_of_le hb2 HBL.out.size
   go_wp2_with fail
   (with_reducible refine(HSV.out).mono ?_)
   rintro e w1 ⟨rfl,hb1⟩
   have hbl1:=bstep (bstep HBL.out HXY.out) hb1
   clear hb1 HSV d10 d11 d12 d20 d21 d22
   cases hs:sameBxB A B
   ·have HN:=jD (HNE.out hs)
    clear hs
    go_wp2
    go_ret
    exact⟨false,rfl,⟨fun h=>zd h,fun h=>(HN.out h).elim⟩,hbl1⟩
   ·have HN:=jD (HEQ.out hs)
    clear hs
    go_wp2
    go_roundw
    case rel=>exact ⟨k+1,by omega,by go_num,HN.out,hbl1⟩
    case measure=>simp [intOf] <;> omega
  ·obtain rfl:k=la.length:=by omega
   have HE:=jD (show la=lb by have h:=HT.out;rw [List.take_length,HL.out,List.take_length] at h;exact h)
   have hbl:=HBL.out
   go_wp2
   go_ret
   exact⟨true,rfl,⟨fun _=>HE.out,fun _=>rfl⟩,hbl⟩
theorem sameFil_c (va vb:Value) (la lb:Bxs) (w:World) (ha:BxsAt w va la) (hb:BxsAt w vb lb):
  Calls Tryz.prog 98 #[va,vb] w fun e w'=> ∃b,e= .returned (.bool b)∧(b=true↔la=lb)∧Below w.heap.size w w':=by
 have H:=jD (eqBox_c va vb la lb w ha hb)
 obtain⟨a,ca,rfl⟩:=ha.shape
 obtain⟨b,cb,rfl⟩:=hb.shape
 clear ha hb
 go_enter Tryz.func98,Tryz.ntmps98
 go_wp2_with fail
 refine(H.out).mono ?_
 rintro e w1 ⟨q,rfl,hq,hb1⟩
 have HQ:=jD hq
 clear hq
 go_wp2
 go_ret
 exact⟨q,rfl,HQ.out,hb1⟩
end Go.Proofs.YtgkgdedhicnohaaGreat
