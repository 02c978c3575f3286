/- What shelf.Check does. Written by a small program (gen/shelf4.py). The closures of shelf.Put. -/
import Derived.Test.YtgkgdedhicnohaaGreatMShelf1
import Derived.Deep.QuietTactic
import Derived.BigQuiet
namespace Go.Proofs.YtgkgdedhicnohaaGreat
set_option maxRecDepth 100000
set_option maxHeartbeats 40000000
open Go.RowKit
def stepC (l:List Ver) (i:Nat):Int:=match l[i]? with
 | some v=>if verChk v≠0 then verChk v else match i,l[i - 1]? with
  | 0,_=>0
  | _+1,some u=>if 0≤verCmp u v then 3 else 0
  | _+1,none=>0
 | none=>0
def ordC (l:List Ver):Nat→Int
 | 0=>0
 | k+1=>if ordC l k=0 then stepC l k else ordC l k
theorem ordC_stop {l:List Ver} {i n:Nat} (h:ordC l i=0) (hs:stepC l i≠0) (hn:i < n):ordC l n=stepC l i:=by
 obtain⟨d,rfl⟩: ∃d,n=i+1+d:=⟨n - (i+1),by omega⟩
 induction d with
 | zero=>show ordC l (i+1)=_;unfold ordC;rw [if_pos h]
 | succ d ih=>
  have:=ih (by omega)
  show ordC l (i+1+d+1)=_
  unfold ordC
  rw[this,if_neg hs]
theorem ordC_next {l:List Ver} {i:Nat} (h:ordC l i=0) (hs:stepC l i=0):ordC l (i+1)=0:=by unfold ordC;rw [if_pos h,hs]
theorem ordC_all {l:List Ver} : ∀ {n:Nat},ordC l n=0→ ∀i,i < n→stepC l i=0
 | n+1,h,i,hi=>by
  unfold ordC at h
  by_cases h0:ordC l n=0
  ·rw[if_pos h0] at h
   by_cases e:i=n
   ·rw[e];exact h
   ·exact ordC_all h0 i (by omega)
  ·rw[if_neg h0] at h;exact absurd h h0
theorem stepC_bad {l:List Ver} {i:Nat} (hi:i < l.length) (h:verChk l[i]≠0):stepC l i=verChk l[i]:=by
 unfold stepC;rw [List.getElem?_eq_getElem hi];simp only;rw [if_pos h]
theorem stepC_zero {l:List Ver} (hi:0 < l.length) (h:verChk l[0]=0):stepC l 0=0:=by
 unfold stepC;rw [List.getElem?_eq_getElem hi];simp only;rw [if_neg (by rw[h];decide)]
theorem stepC_succ {l:List Ver} {k:Nat} (hi:k+1 < l.length) (h:verChk l[k+1]=0):stepC l (k+1)=if 0≤verCmp (l[k]'(by omega)) l[k+1] then 3 else 0:=by
 unfold stepC;rw [List.getElem?_eq_getElem hi];simp only;rw [if_neg (by rw[h];decide),Nat.add_sub_cancel,List.getElem?_eq_getElem (show k < l.length by omega)]
theorem stepC_ok {l:List Ver} {i:Nat} (hi:i < l.length) (h:stepC l i=0):verChk l[i]=0:=by
 by_cases h0:verChk l[i]=0
 ·exact h0
 ·rw[stepC_bad hi h0] at h;exact absurd h h0
def oldC (l:List Ver):Bool:=l.any fun v=>l.any fun w=>verOver w v
def shelfChk (l:List Ver):Int:=if 60 < l.length then 2 else if ordC l l.length≠0 then ordC l l.length else if oldC l=true then 6 else 0
theorem chk1_p (B:Nat) (v:Ver) (y z:Value) (w:World) (hB:w.heap[B]? =some (Obj.cells (verC v y z) 75 (0,0))) (hk:KnAt w y z v.past) (hd:dotOk (v.ds,v.dc)=true):
  PredV VerOk 154 #[.pointer (some ⟨B,0,none⟩)] (fun x=>verOver x v) w:=by
 refine⟨enters_of Tryz.func154 (by kernel_rfl) rfl,fun a u x W hok hbl ha=> ?_⟩
 show Calls Tryz.prog 154 #[.agg (verC a u x), .pointer (some ⟨B,0,none⟩)] W _
 have HB:=jD (below_keep hbl hB)
 have HK:=jD (hk.below hbl)
 clear hbl hB hk
 obtain⟨xa,ca,rfl⟩:=ha.vec.shape
 obtain⟨ya,da,rfl⟩:=ha.more.shape
 obtain⟨xb,cb,hxb⟩:=HK.out.vec.shape
 obtain⟨yb,db,hyb⟩:=HK.out.more.shape
 subst hxb hyb
 have hbel:=bal (W:=W) (.cells (verC a (.slice xa a.past.vec.length ca) (.slice ya a.past.more.length da)) 75)
 have HA:=jD (ha.below hbel)
 have HK2:=jD (HK.out.below hbel)
 have HO:=jD (over_c a v _ _ _ _ _ HA.out HK2.out hok.past hd)
 have hB2:=below_keep hbel HB.out
 have c0:=cell_of_block (j:=0) hB2 rfl
 have c1:=cell_of_block (j:=1) hB2 rfl
 have c2:=cell_of_block (j:=2) hB2 rfl
 have c3:=cell_of_block (j:=3) hB2 rfl
 have c4:=cell_of_block (j:=4) hB2 rfl
 have c5:=cell_of_block (j:=5) hB2 rfl
 have c6:=cell_of_block (j:=6) hB2 rfl
 have c7:=cell_of_block (j:=7) hB2 rfl
 clear ha hB2 HB HK
 unfold verC at*
 go_enter Tryz.func154,Tryz.ntmps154
 go_wp2_with fail
 (with_reducible refine(HO.out).mono ?_)
 rintro e w1 ⟨rfl,hb1⟩
 replace hbel:=bstep hbel hb1
 clear hb1 c0 c1 c2 c3 c4 c5 c6 c7 HO
 go_wp2
 go_ret
 exact⟨rfl,hbel⟩
theorem shelfChk_c (vv:Value) (l:List Ver) (w:World) (hv:RowAt verE w vv l):
  Calls Tryz.prog 109 #[vv] w fun e w'=>e= .returned (.int .i64 (shelfChk l))∧Below w.heap.size w w':=by
 obtain⟨a,cap,rfl,hcap,hlen, -,hvl⟩:=hv.open_
 by_cases h60:60 < l.length
 ·have H:=jD (show shelfChk l=2 by unfold shelfChk;rw [if_pos h60])
  have h60':decide ((60:Int) < (l.length:Int))=true:=by simp;omega
  clear hv hvl
  go_enter Tryz.func109,Tryz.ntmps109
  go_wp2
  go_ret
  exact⟨by rw[H.out];rfl,Below.refl _ _⟩
 have h60':decide ((60:Int) < (l.length:Int))=false:=by simp;omega
 have H1:=jD (show shelfChk l=if ordC l l.length≠0 then ordC l l.length else if oldC l=true then 6 else 0 by unfold shelfChk;rw [if_neg h60])
 have HV:=jD hv
 have HVL:=jD hvl
 clear hv hvl
 have hl60:l.length≤60:=by omega
 clear h60
 go_enter Tryz.func109,Tryz.ntmps109
 go_wp2
 go_loopw [13] (fun i wr=> ∃k:Nat,k≤l.length∧i= .int .i64 k∧ordC l k=0∧Below w.heap.size w wr) (fun i _=>l.length - (intOf i).toNat)
 case atStart=>exact ⟨0,Nat.zero_le _,rfl,rfl,Below.refl _ _⟩
 case round=>
  obtain⟨k,hk,rfl,hord,hbl⟩:=hrel
  have HOR:=jD hord
  have HBL:=jD hbl
  clear hord hbl
  by_cases hlt:k < l.length
  ·rcases HVL.out with hnil | ⟨b,off,rfl,hb,hc⟩
   ·rw[hnil] at hlt;simp at hlt
   have hrow:=fun (i:Nat) (hi:i < l.length)=>(show ∃(u x:Value),(∀(j:Nat) (y:Value),(verC l[i] u x).toList[j]? =some y→wr.cell? ⟨b,off+i*8+j,none⟩=some y)∧KnAt wr u x l[i].past from by
    obtain⟨c,⟨u,x,rfl,hk2⟩,hcc⟩:=hc i hi
    exact⟨u,x,fun j y hy=>by rw[Nat.add_assoc];exact (HBL.out.cell (p:=⟨b,off+(i*verE.size+j),none⟩) hb).trans (hcc j y hy),hk2.below HBL.out⟩)
   have HROW:=jD hrow
   obtain⟨u,x,hcl,hk2⟩:=hrow k hlt
   have c0:=hcl 0 _ rfl
   have c1:=hcl 1 _ rfl
   have c2:=hcl 2 _ rfl
   have c3:=hcl 3 _ rfl
   have c4:=hcl 4 _ rfl
   have c5:=hcl 5 _ rfl
   have c6:=hcl 6 _ rfl
   have c7:=hcl 7 _ rfl
   rw[Nat.add_zero] at c0
   obtain⟨ua,uc,rfl⟩:=hk2.vec.shape
   obtain⟨xa,xc,rfl⟩:=hk2.more.shape
   have hbx:=bal (W:=wr) (.cells (verC l[k] (.slice ua l[k].past.vec.length uc) (.slice xa l[k].past.more.length xc)) 75)
   have HONE:=jD (one_c l[k] _ _ _ (hk2.below hbx))
   have HK2:=jD (hk2.below hbx)
   have HBX:=jD hbx
   have HSB:=jD (fun h=>stepC_bad hlt h)
   clear hc hrow hcl hk2 hbx
   generalize hvk:l[k]=v1 at*
   have HVK:=jD hvk
   clear hvk
   unfold verC at*
   have hltb:decide ((k:Int) < (l.length:Int))=true:=by simp;omega
   go_wp2_with fail
   (with_reducible refine(HONE.out).mono ?_)
   rintro e w1 ⟨rfl,hb1⟩
   have hbl1:=bstep (bstep HBL.out HBX.out) hb1
   clear c0 c1 c2 c3 c4 c5 c6 c7 HONE
   cases hx:(verChk v1==0)
   ·have hne:verChk v1≠0:=by simpa using hx
    have H:=jD (show shelfChk l=verChk v1 by
     have hs:=HSB.out hne
     rw[H1.out,ordC_stop HOR.out (by rw[hs];exact hne) hlt,hs,if_pos hne])
    have h':(verChk v1 != 0)=true:=by simp[bne,hx]
    clear hx hne
    go_wp2
    go_ret
    exact⟨by rw[H.out];rfl,hbl1⟩
   have h0:verChk v1=0:=by simpa using hx
   have H0:=jD h0
   rw[h0]
   clear hx h0 HSB
   rcases k with - | m
   ·have HN:=jD (ordC_next HOR.out (stepC_zero hlt (by rw[HVK.out];exact H0.out)))
    go_wp2
    go_quiet (fail)
    go_wp2
    go_roundw
    case rel=>exact ⟨0+1,by omega,by go_num,HN.out,below_drewN hbl1 _⟩
    case measure=>simp [intOf] <;> omega
   have HST:=jD (stepC_succ hlt (by rw[HVK.out];exact H0.out))
   obtain⟨u2,x2,hcl2,hk3⟩:=HROW.out m (by omega)
   have hbw:=bstep HBX.out hb1
   obtain⟨pa,pc,hp1⟩:=hk3.vec.shape
   obtain⟨qa,qc,hp2⟩:=hk3.more.shape
   subst hp1 hp2
   have D0:=jD (ckeep hbw (hcl2 0 _ rfl))
   have D1:=jD (ckeep hbw (hcl2 1 _ rfl))
   have D2:=jD (ckeep hbw (hcl2 2 _ rfl))
   have D3:=jD (ckeep hbw (hcl2 3 _ rfl))
   have D4:=jD (ckeep hbw (hcl2 4 _ rfl))
   have D5:=jD (ckeep hbw (hcl2 5 _ rfl))
   have D6:=jD (ckeep hbw (hcl2 6 _ rfl))
   have D7:=jD (ckeep hbw (hcl2 7 _ rfl))
   rw[Nat.add_zero] at D0
   have HB4:=jD (below_keep hb1 (alloc_new wr _ _ _ rfl))
   have E0:=jD (cell_of_block (j:=0) HB4.out rfl)
   have E1:=jD (cell_of_block (j:=1) HB4.out rfl)
   have E2:=jD (cell_of_block (j:=2) HB4.out rfl)
   have E3:=jD (cell_of_block (j:=3) HB4.out rfl)
   have E4:=jD (cell_of_block (j:=4) HB4.out rfl)
   have E5:=jD (cell_of_block (j:=5) HB4.out rfl)
   have E6:=jD (cell_of_block (j:=6) HB4.out rfl)
   have E7:=jD (cell_of_block (j:=7) HB4.out rfl)
   have HOKM:=jD (verChk_zero.1 (stepC_ok (show m < l.length by omega) (ordC_all HOR.out m (by omega))))
   have HOKV:=jD (verChk_zero.1 H0.out)
   have HKM:=jD (hk3.below hbw)
   have HKV:=jD (HK2.out.below hb1)
   have HWL:=jD (hlt_of HB4.out)
   generalize l[m]=u0 at*
   unfold verC at*
   have HCM:=jD (fun w2 hw2=>cmp_c u0 v1 _ _ _ _ w2 (HKM.out.below hw2) (HKV.out.below hw2) HOKM.out.dot HOKV.out.dot)
   unfold verC at HCM
   clear hcl2 hk3 hb1 hbw HK2 HB4
   go_wp2
   refine Cl.region0 46 rfl [] (fun _=>True) (fun _=>[]) (fun jq v ww=>match jq with | 0=>v= .int .i64 ((m+1:Nat):Int) | 1=>v= .bool true | 2=>v= .bool true | 3=>v= .slice (some ⟨b,off,none⟩) l.length cap | 4=>v= .int .i64 ((m+1:Nat):Int) | 5=>v= .int .i64 (m:Nat) | 6=>v= .pointer (some ⟨b,off+m*8,none⟩) | 7=>v= .agg #[.string u0.id, .int .i64 u0.ds, .int .i64 u0.dc, .int .i64 u0.tg, .int .i64 u0.nm, .int .i64 u0.bd, .slice pa u0.past.vec.length pc, .slice qa u0.past.more.length qc] | 8=>v= .agg #[.string v1.id, .int .i64 v1.ds, .int .i64 v1.dc, .int .i64 v1.tg, .int .i64 v1.nm, .int .i64 v1.bd, .slice ua v1.past.vec.length uc, .slice xa v1.past.more.length xc] | 9=>v= .int .i64 (verCmp u0 v1) | 10=>v= .bool (decide (0≤verCmp u0 v1)) | 11=>v= .bool (decide (0≤verCmp u0 v1)) | _=>True) (fun ww=>Below w1.heap.size w1 ww) (fun jq ww ww'=>Below ww.heap.size ww ww') Tryz.mixed (by decide+kernel) (Below.refl _ _).drew trivial (fun q r v w w' _ _ _ h _=>h) (fun _ _ _ _ _ _=>trivial) ?_ ?_
   ·refine⟨?_, ?_, ?_, ?_, ?_, ?_, ?_, ?_, ?_, ?_, ?_, ?_,trivial⟩
    ·intro x wx hG
     have f3:=hG.o 3
     replace hG:=hG.good
     go_wp2
     exact⟨_,rfl,rfl,hG,Below.refl _ _⟩
    ·intro x wx hG
     have g0:(x.tmps.getD 23 undef)= .int .i64 ((m+1:Nat):Int):=hG.c 0 _ rfl
     replace hG:=hG.good
     go_wp2
     exact⟨_,rfl,rfl,hG,Below.refl _ _⟩
    ·intro x wx hG
     have g1:(x.tmps.getD 24 undef)= .bool true:=hG.c 1 _ rfl
     replace hG:=hG.good
     go_wp2
     exact⟨_,rfl,rfl,hG,Below.refl _ _⟩
    ·intro x wx hG
     have f0:=hG.o 0
     have gg:(x.tmps.getD 25 undef)= .bool true:=hG.c 2 _ rfl
     replace gg:=Cl.opt (hG.size.trans (show _=46 from rfl)) (by decide) gg
     replace hG:=hG.good
     go_wp2
     exact⟨_,rfl,rfl,hG,Below.refl _ _⟩
    ·intro x wx hG
     have f3:=hG.o 3
     have gg:(x.tmps.getD 25 undef)= .bool true:=hG.c 2 _ rfl
     replace gg:=Cl.opt (hG.size.trans (show _=46 from rfl)) (by decide) gg
     replace hG:=hG.good
     go_wp2
     exact⟨_,rfl,rfl,hG,Below.refl _ _⟩
    ·intro x wx hG
     have g4:(x.tmps.getD 27 undef)= .int .i64 ((m+1:Nat):Int):=hG.c 4 _ rfl
     have gg:(x.tmps.getD 25 undef)= .bool true:=hG.c 2 _ rfl
     replace gg:=Cl.opt (hG.size.trans (show _=46 from rfl)) (by decide) gg
     replace hG:=hG.good
     have hm1:IntKind.i64.wrap (m:Int)=m:=IntWalk.i64_in _ (by omega)
     go_wp2
     exact⟨_,rfl,rfl,hG,Below.refl _ _⟩
    ·intro x wx hG
     have g3:(x.tmps.getD 26 undef)= .slice (some ⟨b,off,none⟩) l.length cap:=hG.c 3 _ rfl
     have g5:(x.tmps.getD 28 undef)= .int .i64 (m:Nat):=hG.c 5 _ rfl
     have gg:(x.tmps.getD 25 undef)= .bool true:=hG.c 2 _ rfl
     replace gg:=Cl.opt (hG.size.trans (show _=46 from rfl)) (by decide) gg
     replace hG:=hG.good
     go_wp2
     exact⟨_,rfl,rfl,hG,Below.refl _ _⟩
    ·intro x wx hG
     have g6:(x.tmps.getD 29 undef)= .pointer (some ⟨b,off+m*8,none⟩):=hG.c 6 _ rfl
     have gg:(x.tmps.getD 25 undef)= .bool true:=hG.c 2 _ rfl
     replace gg:=Cl.opt (hG.size.trans (show _=46 from rfl)) (by decide) gg
     replace hG:=hG.good
     have c_D0:=ckeep hG D0.out
     have c_D1:=ckeep hG D1.out
     have c_D2:=ckeep hG D2.out
     have c_D3:=ckeep hG D3.out
     have c_D4:=ckeep hG D4.out
     have c_D5:=ckeep hG D5.out
     have c_D6:=ckeep hG D6.out
     have c_D7:=ckeep hG D7.out
     go_wp2
     exact⟨_,rfl,rfl,hG,Below.refl _ _⟩
    ·intro x wx hG
     have f4:=hG.o 4
     have gg:(x.tmps.getD 25 undef)= .bool true:=hG.c 2 _ rfl
     replace gg:=Cl.opt (hG.size.trans (show _=46 from rfl)) (by decide) gg
     replace hG:=hG.good
     have c_E0:=ckeep hG E0.out
     have c_E1:=ckeep hG E1.out
     have c_E2:=ckeep hG E2.out
     have c_E3:=ckeep hG E3.out
     have c_E4:=ckeep hG E4.out
     have c_E5:=ckeep hG E5.out
     have c_E6:=ckeep hG E6.out
     have c_E7:=ckeep hG E7.out
     go_wp2
     exact⟨_,rfl,rfl,hG,Below.refl _ _⟩
    ·intro x wx hG
     have g7:(x.tmps.getD 30 undef)= .agg #[.string u0.id, .int .i64 u0.ds, .int .i64 u0.dc, .int .i64 u0.tg, .int .i64 u0.nm, .int .i64 u0.bd, .slice pa u0.past.vec.length pc, .slice qa u0.past.more.length qc]:=hG.c 7 _ rfl
     have g8:(x.tmps.getD 31 undef)= .agg #[.string v1.id, .int .i64 v1.ds, .int .i64 v1.dc, .int .i64 v1.tg, .int .i64 v1.nm, .int .i64 v1.bd, .slice ua v1.past.vec.length uc, .slice xa v1.past.more.length xc]:=hG.c 8 _ rfl
     have gg:(x.tmps.getD 25 undef)= .bool true:=hG.c 2 _ rfl
     replace gg:=Cl.opt (hG.size.trans (show _=46 from rfl)) (by decide) gg
     replace hG:=hG.good
     go_wp2_with fail
     (with_reducible refine(HCM.out _ hG).mono ?_)
     rintro e wq ⟨rfl,hb⟩
     go_wp2
     exact⟨_,rfl,rfl,bstep hG hb,hb⟩
    ·intro x wx hG
     have g9:(x.tmps.getD 32 undef)= .int .i64 (verCmp u0 v1):=hG.c 9 _ rfl
     have gg:(x.tmps.getD 25 undef)= .bool true:=hG.c 2 _ rfl
     replace gg:=Cl.opt (hG.size.trans (show _=46 from rfl)) (by decide) gg
     replace hG:=hG.good
     go_wp2
     exact⟨_,rfl,rfl,hG,Below.refl _ _⟩
    ·intro x wx hG
     have g2:(x.tmps.getD 25 undef)= .bool true:=hG.c 2 _ rfl
     have g10:(x.tmps.getD 33 undef)= .bool (decide (0≤verCmp u0 v1)):=hG.c 10 _ rfl
     replace hG:=hG.good
     go_wp2
     exact⟨_,rfl,rfl,hG,Below.refl _ _⟩
   ·intro vals w2 hg hF
    obtain⟨g0,g1,g2,g3,g4,g5,g6,g7,g8,g9,g10,g11, -⟩:=hF
    have e0:=gq (vals 0) g0
    have e1:=gq (vals 1) g1
    have e2:=gq (vals 2) g2
    have e3:=gq (vals 3) g3
    have e4:=gq (vals 4) g4
    have e5:=gq (vals 5) g5
    have e6:=gq (vals 6) g6
    have e7:=gq (vals 7) g7
    have e8:=gq (vals 8) g8
    have e9:=gq (vals 9) g9
    have e10:=gq (vals 10) g10
    have e11:=gq (vals 11) g11
    simp only[Cl.puts,e0,e1,e2,e3,e4,e5,e6,e7,e8,e9,e10,e11]
    clear e0 e1 e2 e3 e4 e5 e6 e7 e8 e9 e10 e11 g0 g1 g2 g3 g4 g5 g6 g7 g8 g9 g10 g11
    go_simp
    have hbl2:=bstep hbl1 hg
    clear hg hbl1 D0 D1 D2 D3 D4 D5 D6 D7 E0 E1 E2 E3 E4 E5 E6 E7
    by_cases hcmp:0≤verCmp u0 v1
    ·have H:=jD (show shelfChk l=3 by
      have hs:stepC l (m+1)=3:=by rw[HST.out,HVK.out,if_pos hcmp]
      rw[H1.out,ordC_stop HOR.out (by rw[hs];decide) hlt,hs,if_pos (by decide)])
     have h':decide (0≤verCmp u0 v1)=true:=by simp[hcmp]
     rw[h']
     clear hcmp h'
     go_wp2
     go_ret
     exact⟨by rw[H.out];rfl,hbl2⟩
    ·have HN:=jD (ordC_next HOR.out (show stepC l (m+1)=0 by rw[HST.out,HVK.out,if_neg hcmp]))
     have h':decide (0≤verCmp u0 v1)=false:=by simp;omega
     rw[h']
     clear hcmp h'
     go_wp2
     go_roundw
     case rel=>exact ⟨m+1+1,by omega,by go_num,HN.out,hbl2⟩
     case measure=>simp [intOf] <;> omega
  ·obtain rfl:k=l.length:=by omega
   have H2:=jD (show shelfChk l=if oldC l=true then 6 else 0 by rw[H1.out,HOR.out];rfl)
   have HOK:=jD (show ∀v∈l,VerOk v by
    intro v hv
    obtain⟨i,hi,rfl⟩:=List.getElem_of_mem hv
    exact verChk_zero.1 (stepC_ok hi (ordC_all HOR.out i hi)))
   clear H1 HOR hlt
   have hbl:=HBL.out
   clear HBL
   go_wp2
   go_loopw [38] (fun i wr=> ∃k:Nat,k≤l.length∧i= .int .i64 k∧(∀j (hj:j < l.length),j < k→(l.any fun w=>verOver w l[j])=false)∧Below w.heap.size w wr) (fun i _=>l.length - (intOf i).toNat)
   case atStart=>exact ⟨0,Nat.zero_le _,rfl,fun j _ h=>by omega,hbl⟩
   case round=>
    clear hbl
    obtain⟨k,hk,rfl,hall,hbl⟩:=hrel
    have HALL:=jD hall
    have HBL:=jD hbl
    clear hall hbl
    by_cases hlt:k < l.length
    ·rcases HVL.out with hnil | ⟨b,off,rfl,hb,hc⟩
     ·rw[hnil] at hlt;simp at hlt
     obtain⟨c,⟨u,x,rfl,hk2⟩,hcc⟩:=hc k hlt
     have hcl:=fun (j:Nat) (y:Value) (hy:(verC l[k] u x).toList[j]? =some y)=>row8 (w:=wr) (b:=b) (off:=off) (i:=k) (fun j y hy=>(HBL.out.cell (p:=⟨b,off+(k*verE.size+j),none⟩) hb).trans (hcc j y hy)) hy
     have c0:=hcl 0 _ rfl
     have c1:=hcl 1 _ rfl
     have c2:=hcl 2 _ rfl
     have c3:=hcl 3 _ rfl
     have c4:=hcl 4 _ rfl
     have c5:=hcl 5 _ rfl
     have c6:=hcl 6 _ rfl
     have c7:=hcl 7 _ rfl
     rw[Nat.add_zero] at c0
     obtain⟨ua,uc,rfl⟩:=hk2.vec.shape
     obtain⟨xa,xc,rfl⟩:=hk2.more.shape
     have hbx:=bal (W:=wr) (.cells (verC l[k] (.slice ua l[k].past.vec.length uc) (.slice xa l[k].past.more.length xc)) 75)
     have HPR:=jD (chk1_p wr.heap.size l[k] _ _ _ (alloc_new wr (verC l[k] (.slice ua l[k].past.vec.length uc) (.slice xa l[k].past.more.length xc)) 75 _ rfl) ((hk2.below HBL.out).below hbx) (HOK.out _ (List.getElem_mem hlt)).dot)
     have HCT:=jD (containsV_c VerOk _ l 154 _ _ _ (HV.out.below (HBL.out.trans (hbx.mono HBL.out.size))) HOK.out HPR.out)
     have HBX:=jD hbx
     have HNX:=jD (fun (h:(l.any fun w=>verOver w l[k])=false) j (hj:j < l.length) (hj2:j < k+1)=>(show(l.any fun w=>verOver w l[j])=false by
      by_cases e:j=k
      ·subst e;exact h
      ·exact HALL.out j hj (by omega)))
     have HYS:=jD (fun (h:(l.any fun w=>verOver w l[k])=true)=>(show oldC l=true by unfold oldC;rw [List.any_eq_true];exact ⟨_,List.getElem_mem hlt,h⟩))
     clear hc hcc hcl hk2 hbx HPR
     generalize l[k]=v at*
     unfold verC at HCT HBX
     have hltb:decide ((k:Int) < (l.length:Int))=true:=by simp;omega
     go_wp2_with fail
     refine(HCT.out).mono ?_
     rintro e w1 ⟨rfl,hb1⟩
     have hbl1:=bstep (bstep HBL.out HBX.out) hb1
     clear c0 c1 c2 c3 c4 c5 c6 c7 HCT hb1
     generalize hany:(l.any fun w=>verOver w v)=an at*
     clear hany
     cases an
     ·have HN:=jD (HNX.out rfl)
      go_wp2
      go_roundw
      case rel=>exact ⟨k+1,by omega,by go_num,HN.out,hbl1⟩
      case measure=>simp [intOf] <;> omega
     ·have H:=jD (show shelfChk l=6 by rw[H2.out,if_pos (HYS.out rfl)])
      go_wp2
      go_ret
      exact⟨by rw[H.out];rfl,hbl1⟩
    ·have H:=jD (show shelfChk l=0 by
      rw[H2.out,if_neg]
      intro h
      unfold oldC at h
      rw[List.any_eq_true] at h
      obtain⟨y,hy,h⟩:=h
      obtain⟨j,hj,rfl⟩:=List.getElem_of_mem hy
      rw[HALL.out j hj (by omega)] at h
      exact absurd h (by decide))
     have hbl:=HBL.out
     go_wp2
     go_ret
     exact⟨by rw[H.out];rfl,hbl⟩
theorem put1_p (B:Nat) (v:Ver) (y z:Value) (w:World) (hB:w.heap[B]? =some (Obj.cells (verC v y z) 75 (0,0))) (hk:KnAt w y z v.past) (hd:dotOk (v.ds,v.dc)=true):
  PredV VerOk 114 #[.pointer (some ⟨B,0,none⟩)] (fun x=>verOver x v) w:=by
 refine⟨enters_of Tryz.func114 (by kernel_rfl) rfl,fun a u x W hok hbl ha=> ?_⟩
 show Calls Tryz.prog 114 #[.agg (verC a u x), .pointer (some ⟨B,0,none⟩)] W _
 have HB:=jD (below_keep hbl hB)
 have HK:=jD (hk.below hbl)
 clear hbl hB hk
 obtain⟨xa,ca,rfl⟩:=ha.vec.shape
 obtain⟨ya,da,rfl⟩:=ha.more.shape
 obtain⟨xb,cb,hxb⟩:=HK.out.vec.shape
 obtain⟨yb,db,hyb⟩:=HK.out.more.shape
 subst hxb hyb
 have hbel:=bal (W:=W) (.cells (verC a (.slice xa a.past.vec.length ca) (.slice ya a.past.more.length da)) 75)
 have HA:=jD (ha.below hbel)
 have HK2:=jD (HK.out.below hbel)
 have HO:=jD (over_c a v _ _ _ _ _ HA.out HK2.out hok.past hd)
 have hB2:=below_keep hbel HB.out
 have c0:=cell_of_block (j:=0) hB2 rfl
 have c1:=cell_of_block (j:=1) hB2 rfl
 have c2:=cell_of_block (j:=2) hB2 rfl
 have c3:=cell_of_block (j:=3) hB2 rfl
 have c4:=cell_of_block (j:=4) hB2 rfl
 have c5:=cell_of_block (j:=5) hB2 rfl
 have c6:=cell_of_block (j:=6) hB2 rfl
 have c7:=cell_of_block (j:=7) hB2 rfl
 clear ha hB2 HB HK
 unfold verC at*
 go_enter Tryz.func114,Tryz.ntmps114
 go_wp2_with fail
 (with_reducible refine(HO.out).mono ?_)
 rintro e w1 ⟨rfl,hb1⟩
 replace hbel:=bstep hbel hb1
 clear hb1 c0 c1 c2 c3 c4 c5 c6 c7 HO
 go_wp2
 go_ret
 exact⟨rfl,hbel⟩
theorem put2_p (B:Nat) (v:Ver) (y z:Value) (w:World) (hB:w.heap[B]? =some (Obj.cells (verC v y z) 75 (0,0))) (hk:KnAt w y z v.past) (hv:KnOk v.past):
  PredV VerOk 118 #[.pointer (some ⟨B,0,none⟩)] (fun x=>verOver v x) w:=by
 refine⟨enters_of Tryz.func118 (by kernel_rfl) rfl,fun a u x W hok hbl ha=> ?_⟩
 show Calls Tryz.prog 118 #[.agg (verC a u x), .pointer (some ⟨B,0,none⟩)] W _
 have HB:=jD (below_keep hbl hB)
 have HK:=jD (hk.below hbl)
 clear hbl hB hk
 obtain⟨xa,ca,rfl⟩:=ha.vec.shape
 obtain⟨ya,da,rfl⟩:=ha.more.shape
 obtain⟨xb,cb,hxb⟩:=HK.out.vec.shape
 obtain⟨yb,db,hyb⟩:=HK.out.more.shape
 subst hxb hyb
 have hbel:=bal (W:=W) (.cells (verC a (.slice xa a.past.vec.length ca) (.slice ya a.past.more.length da)) 75)
 have HA:=jD (ha.below hbel)
 have HK2:=jD (HK.out.below hbel)
 have HO:=jD (over_c v a _ _ _ _ _ HK2.out HA.out hv hok.dot)
 have hB2:=below_keep hbel HB.out
 have c0:=cell_of_block (j:=0) hB2 rfl
 have c1:=cell_of_block (j:=1) hB2 rfl
 have c2:=cell_of_block (j:=2) hB2 rfl
 have c3:=cell_of_block (j:=3) hB2 rfl
 have c4:=cell_of_block (j:=4) hB2 rfl
 have c5:=cell_of_block (j:=5) hB2 rfl
 have c6:=cell_of_block (j:=6) hB2 rfl
 have c7:=cell_of_block (j:=7) hB2 rfl
 clear ha hB2 HB HK
 unfold verC at*
 go_enter Tryz.func118,Tryz.ntmps118
 go_wp2_with fail
 (with_reducible refine(HO.out).mono ?_)
 rintro e w1 ⟨rfl,hb1⟩
 replace hbel:=bstep hbel hb1
 clear hb1 c0 c1 c2 c3 c4 c5 c6 c7 HO
 go_wp2
 go_ret
 exact⟨rfl,hbel⟩
end Go.Proofs.YtgkgdedhicnohaaGreat
