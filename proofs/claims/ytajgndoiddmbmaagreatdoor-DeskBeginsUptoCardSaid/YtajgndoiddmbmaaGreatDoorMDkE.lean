/- Towards what desk.Run answers. -/
import Derived.Shelf.LaysM
import Derived.Test.YtajgndoiddmbmaaGreatDoorMDkA
import Derived.Lib.AppendIntMem
import Derived.Lib.AtoiAllCases
import Derived.Test.YtajgndoiddmbmaaGreatDoorForm4
namespace Go.Proofs.YtajgndoiddmbmaaGreatDoor
set_option maxRecDepth 100000
set_option maxHeartbeats 40000000
open Go.Shelf
def Ji:Go.Shelf.Ren:=⟨fun | 171=>27 | 243=>41 | 246=>84 | 283=>110 | 284=>111 | 285=>112 | 286=>113 | 129=>151 | 317=>150 | 318=>152 | 319=>153 | 320=>154 | 337=>186 | 338=>187 | n=>n,fun | 3=>3 | 9=>9 | 2=>2 | 4=>4 | 171=>168 | 0=>0 | 53=>64 | 37=>43 | 5=>5 | 173=>171 | 212=>220 | 51=>131 | 20=>20 | 213=>221 | 46=>167 | 232=>272 | 233=>273 | n=>n,fun | 17=>3 | 18=>6 | 19=>7 | n=>n⟩
theorem Tn:Go.Proofs.LaysM.n171 Tryz.prog Ji:= {
 mixed:=by kernel_rfl
 f129:=Tryz.func151.trans (congrArg some (by kernel_rfl))
 f171:=Tryz.func27.trans (congrArg some (by kernel_rfl))
 f243:=Tryz.func41.trans (congrArg some (by kernel_rfl))
 f246:=Tryz.func84.trans (congrArg some (by kernel_rfl))
 f283:=Tryz.func110.trans (congrArg some (by kernel_rfl))
 f284:=Tryz.func111.trans (congrArg some (by kernel_rfl))
 f285:=Tryz.func112.trans (congrArg some (by kernel_rfl))
 f286:=Tryz.func113.trans (congrArg some (by kernel_rfl))
 f317:=Tryz.func150.trans (congrArg some (by kernel_rfl))
 f318:=Tryz.func152.trans (congrArg some (by kernel_rfl))
 f319:=Tryz.func153.trans (congrArg some (by kernel_rfl))
 f320:=Tryz.func154.trans (congrArg some (by kernel_rfl))
 f337:=Tryz.func186.trans (congrArg some (by kernel_rfl))
 f338:=Tryz.func187.trans (congrArg some (by kernel_rfl))
 t0:=Tryz.underlying0
 a0:=Tryz.isAgg0
 z0:=Tryz.sizeOf0
 v0:=Tryz.zeroValue0
 t2:=Tryz.underlying2
 a2:=Tryz.isAgg2
 z2:=Tryz.sizeOf2
 v2:=Tryz.zeroValue2
 t3:=Tryz.underlying3
 a3:=Tryz.isAgg3
 z3:=Tryz.sizeOf3
 v3:=Tryz.zeroValue3
 t4:=Tryz.underlying4
 a4:=Tryz.isAgg4
 z4:=Tryz.sizeOf4
 v4:=Tryz.zeroValue4
 t5:=Tryz.underlying5
 a5:=Tryz.isAgg5
 z5:=Tryz.sizeOf5
 v5:=Tryz.zeroValue5
 t9:=Tryz.underlying9
 a9:=Tryz.isAgg9
 z9:=Tryz.sizeOf9
 v9:=Tryz.zeroValue9
 t20:=Tryz.underlying20
 a20:=Tryz.isAgg20
 z20:=Tryz.sizeOf20
 v20:=Tryz.zeroValue20
 t37:=Tryz.underlying43
 a37:=Tryz.isAgg43
 z37:=Tryz.sizeOf43
 v37:=Tryz.zeroValue43
 t46:=Tryz.underlying167
 a46:=Tryz.isAgg167
 z46:=Tryz.sizeOf167
 v46:=Tryz.zeroValue167
 t51:=Tryz.underlying131
 a51:=Tryz.isAgg131
 z51:=Tryz.sizeOf131
 v51:=Tryz.zeroValue131
 t53:=Tryz.underlying64
 a53:=Tryz.isAgg64
 z53:=Tryz.sizeOf64
 v53:=Tryz.zeroValue64
 t171:=Tryz.underlying168
 a171:=Tryz.isAgg168
 z171:=Tryz.sizeOf168
 v171:=Tryz.zeroValue168
 t173:=Tryz.underlying171
 a173:=Tryz.isAgg171
 z173:=Tryz.sizeOf171
 v173:=Tryz.zeroValue171
 t212:=Tryz.underlying220
 a212:=Tryz.isAgg220
 z212:=Tryz.sizeOf220
 v212:=Tryz.zeroValue220
 t213:=Tryz.underlying221
 a213:=Tryz.isAgg221
 z213:=Tryz.sizeOf221
 t232:=Tryz.underlying272
 a232:=Tryz.isAgg272
 z232:=Tryz.sizeOf272
 v232:=Tryz.zeroValue272
 t233:=Tryz.underlying273
 a233:=Tryz.isAgg273
 z233:=Tryz.sizeOf273
 v233:=Tryz.zeroValue273
 g17:=by kernel_rfl
 g18:=by kernel_rfl
 g19:=by kernel_rfl
 i0:=by kernel_rfl
 i2:=by kernel_rfl
 i3:=by kernel_rfl
 i4:=by kernel_rfl
 i5:=by kernel_rfl
 i9:=by kernel_rfl
 i20:=by kernel_rfl
 i37:=by kernel_rfl
 i46:=by kernel_rfl
 i51:=by kernel_rfl
 i53:=by kernel_rfl
 i171:=by kernel_rfl
 i173:=by kernel_rfl
 i212:=by kernel_rfl
 i232:=by kernel_rfl
 i233:=by kernel_rfl
 m17:=by kernel_rfl
 m18:=by kernel_rfl
 m19:=by kernel_rfl }
end Go.Proofs.YtajgndoiddmbmaaGreatDoor
namespace Go.Proofs.YtajgndoiddmbmaaGreatDoor
set_option maxRecDepth 100000
set_option maxHeartbeats 40000000
open Go.RowKit
structure Gd (B:Nat) (w:World):Prop where
 gl:Gl w B
 tab : Lib.TabBelow Tryz.prog B w "internal/strconv.uint64pow10" .u64 Lib.pow10Tab
 le:B≤w.heap.size
theorem Gd.on {B:Nat} {w w':World} (h:Gd B w) (hb:Below B w w'):Gd B w':=⟨h.gl.below hb,h.tab.on hb,Nat.le_trans h.le hb.size⟩
theorem Gd.below {B:Nat} {w w':World} (h:Gd B w) (hb:Below w.heap.size w w'):Gd B w':=h.on (hb.mono h.le)
theorem Gd.glw {B:Nat} {w:World} (h:Gd B w):Gl w w.heap.size:=h.gl.up h.le
theorem Gd.kp {B g:Nat} {w w':World} (h:Gd B w) (hk:Kp g bL bL w w') (hg:B≤g) (hlt:g < w.heap.size):Gd B w':=h.on (hk.toBelow (fun k h=>by simp[Value.ownBlock] at h) hg hlt)
def bG (e:Int):Ending:= .panicked [{ v:= .iface 67 (.agg #[.int .i64 e]),recovered:=false }]
theorem mB (e0:Int) (w:World):Calls Tryz.prog 57 #[.int .i64 e0] w fun e w'=>e=bG e0∧w'=w:=by
 go_enter Tryz.func57,Tryz.ntmps57;go_wp2;exact⟨rfl,rfl,rfl⟩
theorem qZ (e0:Int) (h:e0≠0) (w:World):Calls Tryz.prog 43 #[.int .i64 e0] w fun e w'=>e=bG e0∧w'=w:=by
 have hd:decide (e0=0)=false:=by simpa using h
 have hd2:(e0 != 0)=true:=bne_iff_ne.2 h;go_enter Tryz.func43,Tryz.ntmps43;go_wp2_with fail
 refine(mB e0 _).mono ?_;rintro e w2 ⟨rfl,rfl⟩;unfold bG;go_wp2;exact⟨rfl,rfl,rfl⟩
theorem AO (g:Nat) (v:Value) (all:List ByteArray) (w:World) (h:Wd w g v all all.length):
  Calls Tryz.prog 42 #[.pointer (some ⟨g,0,none⟩)] w fun e w'=>e=bG 9∧Kp g bL bL w w':=by
 obtain⟨a,cap,rfl⟩: ∃a cap,v= .slice a all.length cap:=by
  obtain⟨a,c,hv⟩:=ay h.row;exact ⟨a,c,hv⟩
 have hl:=h.len;have c0:w.cell? ⟨g,0,none⟩=some (.slice a all.length cap):=cq 0 h.blk rfl;have c1:w.cell? ⟨g,1,none⟩=some (.int .i64 (all.length:Nat)):=cq 1 h.blk rfl;have hgl:=ai h.blk;have hd:((all.length:Int)==(all.length:Int))=true:=by simp
 clear h;go_enter Tryz.func42,Tryz.ntmps42;go_wp2_with fail
 go_quiet (fail);go_wp2_with fail
 refine(mB 9 _).mono ?_;rintro e w2 ⟨rfl,rfl⟩;unfold bG;go_wp2;exact⟨rfl,rfl,Kp.drewN _ _ _ _⟩
def sS (s:ByteArray):Option Nat:=match Lib.atoiAll s.data.toList with
 | .ok v=>if 0≤v∧s.size≤9∧s=⟨(Lib.itoa v).toArray⟩ then some v.toNat else none
 | _=>none
def iX (all:List ByteArray) (k:Nat):Option Nat:=(all[k]?).bind sS
def VT {α: Type} (g:Nat) (v:Value) (all:List ByteArray) (k:Nat) (w:World) (E:Int) (r:Option α) (val:α→ Value→World→Prop) (e:Ending) (w':World):Prop:=
 Kp g bL bL w w'∧match r with
  | none=>e=bG E
  | some x=>(∃u,e= .returned u∧val x u w')∧Wd w' g v all (k+1)
theorem below_grow (w:World) (k:Nat) (os:Array Obj):Below w.heap.size w (Go.Sort.grow (w.drewN k) os):=by
 have h:=below_drewN (Below.refl w.heap.size w) k;refine⟨h.os,h.tape,h.output, ?_,fun q hq=> ?_⟩
 ·show _≤(_++os).size;rw[Array.size_append];exact Nat.le_trans h.size (Nat.le_add_right _ _)
 ·show((w.drewN k).heap++os)[q]? =_;rw[Array.getElem?_append_left (Nat.lt_of_lt_of_le hq h.size)];exact h.block q hq
theorem wK (n:Int) (h0: -9223372036854775808≤n) (h1:n≤9223372036854775807) (B:Nat) (w:World) (hG:Gd B w):
  Calls Tryz.prog 27 #[.int .i64 n] w fun e w'=>e= .returned (.string ⟨(Lib.itoa n).toArray⟩)∧Below w.heap.size w w':=by
 refine(Go.Proofs.Any.strconv_Itoa Tn n h0 h1 w hG.tab.here).mono ?_;rintro e w' ⟨he,k,os,rfl⟩;exact⟨he,below_grow _ _ _⟩
theorem iI (B g:Nat) (v:Value) (all:List ByteArray) (k:Nat) (w:World) (h:Wd w g v all k) (hG:Gd B w) (hB:B≤g) (hkl:k≤all.length) (hsz: ∀s∈all,s.size≤65536):
  Calls Tryz.prog 52 #[.pointer (some ⟨g,0,none⟩)] w (VT g v all k w 9 (iX all k) (fun n u _=>u= .int .i64 (n:Nat))):=by
 by_cases hk:k < all.length;rotate_left
 ·obtain rfl:k=all.length:=by omega
  have HP:=jD (show iX all all.length=none by unfold iX;rw [List.getElem?_eq_none (Nat.le_refl _)];rfl);have HN:=jD (AO g v all w h);clear h;go_enter Tryz.func52,Tryz.ntmps52;go_wp2_with fail
  (with_reducible refine(HN.o).mono ?_);rintro e w1 ⟨rfl,hkp⟩;unfold bG;go_wp2;refine⟨rfl,hkp, ?_⟩;rw[HP.o];rfl
 have hgl:=ai h.blk;have HN:=jD (wQ g v all k w h hk);have HP:=jD (show iX all k=sS all[k] by unfold iX;rw [List.getElem?_eq_getElem hk];rfl);have ym:=hsz _ (List.getElem_mem hk);have HG:=jD hG;clear h hsz hG;go_enter Tryz.func52,Tryz.ntmps52;go_wp2_with fail
 (with_reducible refine(HN.o).mono ?_);rintro e w1 ⟨rfl,hwd,hkp⟩;have aH:=jD hwd;have HK:=jD hkp;have dL:=jD (HG.o.kp hkp hB hgl);generalize all[k]=s at*;clear hwd hkp HN HG;cases ha:Lib.atoiAll s.data.toList with
 | ok x=>
  have HV:=jD (show sS s=if 0≤x∧s.size≤9∧s=⟨(Lib.itoa x).toArray⟩ then some x.toNat else none by unfold sS;rw [ha]);go_wp2_with fail
  refine(Any.strconv_Atoi_ok fI s (by omega) x ha _).mono ?_;rintro e w2 ⟨rfl,hw2⟩;have hb:=lZ hw2;have cS:=jD (HK.o.trans (Kp.of_below (R:=g) (v:=bL) hb));have HG2:=jD (dL.o.below hb);have iM:=jD (aH.o.below hb);clear hw2 hb HK dL aH;by_cases hx0:x < 0
  ·have hd0:decide (x < 0)=true:=by simpa using hx0
   have HN:=jD (show sS s=none by rw[HV.o,if_neg (by omega)]);go_wp2_with fail
   refine(mB 9 _).mono ?_;rintro e w3 ⟨rfl,rfl⟩;unfold bG;go_wp2;refine⟨rfl,cS.o, ?_⟩;rw[HP.o,HN.o];rfl
  have hd0:decide (x < 0)=false:=by simp;omega
  by_cases h9:9 < s.size
  ·have hd9:decide ((9:Int) < (s.size:Int))=true:=by simp;omega
   have HN:=jD (show sS s=none by rw[HV.o,if_neg (by omega)]);go_wp2_with fail
   refine(mB 9 _).mono ?_;rintro e w3 ⟨rfl,rfl⟩;unfold bG;go_wp2;refine⟨rfl,cS.o, ?_⟩;rw[HP.o,HN.o];rfl
  have hd9:decide ((9:Int) < (s.size:Int))=false:=by simp;omega
  have HIT:=jD (wK x (Lib.atoiAll_bounds ha).1 (Lib.atoiAll_bounds ha).2 B w2 HG2.o);go_wp2_with fail
  refine(HIT.o).mono ?_;rintro e w3 ⟨rfl,hb3⟩;have kX:=jD (cS.o.trans (Kp.of_below (R:=g) (v:=bL) hb3));have sW:=jD (iM.o.below hb3);clear hb3 HIT cS iM HG2;by_cases he:s=⟨(Lib.itoa x).toArray⟩
  ·have hq:=(SG he).2;have hq2:(s.toList != Lib.itoa x)=false:=by rw[he,Lib.toList_data];simp
   have hq3:(s.toList==Lib.itoa x)=true:=by rw[he,Lib.toList_data];simp
   have HN:=jD (show sS s=some x.toNat by rw[HV.o,if_pos ⟨by omega,by omega,he⟩]);have hxn:((x.toNat:Nat):Int)=x:=by omega
   clear he;go_wp2;go_ret;refine⟨kX.o, ?_⟩;rw[HP.o,HN.o];exact⟨⟨.int .i64 x,rfl,by show Value.int .i64 x= .int .i64 ((x.toNat:Nat):Int);rw [hxn]⟩,sW.o⟩
  ·have hq:=(SE he).2;have hq2:(s.toList != Lib.itoa x)=true:=by
    rw[bne_iff_ne];intro e;exact he (eF (by rw[←Lib.toList_data,e]))
   have hq3:(s.toList==Lib.itoa x)=false:=by
    rw[beq_eq_false_iff_ne];intro e;exact he (eF (by rw[←Lib.toList_data,e]))
   have HN:=jD (show sS s=none by rw[HV.o,if_neg (fun h=>he h.2.2)]);clear he;go_wp2_with fail
   refine(mB 9 _).mono ?_;rintro e w4 ⟨rfl,rfl⟩;unfold bG;go_wp2;refine⟨rfl,kX.o, ?_⟩;rw[HP.o,HN.o];rfl
 | range=>
  have HV:=jD (show sS s=none by unfold sS;rw [ha]);obtain⟨ev,jE,ko⟩:=dL.o.gl.ran;go_wp2_with fail
  refine(Any.strconv_Atoi_range fI s (by omega) ha ev _ jE ko).mono ?_;rintro e w2 ⟨N,rfl,hN1,oD,hb⟩;have cS:=jD (HK.o.trans (Kp.of_below (R:=g) (v:=bL) hb));clear hN1 oD hb jE;go_wp2_with fail
  refine(mB 9 _).mono ?_;rintro e w3 ⟨rfl,rfl⟩;unfold bG;go_wp2;refine⟨rfl,cS.o, ?_⟩;rw[HP.o,HV.o];rfl
 | _=>
  have HV:=jD (show sS s=none by unfold sS;rw [ha]);obtain⟨ev,jE,ko⟩:=dL.o.gl.syn;go_wp2_with fail
  refine(Any.strconv_Atoi_syntax fI s (by omega) ha ev _ jE ko).mono ?_;rintro e w2 ⟨N,rfl,hN1,oD,hb⟩;have cS:=jD (HK.o.trans (Kp.of_below (R:=g) (v:=bL) hb));clear hN1 oD hb jE;go_wp2_with fail
  refine(mB 9 _).mono ?_;rintro e w3 ⟨rfl,rfl⟩;unfold bG;go_wp2;refine⟨rfl,cS.o, ?_⟩;rw[HP.o,HV.o];rfl
def filE (all:List ByteArray) (k:Nat):Int:=match all[k]? with | none=>9 | some s=>readE s
def kR (all:List ByteArray) (k:Nat):Option (Nat→Nat→Bool):=match all[k]? with | none=>none | some s=>if readE s=0 then some (fun (t n:Nat)=>qV (ey s) t n) else none
theorem sy (B g:Nat) (v:Value) (all:List ByteArray) (k:Nat) (w:World) (h:Wd w g v all k) (hG:Gd B w) (hB:B≤g) (hkl:k≤all.length) (hsz: ∀s∈all,s.size≤65536):
  Calls Tryz.prog 46 #[.pointer (some ⟨g,0,none⟩)] w (VT g v all k w (filE all k) (kR all k) (fun p u w'=>FO w' w.heap.size u p)):=by
 by_cases hk:k < all.length;rotate_left
 ·obtain rfl:k=all.length:=by omega
  have HP:=jD (show kR all all.length=none by unfold kR;rw [List.getElem?_eq_none (Nat.le_refl _)]);have HE:=jD (show filE all all.length=9 by unfold filE;rw [List.getElem?_eq_none (Nat.le_refl _)]);have HN:=jD (AO g v all w h);clear h;go_enter Tryz.func46,Tryz.ntmps46;go_wp2_with fail
  (with_reducible refine(HN.o).mono ?_);rintro e w1 ⟨rfl,hkp⟩;unfold bG;go_wp2;refine⟨rfl,hkp, ?_⟩;rw[HP.o,HE.o];rfl
 have hgl:=ai h.blk;have HN:=jD (wQ g v all k w h hk);have HP:=jD (show kR all k=if readE all[k]=0 then some (fun (t n:Nat)=>qV (ey all[k]) t n) else none by unfold kR;rw [List.getElem?_eq_getElem hk]);have HE:=jD (show filE all k=readE all[k] by unfold filE;rw [List.getElem?_eq_getElem hk]);have ym:=hsz _ (List.getElem_mem hk);have HG:=jD hG;clear h hsz hG;go_enter Tryz.func46,Tryz.ntmps46;go_wp2_with fail
 (with_reducible refine(HN.o).mono ?_);rintro e w1 ⟨rfl,hwd,hkp⟩;have aH:=jD hwd;have HK:=jD hkp;have dL:=jD (HG.o.kp hkp hB hgl);have oI:=jD hkp.size;generalize all[k]=s at*;have HR:=jD (IY s w1 dL.o.glw (by omega));clear hwd hkp HN HG;go_wp2_with fail
 (with_reducible refine(HR.o).mono ?_);rintro e w2 ⟨u,rfl,hnd,hb2⟩;have HND:=jD hnd;have cS:=jD (HK.o.trans (Kp.of_below (R:=g) (v:=bL) hb2));have iM:=jD (aH.o.below hb2);have V6:=jD (Nat.le_trans oI.o hb2.size);obtain⟨ua,uc,Jp⟩:=aF.shape hnd;subst Jp;clear hnd hb2 HR HK aH dL oI;by_cases hz:readE s=0;rotate_left
 ·have HM:=jD (qZ (readE s) hz w2);have HN:=jD (show kR all k=none by rw[HP.o,if_neg hz]);clear hz;go_wp2_with fail
  (with_reducible refine(HM.o).mono ?_);rintro e w3 ⟨rfl,rfl⟩;unfold bG;go_wp2;refine⟨rfl,cS.o, ?_⟩;rw[HN.o,HE.o];rfl
 have hfc:cI (ey s)=0:=by
  have h1:=pU hz;have h2:=h1.1;unfold nQ at h2;split at h2
  ·rename_i h3;exact h3
  ·rename_i h3;exact absurd h2 h3
 have KH:=jD hfc;have HN:=jD (show kR all k=some (fun (t n:Nat)=>qV (ey s) t n) by rw[HP.o,if_pos hz]);have HF:=jD (formFilter_c _ (ey s) w2 HND.o);rw[hfc] at HF;rw[hz];clear hz hfc HP HE;go_wp2_with fail
 (with_reducible refine(kS w2).mono ?_);rintro e w3 ⟨rfl,rfl⟩;go_wp2_with fail
 (with_reducible refine(HF.o).mono ?_);rintro e w4 ⟨u4,rfl,hfo, -,hb4⟩;have jO:=jD (hfo trivial);have lJ:=jD (cS.o.trans (Kp.of_below (R:=g) (v:=bL) hb4));have Cx:=jD (iM.o.below hb4);obtain⟨a4,n4,c4,hu4⟩:=FO.shape (hfo trivial);subst hu4;clear hfo hb4 HF cS iM;go_wp2_with fail
 (with_reducible refine(kS w4).mono ?_);rintro e w5 ⟨rfl,rfl⟩;go_wp2;go_ret;refine⟨lJ.o, ?_⟩;rw[HN.o];exact⟨⟨_,rfl,FO.mono jO.o V6.o⟩,Cx.o⟩
theorem QA: ∀(k n:Nat),n < 10^(k+1)→(Lib.decDigits n).length≤k+1
 | 0,n,h=>by
  rw[Lib.decDigits,dif_pos (by simpa using h)];simp
 | k+1,n,h=>by
  rw[Lib.decDigits];split
  ·simp
  ·have:=QA k (n / 10) (by rw[Nat.pow_succ] at h;exact Nat.div_lt_of_lt_mul (by omega));rw[List.length_append,List.length_singleton];omega
theorem Tk {n:Int} (h0:0≤n) (h1:n < 10000000000):(Lib.itoa n).length≤10:=by
 unfold Lib.itoa;rw[if_neg (by omega)];exact QA 9 n.toNat (by
               have:(10:Nat)^(9+1)=10000000000:=by decide
               omega)
def jw (n:Int):ByteArray:=⟨(Lib.itoa n).toArray⟩
def jf (l:List Int):ByteArray:=l.foldl (fun o n=>o++(⟨#[32]⟩++jw n)) ⟨#[111,107]⟩
theorem Ng (l:List Int) (n:Int):jf (l++[n])=jf l++(⟨#[32]⟩++jw n):=by unfold jf;rw [List.foldl_append];rfl
theorem kj {n:Int} (h0:0≤n) (h1:n < 10000000000):(jw n).size≤10:=Tk h0 h1
theorem FK {l:List Int} (h: ∀n∈l,0≤n∧n < 10000000000):(jf l).size≤2+11*l.length:=by
 have key: ∀(l:List Int) (o:ByteArray),(∀n∈l,0≤n∧n < 10000000000)→(l.foldl (fun o n=>o++(⟨#[32]⟩++jw n)) o).size≤o.size+11*l.length:=by
  intro l;induction l with
  | nil=>intro o _;exact Nat.le_refl _
  | cons n l ih=>
   intro o h;have h1:=ih (o++(⟨#[32]⟩++jw n)) fun m hm=>h m (List.mem_cons_of_mem _ hm);obtain⟨a,b⟩:=h n (List.mem_cons_self ..);have h2:=kj a b;rw[ByteArray.size_append,ByteArray.size_append] at h1;have h3:(⟨#[32]⟩:ByteArray).size=1:=rfl;rw[List.foldl_cons,List.length_cons];omega
 exact key l ⟨#[111,107]⟩ h
theorem E8 (B:Nat) (v:Value) (l:List Int) (w:World) (hG:Gd B w) (hv:l9 w v l) (hl: ∀n∈l,0≤n∧n < 10000000000) (hn:l.length≤100):
  Calls Tryz.prog 49 #[v] w fun e w'=>e= .returned (.string (jf l))∧Below w.heap.size w w':=by
 obtain⟨a,c,rfl, -, -, -,hvl⟩:=hv.open_;have HV:=jD hvl;have HL:=jD hl;have HG:=jD hG;clear hv hvl hl hG;go_enter Tryz.func49,Tryz.ntmps49;go_wp2;go_loopw [3,8] (fun o i wr=> ∃k:Nat,k≤l.length∧i= .int .i64 k∧o= .string (jf (l.take k))∧Below w.heap.size w wr) (fun _ i _=>l.length - (intOf i).toNat)
 case atStart=>exact ⟨0,Nat.zero_le _,rfl,rfl,br⟩
 case round=>
  obtain⟨k,hk,rfl,rfl,hb⟩:=hrel;have HB:=jD hb;by_cases hlt:k < l.length;rotate_left
  ·obtain rfl:k=l.length:=by omega
   rw[List.take_length];have hkb:decide ((l.length:Int) < (l.length:Int))=false:=by simp
   go_wp2;go_ret;exact⟨rfl,hb⟩
  have hkb:decide ((k:Int) < (l.length:Int))=true:=by simp;omega
  rcases HV.o with hnil | ⟨b,off,rfl,hbl,hc⟩
  ·rw[hnil] at hlt;simp at hlt
  have d0:=(hb.cell (p:=⟨b,off+k,none⟩) hbl).trans (hc k hlt);have hbr:=Nat.lt_of_lt_of_le hbl hb.size;obtain⟨n0,n1⟩:=HL.o l[k] (List.getElem_mem hlt);have HT:=jD (show l.take (k+1)=l.take k++[l[k]] from List.take_succ_eq_append_getElem hlt);have hsz:=FK (l:=l.take k) fun n hn=>HL.o n (List.mem_of_mem_take hn);rw[List.length_take] at hsz;have hsz2:(jf (l.take k)).size≤1200:=by omega
  generalize l[k]=x at*;have hi9:=kj n0 n1;have HI:=jD (wK x (by omega) (by omega) B wr (HG.o.below hb));have HO:=jD (Ng (l.take k) x);generalize jf (l.take k)=o at*;have HX:=jD (show(⟨(Lib.itoa x).toArray⟩:ByteArray)=jw x from rfl);rw[HX.o] at HI;generalize jw x=ix at*;clear hc hb hsz;go_wp2_with fail
  (with_reducible refine(HI.o).mono ?_);rintro e w2 ⟨rfl,hb2⟩;have cw:=jD (aj HB.o hb2);have hp1:(⟨#[32]⟩++ix:ByteArray).size≤11:=by
   rw[ByteArray.size_append];have:(⟨#[32]⟩:ByteArray).size=1:=rfl;omega
  clear hb2 HI d0;go_wp2;go_roundw
  case rel=>exact ⟨k+1,by omega,by go_num,by rw[HT.o,HO.o],cw.o⟩
  case measure=>simp [intOf] <;> omega
def kL (b:Bool):ByteArray:=if b then⟨#[111,107,32,121,101,115]⟩ else⟨#[111,107,32,110,111]⟩
theorem Hw (b:Bool) (w:World):Calls Tryz.prog 54 #[.bool b, .int .i64 0] w fun e w'=>e= .returned (.string (kL b))∧w'=w:=by
 go_enter Tryz.func54,Tryz.ntmps54;go_wp2_with fail
 (with_reducible refine(kS w).mono ?_);rintro e w2 ⟨rfl,rfl⟩;cases b
 ·go_wp2;go_ret;exact⟨rfl,rfl⟩
 ·go_wp2;go_ret;exact⟨rfl,rfl⟩
theorem U0 (b:Bool) (e0:Int) (h:e0≠0) (w:World):Calls Tryz.prog 54 #[.bool b, .int .i64 e0] w fun e w'=>e=bG e0∧w'=w:=by
 have HM:=jD (qZ e0 h w);go_enter Tryz.func54,Tryz.ntmps54;go_wp2_with fail
 (with_reducible refine(HM.o).mono ?_);rintro e w2 ⟨rfl,rfl⟩;unfold bG;go_wp2;exact⟨rfl,rfl,rfl⟩
end Go.Proofs.YtajgndoiddmbmaaGreatDoor
