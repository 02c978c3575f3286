/- Towards what desk.Run answers. -/
import Derived.Lib.Bytealg
import Derived.Lib.Walk
import Derived.Test.YtajgndoiddmbmaaGreatDoorMKnow5
import Derived.Test.YtajgndoiddmbmaaGreatDoorMForm
namespace Go.Proofs.YtajgndoiddmbmaaGreatDoor
set_option maxRecDepth 100000
set_option maxHeartbeats 40000000
open Go.RowKit
theorem LF (a b:ByteArray) (w:World):
  Calls Tryz.prog 211 #[.string a, .string b] w fun e w'=>e= .returned (.int .i64 (Lib.compareBytes a.data.toList b.data.toList))∧w'=w:=by
 go_enter Tryz.func211,Tryz.ntmps211;go_wp2;rw[run_callFunc_extern Tryz.func224 (by kernel_rfl) (by kernel_rfl) (by kernel_rfl) (e:=Extern.BytealgCompare.compare) (by kernel_rfl),Lib.run_compareString];simp only[Result.andThen];rw[Oper.upon_value];go_wp2;go_ret;exact⟨rfl,rfl⟩
theorem QJ (a b:ByteArray) (w:World):
  Calls Tryz.prog 195 #[.string a, .string b] w fun e w'=>e= .returned (.int .i64 (Lib.compareBytes a.data.toList b.data.toList))∧w'=w:=by
 go_enter Tryz.func195,Tryz.ntmps195;go_wp2_with fail
 (with_reducible refine(LF a b _).mono ?_);rintro e w' ⟨rfl,rfl⟩;go_wp2;go_ret;exact⟨rfl,rfl⟩
def letter (b:UInt8):Bool:=decide (97≤b.toNat)&&decide (b.toNat≤122)
def gI (s:ByteArray):Bool:=decide (0 < s.size)&&decide (s.size≤8)&&s.data.toList.all letter
theorem Pk {s:ByteArray} (h:s.size=0):s=⟨#[]⟩:=by
 obtain⟨⟨l⟩⟩:=s;have:l.length=0:=h;rw[List.length_eq_zero_iff] at this;subst this;rfl
theorem QT (s:ByteArray) (k:Nat) (h:k < s.size):s.data.toList[k]'(by simpa using h)=s[k]:=rfl
theorem NV (s:ByteArray) (w:World):
  Calls Tryz.prog 129 #[.string s] w fun e w'=>e= .returned (.bool (gI s))∧w'=w:=by
 by_cases h0:s.size=0
 ·obtain rfl:=Pk h0;go_enter Tryz.func129,Tryz.ntmps129;go_wp2;go_ret;exact⟨rfl,rfl⟩
 have hne:s.toList.isEmpty=false:=by
  rw[ByteArray.toList_eq,List.isEmpty_eq_false_iff];intro h;exact h0 (show s.data.toList.length=0 by rw[h];rfl)
 by_cases h8:8 < s.size
 ·have H:=jD (show gI s=false by unfold gI;rw [decide_eq_false (show ¬s.size≤8 by omega)];simp);have h8':decide ((8:Int) < (s.size:Int))=true:=by simp;omega
  go_enter Tryz.func129,Tryz.ntmps129;go_wp2;go_ret;exact⟨by rw[H.o];rfl,rfl⟩
 have h8':decide ((8:Int) < (s.size:Int))=false:=by simp;omega
 have H:=jD (show gI s=s.data.toList.all letter by unfold gI;rw [decide_eq_true (show 0 < s.size by omega),decide_eq_true (show s.size≤8 by omega)];rfl);go_enter Tryz.func129,Tryz.ntmps129;go_wp2;go_loop [13] (fun i=> ∃k:Nat,k≤s.size∧i= .int .i64 k∧(s.data.toList.take k).all letter=true) (fun i=>s.size - (intOf i).toNat)
 case atStart=>exact ⟨0,Nat.zero_le _,rfl,by simp⟩
 case round=>
  obtain⟨k,hk,rfl,hall⟩:=hrel;have o6:=jD hall;clear hall;by_cases hlt:k < s.size
  ·have hkl:k < s.data.toList.length:=by simpa using hlt
   have HT:=jD (show(s.data.toList.take (k+1)).all letter=letter s[k] by
    rw[List.take_succ_eq_append_getElem hkl,List.all_append,o6.o];simp [QT s k hlt])
   have HB:=jD (fun (hb:letter s[k]=false)=>(show gI s=false by
    rw[H.o,Bool.eq_false_iff];intro h;have:=List.all_eq_true.1 h _ (List.getElem_mem hkl);rw[QT s k hlt,hb] at this;exact absurd this (by decide)))
   have hL:letter s[k]=(decide (97≤s[k].toNat)&&decide (s[k].toNat≤122)):=rfl;have HL:=jD hL;clear hL;by_cases h97:s[k].toNat < 97
   ·have h1:decide ((s[k].toNat:Int) < 97)=true:=by simp;omega
    have HF:=jD (HB.o (by rw[HL.o,decide_eq_false (show ¬97≤s[k].toNat by omega)];rfl));go_wp2;go_ret;exact⟨by rw[HF.o];rfl,rfl⟩
   have h1:decide ((s[k].toNat:Int) < 97)=false:=by simp;omega
   by_cases h122:122 < s[k].toNat
   ·have h2:decide ((122:Int) < (s[k].toNat:Int))=true:=by simp;omega
    have HF:=jD (HB.o (by rw[HL.o,decide_eq_false (show ¬s[k].toNat≤122 by omega),Bool.and_false]));go_wp2;go_ret;exact⟨by rw[HF.o];rfl,rfl⟩
   have h2:decide ((122:Int) < (s[k].toNat:Int))=false:=by simp;omega
   go_wp2;go_round
   case rel=>exact ⟨k+1,by omega,by go_num,by rw[HT.o,HL.o,decide_eq_true (show 97≤s[k].toNat by omega),decide_eq_true (show s[k].toNat≤122 by omega)];rfl⟩
   case measure=>simp [intOf];omega
  ·obtain rfl:k=s.size:=by omega
   have HF:=jD (show gI s=true by rw[H.o];have:=o6.o;rwa [List.take_of_length_le (by simp)] at this);go_wp2;go_ret;exact⟨by rw[HF.o];rfl,rfl⟩
structure aA where
 id:ByteArray
 ds:Int
 dc:Int
 tg:Int
 nm:Int
 bd:Int
 past:Kn
def aN (v:aA) (u x:Value):Array Value:= #[.string v.id, .int .i64 v.ds, .int .i64 v.dc, .int .i64 v.tg, .int .i64 v.nm, .int .i64 v.bd,u,x]
def eu:BC aA where
 size:=8
 El w v cs:= ∃u x,cs=(aN v u x).toList∧dB w u x v.past
 len:=by rintro w v cs ⟨u,x,rfl, -⟩;rfl
 one:=by
  rintro w v cs ⟨u,x,rfl,h⟩ z hz;obtain⟨a,c,rfl⟩:=h.vec.shape;obtain⟨b,d,rfl⟩:=h.more.shape;simp only[aN,List.mem_cons,List.not_mem_nil,or_false] at hz;rcases hz with rfl | rfl | rfl | rfl | rfl | rfl | rfl | rfl <;> rfl
 sub:=by rintro w w' v cs ⟨u,x,rfl,h⟩ hs;exact ⟨u,x,rfl,h.sub hs⟩
 pos:=by decide
def Aw (v:aA):Bool:=bX (v.ds,v.dc)&&eP v.tg v.nm&&decide (0≤v.bd)&&decide (v.bd≤1000000)
def bC (v:aA):Int:=if gI v.id=true then(if Aw v=true then(if bF v.past=0 then(if aU v.past v.ds v.dc=true then 3 else 0) else bF v.past) else 1) else 3
structure dz (v:aA):Prop where
 id:gI v.id=true
 dot:bX (v.ds,v.dc)=true
 pt:eP v.tg v.nm=true
 bd:0≤v.bd∧v.bd≤1000000
 past:gz v.past
 len:v.past.more.length≤60
 o:aU v.past v.ds v.dc=false
theorem gG {v:aA} :bC v=0↔dz v:=by
 unfold bC;constructor
 ·intro h;split at h
  ·rename_i h1;split at h
   ·rename_i h2;split at h
    ·rename_i h3;split at h
     ·exact absurd h (by decide)
     ·rename_i h4;simp only[Aw,Bool.and_eq_true,decide_eq_true_eq] at h2;obtain⟨k1,k2⟩:=di.1 h3;exact⟨h1,h2.1.1.1,h2.1.1.2,⟨h2.1.2,h2.2⟩,k1,k2,by simpa using h4⟩
    ·rename_i h3;exact absurd h h3
   ·exact absurd h (by decide)
  ·exact absurd h (by decide)
 ·rintro⟨h1,h2,h3,h4,h5,h6,h7⟩;rw[if_pos h1,if_pos (by simp only[Aw,Bool.and_eq_true,decide_eq_true_eq];exact ⟨⟨⟨h2,h3⟩,h4.1⟩,h4.2⟩),if_pos (di.2 ⟨h5,h6⟩),if_neg (by rw[h7];decide)]
theorem NH (v:aA) (u x:Value) (w:World) (hk:dB w u x v.past):
  Calls Tryz.prog 163 #[.agg (aN v u x)] w fun e w'=>e= .returned (.int .i64 (bC v))∧Below w.heap.size w w':=by
 obtain⟨id,ds,dc,tg,nm,bd,past⟩:=v;simp only at hk;unfold aN;simp only;obtain⟨ua,uc,rfl⟩:=hk.vec.shape;obtain⟨xa,xc,rfl⟩:=hk.more.shape;have hc:=fun j v h=>cat w #[.string id, .int .i64 ds, .int .i64 dc, .int .i64 tg, .int .i64 nm, .int .i64 bd, .slice ua past.vec.length uc, .slice xa past.more.length xc] 120 j v h _ rfl;have c0:=hc 0 _ rfl;have c1:=hc 1 _ rfl;have c2:=hc 2 _ rfl;have c3:=hc 3 _ rfl;have c4:=hc 4 _ rfl;have c5:=hc 5 _ rfl;have c6:=hc 6 _ rfl;have c7:=hc 7 _ rfl;have hbel:=aG (W:=w) (.cells #[.string id, .int .i64 ds, .int .i64 dc, .int .i64 tg, .int .i64 nm, .int .i64 bd, .slice ua past.vec.length uc, .slice xa past.more.length xc] 120);have hK:=hk.below hbel;clear hc hk;go_enter Tryz.func163,Tryz.ntmps163;go_wp2_with fail
 (with_reducible refine(NV id _).mono ?_);rintro e w1 ⟨rfl,rfl⟩;cases hid:gI id
 ·have H:=jD (show bC ⟨id,ds,dc,tg,nm,bd,past⟩=3 by unfold bC;rw [if_neg (by simp only;rw [hid];decide)]);clear hid;go_wp2;go_ret;exact⟨by rw[H.o];rfl,hbel⟩
 have H1:=jD (show bC ⟨id,ds,dc,tg,nm,bd,past⟩=if Aw ⟨id,ds,dc,tg,nm,bd,past⟩=true then(if bF past=0 then(if aU past ds dc=true then 3 else 0) else bF past) else 1 by unfold bC;rw [if_pos hid]);have GQ:=jD (show Aw ⟨id,ds,dc,tg,nm,bd,past⟩=(bX (ds,dc)&&eP tg nm&&decide (0≤bd)&&decide (bd≤1000000)) from rfl);generalize Aw ⟨id,ds,dc,tg,nm,bd,past⟩=vb at*;clear hid;go_wp2_with fail
 (with_reducible refine(Oi ds dc _).mono ?_);rintro e w1 ⟨rfl,hb⟩;replace c1:=ah hb c1;replace c2:=ah hb c2;replace c3:=ah hb c3;replace c4:=ah hb c4;replace c5:=ah hb c5;replace c6:=ah hb c6;replace c7:=ah hb c7;replace hK:=hK.below hb;replace hbel:=aj hbel hb;clear hb c0;cases hd:bX (ds,dc)
 ·have H:=jD (show bC ⟨id,ds,dc,tg,nm,bd,past⟩=1 by rw[H1.o,GQ.o,hd];rfl);clear hd;go_wp2;go_ret;exact⟨by rw[H.o];rfl,hbel⟩
 have HDT:=jD hd;rw[hd] at GQ;clear hd;go_wp2_with fail
 (with_reducible refine(AA tg nm _).mono ?_);rintro e w2 ⟨rfl,hb⟩;replace c1:=ah hb c1;replace c2:=ah hb c2;replace c5:=ah hb c5;replace c6:=ah hb c6;replace c7:=ah hb c7;replace hK:=hK.below hb;replace hbel:=aj hbel hb;clear hb c3 c4;cases hp:eP tg nm
 ·have H:=jD (show bC ⟨id,ds,dc,tg,nm,bd,past⟩=1 by rw[H1.o,GQ.o,hp];rfl);clear hp;go_wp2;go_ret;exact⟨by rw[H.o];rfl,hbel⟩
 rw[hp] at GQ;clear hp;by_cases hb0:bd < 0
 ·have H:=jD (show bC ⟨id,ds,dc,tg,nm,bd,past⟩=1 by rw[H1.o,GQ.o,decide_eq_false (show ¬0≤bd by omega)];rfl);have Zv:decide (bd < 0)=true:=by simp[hb0]
  clear hb0;go_wp2;go_ret;exact⟨by rw[H.o];rfl,hbel⟩
 have Zv:decide (bd < 0)=false:=by simp;omega
 by_cases hb1:1000000 < bd
 ·have H:=jD (show bC ⟨id,ds,dc,tg,nm,bd,past⟩=1 by rw[H1.o,GQ.o,decide_eq_true (show 0≤bd by omega),decide_eq_false (show ¬bd≤1000000 by omega)];rfl);have N5:decide (1000000 < bd)=true:=by simp[hb1]
  clear hb1 hb0;go_wp2;go_ret;exact⟨by rw[H.o];rfl,hbel⟩
 have N5:decide (1000000 < bd)=false:=by simp;omega
 have H2:=jD (show bC ⟨id,ds,dc,tg,nm,bd,past⟩=if bF past=0 then(if aU past ds dc=true then 3 else 0) else bF past by rw[H1.o,GQ.o,decide_eq_true (show 0≤bd by omega),decide_eq_true (show bd≤1000000 by omega)];rfl);clear H1 GQ hb0 hb1;go_wp2_with fail
 (with_reducible refine(knChk_c _ _ past _ hK).mono ?_);rintro e w3 ⟨rfl,hb⟩;replace c1:=ah hb c1;replace c2:=ah hb c2;replace c6:=ah hb c6;replace c7:=ah hb c7;replace hK:=hK.below hb;replace hbel:=aj hbel hb;clear hb c5 Zv N5;cases hx:(bF past==0)
 ·have hne:bF past≠0:=by simpa using hx
  have H:=jD (show bC ⟨id,ds,dc,tg,nm,bd,past⟩=bF past by rw[H2.o,if_neg hne]);have h':(bF past != 0)=true:=by simp[bne,hx]
  clear hx hne;go_wp2;go_ret;exact⟨by rw[H.o];rfl,hbel⟩
 have h0:bF past=0:=by simpa using hx
 have H3:=jD (show bC ⟨id,ds,dc,tg,nm,bd,past⟩=if aU past ds dc=true then 3 else 0 by rw[H2.o,if_pos h0]);obtain⟨hok,hlen⟩:=di.1 h0;have OK:=jD hok;rw[h0];clear hx h0 H2 hok;obtain⟨⟨d0,d5⟩,d1,d2⟩:=jx.1 HDT.o;simp only at d0 d5 d1 d2;have aZ:=jD (kC (l:=[(ds,dc)]) fun d hx=>by simp only[List.mem_singleton] at hx;rw [hx];exact HDT.o);have KR:=jD (kC fun d hd=>(OK.o.nH d hd).1);go_wp2_with fail
 (with_reducible refine(knIn_c _ _ past ds dc _ hK d0 OK.o.ord KR.o aZ.o).mono ?_);rintro e w4 ⟨rfl,hb⟩;replace hbel:=aj hbel hb;clear hb c1 c2 c6 c7;cases hin:aU past ds dc
 ·have H:=jD (show bC ⟨id,ds,dc,tg,nm,bd,past⟩=0 by rw[H3.o,hin];rfl);clear hin;go_wp2;go_ret;exact⟨by rw[H.o];rfl,hbel⟩
 ·have H:=jD (show bC ⟨id,ds,dc,tg,nm,bd,past⟩=3 by rw[H3.o,hin];rfl);clear hin;go_wp2;go_ret;exact⟨by rw[H.o];rfl,hbel⟩
theorem Hy {w:World} {g:Nat} {v:aA} {u x:Value} {t:TypeId} (h:w.heap[g]? =some (Obj.cells (aN v u x) t (0,0))):
  w.cell? ⟨g,0,none⟩=some (.string v.id)∧w.cell? ⟨g,1,none⟩=some (.int .i64 v.ds)∧w.cell? ⟨g,2,none⟩=some (.int .i64 v.dc)∧w.cell? ⟨g,6,none⟩=some u∧w.cell? ⟨g,7,none⟩=some x:=
 ⟨aD h rfl,aD h rfl,aD h rfl,aD h rfl,aD h rfl⟩
theorem Jk (a b:ByteArray):(a.toList==b.toList)=decide (a=b):=by
 rw[Bool.eq_iff_iff,beq_iff_eq,decide_eq_true_eq,ByteArray.toList_eq,ByteArray.toList_eq];constructor
 ·intro h;obtain⟨⟨la⟩⟩:=a;obtain⟨⟨lb⟩⟩:=b;simp only at h;rw[h]
 ·rintro rfl;rfl
def cW (a b:aA):Bool:=decide (a.id=b.id)&&aU a.past b.ds b.dc
def bJ (a b:aA):Int:=if Lib.compareBytes a.id.data.toList b.id.data.toList≠0 then Lib.compareBytes a.id.data.toList b.id.data.toList else if a.ds≠b.ds then a.ds - b.ds else a.dc - b.dc
theorem I4 (a b:aA) (u x y z:Value) (w:World) (ha:dB w u x a.past) (hb:dB w y z b.past) (hok:gz a.past) (hd:bX (b.ds,b.dc)=true):
  Calls Tryz.prog 168 #[.agg (aN a u x), .agg (aN b y z)] w fun e w'=>e= .returned (.bool (cW a b))∧Below w.heap.size w w':=by
 obtain⟨xa,ca,rfl⟩:=ha.vec.shape;obtain⟨ya,da,rfl⟩:=ha.more.shape;obtain⟨xb,cb,rfl⟩:=hb.vec.shape;obtain⟨yb,db,rfl⟩:=hb.more.shape;obtain⟨W,hW⟩: ∃W,W=(w.alloc (.cells (aN a (.slice xa a.past.vec.length ca) (.slice ya a.past.more.length da)) 120)).alloc (.cells (aN b (.slice xb b.past.vec.length cb) (.slice yb b.past.more.length db)) 120):=⟨_,rfl⟩
 have hbel:Below w.heap.size w W:=by rw[hW];exact (aG _).alloc (by simp) _
 have A:=(show W.heap[w.heap.size]? =some (Obj.cells (aN a (.slice xa a.past.vec.length ca) (.slice ya a.past.more.length da)) 120 (0,0)) by rw[hW];exact aO _ (au _ _ _ _ rfl))
 have B:=(show W.heap[w.heap.size+1]? =some (Obj.cells (aN b (.slice xb b.past.vec.length cb) (.slice yb b.past.more.length db)) 120 (0,0)) by rw[hW];exact au _ _ _ _ (by simp))
 obtain⟨a0,a1,a2,a6,a7⟩:=Hy A;obtain⟨b0,b1,b2,b6,b7⟩:=Hy B;have hA:=ha.below hbel;have OK:=jD hok;have HD:=jD hd;have HO:=jD (show cW a b=(decide (a.id=b.id)&&aU a.past b.ds b.dc) from rfl);clear A B ha hb hok hd;unfold aN at hW ⊢;have zu:=Jk a.id b.id;cases hid:decide (a.id=b.id)
 ·have H:=jD (show cW a b=false by rw[HO.o,hid];rfl);rw[hid] at zu;clear hid;rw[hW] at hbel;clear a0 a1 a2 a6 a7 b0 b1 b2 b6 b7 hA hW;go_enter Tryz.func168,Tryz.ntmps168;go_wp2;go_ret;exact⟨by rw[H.o];rfl,hbel⟩
 have H1:=jD (show cW a b=aU a.past b.ds b.dc by rw[HO.o,hid];rfl);rw[hid] at zu;clear hid HO;obtain⟨⟨d0,d5⟩,d1,d2⟩:=jx.1 HD.o;simp only at d0 d5 d1 d2;have aZ:=jD (kC (l:=[(b.ds,b.dc)]) fun d hx=>by simp only[List.mem_singleton] at hx;rw [hx];exact HD.o);have KR:=jD (kC fun d hd=>(OK.o.nH d hd).1);clear a0 a1 a2 a6 a7 b0 b1 b2 b6 b7;go_enter Tryz.func168,Tryz.ntmps168;go_wp2_with fail
 rw[←hW];clear hW;(with_reducible refine(knIn_c _ _ a.past b.ds b.dc _ hA d0 OK.o.ord KR.o aZ.o).mono ?_);rintro e w4 ⟨rfl,hb⟩;replace hbel:=aj hbel hb;clear hb;go_wp2;go_ret;exact⟨by rw[H1.o];rfl,hbel⟩
theorem Ou (a b:aA) (u x y z:Value) (w:World) (ha:dB w u x a.past) (hb:dB w y z b.past) (hda:bX (a.ds,a.dc)=true) (hdb:bX (b.ds,b.dc)=true):
  Calls Tryz.prog 165 #[.agg (aN a u x), .agg (aN b y z)] w fun e w'=>e= .returned (.int .i64 (bJ a b))∧Below w.heap.size w w':=by
 obtain⟨xa,ca,rfl⟩:=ha.vec.shape;obtain⟨ya,da,rfl⟩:=ha.more.shape;obtain⟨xb,cb,rfl⟩:=hb.vec.shape;obtain⟨yb,db,rfl⟩:=hb.more.shape;obtain⟨W,hW⟩: ∃W,W=(w.alloc (.cells (aN a (.slice xa a.past.vec.length ca) (.slice ya a.past.more.length da)) 120)).alloc (.cells (aN b (.slice xb b.past.vec.length cb) (.slice yb b.past.more.length db)) 120):=⟨_,rfl⟩
 have hbel:Below w.heap.size w W:=by rw[hW];exact (aG _).alloc (by simp) _
 have A:=(show W.heap[w.heap.size]? =some (Obj.cells (aN a (.slice xa a.past.vec.length ca) (.slice ya a.past.more.length da)) 120 (0,0)) by rw[hW];exact aO _ (au _ _ _ _ rfl))
 have B:=(show W.heap[w.heap.size+1]? =some (Obj.cells (aN b (.slice xb b.past.vec.length cb) (.slice yb b.past.more.length db)) 120 (0,0)) by rw[hW];exact au _ _ _ _ (by simp))
 obtain⟨a0,a1,a2,a6,a7⟩:=Hy A;obtain⟨b0,b1,b2,b6,b7⟩:=Hy B;obtain⟨⟨d0,d5⟩,d1,d2⟩:=jx.1 hda;obtain⟨⟨e0,e5⟩,e1,e2⟩:=jx.1 hdb;simp only at d0 d5 d1 d2 e0 e5 e1 e2;have HC:=jD (show bJ a b=if Lib.compareBytes a.id.data.toList b.id.data.toList≠0 then Lib.compareBytes a.id.data.toList b.id.data.toList else if a.ds≠b.ds then a.ds - b.ds else a.dc - b.dc from rfl);clear A B ha hb hda hdb a6 a7 b6 b7;unfold aN at hW ⊢;go_enter Tryz.func165,Tryz.ntmps165;go_wp2_with fail
 rw[←hW];clear hW;go_wp2_with fail
 (with_reducible refine(QJ a.id b.id _).mono ?_);rintro e w1 ⟨rfl,rfl⟩;generalize Lib.compareBytes a.id.data.toList b.id.data.toList=cc at*;by_cases h0:cc=0;rotate_left
 ·have H:=jD (show bJ a b=cc by rw[HC.o,if_pos h0]);have h':(cc != 0)=true:=by simp[bne,h0]
  clear h0;go_wp2;go_ret;exact⟨by rw[H.o];rfl,hbel⟩
 have h':(cc != 0)=false:=by simp[bne,h0]
 have H1:=jD (show bJ a b=if a.ds≠b.ds then a.ds - b.ds else a.dc - b.dc by rw[HC.o,if_neg (by rw[h0];decide)]);clear HC h0;by_cases hs:a.ds=b.ds
 ·have H:=jD (show bJ a b=a.dc - b.dc by rw[H1.o,if_neg (by rw[hs];simp)]);have hs':(a.ds != b.ds)=false:=by simp[bne,hs]
  clear hs;go_wp2;go_ret;exact⟨by rw[H.o];rfl,hbel⟩
 ·have H:=jD (show bJ a b=a.ds - b.ds by rw[H1.o,if_pos hs]);have hs':(a.ds != b.ds)=true:=by simp[bne,hs]
  clear hs;go_wp2;go_ret;exact⟨by rw[H.o];rfl,hbel⟩
def oQ (D:aA→Prop) (g:FuncId) (caps:Array Value) (p:aA→Bool) (w:World):Prop:=
 (∀args W,(callFunc g args).run Tryz.prog W= .ok (.enter g args) W)∧ ∀(v:aA) (u x:Value) (W:World),D v→Below w.heap.size w W→dB W u x v.past→Calls Tryz.prog g (#[.agg (aN v u x)]++caps) W fun e w'=>e= .returned (.bool (p v))∧Below W.heap.size W w'
def nE {α: Type} (p:α→ Bool) (l:List α):Int:=match l.findIdx? p with | some i=>i | none=> -1
theorem Gy {α: Type} {p:α→ Bool} {l:List α} {k:Nat} (hk:k < l.length) (hp:p l[k]=true) (h: ∀j (hj:j < k),p (l[j]'(by omega))=false):nE p l=k:=by
 unfold nE;have:l.findIdx? p=some k:=by
  rw[List.findIdx?_eq_some_iff_getElem];exact⟨hk,hp,fun j hj=>by rw[h j hj];decide⟩
 rw[this]
theorem Bd {α: Type} {p:α→ Bool} {l:List α} (h: ∀j (hj:j < l.length),p l[j]=false):nE p l= -1:=by
 unfold nE;have:l.findIdx? p=none:=by
  rw[List.findIdx?_eq_none_iff];intro x hx;obtain⟨j,hj,rfl⟩:=List.getElem_of_mem hx;exact h j hj
 rw[this]
theorem Dt {α: Type} (p:α→ Bool) (l:List α):decide (0≤nE p l)=l.any p:=by
 unfold nE;cases h:l.findIdx? p with
 | none=>
  rw[List.findIdx?_eq_none_iff] at h;rw[show l.any p=false by rw[List.any_eq_false];intro x hx;rw [h x hx];decide];rfl
 | some i=>
  rw[List.findIdx?_eq_some_iff_getElem] at h;obtain⟨h1,h2, -⟩:=h;rw[show l.any p=true by rw[List.any_eq_true];exact ⟨_,List.getElem_mem h1,h2⟩];simp
theorem xo {w:World} {b off i:Nat} {c:List Value} (h: ∀(j:Nat) (x:Value),c[j]? =some x→w.cell? ⟨b,off+(i*8+j),none⟩=some x) {j:Nat} {x:Value} (hx:c[j]? =some x):w.cell? ⟨b,off+i*8+j,none⟩=some x:=by
 rw[Nat.add_assoc];exact h j x hx
theorem Cg (D:aA→Prop) (vv:Value) (l:List aA) (g:FuncId) (caps:Array Value) (p:aA→Bool) (w:World) (hv:bK eu w vv l) (hD: ∀v∈l,D v) (hp:oQ D g caps p w):
  Calls Tryz.prog 174 #[vv, .func (.func g) #[] caps] w fun e w'=>e= .returned (.int .i64 (nE p l))∧Below w.heap.size w w':=by
 obtain⟨a,cap,rfl,hcap,hlen, -,hvl⟩:=hv.open_;obtain⟨hcall,hp⟩:=hp;have HP:=jD hp;have HD:=jD hD;clear hv hp hD;go_enter Tryz.func174,Tryz.ntmps174;go_wp2;go_loopw [8] (fun i wr=> ∃k:Nat,k≤l.length∧i= .int .i64 k∧(∀j (hj:j < l.length),j < k→p l[j]=false)∧Below w.heap.size w wr) (fun i _=>l.length - (intOf i).toNat)
 case atStart=>exact ⟨0,Nat.zero_le _,rfl,fun j _ h=>by omega,br⟩
 case round=>
  obtain⟨k,hk,rfl,hall,hbl⟩:=hrel;have o6:=jD hall;clear hall;by_cases hlt:k < l.length
  ·rcases hvl with hnil | ⟨b,off,rfl,hb,hc⟩
   ·rw[hnil] at hlt;simp at hlt
   obtain⟨c,⟨u,x,rfl,hk2⟩,hcc⟩:=hc k hlt;have hbc:=fun (j:Nat) (y:Value) (hy:(aN l[k] u x).toList[j]? =some y)=>(hbl.cell (p:=⟨b,off+(k*eu.size+j),none⟩) hb).trans (hcc j y hy);have xK:=fun {j:Nat} {y:Value} (hy:(aN l[k] u x).toList[j]? =some y)=>xo (w:=wr) (b:=b) (off:=off) (i:=k) (c:=(aN l[k] u x).toList) hbc hy;have c0:=xK (j:=0) rfl;have c1:=xK (j:=1) rfl;have c2:=xK (j:=2) rfl;have c3:=xK (j:=3) rfl;have c4:=xK (j:=4) rfl;have c5:=xK (j:=5) rfl;have c6:=xK (j:=6) rfl;have c7:=xK (j:=7) rfl;rw[Nat.add_zero] at c0;have HV:=jD (HP.o l[k] u x wr (HD.o _ (List.getElem_mem hlt)) hbl (hk2.below hbl));obtain⟨ua,uc,rfl⟩:=hk2.vec.shape;obtain⟨xa,xc,rfl⟩:=hk2.more.shape;have HF:=jD (fun (h:p l[k]=true)=>Gy hlt h fun j hj=>o6.o j (by omega) hj);have HG:=jD (fun (h:p l[k]=false) j (hj:j < l.length) (hj2:j < k+1)=>(show p l[j]=false by
    by_cases e:j=k
    ·subst e;exact h
    ·exact o6.o j hj (by omega)))
   clear hc hcc hbc xK hk2;generalize l[k]=v at*;unfold aN at HV;go_wp2_with fail
   refine(HV.o).mono ?_;rintro e w1 ⟨rfl,hb1⟩;have cQ:=aj hbl hb1;clear hbl hb1 HV c0 c1 c2 c3 c4 c5 c6 c7;cases hpv:p v
   ·have sI:=jD (HG.o hpv);clear hpv;go_wp2;go_roundw
    case rel=>exact ⟨k+1,by omega,by go_num,sI.o,cQ⟩
    case measure=>simp [intOf] <;> omega
   ·have sI:=jD (HF.o hpv);clear hpv;go_wp2;go_ret;exact⟨by rw[sI.o];rfl,cQ⟩
  ·have sI:=jD (Bd fun j hj=>o6.o j hj (by omega));go_wp2;go_ret;exact⟨by rw[sI.o];rfl,hbl⟩
theorem Bh (D:aA→Prop) (vv:Value) (l:List aA) (g:FuncId) (caps:Array Value) (p:aA→Bool) (w:World) (hv:bK eu w vv l) (hD: ∀v∈l,D v) (hp:oQ D g caps p w):
  Calls Tryz.prog 166 #[vv, .func (.func g) #[] caps] w fun e w'=>e= .returned (.bool (l.any p))∧Below w.heap.size w w':=by
 have H:=jD (Cg D vv l g caps p w hv hD hp);obtain⟨a,cap,rfl⟩:=hv.shape;have HA:=jD (Dt p l);clear hv hD hp;go_enter Tryz.func166,Tryz.ntmps166;go_wp2_with fail
 refine(H.o).mono ?_;rintro e w1 ⟨rfl,hb1⟩;go_wp2;go_ret;exact⟨by rw[←HA.o];rfl,hb1⟩
end Go.Proofs.YtajgndoiddmbmaaGreatDoor
