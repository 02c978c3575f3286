/- Names: what strings.Compare and shelf.Id do. Versions: what shelf.One, shelf.over and shelf.cmp do. Slices of versions: what slices.IndexFunc and slices.ContainsFunc do, and the closure of shelf.Check. -/
import Derived.Test.YtgkgdedhicnohaaGreatChecked
import Derived.Lib.Bytealg
import Derived.Lib.Walk
import Derived.Test.YtgkgdedhicnohaaGreatMKnow5
import Derived.Test.YtgkgdedhicnohaaGreatMForm
namespace Go.Proofs.YtgkgdedhicnohaaGreat
set_option maxRecDepth 100000
set_option maxHeartbeats 40000000
open Go.RowKit
theorem cmpString_c (a b:ByteArray) (w:World):
  Calls Tryz.prog 178 #[.string a, .string b] w fun e w'=>e= .returned (.int .i64 (Lib.compareBytes a.data.toList b.data.toList))∧w'=w:=by
 go_enter Tryz.func178,Tryz.ntmps178
 go_wp2
 rw[run_callFunc_extern Tryz.func193 (by kernel_rfl) (by kernel_rfl) (by kernel_rfl) (e:=Extern.BytealgCompare.compare) (by kernel_rfl),Lib.run_compareString]
 simp only[Result.andThen]
 rw[Oper.upon_value]
 go_wp2
 go_ret
 exact⟨rfl,rfl⟩
theorem compare_c (a b:ByteArray) (w:World):
  Calls Tryz.prog 160 #[.string a, .string b] w fun e w'=>e= .returned (.int .i64 (Lib.compareBytes a.data.toList b.data.toList))∧w'=w:=by
 go_enter Tryz.func160,Tryz.ntmps160
 go_wp2_with fail
 (with_reducible refine(cmpString_c a b _).mono ?_)
 rintro e w' ⟨rfl,rfl⟩
 go_wp2
 go_ret
 exact⟨rfl,rfl⟩
def letter (b:UInt8):Bool:=decide (97≤b.toNat)&&decide (b.toNat≤122)
def idOk (s:ByteArray):Bool:=decide (0 < s.size)&&decide (s.size≤8)&&s.data.toList.all letter
theorem size_zero {s:ByteArray} (h:s.size=0):s=⟨#[]⟩:=by
 obtain⟨⟨l⟩⟩:=s
 have:l.length=0:=h
 rw[List.length_eq_zero_iff] at this
 subst this;rfl
theorem byteAt (s:ByteArray) (k:Nat) (h:k < s.size):s.data.toList[k]'(by simpa using h)=s[k]:=rfl
theorem id_c (s:ByteArray) (w:World):
  Calls Tryz.prog 63 #[.string s] w fun e w'=>e= .returned (.bool (idOk s))∧w'=w:=by
 by_cases h0:s.size=0
 ·obtain rfl:=size_zero h0
  go_enter Tryz.func63,Tryz.ntmps63
  go_wp2
  go_ret
  exact⟨rfl,rfl⟩
 have hne:s.toList.isEmpty=false:=by
  rw[ByteArray.toList_eq,List.isEmpty_eq_false_iff]
  intro h
  exact h0 (show s.data.toList.length=0 by rw[h];rfl)
 by_cases h8:8 < s.size
 ·have H:=jD (show idOk s=false by unfold idOk;rw [decide_eq_false (show ¬s.size≤8 by omega)];simp)
  have h8':decide ((8:Int) < (s.size:Int))=true:=by simp;omega
  go_enter Tryz.func63,Tryz.ntmps63
  go_wp2
  go_ret
  exact⟨by rw[H.out];rfl,rfl⟩
 have h8':decide ((8:Int) < (s.size:Int))=false:=by simp;omega
 have H:=jD (show idOk s=s.data.toList.all letter by unfold idOk;rw [decide_eq_true (show 0 < s.size by omega),decide_eq_true (show s.size≤8 by omega)];rfl)
 go_enter Tryz.func63,Tryz.ntmps63
 go_wp2
 go_loop [13] (fun i=> ∃k:Nat,k≤s.size∧i= .int .i64 k∧(s.data.toList.take k).all letter=true) (fun i=>s.size - (intOf i).toNat)
 case atStart=>exact ⟨0,Nat.zero_le _,rfl,by simp⟩
 case round=>
  obtain⟨k,hk,rfl,hall⟩:=hrel
  have HALL:=jD hall
  clear hall
  by_cases hlt:k < s.size
  ·have hkl:k < s.data.toList.length:=by simpa using hlt
   have HT:=jD (show(s.data.toList.take (k+1)).all letter=letter s[k] by
    rw[List.take_succ_eq_append_getElem hkl,List.all_append,HALL.out];simp [byteAt s k hlt])
   have HB:=jD (fun (hb:letter s[k]=false)=>(show idOk s=false by
    rw[H.out,Bool.eq_false_iff]
    intro h
    have:=List.all_eq_true.1 h _ (List.getElem_mem hkl)
    rw[byteAt s k hlt,hb] at this
    exact absurd this (by decide)))
   have hL:letter s[k]=(decide (97≤s[k].toNat)&&decide (s[k].toNat≤122)):=rfl
   have HL:=jD hL
   clear hL
   by_cases h97:s[k].toNat < 97
   ·have h1:decide ((s[k].toNat:Int) < 97)=true:=by simp;omega
    have HF:=jD (HB.out (by rw[HL.out,decide_eq_false (show ¬97≤s[k].toNat by omega)];rfl))
    go_wp2
    go_ret
    exact⟨by rw[HF.out];rfl,rfl⟩
   have h1:decide ((s[k].toNat:Int) < 97)=false:=by simp;omega
   by_cases h122:122 < s[k].toNat
   ·have h2:decide ((122:Int) < (s[k].toNat:Int))=true:=by simp;omega
    have HF:=jD (HB.out (by rw[HL.out,decide_eq_false (show ¬s[k].toNat≤122 by omega),Bool.and_false]))
    go_wp2
    go_ret
    exact⟨by rw[HF.out];rfl,rfl⟩
   have h2:decide ((122:Int) < (s[k].toNat:Int))=false:=by simp;omega
   go_wp2
   go_round
   case rel=>exact ⟨k+1,by omega,by go_num,by rw[HT.out,HL.out,decide_eq_true (show 97≤s[k].toNat by omega),decide_eq_true (show s[k].toNat≤122 by omega)];rfl⟩
   case measure=>simp [intOf];omega
  ·obtain rfl:k=s.size:=by omega
   have HF:=jD (show idOk s=true by rw[H.out];have:=HALL.out;rwa [List.take_of_length_le (by simp)] at this)
   go_wp2
   go_ret
   exact⟨by rw[HF.out];rfl,rfl⟩
structure Ver where
 id:ByteArray
 ds:Int
 dc:Int
 tg:Int
 nm:Int
 bd:Int
 past:Kn
def verC (v:Ver) (u x:Value):Array Value:= #[.string v.id, .int .i64 v.ds, .int .i64 v.dc, .int .i64 v.tg, .int .i64 v.nm, .int .i64 v.bd,u,x]
def verE:Elt Ver where
 size:=8
 El w v cs:= ∃u x,cs=(verC v u x).toList∧KnAt w u x v.past
 len:=by rintro w v cs ⟨u,x,rfl, -⟩;rfl
 one:=by
  rintro w v cs ⟨u,x,rfl,h⟩ z hz
  obtain⟨a,c,rfl⟩:=h.vec.shape
  obtain⟨b,d,rfl⟩:=h.more.shape
  simp only[verC,List.mem_cons,List.not_mem_nil,or_false] at hz
  rcases hz with rfl | rfl | rfl | rfl | rfl | rfl | rfl | rfl <;> rfl
 sub:=by rintro w w' v cs ⟨u,x,rfl,h⟩ hs;exact ⟨u,x,rfl,h.sub hs⟩
 pos:=by decide
def verBd (v:Ver):Bool:=dotOk (v.ds,v.dc)&&ptOk v.tg v.nm&&decide (0≤v.bd)&&decide (v.bd≤1000000)
def verChk (v:Ver):Int:=if idOk v.id=true then(if verBd v=true then(if knChk v.past=0 then(if knIn v.past v.ds v.dc=true then 3 else 0) else knChk v.past) else 1) else 3
structure VerOk (v:Ver):Prop where
 id:idOk v.id=true
 dot:dotOk (v.ds,v.dc)=true
 pt:ptOk v.tg v.nm=true
 bd:0≤v.bd∧v.bd≤1000000
 past:KnOk v.past
 len:v.past.more.length≤60
 out:knIn v.past v.ds v.dc=false
theorem verChk_zero {v:Ver} :verChk v=0↔VerOk v:=by
 unfold verChk
 constructor
 ·intro h
  split at h
  ·rename_i h1
   split at h
   ·rename_i h2
    split at h
    ·rename_i h3
     split at h
     ·exact absurd h (by decide)
     ·rename_i h4
      simp only[verBd,Bool.and_eq_true,decide_eq_true_eq] at h2
      obtain⟨k1,k2⟩:=knChk_zero.1 h3
      exact⟨h1,h2.1.1.1,h2.1.1.2,⟨h2.1.2,h2.2⟩,k1,k2,by simpa using h4⟩
    ·rename_i h3;exact absurd h h3
   ·exact absurd h (by decide)
  ·exact absurd h (by decide)
 ·rintro⟨h1,h2,h3,h4,h5,h6,h7⟩
  rw[if_pos h1,if_pos (by simp only[verBd,Bool.and_eq_true,decide_eq_true_eq];exact ⟨⟨⟨h2,h3⟩,h4.1⟩,h4.2⟩),if_pos (knChk_zero.2 ⟨h5,h6⟩),if_neg (by rw[h7];decide)]
theorem one_c (v:Ver) (u x:Value) (w:World) (hk:KnAt w u x v.past):
  Calls Tryz.prog 111 #[.agg (verC v u x)] w fun e w'=>e= .returned (.int .i64 (verChk v))∧Below w.heap.size w w':=by
 obtain⟨id,ds,dc,tg,nm,bd,past⟩:=v
 simp only at hk
 unfold verC
 simp only
 obtain⟨ua,uc,rfl⟩:=hk.vec.shape
 obtain⟨xa,xc,rfl⟩:=hk.more.shape
 have hc:=fun j v h=>cat w #[.string id, .int .i64 ds, .int .i64 dc, .int .i64 tg, .int .i64 nm, .int .i64 bd, .slice ua past.vec.length uc, .slice xa past.more.length xc] 75 j v h _ rfl
 have c0:=hc 0 _ rfl
 have c1:=hc 1 _ rfl
 have c2:=hc 2 _ rfl
 have c3:=hc 3 _ rfl
 have c4:=hc 4 _ rfl
 have c5:=hc 5 _ rfl
 have c6:=hc 6 _ rfl
 have c7:=hc 7 _ rfl
 have hbel:=bal (W:=w) (.cells #[.string id, .int .i64 ds, .int .i64 dc, .int .i64 tg, .int .i64 nm, .int .i64 bd, .slice ua past.vec.length uc, .slice xa past.more.length xc] 75)
 have hK:=hk.below hbel
 clear hc hk
 go_enter Tryz.func111,Tryz.ntmps111
 go_wp2_with fail
 (with_reducible refine(id_c id _).mono ?_)
 rintro e w1 ⟨rfl,rfl⟩
 cases hid:idOk id
 ·have H:=jD (show verChk ⟨id,ds,dc,tg,nm,bd,past⟩=3 by unfold verChk;rw [if_neg (by simp only;rw [hid];decide)])
  clear hid
  go_wp2
  go_ret
  exact⟨by rw[H.out];rfl,hbel⟩
 have H1:=jD (show verChk ⟨id,ds,dc,tg,nm,bd,past⟩=if verBd ⟨id,ds,dc,tg,nm,bd,past⟩=true then(if knChk past=0 then(if knIn past ds dc=true then 3 else 0) else knChk past) else 1 by unfold verChk;rw [if_pos hid])
 have HVB:=jD (show verBd ⟨id,ds,dc,tg,nm,bd,past⟩=(dotOk (ds,dc)&&ptOk tg nm&&decide (0≤bd)&&decide (bd≤1000000)) from rfl)
 generalize verBd ⟨id,ds,dc,tg,nm,bd,past⟩=vb at*
 clear hid
 go_wp2_with fail
 (with_reducible refine(dot_c ds dc _).mono ?_)
 rintro e w1 ⟨rfl,hb⟩
 replace c1:=ckeep hb c1
 replace c2:=ckeep hb c2
 replace c3:=ckeep hb c3
 replace c4:=ckeep hb c4
 replace c5:=ckeep hb c5
 replace c6:=ckeep hb c6
 replace c7:=ckeep hb c7
 replace hK:=hK.below hb
 replace hbel:=bstep hbel hb
 clear hb c0
 cases hd:dotOk (ds,dc)
 ·have H:=jD (show verChk ⟨id,ds,dc,tg,nm,bd,past⟩=1 by rw[H1.out,HVB.out,hd];rfl)
  clear hd
  go_wp2
  go_ret
  exact⟨by rw[H.out];rfl,hbel⟩
 have HDT:=jD hd
 rw[hd] at HVB
 clear hd
 go_wp2_with fail
 (with_reducible refine(point_c tg nm _).mono ?_)
 rintro e w2 ⟨rfl,hb⟩
 replace c1:=ckeep hb c1
 replace c2:=ckeep hb c2
 replace c5:=ckeep hb c5
 replace c6:=ckeep hb c6
 replace c7:=ckeep hb c7
 replace hK:=hK.below hb
 replace hbel:=bstep hbel hb
 clear hb c3 c4
 cases hp:ptOk tg nm
 ·have H:=jD (show verChk ⟨id,ds,dc,tg,nm,bd,past⟩=1 by rw[H1.out,HVB.out,hp];rfl)
  clear hp
  go_wp2
  go_ret
  exact⟨by rw[H.out];rfl,hbel⟩
 rw[hp] at HVB
 clear hp
 by_cases hb0:bd < 0
 ·have H:=jD (show verChk ⟨id,ds,dc,tg,nm,bd,past⟩=1 by rw[H1.out,HVB.out,decide_eq_false (show ¬0≤bd by omega)];rfl)
  have hb0':decide (bd < 0)=true:=by simp[hb0]
  clear hb0
  go_wp2
  go_ret
  exact⟨by rw[H.out];rfl,hbel⟩
 have hb0':decide (bd < 0)=false:=by simp;omega
 by_cases hb1:1000000 < bd
 ·have H:=jD (show verChk ⟨id,ds,dc,tg,nm,bd,past⟩=1 by rw[H1.out,HVB.out,decide_eq_true (show 0≤bd by omega),decide_eq_false (show ¬bd≤1000000 by omega)];rfl)
  have hb1':decide (1000000 < bd)=true:=by simp[hb1]
  clear hb1 hb0
  go_wp2
  go_ret
  exact⟨by rw[H.out];rfl,hbel⟩
 have hb1':decide (1000000 < bd)=false:=by simp;omega
 have H2:=jD (show verChk ⟨id,ds,dc,tg,nm,bd,past⟩=if knChk past=0 then(if knIn past ds dc=true then 3 else 0) else knChk past by rw[H1.out,HVB.out,decide_eq_true (show 0≤bd by omega),decide_eq_true (show bd≤1000000 by omega)];rfl)
 clear H1 HVB hb0 hb1
 go_wp2_with fail
 (with_reducible refine(knChk_c _ _ past _ hK).mono ?_)
 rintro e w3 ⟨rfl,hb⟩
 replace c1:=ckeep hb c1
 replace c2:=ckeep hb c2
 replace c6:=ckeep hb c6
 replace c7:=ckeep hb c7
 replace hK:=hK.below hb
 replace hbel:=bstep hbel hb
 clear hb c5 hb0' hb1'
 cases hx:(knChk past==0)
 ·have hne:knChk past≠0:=by simpa using hx
  have H:=jD (show verChk ⟨id,ds,dc,tg,nm,bd,past⟩=knChk past by rw[H2.out,if_neg hne])
  have h':(knChk past != 0)=true:=by simp[bne,hx]
  clear hx hne
  go_wp2
  go_ret
  exact⟨by rw[H.out];rfl,hbel⟩
 have h0:knChk past=0:=by simpa using hx
 have H3:=jD (show verChk ⟨id,ds,dc,tg,nm,bd,past⟩=if knIn past ds dc=true then 3 else 0 by rw[H2.out,if_pos h0])
 obtain⟨hok,hlen⟩:=knChk_zero.1 h0
 have OK:=jD hok
 rw[h0]
 clear hx h0 H2 hok
 obtain⟨⟨d0,d5⟩,d1,d2⟩:=dotOk_iff.1 HDT.out
 simp only at d0 d5 d1 d2
 have HBD:=jD (dotBd_of (l:=[(ds,dc)]) fun d hx=>by simp only[List.mem_singleton] at hx;rw [hx];exact HDT.out)
 have HBM:=jD (dotBd_of fun d hd=>(OK.out.dots d hd).1)
 go_wp2_with fail
 (with_reducible refine(knIn_c _ _ past ds dc _ hK d0 OK.out.ord HBM.out HBD.out).mono ?_)
 rintro e w4 ⟨rfl,hb⟩
 replace hbel:=bstep hbel hb
 clear hb c1 c2 c6 c7
 cases hin:knIn past ds dc
 ·have H:=jD (show verChk ⟨id,ds,dc,tg,nm,bd,past⟩=0 by rw[H3.out,hin];rfl)
  clear hin
  go_wp2
  go_ret
  exact⟨by rw[H.out];rfl,hbel⟩
 ·have H:=jD (show verChk ⟨id,ds,dc,tg,nm,bd,past⟩=3 by rw[H3.out,hin];rfl)
  clear hin
  go_wp2
  go_ret
  exact⟨by rw[H.out];rfl,hbel⟩
theorem verAt {w:World} {g:Nat} {v:Ver} {u x:Value} {t:TypeId} (h:w.heap[g]? =some (Obj.cells (verC v u x) t (0,0))):
  w.cell? ⟨g,0,none⟩=some (.string v.id)∧w.cell? ⟨g,1,none⟩=some (.int .i64 v.ds)∧w.cell? ⟨g,2,none⟩=some (.int .i64 v.dc)∧w.cell? ⟨g,6,none⟩=some u∧w.cell? ⟨g,7,none⟩=some x:=
 ⟨cell_of_block h rfl,cell_of_block h rfl,cell_of_block h rfl,cell_of_block h rfl,cell_of_block h rfl⟩
theorem ids_eq (a b:ByteArray):(a.toList==b.toList)=decide (a=b):=by
 rw[Bool.eq_iff_iff,beq_iff_eq,decide_eq_true_eq,ByteArray.toList_eq,ByteArray.toList_eq]
 constructor
 ·intro h
  obtain⟨⟨la⟩⟩:=a
  obtain⟨⟨lb⟩⟩:=b
  simp only at h
  rw[h]
 ·rintro rfl;rfl
def verOver (a b:Ver):Bool:=decide (a.id=b.id)&&knIn a.past b.ds b.dc
def verCmp (a b:Ver):Int:=if Lib.compareBytes a.id.data.toList b.id.data.toList≠0 then Lib.compareBytes a.id.data.toList b.id.data.toList else if a.ds≠b.ds then a.ds - b.ds else a.dc - b.dc
theorem over_c (a b:Ver) (u x y z:Value) (w:World) (ha:KnAt w u x a.past) (hb:KnAt w y z b.past) (hok:KnOk a.past) (hd:dotOk (b.ds,b.dc)=true):
  Calls Tryz.prog 115 #[.agg (verC a u x), .agg (verC b y z)] w fun e w'=>e= .returned (.bool (verOver a b))∧Below w.heap.size w w':=by
 obtain⟨xa,ca,rfl⟩:=ha.vec.shape
 obtain⟨ya,da,rfl⟩:=ha.more.shape
 obtain⟨xb,cb,rfl⟩:=hb.vec.shape
 obtain⟨yb,db,rfl⟩:=hb.more.shape
 obtain⟨W,hW⟩: ∃W,W=(w.alloc (.cells (verC a (.slice xa a.past.vec.length ca) (.slice ya a.past.more.length da)) 75)).alloc (.cells (verC b (.slice xb b.past.vec.length cb) (.slice yb b.past.more.length db)) 75):=⟨_,rfl⟩
 have hbel:Below w.heap.size w W:=by rw[hW];exact (bal _).alloc (by simp) _
 have A:=(show W.heap[w.heap.size]? =some (Obj.cells (verC a (.slice xa a.past.vec.length ca) (.slice ya a.past.more.length da)) 75 (0,0)) by rw[hW];exact alloc_keep _ (alloc_new _ _ _ _ rfl))
 have B:=(show W.heap[w.heap.size+1]? =some (Obj.cells (verC b (.slice xb b.past.vec.length cb) (.slice yb b.past.more.length db)) 75 (0,0)) by rw[hW];exact alloc_new _ _ _ _ (by simp))
 obtain⟨a0,a1,a2,a6,a7⟩:=verAt A
 obtain⟨b0,b1,b2,b6,b7⟩:=verAt B
 have hA:=ha.below hbel
 have OK:=jD hok
 have HD:=jD hd
 have HO:=jD (show verOver a b=(decide (a.id=b.id)&&knIn a.past b.ds b.dc) from rfl)
 clear A B ha hb hok hd
 unfold verC at hW ⊢
 have hids:=ids_eq a.id b.id
 cases hid:decide (a.id=b.id)
 ·have H:=jD (show verOver a b=false by rw[HO.out,hid];rfl)
  rw[hid] at hids
  clear hid
  rw[hW] at hbel
  clear a0 a1 a2 a6 a7 b0 b1 b2 b6 b7 hA hW
  go_enter Tryz.func115,Tryz.ntmps115
  go_wp2
  go_ret
  exact⟨by rw[H.out];rfl,hbel⟩
 have H1:=jD (show verOver a b=knIn a.past b.ds b.dc by rw[HO.out,hid];rfl)
 rw[hid] at hids
 clear hid HO
 obtain⟨⟨d0,d5⟩,d1,d2⟩:=dotOk_iff.1 HD.out
 simp only at d0 d5 d1 d2
 have HBD:=jD (dotBd_of (l:=[(b.ds,b.dc)]) fun d hx=>by simp only[List.mem_singleton] at hx;rw [hx];exact HD.out)
 have HBM:=jD (dotBd_of fun d hd=>(OK.out.dots d hd).1)
 clear a0 a1 a2 a6 a7 b0 b1 b2 b6 b7
 go_enter Tryz.func115,Tryz.ntmps115
 go_wp2_with fail
 rw[←hW]
 clear hW
 (with_reducible refine(knIn_c _ _ a.past b.ds b.dc _ hA d0 OK.out.ord HBM.out HBD.out).mono ?_)
 rintro e w4 ⟨rfl,hb⟩
 replace hbel:=bstep hbel hb
 clear hb
 go_wp2
 go_ret
 exact⟨by rw[H1.out];rfl,hbel⟩
theorem cmp_c (a b:Ver) (u x y z:Value) (w:World) (ha:KnAt w u x a.past) (hb:KnAt w y z b.past) (hda:dotOk (a.ds,a.dc)=true) (hdb:dotOk (b.ds,b.dc)=true):
  Calls Tryz.prog 113 #[.agg (verC a u x), .agg (verC b y z)] w fun e w'=>e= .returned (.int .i64 (verCmp a b))∧Below w.heap.size w w':=by
 obtain⟨xa,ca,rfl⟩:=ha.vec.shape
 obtain⟨ya,da,rfl⟩:=ha.more.shape
 obtain⟨xb,cb,rfl⟩:=hb.vec.shape
 obtain⟨yb,db,rfl⟩:=hb.more.shape
 obtain⟨W,hW⟩: ∃W,W=(w.alloc (.cells (verC a (.slice xa a.past.vec.length ca) (.slice ya a.past.more.length da)) 75)).alloc (.cells (verC b (.slice xb b.past.vec.length cb) (.slice yb b.past.more.length db)) 75):=⟨_,rfl⟩
 have hbel:Below w.heap.size w W:=by rw[hW];exact (bal _).alloc (by simp) _
 have A:=(show W.heap[w.heap.size]? =some (Obj.cells (verC a (.slice xa a.past.vec.length ca) (.slice ya a.past.more.length da)) 75 (0,0)) by rw[hW];exact alloc_keep _ (alloc_new _ _ _ _ rfl))
 have B:=(show W.heap[w.heap.size+1]? =some (Obj.cells (verC b (.slice xb b.past.vec.length cb) (.slice yb b.past.more.length db)) 75 (0,0)) by rw[hW];exact alloc_new _ _ _ _ (by simp))
 obtain⟨a0,a1,a2,a6,a7⟩:=verAt A
 obtain⟨b0,b1,b2,b6,b7⟩:=verAt B
 obtain⟨⟨d0,d5⟩,d1,d2⟩:=dotOk_iff.1 hda
 obtain⟨⟨e0,e5⟩,e1,e2⟩:=dotOk_iff.1 hdb
 simp only at d0 d5 d1 d2 e0 e5 e1 e2
 have HC:=jD (show verCmp a b=if Lib.compareBytes a.id.data.toList b.id.data.toList≠0 then Lib.compareBytes a.id.data.toList b.id.data.toList else if a.ds≠b.ds then a.ds - b.ds else a.dc - b.dc from rfl)
 clear A B ha hb hda hdb a6 a7 b6 b7
 unfold verC at hW ⊢
 go_enter Tryz.func113,Tryz.ntmps113
 go_wp2_with fail
 rw[←hW]
 clear hW
 go_wp2_with fail
 (with_reducible refine(compare_c a.id b.id _).mono ?_)
 rintro e w1 ⟨rfl,rfl⟩
 generalize Lib.compareBytes a.id.data.toList b.id.data.toList=cc at*
 by_cases h0:cc=0
 rotate_left
 ·have H:=jD (show verCmp a b=cc by rw[HC.out,if_pos h0])
  have h':(cc != 0)=true:=by simp[bne,h0]
  clear h0
  go_wp2
  go_ret
  exact⟨by rw[H.out];rfl,hbel⟩
 have h':(cc != 0)=false:=by simp[bne,h0]
 have H1:=jD (show verCmp a b=if a.ds≠b.ds then a.ds - b.ds else a.dc - b.dc by rw[HC.out,if_neg (by rw[h0];decide)])
 clear HC h0
 by_cases hs:a.ds=b.ds
 ·have H:=jD (show verCmp a b=a.dc - b.dc by rw[H1.out,if_neg (by rw[hs];simp)])
  have hs':(a.ds != b.ds)=false:=by simp[bne,hs]
  clear hs
  go_wp2
  go_ret
  exact⟨by rw[H.out];rfl,hbel⟩
 ·have H:=jD (show verCmp a b=a.ds - b.ds by rw[H1.out,if_pos hs])
  have hs':(a.ds != b.ds)=true:=by simp[bne,hs]
  clear hs
  go_wp2
  go_ret
  exact⟨by rw[H.out];rfl,hbel⟩
def PredV (D:Ver→Prop) (g:FuncId) (caps:Array Value) (p:Ver→Bool) (w:World):Prop:=
 (∀args W,(callFunc g args).run Tryz.prog W= .ok (.enter g args) W)∧ ∀(v:Ver) (u x:Value) (W:World),D v→Below w.heap.size w W→KnAt W u x v.past→Calls Tryz.prog g (#[.agg (verC v u x)]++caps) W fun e w'=>e= .returned (.bool (p v))∧Below W.heap.size W w'
def firstI {α: Type} (p:α→ Bool) (l:List α):Int:=match l.findIdx? p with | some i=>i | none=> -1
theorem firstI_at {α: Type} {p:α→ Bool} {l:List α} {k:Nat} (hk:k < l.length) (hp:p l[k]=true) (h: ∀j (hj:j < k),p (l[j]'(by omega))=false):firstI p l=k:=by
 unfold firstI
 have:l.findIdx? p=some k:=by
  rw[List.findIdx?_eq_some_iff_getElem]
  exact⟨hk,hp,fun j hj=>by rw[h j hj];decide⟩
 rw[this]
theorem firstI_none {α: Type} {p:α→ Bool} {l:List α} (h: ∀j (hj:j < l.length),p l[j]=false):firstI p l= -1:=by
 unfold firstI
 have:l.findIdx? p=none:=by
  rw[List.findIdx?_eq_none_iff]
  intro x hx
  obtain⟨j,hj,rfl⟩:=List.getElem_of_mem hx
  exact h j hj
 rw[this]
theorem firstI_any {α: Type} (p:α→ Bool) (l:List α):decide (0≤firstI p l)=l.any p:=by
 unfold firstI
 cases h:l.findIdx? p with
 | none=>
  rw[List.findIdx?_eq_none_iff] at h
  rw[show l.any p=false by rw[List.any_eq_false];intro x hx;rw [h x hx];decide]
  rfl
 | some i=>
  rw[List.findIdx?_eq_some_iff_getElem] at h
  obtain⟨h1,h2, -⟩:=h
  rw[show l.any p=true by rw[List.any_eq_true];exact ⟨_,List.getElem_mem h1,h2⟩]
  simp
theorem row8 {w:World} {b off i:Nat} {c:List Value} (h: ∀(j:Nat) (x:Value),c[j]? =some x→w.cell? ⟨b,off+(i*8+j),none⟩=some x) {j:Nat} {x:Value} (hx:c[j]? =some x):w.cell? ⟨b,off+i*8+j,none⟩=some x:=by
 rw[Nat.add_assoc];exact h j x hx
theorem indexV_c (D:Ver→Prop) (vv:Value) (l:List Ver) (g:FuncId) (caps:Array Value) (p:Ver→Bool) (w:World) (hv:RowAt verE w vv l) (hD: ∀v∈l,D v) (hp:PredV D g caps p w):
  Calls Tryz.prog 86 #[vv, .func (.func g) #[] caps] w fun e w'=>e= .returned (.int .i64 (firstI p l))∧Below w.heap.size w w':=by
 obtain⟨a,cap,rfl,hcap,hlen, -,hvl⟩:=hv.open_
 obtain⟨hcall,hp⟩:=hp
 have HP:=jD hp
 have HD:=jD hD
 clear hv hp hD
 go_enter Tryz.func86,Tryz.ntmps86
 go_wp2
 go_loopw [8] (fun i wr=> ∃k:Nat,k≤l.length∧i= .int .i64 k∧(∀j (hj:j < l.length),j < k→p l[j]=false)∧Below w.heap.size w wr) (fun i _=>l.length - (intOf i).toNat)
 case atStart=>exact ⟨0,Nat.zero_le _,rfl,fun j _ h=>by omega,Below.refl _ _⟩
 case round=>
  obtain⟨k,hk,rfl,hall,hbl⟩:=hrel
  have HALL:=jD hall
  clear hall
  by_cases hlt:k < l.length
  ·rcases hvl with hnil | ⟨b,off,rfl,hb,hc⟩
   ·rw[hnil] at hlt;simp at hlt
   obtain⟨c,⟨u,x,rfl,hk2⟩,hcc⟩:=hc k hlt
   have hbc:=fun (j:Nat) (y:Value) (hy:(verC l[k] u x).toList[j]? =some y)=>(hbl.cell (p:=⟨b,off+(k*verE.size+j),none⟩) hb).trans (hcc j y hy)
   have hbc8:=fun {j:Nat} {y:Value} (hy:(verC l[k] u x).toList[j]? =some y)=>row8 (w:=wr) (b:=b) (off:=off) (i:=k) (c:=(verC l[k] u x).toList) hbc hy
   have c0:=hbc8 (j:=0) rfl
   have c1:=hbc8 (j:=1) rfl
   have c2:=hbc8 (j:=2) rfl
   have c3:=hbc8 (j:=3) rfl
   have c4:=hbc8 (j:=4) rfl
   have c5:=hbc8 (j:=5) rfl
   have c6:=hbc8 (j:=6) rfl
   have c7:=hbc8 (j:=7) rfl
   rw[Nat.add_zero] at c0
   have HV:=jD (HP.out l[k] u x wr (HD.out _ (List.getElem_mem hlt)) hbl (hk2.below hbl))
   obtain⟨ua,uc,rfl⟩:=hk2.vec.shape
   obtain⟨xa,xc,rfl⟩:=hk2.more.shape
   have HF:=jD (fun (h:p l[k]=true)=>firstI_at hlt h fun j hj=>HALL.out j (by omega) hj)
   have HG:=jD (fun (h:p l[k]=false) j (hj:j < l.length) (hj2:j < k+1)=>(show p l[j]=false by
    by_cases e:j=k
    ·subst e;exact h
    ·exact HALL.out j hj (by omega)))
   clear hc hcc hbc hbc8 hk2
   generalize l[k]=v at*
   unfold verC at HV
   go_wp2_with fail
   refine(HV.out).mono ?_
   rintro e w1 ⟨rfl,hb1⟩
   have hbl1:=bstep hbl hb1
   clear hbl hb1 HV c0 c1 c2 c3 c4 c5 c6 c7
   cases hpv:p v
   ·have HNN:=jD (HG.out hpv)
    clear hpv
    go_wp2
    go_roundw
    case rel=>exact ⟨k+1,by omega,by go_num,HNN.out,hbl1⟩
    case measure=>simp [intOf] <;> omega
   ·have HNN:=jD (HF.out hpv)
    clear hpv
    go_wp2
    go_ret
    exact⟨by rw[HNN.out];rfl,hbl1⟩
  ·have HNN:=jD (firstI_none fun j hj=>HALL.out j hj (by omega))
   go_wp2
   go_ret
   exact⟨by rw[HNN.out];rfl,hbl⟩
theorem containsV_c (D:Ver→Prop) (vv:Value) (l:List Ver) (g:FuncId) (caps:Array Value) (p:Ver→Bool) (w:World) (hv:RowAt verE w vv l) (hD: ∀v∈l,D v) (hp:PredV D g caps p w):
  Calls Tryz.prog 32 #[vv, .func (.func g) #[] caps] w fun e w'=>e= .returned (.bool (l.any p))∧Below w.heap.size w w':=by
 have H:=jD (indexV_c D vv l g caps p w hv hD hp)
 obtain⟨a,cap,rfl⟩:=hv.shape
 have HA:=jD (firstI_any p l)
 clear hv hD hp
 go_enter Tryz.func32,Tryz.ntmps32
 go_wp2_with fail
 refine(H.out).mono ?_
 rintro e w1 ⟨rfl,hb1⟩
 go_wp2
 go_ret
 exact⟨by rw[←HA.out];rfl,hb1⟩
end Go.Proofs.YtgkgdedhicnohaaGreat
