/- What wire.Sum does to a text. What a reader of bytes does: numbers, texts. What is read of bytes that were written: numbers and texts come back. No program in sight. -/
import Derived.Test.YtgkgdedhicnohaaGreatMWire1
import Derived.BigQuiet
import Derived.Lib.EndianBits
namespace Go.Proofs.YtgkgdedhicnohaaGreat
set_option maxRecDepth 100000
set_option maxHeartbeats 40000000
open Go.RowKit
def wsum (l:List UInt8):Nat→Int
 | 0=>0
 | k+1=>(wsum l k+((k:Int)+1)*((l[k]?.getD 0).toNat:Int))%65521
theorem wsum_bd (l:List UInt8) (k:Nat):0≤wsum l k∧wsum l k < 65521:=by
 cases k with
 | zero=>simp [wsum]
 | succ k=>simp only[wsum];omega
def sumOf (s:ByteArray):Int:=wsum s.data.toList s.size
theorem byte_get (s:ByteArray) (k:Nat) (h:k < s.size):s.data.toList[k]?.getD 0=s[k]:=by
 have:k < s.data.toList.length:=by simpa using h
 rw[List.getElem?_eq_getElem this];rfl
theorem sum_c (s:ByteArray) (hs:s.size≤140737488355328) (w:World):
  Calls Tryz.prog 139 #[.string s] w fun e w'=>e= .returned (.int .i64 (sumOf s))∧w'=w:=by
 go_enter Tryz.func139,Tryz.ntmps139
 go_wp2
 go_loop [3,7] (fun n i=> ∃k:Nat,k≤s.size∧i= .int .i64 k∧n= .int .i64 (wsum s.data.toList k)) (fun _ i=>s.size - (intOf i).toNat)
 case atStart=>exact ⟨0,Nat.zero_le _,rfl,rfl⟩
 case round=>
  obtain⟨k,hk,rfl,rfl⟩:=hrel
  have hbd:=wsum_bd s.data.toList k
  obtain⟨b0,b1⟩:=hbd
  by_cases hlt:k < s.size
  ·have hstep:wsum s.data.toList (k+1)=(wsum s.data.toList k+((k:Int)+1)*(s[k].toNat:Int))%65521:=by
    simp only[wsum,byte_get s k hlt]
   have HS:=jD hstep
   clear hstep
   have hc:(s[k].toNat:Int)≤255:=by have:=s[k].toNat_lt;omega
   have hm0:0≤((k:Int)+1)*(s[k].toNat:Int):=Int.mul_nonneg (by omega) (by omega)
   have hm1:((k:Int)+1)*(s[k].toNat:Int)≤140737488355328*255:=Int.mul_le_mul (by omega) hc (by omega) (by omega)
   go_wp2
   go_round
   case rel=>exact ⟨k+1,by omega,by go_num,by rw[HS.out]⟩
   case measure=>simp [intOf];omega
  ·go_wp2
   go_ret
   obtain rfl:k=s.size:=by omega
   exact⟨rfl,rfl⟩
def rs (off:Int):List UInt8→Int
 | []=>0
 | c::l=>(off+1)*(c.toNat:Int)+rs (off+1) l
theorem sumOf_bd (s:ByteArray):0≤sumOf s∧sumOf s < 65521:=wsum_bd _ _
structure RdSt (B:Nat) (s:ByteArray) (bad:Bool) (w:World):Prop where
 blk:w.heap[B]? =some (Obj.cells #[.string s, .bool bad] 214 (0,0))
structure RKeep (B:Nat) (w w':World):Prop where
 os:w'.os=w.os
 tape:w'.tape=w.tape
 output:w'.output=w.output
 size:w.heap.size≤w'.heap.size
 blk: ∀k,k < w.heap.size→k≠B→w'.heap[k]? =w.heap[k]?
theorem RKeep.trans {B:Nat} {a b c:World} (h:RKeep B a b) (k:RKeep B b c):RKeep B a c:=
 ⟨k.os.trans h.os,k.tape.trans h.tape,k.output.trans h.output,Nat.le_trans h.size k.size,fun j h1 h2=>(k.blk j (Nat.lt_of_lt_of_le h1 h.size) h2).trans (h.blk j h1 h2)⟩
theorem RKeep.set (B j:Nat) (v:Value) (w:World):RKeep B w (w.setCell ⟨B,j,none⟩ v):=
 ⟨rfl,rfl,rfl,by simp[World.setCell],fun k _ hne=>heap_set_other hne⟩
theorem or24 (a b c:Int) (a0:0≤a) (a1:a < 256) (b0:0≤b) (b1:b < 256) (c0:0≤c) (c1:c < 256):bits .or .i64 (bits .or .i64 (a*65536) (b*256)) c=a*65536+b*256+c:=by
 have hk: ∀n:Int,0≤n→n < 2^32→IntKind.i64.wrap n=n:=fun n h0 h1=>by rw[IntKind.wrap_i64];omega
 rw[bits_join .i64 32 (by decide) hk 16 (a*65536) (b*256) (by omega) (by omega) (by omega) (by omega) (by omega) (by omega)]
 rw[bits_join .i64 32 (by decide) hk 8 (a*65536+b*256) c (by omega) (by omega) (by omega) (by omega) (by omega) (by omega)]
theorem drewN_heap (w:World): ∀n,(w.drewN n).heap=w.heap:=by
 intro n;induction n generalizing w with
 | zero=>rfl
 | succ n ih=>exact (ih _).trans rfl
theorem drewN_keep {w:World} (n:Nat) {g:Nat} {o:Obj} (h:w.heap[g]? =some o):(w.drewN n).heap[g]? =some o:=by rw[drewN_heap];exact h
theorem RKeep.drewN (B:Nat) (w:World) (n:Nat):RKeep B w (w.drewN n):=by
 have h:=below_drewN (Below.refl w.heap.size w) n
 exact⟨h.os,h.tape,h.output,h.size,fun k hk _=>h.block k hk⟩
def num3 (a b c:UInt8):Int:=(a.toNat:Int)*65536+(b.toNat:Int)*256+(c.toNat:Int)
def headN (s:ByteArray):Int:=num3 (s.data.toList[0]?.getD 0) (s.data.toList[1]?.getD 0) (s.data.toList[2]?.getD 0)
def numV (s:ByteArray) (most:Int):Int:=if s.size < 3 then 0 else if most < headN s then 0 else headN s
def numR (s:ByteArray):ByteArray:=if s.size < 3 then s else s.extract 3 s.size
def numB (s:ByteArray) (bad:Bool) (most:Int):Bool:=if s.size < 3 then true else if most < headN s then true else bad
theorem rnum_c (B:Nat) (s:ByteArray) (bad:Bool) (most:Int) (w:World) (h:RdSt B s bad w) (hs:s.size≤1000000):
  Calls Tryz.prog 140 #[.pointer (some ⟨B,0,none⟩), .int .i64 most] w fun e w'=>e= .returned (.int .i64 (numV s most))∧RdSt B (numR s) (numB s bad most) w'∧RKeep B w w':=by
 have hb:=h.blk
 have c0:=cell_of_block (j:=0) hb rfl
 have hl:=hlt_of hb
 have f0:=free_of_block (j:=0) hb
 have f1:=free_of_block (j:=1) hb
 have HB:=jD hb
 clear h hb
 go_enter Tryz.func140,Tryz.ntmps140
 by_cases h3:s.size < 3
 ·have h3b:decide ((s.size:Int) < 3)=true:=by simp;omega
  have c1:=cell_of_block (j:=1) HB.out rfl
  go_wp2
  go_ret
  refine⟨by unfold numV;rw [if_pos h3];rfl,⟨?_⟩,RKeep.set _ _ _ _⟩
  unfold numR numB
  rw[if_pos h3,if_pos h3,heap_set_same HB.out];rfl
 have h3b:decide ((s.size:Int) < 3)=false:=by simp;omega
 have q0:0 < s.size:=by omega
 have q1:1 < s.size:=by omega
 have q2:2 < s.size:=by omega
 have r1:(1:Int) < (s.size:Int):=by omega
 have r2:(2:Int) < (s.size:Int):=by omega
 have n0:=s[0].toNat_lt
 have n1:=s[1].toNat_lt
 have n2:=s[2].toNat_lt
 have x0:IntKind.i64.wrap (s[0].toNat:Int)=s[0].toNat:=by rw[IntKind.wrap_i64];omega
 have x1:IntKind.i64.wrap (s[1].toNat:Int)=s[1].toNat:=by rw[IntKind.wrap_i64];omega
 have x2:IntKind.i64.wrap (s[2].toNat:Int)=s[2].toNat:=by rw[IntKind.wrap_i64];omega
 have y0:IntKind.i64.wrap ((s[0].toNat:Int)*65536)=s[0].toNat*65536:=by rw[IntKind.wrap_i64];omega
 have y1:IntKind.i64.wrap ((s[1].toNat:Int)*256)=s[1].toNat*256:=by rw[IntKind.wrap_i64];omega
 have hor:bits .or .i64 (bits .or .i64 ((s[0].toNat:Int)*65536) ((s[1].toNat:Int)*256)) (s[2].toNat:Int)=headN s:=by
  rw[or24 _ _ _ (by omega) (by omega) (by omega) (by omega) (by omega) (by omega)]
  unfold headN num3
  rw[byte_get s 0 q0,byte_get s 1 q1,byte_get s 2 q2]
 have HV0:=jD (show most < headN s→numV s most=0∧numB s bad most=true from fun h=>by unfold numV numB;rw [if_neg h3,if_pos h,if_neg h3,if_pos h];exact ⟨rfl,rfl⟩)
 have HV1:=jD (show ¬most < headN s→numV s most=headN s∧numB s bad most=bad from fun h=>by unfold numV numB;rw [if_neg h3,if_neg h,if_neg h3,if_neg h];exact ⟨rfl,rfl⟩)
 have HR:=jD (show numR s=s.extract 3 s.size by unfold numR;rw [if_neg h3])
 have c1:=cell_of_block (j:=1) HB.out rfl
 generalize headN s=hn at*
 go_wp2
 go_quiet (fail)
 by_cases hm:most < hn
 ·have hmb:decide (most < hn)=true:=by simpa using hm
  obtain⟨h1,h2⟩:=HV0.out (by omega)
  have H1:=jD h1
  have H2:=jD h2
  clear hm h1 h2 HV0 HV1
  go_wp2
  go_ret
  refine⟨by rw[H1.out];rfl,⟨?_⟩, ?_⟩
  ·rw[H2.out,HR.out,heap_set_same (heap_set_same (drewN_keep _ HB.out))];rfl
  ·exact(RKeep.drewN _ _ _).trans ((RKeep.set _ _ _ _).trans (RKeep.set _ _ _ _))
 ·have hmb:decide (most < hn)=false:=by simpa using hm
  obtain⟨h1,h2⟩:=HV1.out (by omega)
  have H1:=jD h1
  have H2:=jD h2
  clear hm h1 h2 HV0 HV1
  go_wp2
  go_ret
  refine⟨by rw[H1.out];rfl,⟨?_⟩, ?_⟩
  ·rw[H2.out,HR.out,heap_set_same (drewN_keep _ HB.out)];rfl
  ·exact(RKeep.drewN _ _ _).trans (RKeep.set _ _ _ _)
theorem headN_pos (s:ByteArray):0≤headN s:=by unfold headN num3;omega
theorem numV_bd (s:ByteArray) {most:Int} (h:0≤most):0≤numV s most∧numV s most≤most:=by
 have:=headN_pos s
 unfold numV;split
 ·omega
 ·split <;> omega
theorem numR_size (s:ByteArray):(numR s).size≤s.size:=by
 unfold numR;split
 ·exact Nat.le_refl _
 ·rw[ByteArray.size_extract];omega
def textN (s:ByteArray):Nat:=(numV s 8).toNat
def textV (s:ByteArray):ByteArray:=if (numR s).size < textN s then⟨#[]⟩ else(numR s).extract 0 (textN s)
def textR (s:ByteArray):ByteArray:=if (numR s).size < textN s then numR s else(numR s).extract (textN s) (numR s).size
def textB (s:ByteArray) (bad:Bool):Bool:=if (numR s).size < textN s then true else numB s bad 8
theorem rtext_c (B:Nat) (s:ByteArray) (bad:Bool) (w:World) (h:RdSt B s bad w) (hs:s.size≤1000000):
  Calls Tryz.prog 141 #[.pointer (some ⟨B,0,none⟩)] w fun e w'=>e= .returned (.string (textV s))∧RdSt B (textR s) (textB s bad) w'∧RKeep B w w':=by
 have HC:=jD (rnum_c B s bad 8 w h hs)
 have hbd:=numV_bd s (most:=8) (by decide)
 have hrs:=numR_size s
 have HV:=jD (show textV s=if (numR s).size < textN s then⟨#[]⟩ else(numR s).extract 0 (textN s) from rfl)
 have HR:=jD (show textR s=if (numR s).size < textN s then numR s else(numR s).extract (textN s) (numR s).size from rfl)
 have HX:=jD (show textB s bad=if (numR s).size < textN s then true else numB s bad 8 from rfl)
 have hn:numV s 8=((textN s:Nat):Int):=by unfold textN;omega
 rw[hn] at HC hbd
 generalize textN s=n at*
 generalize numR s=r at*
 generalize numB s bad 8=bd at*
 clear h hn
 go_enter Tryz.func141,Tryz.ntmps141
 go_wp2_with fail
 (with_reducible refine(HC.out).mono ?_)
 rintro e w1 ⟨rfl,hr1,hk1⟩
 have hb:=hr1.blk
 have c0:=cell_of_block (j:=0) hb rfl
 have c1:=cell_of_block (j:=1) hb rfl
 have hl:=hlt_of hb
 have f0:=free_of_block (j:=0) hb
 have f1:=free_of_block (j:=1) hb
 have HB:=jD hb
 have HK:=jD hk1
 clear HC hr1 hk1 hb
 by_cases hlt:r.size < n
 ·have hd:decide (r.size < n)=true:=by simp;omega
  have H1:=jD (show textV s=⟨#[]⟩ by rw[HV.out,if_pos hlt])
  have H2:=jD (show textR s=r by rw[HR.out,if_pos hlt])
  have H3:=jD (show textB s bad=true by rw[HX.out,if_pos hlt])
  clear hlt HV HR HX
  go_wp2
  go_ret
  refine⟨by rw[H1.out];rfl,⟨?_⟩,HK.out.trans (RKeep.set _ _ _ _)⟩
  rw[H2.out,H3.out,heap_set_same HB.out];rfl
 ·have hd:decide (r.size < n)=false:=by simp;omega
  have H1:=jD (show textV s=r.extract 0 n by rw[HV.out,if_neg hlt])
  have H2:=jD (show textR s=r.extract n r.size by rw[HR.out,if_neg hlt])
  have H3:=jD (show textB s bad=bd by rw[HX.out,if_neg hlt])
  have hle:n≤r.size:=by omega
  have hli:(n:Int)≤(r.size:Int):=by omega
  clear hlt HV HR HX
  go_wp2
  go_ret
  refine⟨by rw[H1.out];rfl,⟨?_⟩,HK.out.trans (RKeep.set _ _ _ _)⟩
  rw[H2.out,H3.out,heap_set_same HB.out];rfl
theorem size_list (s:ByteArray):s.size=s.data.toList.length:=by rw[Array.length_toList];rfl
theorem extract_list (s:ByteArray) (i:Nat):(s.extract i s.size).data.toList=s.data.toList.drop i:=by
 rw[ByteArray.data_extract,Array.toList_extract]
 rw[List.extract_eq_take_drop,List.take_of_length_le]
 rw[List.length_drop,Array.length_toList];exact Nat.le_refl _
theorem extract_take (s:ByteArray) (n:Nat):(s.extract 0 n).data.toList=s.data.toList.take n:=by
 rw[ByteArray.data_extract,Array.toList_extract,List.extract_eq_take_drop];simp
theorem num_back {s:ByteArray} {n:Int} {r:List UInt8} (h:s.data.toList=b3 n++r) (h0:0≤n) (h1:n < 16777216): ¬s.size < 3∧headN s=n∧(numR s).data.toList=r:=by
 have hs: ¬s.size < 3:=by rw[size_list,h,List.length_append];simp [b3]
 refine⟨hs, ?_, ?_⟩
 ·unfold headN num3
  rw[h]
  have e: ∀y:Int,((UInt8.ofNat (y%256).toNat).toNat:Int)=y%256:=fun y=>by rw[UInt8.toNat_ofNat'];omega
  simp only[b3,List.cons_append,List.nil_append,List.getElem?_cons_zero,List.getElem?_cons_succ,Option.getD_some,e]
  omega
 ·unfold numR
  rw[if_neg hs,extract_list,h];rfl
theorem numV_back {s:ByteArray} {n most:Int} {r:List UInt8} (h:s.data.toList=b3 n++r) (h0:0≤n) (h1:n < 16777216) (hm:n≤most) (bad:Bool):numV s most=n∧(numR s).data.toList=r∧numB s bad most=bad:=by
 obtain⟨a,b,c⟩:=num_back h h0 h1
 unfold numV numB
 rw[if_neg a,if_neg a,b,if_neg (by omega),if_neg (by omega)]
 exact⟨rfl,c,rfl⟩
theorem text_back {s t:ByteArray} {r:List UInt8} (h:s.data.toList=textW t++r) (ht:t.size≤8) (bad:Bool):textV s=t∧(textR s).data.toList=r∧textB s bad=bad:=by
 unfold textW at h
 rw[List.append_assoc] at h
 obtain⟨a,b,c⟩:=numV_back h (by omega) (by omega) (show((t.size:Nat):Int)≤8 by omega) bad
 have hn:textN s=t.size:=by unfold textN;rw [a];simp
 have hl: ¬(numR s).size < t.size:=by rw[size_list,b,List.length_append,size_list];omega
 unfold textV textR textB
 rw[hn,if_neg hl,if_neg hl,if_neg hl]
 refine⟨?_, ?_,c⟩
 ·have h2:((numR s).extract 0 t.size).data.toList=t.data.toList:=by
   rw[extract_take,b,size_list,List.take_left]
  have h3:=congrArg List.toArray h2
  rw[Array.toArray_toList,Array.toArray_toList] at h3
  exact ByteArray.ext h3
 ·rw[extract_list,b,size_list,List.drop_left]
theorem num_fore {s:ByteArray} {most:Int} {bad:Bool} (h:numB s bad most=false):s.data.toList=b3 (numV s most)++(numR s).data.toList∧bad=false:=by
 unfold numB at h
 split at h
 ·exact absurd h (by decide)
 rename_i hs
 split at h
 ·exact absurd h (by decide)
 rename_i hm
 refine⟨?_,h⟩
 unfold numV numR
 rw[if_neg hs,if_neg hm,if_neg hs,extract_list]
 have hl:3≤s.data.toList.length:=by rw[←size_list];omega
 unfold headN
 generalize s.data.toList=l at*
 match l,hl with
 | a::b::c::r,_=>
  simp only[List.getElem?_cons_zero,List.getElem?_cons_succ,Option.getD_some,List.drop_succ_cons,List.drop_zero,b3,num3,List.cons_append,List.nil_append]
  have ha:=a.toNat_lt
  have hb:=b.toNat_lt
  have hc:=c.toNat_lt
  have e1:(((a.toNat:Int)*65536+b.toNat*256+c.toNat) / 65536%256).toNat=a.toNat:=by omega
  have e2:(((a.toNat:Int)*65536+b.toNat*256+c.toNat) / 256%256).toNat=b.toNat:=by omega
  have e3:(((a.toNat:Int)*65536+b.toNat*256+c.toNat)%256).toNat=c.toNat:=by omega
  rw[e1,e2,e3]
  simp
end Go.Proofs.YtgkgdedhicnohaaGreat
