/- What wire.Unpack does. Written by a small program (gen/unpack.py). -/
import Derived.Test.YtgkgdedhicnohaaGreatMWireU
namespace Go.Proofs.YtgkgdedhicnohaaGreat
set_option maxRecDepth 100000
set_option maxHeartbeats 40000000
open Go.RowKit
theorem unpack_c (s:ByteArray) (w:World) (hlen:s.size≤140737488355328):
  Calls Tryz.prog 85 #[.string s] w fun e w'=>UpOut s w e w':=by
 have HB0:=jD (show Below w.heap.size w _ from bal (.cells #[.int .i64 0, .int .i64 0, .slice none 0 0, .slice none 0 0, .slice none 0 0] 52))
 have HK2:=jD (alloc_new w #[.int .i64 0, .int .i64 0, .slice none 0 0, .slice none 0 0, .slice none 0 0] 52 _ rfl)
 go_enter Tryz.func85,Tryz.ntmps85
 by_cases hbig:20000 < s.size
 ·have hE:upE s=2:=by unfold upE;rw [if_pos hbig]
  have hd:decide ((20000:Int) < (s.size:Int))=true:=by simp;omega
  have HE:=jD hE
  clear hE hbig
  go_wp2
  refine bodyPost_ret (v:= .tuple #[.agg #[.int .i64 0, .int .i64 0, .slice none 0 0, .slice none 0 0, .slice none 0 0], .int .i64 2]) (by simp[results,Tryz.results85,go_sem, *]) rfl ?_
  exact UpOut.fail HE.out (by decide) HB0.out
 have hd:decide ((20000:Int) < (s.size:Int))=false:=by simp;omega
 by_cases hsm:s.size < 3
 ·have hE:upE s=7:=by unfold upE;rw [if_neg hbig,if_pos hsm]
  have hd2:decide ((s.size:Int) - 3 < 0)=true:=by simp;omega
  have HE:=jD hE
  clear hE hbig
  go_wp2
  refine bodyPost_ret (v:= .tuple #[.agg #[.int .i64 0, .int .i64 0, .slice none 0 0, .slice none 0 0, .slice none 0 0], .int .i64 7]) (by simp[results,Tryz.results85,go_sem, *]) rfl ?_
  exact UpOut.fail HE.out (by decide) HB0.out
 obtain⟨n,hn⟩: ∃n:Nat,s.size=n+3:=⟨s.size - 3,by omega⟩
 have HUE:=jD (show upE s=if sumOf (upT s)≠upSum s then 8 else if upBad (upT s)=true then 3 else 0 by unfold upE;rw [if_neg hbig,if_neg hsm])
 have HN:=jD hn
 go_wp2
 obtain⟨w1,hw1⟩: ∃w1,w1=w.alloc (.cells #[.int .i64 0, .int .i64 0, .slice none 0 0, .slice none 0 0, .slice none 0 0] 52):=⟨_,rfl⟩
 rw[←hw1] at HB0 HK2 ⊢
 obtain⟨B2,hB2⟩: ∃B2,B2=w.heap.size:=⟨_,rfl⟩
 rw[←hB2] at HK2 ⊢
 have HB2:=jD hB2
 have q0:n < s.size:=by omega
 have q1:n+1 < s.size:=by omega
 have q2:n+2 < s.size:=by omega
 have n0:=s[n].toNat_lt
 have n1:=s[n+1].toNat_lt
 have n2:=s[n+2].toNat_lt
 have HS:=jD (fun (x:World)=>sum_c (s.extract 0 n) (by rw[ByteArray.size_extract];omega) x)
 have HSUM:=jD (show upSum s=(s[n].toNat:Int)*65536+(s[n+1].toNat:Int)*256+(s[n+2].toNat:Int) by
  unfold upSum headN num3
  have e:s.size - 3=n:=by omega
  rw[e,str_getN s n hn 0 (by omega),str_getN s n hn 1 (by omega),str_getN s n hn 2 (by omega)];rfl)
 have HT:=jD (show upT s=s.extract 0 n by unfold upT;rw [show s.size - 3=n by omega])
 clear hw1 hB2 hbig hsm hd
 refine Cl.region0 138 rfl [] (fun _=>True) (fun _=>[]) (fun jq v ww=>match jq with | 0=>v= .string s | 1=>v= .int .i64 n | 2=>v= .string (s.extract 0 n) | 3=>v= .int .i64 (sumOf (s.extract 0 n)) | 4=>v= .string s | 5=>v= .int .i64 n | 6=>v= .int .u8 (s[n].toNat:Int) | 7=>v= .int .i64 (s[n].toNat:Int) | 8=>v= .int .i64 ((s[n].toNat:Int)*65536) | 9=>v= .string s | 10=>v= .int .i64 n | 11=>v= .int .i64 ((n:Int)+1) | 12=>v= .int .u8 (s[n+1].toNat:Int) | 13=>v= .int .i64 (s[n+1].toNat:Int) | 14=>v= .int .i64 ((s[n+1].toNat:Int)*256) | 15=>v= .int .i64 (bits .or .i64 ((s[n].toNat:Int)*65536) ((s[n+1].toNat:Int)*256)) | 16=>v= .string s | 17=>v= .int .i64 n | 18=>v= .int .i64 ((n:Int)+2) | 19=>v= .int .u8 (s[n+2].toNat:Int) | 20=>v= .int .i64 (s[n+2].toNat:Int) | 21=>v= .int .i64 (upSum s) | 22=>v= .bool (sumOf (s.extract 0 n) != upSum s) | _=>True) (fun ww=>Below w1.heap.size w1 ww) (fun jq ww ww'=>Below ww.heap.size ww ww') Tryz.mixed (by decide+kernel) (Below.refl _ _).drew trivial (fun q r v w w' _ _ _ h _=>h) (fun _ _ _ _ _ _=>trivial) ?_ ?_
 ·refine⟨?_, ?_, ?_, ?_, ?_, ?_, ?_, ?_, ?_, ?_, ?_, ?_, ?_, ?_, ?_, ?_, ?_, ?_, ?_, ?_, ?_, ?_, ?_,trivial⟩
  ·intro x wx hG
   have f0:=hG.o 0
   replace hG:=hG.good
   go_wp2
   exact⟨_,rfl,rfl,hG,Below.refl _ _⟩
  ·intro x wx hG
   have f4:=hG.o 4
   replace hG:=hG.good
   go_wp2
   exact⟨_,rfl,rfl,hG,Below.refl _ _⟩
  ·intro x wx hG
   have g0:(x.tmps.getD 21 undef)= .string s:=hG.c 0 _ rfl
   have g0b:=gd g0
   have g1:(x.tmps.getD 22 undef)= .int .i64 n:=hG.c 1 _ rfl
   have g1b:=gd g1
   replace hG:=hG.good
   go_wp2
   exact⟨_,rfl,rfl,hG,Below.refl _ _⟩
  ·intro x wx hG
   have g2:(x.tmps.getD 23 undef)= .string (s.extract 0 n):=hG.c 2 _ rfl
   have g2b:=gd g2
   replace hG:=hG.good
   go_wp2_with fail
   (with_reducible refine(HS.out _).mono ?_)
   rintro e wq ⟨rfl,rfl⟩
   go_wp2
   exact⟨_,rfl,rfl,hG,Below.refl _ _⟩
  ·intro x wx hG
   have f0:=hG.o 0
   replace hG:=hG.good
   go_wp2
   exact⟨_,rfl,rfl,hG,Below.refl _ _⟩
  ·intro x wx hG
   have f4:=hG.o 4
   replace hG:=hG.good
   go_wp2
   exact⟨_,rfl,rfl,hG,Below.refl _ _⟩
  ·intro x wx hG
   have g4:(x.tmps.getD 25 undef)= .string s:=hG.c 4 _ rfl
   have g4b:=gd g4
   have g5:(x.tmps.getD 26 undef)= .int .i64 n:=hG.c 5 _ rfl
   have g5b:=gd g5
   replace hG:=hG.good
   go_wp2
   exact⟨_,rfl,rfl,hG,Below.refl _ _⟩
  ·intro x wx hG
   have g6:(x.tmps.getD 27 undef)= .int .u8 (s[n].toNat:Int):=hG.c 6 _ rfl
   have g6b:=gd g6
   replace hG:=hG.good
   have x0:IntKind.i64.wrap (s[n].toNat:Int)=(s[n].toNat:Int):=by rw[IntKind.wrap_i64];omega
   go_wp2
   exact⟨_,rfl,rfl,hG,Below.refl _ _⟩
  ·intro x wx hG
   have g7:(x.tmps.getD 28 undef)= .int .i64 (s[n].toNat:Int):=hG.c 7 _ rfl
   have g7b:=gd g7
   replace hG:=hG.good
   have x0:IntKind.i64.wrap ((s[n].toNat:Int)*65536)=(s[n].toNat:Int)*65536:=by rw[IntKind.wrap_i64];omega
   go_wp2
   exact⟨_,rfl,rfl,hG,Below.refl _ _⟩
  ·intro x wx hG
   have f0:=hG.o 0
   replace hG:=hG.good
   go_wp2
   exact⟨_,rfl,rfl,hG,Below.refl _ _⟩
  ·intro x wx hG
   have f4:=hG.o 4
   replace hG:=hG.good
   go_wp2
   exact⟨_,rfl,rfl,hG,Below.refl _ _⟩
  ·intro x wx hG
   have g10:(x.tmps.getD 31 undef)= .int .i64 n:=hG.c 10 _ rfl
   have g10b:=gd g10
   replace hG:=hG.good
   go_wp2
   exact⟨_,rfl,rfl,hG,Below.refl _ _⟩
  ·intro x wx hG
   have g9:(x.tmps.getD 30 undef)= .string s:=hG.c 9 _ rfl
   have g9b:=gd g9
   have g11:(x.tmps.getD 32 undef)= .int .i64 ((n:Int)+1):=hG.c 11 _ rfl
   have g11b:=gd g11
   replace hG:=hG.good
   go_wp2
   exact⟨_,rfl,rfl,hG,Below.refl _ _⟩
  ·intro x wx hG
   have g12:(x.tmps.getD 33 undef)= .int .u8 (s[n+1].toNat:Int):=hG.c 12 _ rfl
   have g12b:=gd g12
   replace hG:=hG.good
   have x0:IntKind.i64.wrap (s[n+1].toNat:Int)=(s[n+1].toNat:Int):=by rw[IntKind.wrap_i64];omega
   go_wp2
   exact⟨_,rfl,rfl,hG,Below.refl _ _⟩
  ·intro x wx hG
   have g13:(x.tmps.getD 34 undef)= .int .i64 (s[n+1].toNat:Int):=hG.c 13 _ rfl
   have g13b:=gd g13
   replace hG:=hG.good
   have x0:IntKind.i64.wrap ((s[n+1].toNat:Int)*256)=(s[n+1].toNat:Int)*256:=by rw[IntKind.wrap_i64];omega
   go_wp2
   exact⟨_,rfl,rfl,hG,Below.refl _ _⟩
  ·intro x wx hG
   have g8:(x.tmps.getD 29 undef)= .int .i64 ((s[n].toNat:Int)*65536):=hG.c 8 _ rfl
   have g8b:=gd g8
   have g14:(x.tmps.getD 35 undef)= .int .i64 ((s[n+1].toNat:Int)*256):=hG.c 14 _ rfl
   have g14b:=gd g14
   replace hG:=hG.good
   go_wp2
   exact⟨_,rfl,rfl,hG,Below.refl _ _⟩
  ·intro x wx hG
   have f0:=hG.o 0
   replace hG:=hG.good
   go_wp2
   exact⟨_,rfl,rfl,hG,Below.refl _ _⟩
  ·intro x wx hG
   have f4:=hG.o 4
   replace hG:=hG.good
   go_wp2
   exact⟨_,rfl,rfl,hG,Below.refl _ _⟩
  ·intro x wx hG
   have g17:(x.tmps.getD 38 undef)= .int .i64 n:=hG.c 17 _ rfl
   have g17b:=gd g17
   replace hG:=hG.good
   go_wp2
   exact⟨_,rfl,rfl,hG,Below.refl _ _⟩
  ·intro x wx hG
   have g16:(x.tmps.getD 37 undef)= .string s:=hG.c 16 _ rfl
   have g16b:=gd g16
   have g18:(x.tmps.getD 39 undef)= .int .i64 ((n:Int)+2):=hG.c 18 _ rfl
   have g18b:=gd g18
   replace hG:=hG.good
   go_wp2
   exact⟨_,rfl,rfl,hG,Below.refl _ _⟩
  ·intro x wx hG
   have g19:(x.tmps.getD 40 undef)= .int .u8 (s[n+2].toNat:Int):=hG.c 19 _ rfl
   have g19b:=gd g19
   replace hG:=hG.good
   have x0:IntKind.i64.wrap (s[n+2].toNat:Int)=(s[n+2].toNat:Int):=by rw[IntKind.wrap_i64];omega
   go_wp2
   exact⟨_,rfl,rfl,hG,Below.refl _ _⟩
  ·intro x wx hG
   have g15:(x.tmps.getD 36 undef)= .int .i64 (bits .or .i64 ((s[n].toNat:Int)*65536) ((s[n+1].toNat:Int)*256)):=hG.c 15 _ rfl
   have g15b:=gd g15
   have g20:(x.tmps.getD 41 undef)= .int .i64 (s[n+2].toNat:Int):=hG.c 20 _ rfl
   have g20b:=gd g20
   replace hG:=hG.good
   have x0:bits .or .i64 (bits .or .i64 ((s[n].toNat:Int)*65536) ((s[n+1].toNat:Int)*256)) (s[n+2].toNat:Int)=upSum s:=by rw[HSUM.out];exact or24 _ _ _ (by omega) (by omega) (by omega) (by omega) (by omega) (by omega)
   go_wp2
   exact⟨_,rfl,rfl,hG,Below.refl _ _⟩
  ·intro x wx hG
   have g3:(x.tmps.getD 24 undef)= .int .i64 (sumOf (s.extract 0 n)):=hG.c 3 _ rfl
   have g3b:=gd g3
   have g21:(x.tmps.getD 42 undef)= .int .i64 (upSum s):=hG.c 21 _ rfl
   have g21b:=gd g21
   replace hG:=hG.good
   go_wp2
   exact⟨_,rfl,rfl,hG,Below.refl _ _⟩
 ·intro vals w2 hg hF
  obtain⟨g0,g1,g2,g3,g4,g5,g6,g7,g8,g9,g10,g11,g12,g13,g14,g15,g16,g17,g18,g19,g20,g21,g22, -⟩:=hF
  have e0:=gq (vals 0) g0
  have e1:=gq (vals 1) g1
  have e2:=gq (vals 2) g2
  have e3:=gq (vals 3) g3
  have e4:=gq (vals 4) g4
  have e5:=gq (vals 5) g5
  have e6:=gq (vals 6) g6
  have e7:=gq (vals 7) g7
  have e8:=gq (vals 8) g8
  have e9:=gq (vals 9) g9
  have e10:=gq (vals 10) g10
  have e11:=gq (vals 11) g11
  have e12:=gq (vals 12) g12
  have e13:=gq (vals 13) g13
  have e14:=gq (vals 14) g14
  have e15:=gq (vals 15) g15
  have e16:=gq (vals 16) g16
  have e17:=gq (vals 17) g17
  have e18:=gq (vals 18) g18
  have e19:=gq (vals 19) g19
  have e20:=gq (vals 20) g20
  have e21:=gq (vals 21) g21
  have e22:=gq (vals 22) g22
  simp only[Cl.puts,e0,e1,e2,e3,e4,e5,e6,e7,e8,e9,e10,e11,e12,e13,e14,e15,e16,e17,e18,e19,e20,e21,e22]
  clear e0 e1 e2 e3 e4 e5 e6 e7 e8 e9 e10 e11 e12 e13 e14 e15 e16 e17 e18 e19 e20 e21 e22 g0 g1 g2 g3 g4 g5 g6 g7 g8 g9 g10 g11 g12 g13 g14 g15 g16 g17 g18 g19 g20 g21 g22
  go_simp
  have HB:=jD (bstep HB0.out hg)
  have HK:=jD (below_keep hg HK2.out)
  clear hg HB0 HK2
  by_cases hsum:sumOf (s.extract 0 n)=upSum s
  rotate_left
  ·have hb:(sumOf (s.extract 0 n) != upSum s)=true:=by simpa using hsum
   have HE:=jD (show upE s=8 by rw[HUE.out,HT.out,if_pos hsum])
   have k0:=cell_of_block (j:=0) HK.out rfl
   have k1:=cell_of_block (j:=1) HK.out rfl
   have k2:=cell_of_block (j:=2) HK.out rfl
   have k3:=cell_of_block (j:=3) HK.out rfl
   have k4:=cell_of_block (j:=4) HK.out rfl
   have f0:=free_of_block (j:=0) HK.out
   have f1:=free_of_block (j:=1) HK.out
   have f2:=free_of_block (j:=2) HK.out
   have f3:=free_of_block (j:=3) HK.out
   have f4:=free_of_block (j:=4) HK.out
   have hlk:=hlt_of HK.out
   have HLE:=jD (show w.heap.size≤B2 by rw[HB2.out];exact Nat.le_refl _)
   clear hsum HUE
   go_wp2
   refine bodyPost_ret (v:= .tuple #[.agg #[.int .i64 0, .int .i64 0, .slice none 0 0, .slice none 0 0, .slice none 0 0], .int .i64 8]) (by simp[results,Tryz.results85,go_sem, *]) rfl ?_
   exact UpOut.fail HE.out (by decide) (((((HB.out.setCell (p:=⟨B2,0,none⟩) HLE.out _).setCell (p:=⟨B2,1,none⟩) HLE.out _).setCell (p:=⟨B2,2,none⟩) HLE.out _).setCell (p:=⟨B2,3,none⟩) HLE.out _).setCell (p:=⟨B2,4,none⟩) HLE.out _)
  have hb:(sumOf (s.extract 0 n) != upSum s)=false:=by simpa using hsum
  clear HSUM HS n0 n1 n2
  generalize s[n].toNat=y0 at*
  generalize s[n+1].toNat=y1 at*
  generalize s[n+2].toNat=y2 at*
  clear q0 q1 q2
  have HUE2:=jD (show upE s=if upBad (s.extract 0 n)=true then 3 else 0 by rw[HUE.out,HT.out,if_neg (by simpa using hsum)])
  have htz:(s.extract 0 n).size≤1000000:=by rw[ByteArray.size_extract];omega
  have HD:=jD (alloc_new w2 #[.string (s.extract 0 n), .bool false] 214 _ rfl)
  have HBA:=jD (show Below w2.heap.size w2 (w2.alloc (.cells #[.string (s.extract 0 n), .bool false] 214)) from bal _)
  have HK3:=jD (below_keep HBA.out HK.out)
  have HBW:=jD (bstep HB.out HBA.out)
  have hl2:=hlt_of HK.out
  have hws:=HB.out.size
  obtain⟨BR,hBR⟩: ∃BR,BR=w2.heap.size:=⟨_,rfl⟩
  have hbr2:B2 < BR:=by omega
  have hbrw:w.heap.size≤BR:=by omega
  go_wp2_with fail
  rw[←hBR] at HD ⊢
  generalize w2.alloc (.cells #[.string (s.extract 0 n), .bool false] 214)=w3 at*
  clear HUE HK HB HBA hl2 hws hBR hsum hb
  generalize s.extract 0 n=t at*
  have HC1:=jD (numCall_mk BR t false 5 htz)
  have HC2:=jD (numCall_mk BR (numR t) (numB t false 5) 1000000 (Nat.le_trans (numR_size t) htz))
  have HC3:=jD (numCall_mk BR (stampS t) (stampB t) 60 (Nat.le_trans (numR_size _) (Nat.le_trans (numR_size t) htz)))
  have HVE:=jD (show versRd t=manyR ver1 (numR (stampS t)) (numB (stampS t) (stampB t) 60) (numV (stampS t) 60).toNat from rfl)
  have hsz1:(numR (stampS t)).size≤1000000:=Nat.le_trans (numR_size _) (Nat.le_trans (numR_size _) (Nat.le_trans (numR_size t) htz))
  have hv1:=numV_bd (stampS t) (most:=60) (by decide)
  have HBT:=jD (show btRd t=⟨numV t 5,numV (numR t) 1000000,(versRd t).1,(gonesRd t).1,(partsRd t).1⟩ from rfl)
  obtain⟨k1,hk1⟩: ∃k1:Nat,numV (stampS t) 60=(k1:Int):=⟨(numV (stampS t) 60).toNat,by omega⟩
  rw[hk1] at HC3 hv1 HVE
  rw[Int.toNat_natCast] at HVE
  obtain⟨v5,hv5⟩: ∃v5,v5=numV t 5:=⟨_,rfl⟩
  obtain⟨v6,hv6⟩: ∃v6,v6=numV (numR t) 1000000:=⟨_,rfl⟩
  rw[←hv5] at HC1 HBT
  rw[←hv6] at HC2 HBT
  clear hk1 hv5 hv6
  (with_reducible refine(HC1.out _ ⟨HD.out⟩).mono ?_)
  rintro e wa ⟨rfl,h1,h2⟩
  have H1:=jD h1
  have K1:=jD (h2.keep HK3.out (by omega))
  have R1:=jD ((RKeep.of_below HBW.out).trans h2)
  clear h1 h2 HD HK3 HBW HC1
  go_wp2_with fail
  (with_reducible refine(HC2.out _ H1.out).mono ?_)
  rintro e wb ⟨rfl,h1,h2⟩
  have H2:=jD h1
  have K2:=jD (h2.keep K1.out (by omega))
  have R2:=jD (R1.out.trans h2)
  clear h1 h2 H1 K1 R1 HC2
  go_wp2_with fail
  have hlr:=hlt_of H2.out.blk
  have HU:=jD (show UpSt w BR B2 wb.heap.size v5 v6 (.slice none 0 0) (.slice none 0 0) (.slice none 0 0) [] [] [] (stampS t) (stampB t) (wb.alloc (.cells #[.int .i64 v5, .int .i64 v6, .slice none 0 0, .slice none 0 0, .slice none 0 0] 52)) from
   ⟨⟨below_keep (bal _) H2.out.blk⟩,below_keep (bal _) K2.out,alloc_new _ _ _ _ rfl,own_nilV _ _,GOwn.nil _ _,POwn.nil _ _,R2.out.trans (RKeep.of_below (bal _))⟩)
  (with_reducible refine(HC3.out _ HU.out.rd).mono ?_)
  rintro e wc ⟨rfl,h1,h2⟩
  have hbb:BR < wb.heap.size:=hlr
  obtain⟨BB,hBB⟩: ∃BB,BB=wb.heap.size:=⟨_,rfl⟩
  rw[←hBB] at HU hbb ⊢
  have HU1:=jD (HU.out.call h1 h2 (by omega) (by omega))
  clear h1 h2 HU H2 K2 R2 HC3 hlr hBB
  generalize numR (stampS t)=s1 at*
  generalize numB (stampS t) (stampB t) 60=b1 at*
  go_wp2
  go_loopw [7] (fun i wr=> ∃m k:Nat,m+k=k1∧i= .int .i64 (m:Nat)∧ ∃VV,UpSt w BR B2 BB v5 v6 VV (.slice none 0 0) (.slice none 0 0) (manyR ver1 s1 b1 k).1 [] [] (manyR ver1 s1 b1 k).2.1 (manyR ver1 s1 b1 k).2.2 wr) (fun i _=>(intOf i).toNat)
  case atStart=>exact ⟨k1,0,by omega,rfl,_,HU1.out⟩
  case round=>
   clear HU1
   obtain⟨m,k,hmk,rfl,VV,hst⟩:=hrel
   have hms:=manyR_size (f:=ver1) ver1_rd s1 b1 k
   have hml:=manyR_len ver1 s1 b1 k
   obtain⟨va,vc,hvv⟩:=VOwn.slc hst.v
   subst hvv
   cases m with
   | zero=>
    obtain rfl:k=k1:=by omega
    have hzs:=manyR_size (f:=ver1) ver1_rd s1 b1 k
    obtain⟨LV,hLV⟩: ∃LV,LV=(manyR ver1 s1 b1 k).1:=⟨_,rfl⟩
    obtain⟨sa,hsa⟩: ∃sa,sa=(manyR ver1 s1 b1 k).2.1:=⟨_,rfl⟩
    obtain⟨ba,hba⟩: ∃ba,ba=(manyR ver1 s1 b1 k).2.2:=⟨_,rfl⟩
    have HV1:=jD (show(versRd t).1=LV by rw[HVE.out,hLV])
    have HV2:=jD (show(versRd t).2.1=sa by rw[HVE.out,hsa])
    have HV3:=jD (show(versRd t).2.2=ba by rw[HVE.out,hba])
    have HVB:=jD (show ∀x∈LV,VerBd x by rw[hLV];exact vers_bd s1 b1 k)
    rw[←hLV] at hml hst
    rw[←hsa] at hzs hms hst
    rw[←hba] at hst
    clear hLV hsa hba HVE
    have hLV60:LV.length≤60:=by omega
    clear hml
    have hsa6:sa.size≤1000000:=by omega
    have HC4:=jD (numCall_mk BR sa ba 60 hsa6)
    have hv2:=numV_bd sa (most:=60) (by decide)
    obtain⟨k2,hk2⟩: ∃k2:Nat,numV sa 60=(k2:Int):=⟨(numV sa 60).toNat,by omega⟩
    have HGE:=jD (show gonesRd t=manyR gone1 (numR sa) (numB sa ba 60) k2 by unfold gonesRd;rw [HV2.out,HV3.out,hk2];simp)
    have hs2:(numR sa).size≤1000000:=Nat.le_trans (numR_size sa) hsa6
    rw[hk2] at HC4 hv2
    have HST:=jD hst
    clear hst hk2 hms hzs
    go_wp2_with fail
    (with_reducible refine(HC4.out _ HST.out.rd).mono ?_)
    rintro e wx ⟨rfl,h1,h2⟩
    have HU3:=jD (HST.out.call h1 h2 (by omega) (by omega))
    clear h1 h2 HST HC4
    generalize numR sa=s2 at*
    generalize numB sa ba 60=b2 at*
    go_wp2
    go_loopw [9] (fun i wr=> ∃m k:Nat,m+k=k2∧i= .int .i64 (m:Nat)∧ ∃GV,UpSt w BR B2 BB v5 v6 (.slice va LV.length vc) GV (.slice none 0 0) LV (manyR gone1 s2 b2 k).1 [] (manyR gone1 s2 b2 k).2.1 (manyR gone1 s2 b2 k).2.2 wr) (fun i _=>(intOf i).toNat)
    case atStart=>exact ⟨k2,0,by omega,rfl,_,HU3.out⟩
    case round=>
     clear HU3
     obtain⟨m,k,hmk,rfl,GV,hst⟩:=hrel
     have hms:=manyR_size (f:=gone1) gone1_rd s2 b2 k
     have hml:=manyR_len gone1 s2 b2 k
     obtain⟨ga,gc,hgv⟩:=GOwn.shape hst.g
     subst hgv
     cases m with
     | zero=>
      obtain rfl:k=k2:=by omega
      have hzs:=manyR_size (f:=gone1) gone1_rd s2 b2 k
      obtain⟨LG,hLG⟩: ∃LG,LG=(manyR gone1 s2 b2 k).1:=⟨_,rfl⟩
      obtain⟨sb,hsb⟩: ∃sb,sb=(manyR gone1 s2 b2 k).2.1:=⟨_,rfl⟩
      obtain⟨bb,hbb2⟩: ∃bb,bb=(manyR gone1 s2 b2 k).2.2:=⟨_,rfl⟩
      have HG1:=jD (show(gonesRd t).1=LG by rw[HGE.out,hLG])
      have HG2:=jD (show(gonesRd t).2.1=sb by rw[HGE.out,hsb])
      have HG3:=jD (show(gonesRd t).2.2=bb by rw[HGE.out,hbb2])
      have HGB:=jD (show ∀x∈LG,GnBd x by rw[hLG];exact gones_bd s2 b2 k)
      rw[←hLG] at hml hst
      rw[←hsb] at hzs hms hst
      rw[←hbb2] at hst
      clear hLG hsb hbb2 HGE
      have hLG60:LG.length≤60:=by omega
      clear hml
      have hsb6:sb.size≤1000000:=by omega
      have HC5:=jD (numCall_mk BR sb bb 30 hsb6)
      have hv3:=numV_bd sb (most:=30) (by decide)
      obtain⟨k3,hk3⟩: ∃k3:Nat,numV sb 30=(k3:Int):=⟨(numV sb 30).toNat,by omega⟩
      have HPE:=jD (show partsRd t=manyR part1 (numR sb) (numB sb bb 30) k3 by unfold partsRd;rw [HG2.out,HG3.out,hk3];simp)
      have hs3:(numR sb).size≤1000000:=Nat.le_trans (numR_size sb) hsb6
      rw[hk3] at HC5 hv3
      have HST:=jD hst
      clear hst hk3 hms hzs
      go_wp2_with fail
      (with_reducible refine(HC5.out _ HST.out.rd).mono ?_)
      rintro e wx ⟨rfl,h1,h2⟩
      have HU5:=jD (HST.out.call h1 h2 (by omega) (by omega))
      clear h1 h2 HST HC5
      generalize numR sb=s3 at*
      generalize numB sb bb 30=b3 at*
      go_wp2
      go_loopw [10] (fun i wr=> ∃m k:Nat,m+k=k3∧i= .int .i64 (m:Nat)∧ ∃PV,UpSt w BR B2 BB v5 v6 (.slice va LV.length vc) (.slice ga LG.length gc) PV LV LG (manyR part1 s3 b3 k).1 (manyR part1 s3 b3 k).2.1 (manyR part1 s3 b3 k).2.2 wr) (fun i _=>(intOf i).toNat)
      case atStart=>exact ⟨k3,0,by omega,rfl,_,HU5.out⟩
      case round=>
       clear HU5
       obtain⟨m,k,hmk,rfl,PV,hst⟩:=hrel
       have hms:=manyR_size (f:=part1) part1_rd s3 b3 k
       have hml:=manyR_len part1 s3 b3 k
       obtain⟨pa,pc,hpv⟩:=POwn.shape hst.p
       subst hpv
       cases m with
       | zero=>
        obtain rfl:k=k3:=by omega
        obtain⟨LP,hLP⟩: ∃LP,LP=(manyR part1 s3 b3 k).1:=⟨_,rfl⟩
        obtain⟨sz,hsz⟩: ∃sz,sz=(manyR part1 s3 b3 k).2.1:=⟨_,rfl⟩
        obtain⟨bz,hbz⟩: ∃bz,bz=(manyR part1 s3 b3 k).2.2:=⟨_,rfl⟩
        have HP1:=jD (show(partsRd t).1=LP by rw[HPE.out,hLP])
        have HP2:=jD (show(partsRd t).2.1=sz by rw[HPE.out,hsz])
        have HP3:=jD (show(partsRd t).2.2=bz by rw[HPE.out,hbz])
        have HPB:=jD (show ∀x∈LP,PtBd x by rw[hLP];exact parts_bd s3 b3 k)
        rw[←hLP] at hml hst
        rw[←hsz] at hst
        rw[←hbz] at hst
        clear hLP hsz hbz HPE hms
        have hLP30:LP.length≤30:=by omega
        clear hml
        have HBE:=jD (show btRd t=⟨v5,v6,LV,LG,LP⟩ by rw[HBT.out,HV1.out,HG1.out,HP1.out])
        have HBAD:=jD (show upBad t=(bz || (decide (¬sz=⟨#[]⟩) || decide (batchChk ⟨v5,v6,LV,LG,LP⟩≠0))) by unfold upBad;rw [HP2.out,HP3.out,HBE.out])
        have HBEL:=jD (hst.rk.toBelow hbrw (Nat.le_refl _))
        have r0:=cell_of_block (j:=0) hst.rd.blk rfl
        have r1:=cell_of_block (j:=1) hst.rd.blk rfl
        have hlr:=hlt_of hst.rd.blk
        have k0:=cell_of_block (j:=0) hst.b2 rfl
        have k1:=cell_of_block (j:=1) hst.b2 rfl
        have k2':=cell_of_block (j:=2) hst.b2 rfl
        have k3':=cell_of_block (j:=3) hst.b2 rfl
        have k4:=cell_of_block (j:=4) hst.b2 rfl
        have f0:=free_of_block (j:=0) hst.b2
        have f1:=free_of_block (j:=1) hst.b2
        have f2:=free_of_block (j:=2) hst.b2
        have f3:=free_of_block (j:=3) hst.b2
        have f4:=free_of_block (j:=4) hst.b2
        have hlk:=hlt_of hst.b2
        have HLE:=jD (show w.heap.size≤B2 by rw[HB2.out];exact Nat.le_refl _)
        have HST:=jD hst
        clear hst
        by_cases hbz:bz=true
        ·subst hbz
         have HE:=jD (show upE s=3 by rw[HUE2.out,if_pos (by rw[HBAD.out,Bool.true_or])])
         go_wp2
         refine bodyPost_ret (v:= .tuple #[.agg #[.int .i64 0, .int .i64 0, .slice none 0 0, .slice none 0 0, .slice none 0 0], .int .i64 3]) (by simp[results,Tryz.results85,go_sem, *]) rfl ?_
         exact UpOut.fail HE.out (by decide) (((((HBEL.out.setCell (p:=⟨B2,0,none⟩) HLE.out _).setCell (p:=⟨B2,1,none⟩) HLE.out _).setCell (p:=⟨B2,2,none⟩) HLE.out _).setCell (p:=⟨B2,3,none⟩) HLE.out _).setCell (p:=⟨B2,4,none⟩) HLE.out _)
        obtain rfl:bz=false:=by simpa using hbz
        by_cases hsz:sz=⟨#[]⟩
        rotate_left
        ·obtain⟨hz1,hz2,hz3,hz4⟩:=str_ne hsz
         have HE:=jD (show upE s=3 by rw[HUE2.out,if_pos (by rw[HBAD.out,Bool.false_or,decide_eq_true hsz,Bool.true_or])])
         clear hsz
         go_wp2
         refine bodyPost_ret (v:= .tuple #[.agg #[.int .i64 0, .int .i64 0, .slice none 0 0, .slice none 0 0, .slice none 0 0], .int .i64 3]) (by simp[results,Tryz.results85,go_sem, *]) rfl ?_
         exact UpOut.fail HE.out (by decide) (((((HBEL.out.setCell (p:=⟨B2,0,none⟩) HLE.out _).setCell (p:=⟨B2,1,none⟩) HLE.out _).setCell (p:=⟨B2,2,none⟩) HLE.out _).setCell (p:=⟨B2,3,none⟩) HLE.out _).setCell (p:=⟨B2,4,none⟩) HLE.out _)
        obtain⟨hz1,hz2,hz3,hz4⟩:=str_eq hsz
        have b0:=cell_of_block (j:=0) HST.out.bb rfl
        have b1':=cell_of_block (j:=1) HST.out.bb rfl
        have b2':=cell_of_block (j:=2) HST.out.bb rfl
        have b3':=cell_of_block (j:=3) HST.out.bb rfl
        have b4:=cell_of_block (j:=4) HST.out.bb rfl
        have hlb:=hlt_of HST.out.bb
        have HAT:=jD (show BtAt wr (.slice va LV.length vc) (.slice ga LG.length gc) (.slice pa LP.length pc) ⟨v5,v6,LV,LG,LP⟩ from
         ⟨HST.out.v.at_ HVB.out (by omega),HST.out.g.at_ HGB.out (by omega),HST.out.p.at_bd HPB.out (by omega)⟩)
        have HCK:=jD (batchChk_c (.slice va LV.length vc) (.slice ga LG.length gc) (.slice pa LP.length pc) ⟨v5,v6,LV,LG,LP⟩ wr HAT.out)
        have HBAD2:=jD (show batchChk ⟨v5,v6,LV,LG,LP⟩≠0→upE s=3 from fun h=>by rw[HUE2.out,if_pos (by rw[HBAD.out,Bool.false_or,decide_eq_true h,Bool.or_true])])
        have HGOOD:=jD (show batchChk ⟨v5,v6,LV,LG,LP⟩=0→upE s=0 from fun h=>by
         rw[HUE2.out,if_neg]
         rw[HBAD.out,Bool.false_or,decide_eq_false (by simpa using hsz),Bool.false_or,decide_eq_false (by simpa using h)]
         decide)
        clear hsz
        go_wp2_with fail
        (with_reducible refine(HCK.out).mono ?_)
        rintro e wy ⟨rfl,hby⟩
        have HST2:=jD (show UpSt w BR B2 BB v5 v6 (.slice va LV.length vc) (.slice ga LG.length gc) (.slice pa LP.length pc) LV LG LP sz false wy from
         ⟨⟨below_keep hby HST.out.rd.blk⟩,below_keep hby HST.out.b2,below_keep hby HST.out.bb,HST.out.v.below hby,HST.out.g.below hby,HST.out.p.below hby,HST.out.rk.trans (RKeep.of_below hby)⟩)
        clear hz1 hz2 hz3 hz4
        clear hby r0 r1 hlr k0 k1 k2' k3' k4 f0 f1 f2 f3 f4 hlk b0 b1' b2' b3' b4 hlb HBEL HST HAT HCK HUE2
        have HBEL:=jD (HST2.out.rk.toBelow hbrw (Nat.le_refl _))
        have k0:=cell_of_block (j:=0) HST2.out.b2 rfl
        have k1:=cell_of_block (j:=1) HST2.out.b2 rfl
        have k2':=cell_of_block (j:=2) HST2.out.b2 rfl
        have k3':=cell_of_block (j:=3) HST2.out.b2 rfl
        have k4:=cell_of_block (j:=4) HST2.out.b2 rfl
        have f0:=free_of_block (j:=0) HST2.out.b2
        have f1:=free_of_block (j:=1) HST2.out.b2
        have f2:=free_of_block (j:=2) HST2.out.b2
        have f3:=free_of_block (j:=3) HST2.out.b2
        have f4:=free_of_block (j:=4) HST2.out.b2
        have hlk:=hlt_of HST2.out.b2
        have HCB:=jD (show upB s=if upE s=0 then⟨v5,v6,LV,LG,LP⟩ else⟨0,0,[],[],[]⟩ by unfold upB;rw [HT.out,HBE.out])
        clear HBAD
        generalize batchChk ⟨v5,v6,LV,LG,LP⟩=ck at*
        by_cases hck:ck=0
        rotate_left
        ·have hckb:(ck != 0)=true:=by simpa using hck
         have HE:=jD (HBAD2.out hck)
         clear hck
         go_wp2
         refine bodyPost_ret (v:= .tuple #[.agg #[.int .i64 0, .int .i64 0, .slice none 0 0, .slice none 0 0, .slice none 0 0], .int .i64 3]) (by simp[results,Tryz.results85,go_sem, *]) rfl ?_
         exact UpOut.fail HE.out (by decide) (((((HBEL.out.setCell (p:=⟨B2,0,none⟩) HLE.out _).setCell (p:=⟨B2,1,none⟩) HLE.out _).setCell (p:=⟨B2,2,none⟩) HLE.out _).setCell (p:=⟨B2,3,none⟩) HLE.out _).setCell (p:=⟨B2,4,none⟩) HLE.out _)
        have HE:=jD (HGOOD.out hck)
        subst hck
        have b0:=cell_of_block (j:=0) HST2.out.bb rfl
        have b1':=cell_of_block (j:=1) HST2.out.bb rfl
        have b2':=cell_of_block (j:=2) HST2.out.bb rfl
        have b3':=cell_of_block (j:=3) HST2.out.bb rfl
        have b4:=cell_of_block (j:=4) HST2.out.bb rfl
        have hlb:=hlt_of HST2.out.bb
        go_wp2
        refine bodyPost_ret (v:= .tuple #[.agg #[.int .i64 v5, .int .i64 v6, .slice va LV.length vc, .slice ga LG.length gc, .slice pa LP.length pc], .int .i64 0]) (by simp[results,Tryz.results85,go_sem, *]) rfl ?_
        have e:upB s=⟨v5,v6,LV,LG,LP⟩:=by rw[HCB.out,if_pos HE.out]
        obtain⟨hf1,hf2⟩:=HST2.out.fin HLE.out hbrw
        exact⟨_,_,_,by rw[e,HE.out],by rw[e];exact hf1,hf2⟩
       | succ m=>
        generalize hM:manyR part1 s3 b3 k=M at hst hms hml
        obtain⟨pl,sk,bk⟩:=M
        dsimp only at hst hms hml
        subst hml
        obtain⟨pt,t1,t2,c1,c2,hvc⟩:=partCall BR sk bk (by omega)
        obtain⟨fl,kk⟩:=pt
        have HNX:=jD (manyR_next hM hvc.eq)
        clear hM
        have HC1:=jD hvc.c0
        have HC2:=jD hvc.c1
        have HRA:=jD hvc.r1
        have HRB:=jD hvc.r2
        have hmb:decide ((0:Int) < ((m+1:Nat):Int))=true:=by simp
        have HR0:=jD hst.rd
        have HOW:=jD hst.p
        have HKB:=jD hst.bb
        have HEX:=jD (And.intro hst.b2 (And.intro hst.v hst.g))
        have HGK:=jD hst.rk
        have hjb:pl.length≤30:=by omega
        have hqk:w.heap.size≤BB:=by omega
        have hq2:B2≠BB:=by omega
        clear hst hvc
        go_wp2_with fail
        refine Cl3.region0 138 rfl (fun u=>match u with | 0=>[3,5] | 1=>[8] | 2=>[10] | 3=>[5] | _=>[]) (fun u ww=>match u with | 0=>RdSt BR sk bk ww | 1=>POwn ww w.heap.size (.slice pa pl.length pc) pl | 2=>ww.heap[BB]? =some (Obj.cells #[.int .i64 v5, .int .i64 v6, .slice va LV.length vc, .slice ga LG.length gc, .slice pa pl.length pc] 52 (0,0)) | 3=>RdSt BR sk bk ww∨RdSt BR t1 c1 ww | _=>(ww.heap[B2]? =some (Obj.cells #[.int .i64 0, .int .i64 0, .slice none 0 0, .slice none 0 0, .slice none 0 0] 52 (0,0))∧VOwn ww w.heap.size (.slice va LV.length vc) LV∧GOwn ww w.heap.size (.slice ga LG.length gc) LG)) (fun jq=>match jq with | 7=>[8] | _=>[]) (fun jq v ww=>match jq with | 0=>v= .pointer (some ⟨BB,4,none⟩) | 1=>v= .slice pa pl.length pc | 2=>v= .pointer (some ⟨BR,0,none⟩) | 3=>(FlP ww w.heap.size v fl)∧(RdSt BR t1 c1 ww∨RdSt BR t2 c2 ww) | 4=>v= .pointer (some ⟨BR,0,none⟩) | 5=>(KnP ww w.heap.size v kk)∧RdSt BR t2 c2 ww | 6=> ∃(a4:Option Addr) (n4 c4:Nat),∃(a3:Option Addr) (n3 c3:Nat) (b3:Option Addr) (m3 d3:Nat),v= .agg #[.slice a4 n4 c4, .slice a3 n3 c3, .slice b3 m3 d3]∧FOwn ww w.heap.size (.slice a4 n4 c4) fl∧KnOwn ww w.heap.size (.slice a3 n3 c3) (.slice b3 m3 d3) kk | 7=> ∃(a4:Option Addr) (n4 c4:Nat),∃(a3:Option Addr) (n3 c3:Nat) (b3:Option Addr) (m3 d3:Nat),∃g7,v= .slice (some ⟨g7,0,none⟩) 1 1∧ww.heap[g7]? =some (Obj.cells #[.slice a4 n4 c4, .slice a3 n3 c3, .slice b3 m3 d3] 105 (0,0))∧FOwn ww w.heap.size (.slice a4 n4 c4) fl∧KnOwn ww w.heap.size (.slice a3 n3 c3) (.slice b3 m3 d3) kk | 8=> ∃a cc,v= .slice a (pl.length+1) cc∧POwn ww w.heap.size (.slice a (pl.length+1) cc) (pl++[⟨fl,kk⟩]) | 9=>v= .pointer (some ⟨BB,4,none⟩) | 10=> ∃a cc,ww.heap[BB]? =some (Obj.cells #[.int .i64 v5, .int .i64 v6, .slice va LV.length vc, .slice ga LG.length gc, .slice a (pl.length+1) cc] 52 (0,0))∧POwn ww w.heap.size (.slice a (pl.length+1) cc) (pl++[⟨fl,kk⟩])∧(ww.heap[B2]? =some (Obj.cells #[.int .i64 0, .int .i64 0, .slice none 0 0, .slice none 0 0, .slice none 0 0] 52 (0,0))∧VOwn ww w.heap.size (.slice va LV.length vc) LV∧GOwn ww w.heap.size (.slice ga LG.length gc) LG) | _=>True) (fun ww=>RKeep BR w ww) (fun jq ww ww'=>TKeep (tj 105 52 jq) ww ww'∧(jq=3→RdSt BR t1 c1 ww')∧(jq=5→RdSt BR t1 c1 ww∧RdSt BR t2 c2 ww')∧(jq=10→RKeep BB ww ww')) Tryz.mixed (by decide+kernel) HGK.out.drew (fun u=>match u with | 0=>⟨HR0.out.blk⟩ | 1=>HOW.out.below ((Below.refl _ _).drew) | 2=>HKB.out | 3=> .inl ⟨HR0.out.blk⟩ | _+4=>⟨HEX.out.1,HEX.out.2.1.below ((Below.refl _ _).drew),HEX.out.2.2.below ((Below.refl _ _).drew)⟩) ?_ (fun jq ww ww' u hk h hR=>match u,hk,h with | 0,hk,h=>(h.tk hR.1 (tj_rd rfl rfl (by intro e;simp [e] at hk) (by intro e;simp [e] at hk))) | 1,hk,h=>(h.tk hR.1 (tj_else rfl rfl rfl _) (tj_else rfl rfl rfl _) (tj_else rfl rfl rfl _) (tj_else rfl rfl rfl _) (tj_row rfl rfl (by simpa using hk))) | 2,hk,h=>(hR.1.blk _ _ _ h (tj_own rfl rfl (by simpa using hk))) | 3,hk,h=>(by by_cases h3:jq=3;exact .inr (hR.2.1 h3);exact h.imp (fun h=>h.tk hR.1 (tj_rd rfl rfl h3 (by simpa using hk))) (fun h=>h.tk hR.1 (tj_rd rfl rfl h3 (by simpa using hk)))) | _+4,hk,h=>(⟨(by by_cases h10:jq=10;exact (hR.2.2.2 h10).keep h.1 hq2;exact hR.1.blk _ _ _ h.1 (tj_own rfl rfl h10)),h.2.1.tk hR.1 (tj_else rfl rfl rfl _) (tj_else rfl rfl rfl _) (tj_else rfl rfl rfl _),h.2.2.tk hR.1 (tj_else rfl rfl rfl _) (tj_else rfl rfl rfl _) (tj_else rfl rfl rfl _)⟩)) ?_ ?_
        ·intro q r v w w' hne hk hlt h hR
         match r,hk,hlt,h,hne with
         | 0,_,_,h,_=>exact h
         | 1,_,_,h,_=>exact h
         | 2,_,_,h,_=>exact h
         | 3,hk,hlt,h,hne=>
          by_cases h5:q=5
          ·exact⟨(h.1.tk hR.1 (tj_else rfl rfl rfl _) (tj_else rfl rfl rfl _)), .inr (hR.2.2.1 h5).2⟩
          by_cases h3:q=3
          ·exact absurd h3 (by intro e;subst e;first | exact absurd hlt (by decide+kernel) | exact absurd rfl hne | simp at hk)
          exact⟨(h.1.tk hR.1 (tj_else rfl rfl rfl _) (tj_else rfl rfl rfl _)),h.2.imp (fun h=>h.tk hR.1 (tj_rd rfl rfl h3 h5)) (fun h=>h.tk hR.1 (tj_rd rfl rfl h3 h5))⟩
         | 4,_,_,h,_=>exact h
         | 5,hk,hlt,h,hne=>
          by_cases h3:q=3
          ·exact absurd h3 (by intro e;subst e;first | exact absurd hlt (by decide+kernel) | exact absurd rfl hne | simp at hk)
          by_cases h5:q=5
          ·exact absurd h5 (by intro e;subst e;first | exact absurd hlt (by decide+kernel) | exact absurd rfl hne | simp at hk)
          exact⟨(h.1.tk hR.1 (tj_else rfl rfl rfl _) (tj_else rfl rfl rfl _)),h.2.tk hR.1 (tj_rd rfl rfl h3 h5)⟩
         | 6,hk,hlt,h,hne=>
          obtain⟨a4,n4,c4,a3,n3,c3,b3,m3,d3,e1,k2,k1⟩:=h
          exact⟨_,_,_,_,_,_,_,_,_,e1,k2.tk hR.1 (tj_else rfl rfl rfl _) (tj_else rfl rfl rfl _),k1.tk hR.1 (tj_else rfl rfl rfl _) (tj_else rfl rfl rfl _)⟩
         | 7,hk,hlt,h,hne=>
          by_cases h8:q=8
          ·exact absurd h8 (by intro e;subst e;first | exact absurd hlt (by decide+kernel) | exact absurd rfl hne | simp at hk)
          obtain⟨a4,n4,c4,a3,n3,c3,b3,m3,d3,g7,e1,e2,k2,k1⟩:=h
          exact⟨_,_,_,_,_,_,_,_,_,_,e1,hR.1.blk _ _ _ e2 (tj_row rfl rfl h8),k2.tk hR.1 (tj_else rfl rfl rfl _) (tj_else rfl rfl rfl _),k1.tk hR.1 (tj_else rfl rfl rfl _) (tj_else rfl rfl rfl _)⟩
         | 8,hk,hlt,h,hne=>
          by_cases h8:q=8
          ·exact absurd h8 (by intro e;subst e;first | exact absurd hlt (by decide+kernel) | exact absurd rfl hne | simp at hk)
          obtain⟨a,cc,e1,k1⟩:=h
          exact⟨a,cc,e1,k1.tk hR.1 (tj_else rfl rfl rfl _) (tj_else rfl rfl rfl _) (tj_else rfl rfl rfl _) (tj_else rfl rfl rfl _) (tj_row rfl rfl h8)⟩
         | 9,_,_,h,_=>exact h
         | 10,hk,hlt,h,hne=>
          by_cases h8:q=8
          ·exact absurd h8 (by intro e;subst e;first | exact absurd hlt (by decide+kernel) | exact absurd rfl hne | simp at hk)
          by_cases h10:q=10
          ·exact absurd h10 (by intro e;subst e;first | exact absurd hlt (by decide+kernel) | exact absurd rfl hne | simp at hk)
          obtain⟨a,cc,e1,k1,k2⟩:=h
          exact⟨a,cc,hR.1.blk _ _ _ e1 (tj_own rfl rfl h10),k1.tk hR.1 (tj_else rfl rfl rfl _) (tj_else rfl rfl rfl _) (tj_else rfl rfl rfl _) (tj_else rfl rfl rfl _) (tj_row rfl rfl h8),⟨(by by_cases h10:q=10;exact (hR.2.2.2 h10).keep k2.1 hq2;exact hR.1.blk _ _ _ k2.1 (tj_own rfl rfl h10)),k2.2.1.tk hR.1 (tj_else rfl rfl rfl _) (tj_else rfl rfl rfl _) (tj_else rfl rfl rfl _),k2.2.2.tk hR.1 (tj_else rfl rfl rfl _) (tj_else rfl rfl rfl _) (tj_else rfl rfl rfl _)⟩⟩
         | _+11,_,_,_,_=>trivial
        ·refine⟨?_, ?_, ?_, ?_, ?_, ?_, ?_, ?_, ?_, ?_, ?_,trivial⟩
         ·intro x wx hG
          have f6:=hG.o 6
          replace hG:=hG.good
          go_wp2
          exact⟨_,rfl,rfl,hG,⟨TKeep.refl _ _,fun h=>zd h,fun h=>zd h,fun h=>zd h⟩⟩
         ·intro x wx hG
          have g0:(x.tmps.getD 110 undef)= .pointer (some ⟨BB,4,none⟩):=hG.c 0 _ rfl
          have hp2:=hG.p 2
          replace hG:=hG.good
          have c0:=cell_of_block (j:=4) hp2 rfl
          clear hp2
          go_wp2
          exact⟨_,rfl,rfl,hG,⟨TKeep.refl _ _,fun h=>zd h,fun h=>zd h,fun h=>zd h⟩⟩
         ·intro x wx hG
          have f5:=hG.o 5
          replace hG:=hG.good
          go_wp2
          exact⟨_,rfl,rfl,hG,⟨TKeep.refl _ _,fun h=>zd h,fun h=>zd h,fun h=>zd h⟩⟩
         ·intro x wx hG
          have g2:(x.tmps.getD 112 undef)= .pointer (some ⟨BR,0,none⟩):=hG.c 2 _ rfl
          have hp0:=hG.p 0
          replace hG:=hG.good
          have HP:=jD hp0
          go_wp2_with fail
          (with_reducible refine(HC1.out _ HP.out).mono ?_)
          rintro e wq ⟨fa,rfl,h3,h1,h2⟩
          have H1:=jD h1
          have H2:=jD h2
          obtain⟨aa,ac,hua⟩:=BxsOwn.shape h3
          subst hua
          have H3:=jD (FOwn.mono h3 hG.size)
          clear h1 h2 h3
          go_wp2
          exact⟨_,rfl,⟨⟨_,_,_,rfl,H3.out⟩, .inl H1.out⟩,hG.trans H2.out,⟨TKeep.of_rk H2.out HP.out (by decide),fun _=>H1.out,fun h=>zd h,fun h=>zd h⟩⟩
         ·intro x wx hG
          have f5:=hG.o 5
          replace hG:=hG.good
          go_wp2
          exact⟨_,rfl,rfl,hG,⟨TKeep.refl _ _,fun h=>zd h,fun h=>zd h,fun h=>zd h⟩⟩
         ·intro x wx hG
          have g4:(x.tmps.getD 114 undef)= .pointer (some ⟨BR,0,none⟩):=hG.c 4 _ rfl
          have g3:(FlP wx w.heap.size (x.tmps.getD 113 undef) fl)∧(RdSt BR t1 c1 wx∨RdSt BR t2 c2 wx):=hG.c 3 _ rfl
          have hp3:=hG.p 3
          replace hG:=hG.good
          have HP:=jD (Rd.mid HRA.out HRB.out g3.2 hp3)
          go_wp2_with fail
          (with_reducible refine(HC2.out _ HP.out).mono ?_)
          rintro e wq ⟨ua,xa,rfl,h3,h1,h2⟩
          have H1:=jD h1
          have H2:=jD h2
          obtain⟨aa,ac,hua⟩:=owns_slice h3.vec
          obtain⟨ba,bc,hxa⟩:=owns_slice h3.more
          subst hua hxa
          have H3:=jD (KnOwn.mono h3 hG.size)
          clear h1 h2 h3
          go_wp2
          exact⟨_,rfl,⟨⟨_,_,_,_,_,_,rfl,H3.out⟩,H1.out⟩,hG.trans H2.out,⟨TKeep.of_rk H2.out HP.out (by decide),fun h=>zd h,fun _=>⟨HP.out,H1.out⟩,fun h=>zd h⟩⟩
         ·intro x wx hG
          have g3:(FlP wx w.heap.size (x.tmps.getD 113 undef) fl)∧(RdSt BR t1 c1 wx∨RdSt BR t2 c2 wx):=hG.c 3 _ rfl
          have g5:(KnP wx w.heap.size (x.tmps.getD 115 undef) kk)∧RdSt BR t2 c2 wx:=hG.c 5 _ rfl
          replace hG:=hG.good
          obtain⟨⟨fa,fn,fc,g3,hf3⟩, -⟩:=g3
          have HF3:=jD hf3
          clear hf3
          have g3b:=gd g3
          obtain⟨⟨ka,kn,kc,kb,km,kd,g5,hk5⟩, -⟩:=g5
          have HK5:=jD hk5
          clear hk5
          have g5b:=gd g5
          go_wp2
          exact⟨_,rfl,⟨_,_,_,_,_,_,_,_,_,rfl,HF3.out,HK5.out⟩,hG,⟨TKeep.refl _ _,fun h=>zd h,fun h=>zd h,fun h=>zd h⟩⟩
         ·intro x wx hG
          have g6: ∃(a4:Option Addr) (n4 c4:Nat),∃(a3:Option Addr) (n3 c3:Nat) (b3:Option Addr) (m3 d3:Nat),(x.tmps.getD 116 undef)= .agg #[.slice a4 n4 c4, .slice a3 n3 c3, .slice b3 m3 d3]∧FOwn wx w.heap.size (.slice a4 n4 c4) fl∧KnOwn wx w.heap.size (.slice a3 n3 c3) (.slice b3 m3 d3) kk:=hG.c 6 _ rfl
          replace hG:=hG.good
          obtain⟨a4,n4,c4,a3,n3,c3,b3,m3,d3,g6,hf3,hk5⟩:=g6
          have HK5:=jD hk5
          have HF3:=jD hf3
          clear hk5 hf3
          have g6b:=gd g6
          go_wp2
          exact⟨_,rfl,⟨_,_,_,_,_,_,_,_,_,_,rfl,alloc_new _ _ _ _ rfl,HF3.out.below (bal _),HK5.out.below (bal _)⟩,hG.trans (RKeep.of_below (bal _)),⟨TKeep.of_below (bal _),fun h=>zd h,fun h=>zd h,fun h=>zd h⟩⟩
         ·intro x wx hG
          have g1:(x.tmps.getD 111 undef)= .slice pa pl.length pc:=hG.c 1 _ rfl
          have g7: ∃(a4:Option Addr) (n4 c4:Nat),∃(a3:Option Addr) (n3 c3:Nat) (b3:Option Addr) (m3 d3:Nat),∃g7,(x.tmps.getD 117 undef)= .slice (some ⟨g7,0,none⟩) 1 1∧wx.heap[g7]? =some (Obj.cells #[.slice a4 n4 c4, .slice a3 n3 c3, .slice b3 m3 d3] 105 (0,0))∧FOwn wx w.heap.size (.slice a4 n4 c4) fl∧KnOwn wx w.heap.size (.slice a3 n3 c3) (.slice b3 m3 d3) kk:=hG.c 7 _ rfl
          have hp1:=hG.p 1
          replace hG:=hG.good
          obtain⟨a4,n4,c4,a3,n3,c3,b3,m3,d3,g9,hg1,hg2,hf3,hk5⟩:=g7
          have HK5:=jD hk5
          have HF3:=jD hf3
          clear hk5 hf3
          have hz:=g1
          have hzb:=hz
          rw[Array.getD_eq_getD_getElem?] at hzb
          have hg1b:=hg1
          rw[Array.getD_eq_getD_getElem?] at hg1b
          obtain⟨css,hp1a,hp1b⟩:=hp1
          have HE:=jD hp1a
          have H9:=jD hp1b
          clear hp1a hp1b
          have HON:=jD (show ∀u∈([.slice a4 n4 c4, .slice a3 n3 c3, .slice b3 m3 d3]:List Value),u.oneCell'=true by intro u hu;simp only[List.mem_cons,List.not_mem_nil,or_false] at hu;rcases hu with rfl | rfl | rfl <;> rfl)
          have HCL:=jD (show CellsAt wx (.slice (some ⟨g9,0,none⟩) 1 1) 1 [.slice a4 n4 c4, .slice a3 n3 c3, .slice b3 m3 d3] from CellsAt.mk (Nat.le_refl _) (by decide) (hlt_of hg2) fun j x hj=>by rw[Nat.zero_add];exact cell_of_block hg2 (by simpa using hj))
          have hbs:=hG.size
          have HG:=jD hG
          clear hG hg2
          go_wp2_with (at_builtin;apply Classical.byContradiction;intro hcon)
          refine hcon ?_
          (refine wpList_append_cells2 rfl (.tmp 111) (.tmp 117) 50 rfl w.heap.size 105 _ 3 72 Tryz.underlying50 PartTy.info rfl (by decide) (.slice pa pl.length pc) _ _ hz H9.out (.slice (some ⟨g9,0,none⟩) 1 1) 1 _ hg1 HCL.out rfl HON.out hbs (by unfold maxLen;omega) (by omega) ?_)
          intro v' wq ho hgr
          obtain⟨qa,qc,hq⟩:=owns_slice ho
          subst hq
          have HO:=jD ho
          have HGR:=jD hgr
          clear ho hgr
          go_wp2
          exact⟨_,rfl,⟨_,_,rfl,POwn.push (p:=⟨fl,kk⟩) HE.out H9.out HF3.out HK5.out HO.out HGR.out⟩,HG.out.row H9.out HGR.out (Nat.le_refl _),⟨TKeep.of_app H9.out HGR.out (by decide),fun h=>zd h,fun h=>zd h,fun h=>zd h⟩⟩
         ·intro x wx hG
          have f6:=hG.o 6
          replace hG:=hG.good
          go_wp2
          exact⟨_,rfl,rfl,hG,⟨TKeep.refl _ _,fun h=>zd h,fun h=>zd h,fun h=>zd h⟩⟩
         ·intro x wx hG
          have g9:(x.tmps.getD 119 undef)= .pointer (some ⟨BB,4,none⟩):=hG.c 9 _ rfl
          have g8: ∃a cc,(x.tmps.getD 118 undef)= .slice a (pl.length+1) cc∧POwn wx w.heap.size (.slice a (pl.length+1) cc) (pl++[⟨fl,kk⟩]):=hG.c 8 _ rfl
          have hp2:=hG.p 2
          have hp4:=hG.p 4
          replace hG:=hG.good
          obtain⟨za,zc,hz,h9⟩:=g8
          have H9:=jD h9
          clear h9
          have hzb:=hz
          rw[Array.getD_eq_getD_getElem?] at hzb
          have hc:=cell_of_block (j:=4) hp2 rfl
          have hfz:=free_of_block (j:=4) hp2
          have hbl:=hlt_of hp2
          have HP:=jD hp2
          have HP4:=jD hp4
          clear hp2 hp4
          go_wp2
          exact⟨undef,rfl,⟨za,zc,by rw[heap_set_same HP.out];rfl,H9.out.tk (TKeep.of_set HP.out (T:=tj 105 52 10) (by decide)) (tj_else rfl rfl rfl _) (tj_else rfl rfl rfl _) (tj_else rfl rfl rfl _) (tj_else rfl rfl rfl _) (tj_row rfl rfl (by decide)),⟨(RKeep.set _ _ _ _).keep HP4.out.1 hq2,HP4.out.2.1.tk (TKeep.of_set HP.out (T:=tj 105 52 10) (by decide)) (tj_else rfl rfl rfl _) (tj_else rfl rfl rfl _) (tj_else rfl rfl rfl _),HP4.out.2.2.tk (TKeep.of_set HP.out (T:=tj 105 52 10) (by decide)) (tj_else rfl rfl rfl _) (tj_else rfl rfl rfl _) (tj_else rfl rfl rfl _)⟩⟩,hG.setHi hqk,⟨TKeep.of_set HP.out (by decide),fun h=>zd h,fun h=>zd h,fun _=>RKeep.set _ _ _ _⟩⟩
        ·intro vals w3 hg hF
         obtain⟨g0,g1,g2,g3,g4,g5,g6,g7,g8,g9,g10, -⟩:=hF
         have e0:=gq (vals 0) g0
         have e1:=gq (vals 1) g1
         have e2:=gq (vals 2) g2
         have e4:=gq (vals 4) g4
         replace g5:(KnP w3 w.heap.size (vals 5) kk)∧RdSt BR t2 c2 w3:=g5 rfl
         have e9:=gq (vals 9) g9
         replace g10: ∃a cc,w3.heap[BB]? =some (Obj.cells #[.int .i64 v5, .int .i64 v6, .slice va LV.length vc, .slice ga LG.length gc, .slice a (pl.length+1) cc] 52 (0,0))∧POwn w3 w.heap.size (.slice a (pl.length+1) cc) (pl++[⟨fl,kk⟩])∧(w3.heap[B2]? =some (Obj.cells #[.int .i64 0, .int .i64 0, .slice none 0 0, .slice none 0 0, .slice none 0 0] 52 (0,0))∧VOwn w3 w.heap.size (.slice va LV.length vc) LV∧GOwn w3 w.heap.size (.slice ga LG.length gc) LG):=g10 rfl
         simp only[Cl3.puts,e0,e1,e2,e4,e9]
         clear e0 e1 e2 e4 e9 g0 g1 g2 g3 g4 g6 g7 g8 g9
         go_simp
         generalize vals 5=u5 at*
         obtain⟨-,hrd⟩:=g5
         obtain⟨qa,qc,hk3,hrow,hk2,hvr,hgr⟩:=g10
         have HU6:=jD (show UpSt w BR B2 BB v5 v6 (.slice va LV.length vc) (.slice ga LG.length gc) (.slice qa (pl.length+1) qc) LV LG (pl++[⟨fl,kk⟩]) t2 c2 w3 from⟨hrd,hk2,hk3,hvr,hgr,hrow,hg⟩)
         clear hrd hk3 hrow hk2 hvr hgr hg HC1 HC2 HRA HRB HR0 HOW HKB HEX HGK
         go_wp2
         go_roundw
         case rel=>
          refine⟨m,pl.length+1,by omega,by go_num, .slice qa (pl.length+1) qc, ?_⟩
          rw[HNX.out];exact HU6.out
         case measure=>simp [intOf] <;> omega
     | succ m=>
      generalize hM:manyR gone1 s2 b2 k=M at hst hms hml
      obtain⟨gl,sk,bk⟩:=M
      dsimp only at hst hms hml
      subst hml
      obtain⟨gn,t1,t2,c1,c2,hvc⟩:=goneCall BR sk bk (by omega)
      obtain⟨id,kk⟩:=gn
      have HNX:=jD (manyR_next hM hvc.eq)
      clear hM
      have HC1:=jD hvc.c0
      have HC2:=jD hvc.c1
      have HRA:=jD hvc.r1
      have HRB:=jD hvc.r2
      have hmb:decide ((0:Int) < ((m+1:Nat):Int))=true:=by simp
      have HR0:=jD hst.rd
      have HOW:=jD hst.g
      have HKB:=jD hst.bb
      have HEX:=jD (And.intro hst.b2 hst.v)
      have HGK:=jD hst.rk
      have hjb:gl.length≤60:=by omega
      have hqk:w.heap.size≤BB:=by omega
      have hq2:B2≠BB:=by omega
      clear hst hvc
      go_wp2_with fail
      refine Cl3.region0 138 rfl (fun u=>match u with | 0=>[3,5] | 1=>[8] | 2=>[10] | 3=>[5] | _=>[]) (fun u ww=>match u with | 0=>RdSt BR sk bk ww | 1=>GOwn ww w.heap.size (.slice ga gl.length gc) gl | 2=>ww.heap[BB]? =some (Obj.cells #[.int .i64 v5, .int .i64 v6, .slice va LV.length vc, .slice ga gl.length gc, .slice none 0 0] 52 (0,0)) | 3=>RdSt BR sk bk ww∨RdSt BR t1 c1 ww | _=>(ww.heap[B2]? =some (Obj.cells #[.int .i64 0, .int .i64 0, .slice none 0 0, .slice none 0 0, .slice none 0 0] 52 (0,0))∧VOwn ww w.heap.size (.slice va LV.length vc) LV)) (fun jq=>match jq with | 7=>[8] | _=>[]) (fun jq v ww=>match jq with | 0=>v= .pointer (some ⟨BB,3,none⟩) | 1=>v= .slice ga gl.length gc | 2=>v= .pointer (some ⟨BR,0,none⟩) | 3=>(v= .string id)∧(RdSt BR t1 c1 ww∨RdSt BR t2 c2 ww) | 4=>v= .pointer (some ⟨BR,0,none⟩) | 5=>(KnP ww w.heap.size v kk)∧RdSt BR t2 c2 ww | 6=> ∃(a3:Option Addr) (n3 c3:Nat) (b3:Option Addr) (m3 d3:Nat),v= .agg #[.string id, .slice a3 n3 c3, .slice b3 m3 d3]∧KnOwn ww w.heap.size (.slice a3 n3 c3) (.slice b3 m3 d3) kk | 7=> ∃(a3:Option Addr) (n3 c3:Nat) (b3:Option Addr) (m3 d3:Nat),∃g7,v= .slice (some ⟨g7,0,none⟩) 1 1∧ww.heap[g7]? =some (Obj.cells #[.string id, .slice a3 n3 c3, .slice b3 m3 d3] 101 (0,0))∧KnOwn ww w.heap.size (.slice a3 n3 c3) (.slice b3 m3 d3) kk | 8=> ∃a cc,v= .slice a (gl.length+1) cc∧GOwn ww w.heap.size (.slice a (gl.length+1) cc) (gl++[⟨id,kk⟩]) | 9=>v= .pointer (some ⟨BB,3,none⟩) | 10=> ∃a cc,ww.heap[BB]? =some (Obj.cells #[.int .i64 v5, .int .i64 v6, .slice va LV.length vc, .slice a (gl.length+1) cc, .slice none 0 0] 52 (0,0))∧GOwn ww w.heap.size (.slice a (gl.length+1) cc) (gl++[⟨id,kk⟩])∧(ww.heap[B2]? =some (Obj.cells #[.int .i64 0, .int .i64 0, .slice none 0 0, .slice none 0 0, .slice none 0 0] 52 (0,0))∧VOwn ww w.heap.size (.slice va LV.length vc) LV) | _=>True) (fun ww=>RKeep BR w ww) (fun jq ww ww'=>TKeep (tj 101 52 jq) ww ww'∧(jq=3→RdSt BR t1 c1 ww')∧(jq=5→RdSt BR t1 c1 ww∧RdSt BR t2 c2 ww')∧(jq=10→RKeep BB ww ww')) Tryz.mixed (by decide+kernel) HGK.out.drew (fun u=>match u with | 0=>⟨HR0.out.blk⟩ | 1=>HOW.out.below ((Below.refl _ _).drew) | 2=>HKB.out | 3=> .inl ⟨HR0.out.blk⟩ | _+4=>⟨HEX.out.1,HEX.out.2.below ((Below.refl _ _).drew)⟩) ?_ (fun jq ww ww' u hk h hR=>match u,hk,h with | 0,hk,h=>(h.tk hR.1 (tj_rd rfl rfl (by intro e;simp [e] at hk) (by intro e;simp [e] at hk))) | 1,hk,h=>(h.tk hR.1 (tj_else rfl rfl rfl _) (tj_else rfl rfl rfl _) (tj_row rfl rfl (by simpa using hk))) | 2,hk,h=>(hR.1.blk _ _ _ h (tj_own rfl rfl (by simpa using hk))) | 3,hk,h=>(by by_cases h3:jq=3;exact .inr (hR.2.1 h3);exact h.imp (fun h=>h.tk hR.1 (tj_rd rfl rfl h3 (by simpa using hk))) (fun h=>h.tk hR.1 (tj_rd rfl rfl h3 (by simpa using hk)))) | _+4,hk,h=>(⟨(by by_cases h10:jq=10;exact (hR.2.2.2 h10).keep h.1 hq2;exact hR.1.blk _ _ _ h.1 (tj_own rfl rfl h10)),h.2.tk hR.1 (tj_else rfl rfl rfl _) (tj_else rfl rfl rfl _) (tj_else rfl rfl rfl _)⟩)) ?_ ?_
      ·intro q r v w w' hne hk hlt h hR
       match r,hk,hlt,h,hne with
       | 0,_,_,h,_=>exact h
       | 1,_,_,h,_=>exact h
       | 2,_,_,h,_=>exact h
       | 3,hk,hlt,h,hne=>
        by_cases h5:q=5
        ·exact⟨h.1, .inr (hR.2.2.1 h5).2⟩
        by_cases h3:q=3
        ·exact absurd h3 (by intro e;subst e;first | exact absurd hlt (by decide+kernel) | exact absurd rfl hne | simp at hk)
        exact⟨h.1,h.2.imp (fun h=>h.tk hR.1 (tj_rd rfl rfl h3 h5)) (fun h=>h.tk hR.1 (tj_rd rfl rfl h3 h5))⟩
       | 4,_,_,h,_=>exact h
       | 5,hk,hlt,h,hne=>
        by_cases h3:q=3
        ·exact absurd h3 (by intro e;subst e;first | exact absurd hlt (by decide+kernel) | exact absurd rfl hne | simp at hk)
        by_cases h5:q=5
        ·exact absurd h5 (by intro e;subst e;first | exact absurd hlt (by decide+kernel) | exact absurd rfl hne | simp at hk)
        exact⟨(h.1.tk hR.1 (tj_else rfl rfl rfl _) (tj_else rfl rfl rfl _)),h.2.tk hR.1 (tj_rd rfl rfl h3 h5)⟩
       | 6,hk,hlt,h,hne=>
        obtain⟨a3,n3,c3,b3,m3,d3,e1,k1⟩:=h
        exact⟨_,_,_,_,_,_,e1,k1.tk hR.1 (tj_else rfl rfl rfl _) (tj_else rfl rfl rfl _)⟩
       | 7,hk,hlt,h,hne=>
        by_cases h8:q=8
        ·exact absurd h8 (by intro e;subst e;first | exact absurd hlt (by decide+kernel) | exact absurd rfl hne | simp at hk)
        obtain⟨a3,n3,c3,b3,m3,d3,g7,e1,e2,k1⟩:=h
        exact⟨_,_,_,_,_,_,_,e1,hR.1.blk _ _ _ e2 (tj_row rfl rfl h8),k1.tk hR.1 (tj_else rfl rfl rfl _) (tj_else rfl rfl rfl _)⟩
       | 8,hk,hlt,h,hne=>
        by_cases h8:q=8
        ·exact absurd h8 (by intro e;subst e;first | exact absurd hlt (by decide+kernel) | exact absurd rfl hne | simp at hk)
        obtain⟨a,cc,e1,k1⟩:=h
        exact⟨a,cc,e1,k1.tk hR.1 (tj_else rfl rfl rfl _) (tj_else rfl rfl rfl _) (tj_row rfl rfl h8)⟩
       | 9,_,_,h,_=>exact h
       | 10,hk,hlt,h,hne=>
        by_cases h8:q=8
        ·exact absurd h8 (by intro e;subst e;first | exact absurd hlt (by decide+kernel) | exact absurd rfl hne | simp at hk)
        by_cases h10:q=10
        ·exact absurd h10 (by intro e;subst e;first | exact absurd hlt (by decide+kernel) | exact absurd rfl hne | simp at hk)
        obtain⟨a,cc,e1,k1,k2⟩:=h
        exact⟨a,cc,hR.1.blk _ _ _ e1 (tj_own rfl rfl h10),k1.tk hR.1 (tj_else rfl rfl rfl _) (tj_else rfl rfl rfl _) (tj_row rfl rfl h8),⟨(by by_cases h10:q=10;exact (hR.2.2.2 h10).keep k2.1 hq2;exact hR.1.blk _ _ _ k2.1 (tj_own rfl rfl h10)),k2.2.tk hR.1 (tj_else rfl rfl rfl _) (tj_else rfl rfl rfl _) (tj_else rfl rfl rfl _)⟩⟩
       | _+11,_,_,_,_=>trivial
      ·refine⟨?_, ?_, ?_, ?_, ?_, ?_, ?_, ?_, ?_, ?_, ?_,trivial⟩
       ·intro x wx hG
        have f6:=hG.o 6
        replace hG:=hG.good
        go_wp2
        exact⟨_,rfl,rfl,hG,⟨TKeep.refl _ _,fun h=>zd h,fun h=>zd h,fun h=>zd h⟩⟩
       ·intro x wx hG
        have g0:(x.tmps.getD 94 undef)= .pointer (some ⟨BB,3,none⟩):=hG.c 0 _ rfl
        have hp2:=hG.p 2
        replace hG:=hG.good
        have c0:=cell_of_block (j:=3) hp2 rfl
        clear hp2
        go_wp2
        exact⟨_,rfl,rfl,hG,⟨TKeep.refl _ _,fun h=>zd h,fun h=>zd h,fun h=>zd h⟩⟩
       ·intro x wx hG
        have f5:=hG.o 5
        replace hG:=hG.good
        go_wp2
        exact⟨_,rfl,rfl,hG,⟨TKeep.refl _ _,fun h=>zd h,fun h=>zd h,fun h=>zd h⟩⟩
       ·intro x wx hG
        have g2:(x.tmps.getD 96 undef)= .pointer (some ⟨BR,0,none⟩):=hG.c 2 _ rfl
        have hp0:=hG.p 0
        replace hG:=hG.good
        have HP:=jD hp0
        go_wp2_with fail
        (with_reducible refine(HC1.out _ HP.out).mono ?_)
        rintro e wq ⟨rfl,h1,h2⟩
        have H1:=jD h1
        have H2:=jD h2
        clear h1 h2
        go_wp2
        exact⟨_,rfl,⟨rfl, .inl H1.out⟩,hG.trans H2.out,⟨TKeep.of_rk H2.out HP.out (by decide),fun _=>H1.out,fun h=>zd h,fun h=>zd h⟩⟩
       ·intro x wx hG
        have f5:=hG.o 5
        replace hG:=hG.good
        go_wp2
        exact⟨_,rfl,rfl,hG,⟨TKeep.refl _ _,fun h=>zd h,fun h=>zd h,fun h=>zd h⟩⟩
       ·intro x wx hG
        have g4:(x.tmps.getD 98 undef)= .pointer (some ⟨BR,0,none⟩):=hG.c 4 _ rfl
        have g3:((x.tmps.getD 97 undef)= .string id)∧(RdSt BR t1 c1 wx∨RdSt BR t2 c2 wx):=hG.c 3 _ rfl
        have hp3:=hG.p 3
        replace hG:=hG.good
        have HP:=jD (Rd.mid HRA.out HRB.out g3.2 hp3)
        go_wp2_with fail
        (with_reducible refine(HC2.out _ HP.out).mono ?_)
        rintro e wq ⟨ua,xa,rfl,h3,h1,h2⟩
        have H1:=jD h1
        have H2:=jD h2
        obtain⟨aa,ac,hua⟩:=owns_slice h3.vec
        obtain⟨ba,bc,hxa⟩:=owns_slice h3.more
        subst hua hxa
        have H3:=jD (KnOwn.mono h3 hG.size)
        clear h1 h2 h3
        go_wp2
        exact⟨_,rfl,⟨⟨_,_,_,_,_,_,rfl,H3.out⟩,H1.out⟩,hG.trans H2.out,⟨TKeep.of_rk H2.out HP.out (by decide),fun h=>zd h,fun _=>⟨HP.out,H1.out⟩,fun h=>zd h⟩⟩
       ·intro x wx hG
        have g3:((x.tmps.getD 97 undef)= .string id)∧(RdSt BR t1 c1 wx∨RdSt BR t2 c2 wx):=hG.c 3 _ rfl
        have g5:(KnP wx w.heap.size (x.tmps.getD 99 undef) kk)∧RdSt BR t2 c2 wx:=hG.c 5 _ rfl
        replace hG:=hG.good
        obtain⟨g3, -⟩:=g3
        have g3b:=gd g3
        obtain⟨⟨ka,kn,kc,kb,km,kd,g5,hk5⟩, -⟩:=g5
        have HK5:=jD hk5
        clear hk5
        have g5b:=gd g5
        go_wp2
        exact⟨_,rfl,⟨_,_,_,_,_,_,rfl,HK5.out⟩,hG,⟨TKeep.refl _ _,fun h=>zd h,fun h=>zd h,fun h=>zd h⟩⟩
       ·intro x wx hG
        have g6: ∃(a3:Option Addr) (n3 c3:Nat) (b3:Option Addr) (m3 d3:Nat),(x.tmps.getD 100 undef)= .agg #[.string id, .slice a3 n3 c3, .slice b3 m3 d3]∧KnOwn wx w.heap.size (.slice a3 n3 c3) (.slice b3 m3 d3) kk:=hG.c 6 _ rfl
        replace hG:=hG.good
        obtain⟨a3,n3,c3,b3,m3,d3,g6,hk5⟩:=g6
        have HK5:=jD hk5
        clear hk5
        have g6b:=gd g6
        go_wp2
        exact⟨_,rfl,⟨_,_,_,_,_,_,_,rfl,alloc_new _ _ _ _ rfl,HK5.out.below (bal _)⟩,hG.trans (RKeep.of_below (bal _)),⟨TKeep.of_below (bal _),fun h=>zd h,fun h=>zd h,fun h=>zd h⟩⟩
       ·intro x wx hG
        have g1:(x.tmps.getD 95 undef)= .slice ga gl.length gc:=hG.c 1 _ rfl
        have g7: ∃(a3:Option Addr) (n3 c3:Nat) (b3:Option Addr) (m3 d3:Nat),∃g7,(x.tmps.getD 101 undef)= .slice (some ⟨g7,0,none⟩) 1 1∧wx.heap[g7]? =some (Obj.cells #[.string id, .slice a3 n3 c3, .slice b3 m3 d3] 101 (0,0))∧KnOwn wx w.heap.size (.slice a3 n3 c3) (.slice b3 m3 d3) kk:=hG.c 7 _ rfl
        have hp1:=hG.p 1
        replace hG:=hG.good
        obtain⟨a3,n3,c3,b3,m3,d3,g9,hg1,hg2,hk5⟩:=g7
        have HK5:=jD hk5
        clear hk5
        have hz:=g1
        have hzb:=hz
        rw[Array.getD_eq_getD_getElem?] at hzb
        have hg1b:=hg1
        rw[Array.getD_eq_getD_getElem?] at hg1b
        obtain⟨css,hp1a,hp1b⟩:=hp1
        have HE:=jD hp1a
        have H9:=jD hp1b
        clear hp1a hp1b
        have HON:=jD (show ∀u∈([.string id, .slice a3 n3 c3, .slice b3 m3 d3]:List Value),u.oneCell'=true by intro u hu;simp only[List.mem_cons,List.not_mem_nil,or_false] at hu;rcases hu with rfl | rfl | rfl <;> rfl)
        have HCL:=jD (show CellsAt wx (.slice (some ⟨g9,0,none⟩) 1 1) 1 [.string id, .slice a3 n3 c3, .slice b3 m3 d3] from CellsAt.mk (Nat.le_refl _) (by decide) (hlt_of hg2) fun j x hj=>by rw[Nat.zero_add];exact cell_of_block hg2 (by simpa using hj))
        have hbs:=hG.size
        have HG:=jD hG
        clear hG hg2
        go_wp2_with (at_builtin;apply Classical.byContradiction;intro hcon)
        refine hcon ?_
        (refine wpList_append_cells2 rfl (.tmp 95) (.tmp 101) 49 rfl w.heap.size 101 _ 3 64 Tryz.underlying49 GoneTy.info rfl (by decide) (.slice ga gl.length gc) _ _ hz H9.out (.slice (some ⟨g9,0,none⟩) 1 1) 1 _ hg1 HCL.out rfl HON.out hbs (by unfold maxLen;omega) (by omega) ?_)
        intro v' wq ho hgr
        obtain⟨qa,qc,hq⟩:=owns_slice ho
        subst hq
        have HO:=jD ho
        have HGR:=jD hgr
        clear ho hgr
        go_wp2
        exact⟨_,rfl,⟨_,_,rfl,GOwn.push (g:=⟨id,kk⟩) HE.out H9.out HK5.out HO.out HGR.out⟩,HG.out.row H9.out HGR.out (Nat.le_refl _),⟨TKeep.of_app H9.out HGR.out (by decide),fun h=>zd h,fun h=>zd h,fun h=>zd h⟩⟩
       ·intro x wx hG
        have f6:=hG.o 6
        replace hG:=hG.good
        go_wp2
        exact⟨_,rfl,rfl,hG,⟨TKeep.refl _ _,fun h=>zd h,fun h=>zd h,fun h=>zd h⟩⟩
       ·intro x wx hG
        have g9:(x.tmps.getD 103 undef)= .pointer (some ⟨BB,3,none⟩):=hG.c 9 _ rfl
        have g8: ∃a cc,(x.tmps.getD 102 undef)= .slice a (gl.length+1) cc∧GOwn wx w.heap.size (.slice a (gl.length+1) cc) (gl++[⟨id,kk⟩]):=hG.c 8 _ rfl
        have hp2:=hG.p 2
        have hp4:=hG.p 4
        replace hG:=hG.good
        obtain⟨za,zc,hz,h9⟩:=g8
        have H9:=jD h9
        clear h9
        have hzb:=hz
        rw[Array.getD_eq_getD_getElem?] at hzb
        have hc:=cell_of_block (j:=3) hp2 rfl
        have hfz:=free_of_block (j:=3) hp2
        have hbl:=hlt_of hp2
        have HP:=jD hp2
        have HP4:=jD hp4
        clear hp2 hp4
        go_wp2
        exact⟨undef,rfl,⟨za,zc,by rw[heap_set_same HP.out];rfl,H9.out.tk (TKeep.of_set HP.out (T:=tj 101 52 10) (by decide)) (tj_else rfl rfl rfl _) (tj_else rfl rfl rfl _) (tj_row rfl rfl (by decide)),⟨(RKeep.set _ _ _ _).keep HP4.out.1 hq2,HP4.out.2.tk (TKeep.of_set HP.out (T:=tj 101 52 10) (by decide)) (tj_else rfl rfl rfl _) (tj_else rfl rfl rfl _) (tj_else rfl rfl rfl _)⟩⟩,hG.setHi hqk,⟨TKeep.of_set HP.out (by decide),fun h=>zd h,fun h=>zd h,fun _=>RKeep.set _ _ _ _⟩⟩
      ·intro vals w3 hg hF
       obtain⟨g0,g1,g2,g3,g4,g5,g6,g7,g8,g9,g10, -⟩:=hF
       have e0:=gq (vals 0) g0
       have e1:=gq (vals 1) g1
       have e2:=gq (vals 2) g2
       have e4:=gq (vals 4) g4
       replace g5:(KnP w3 w.heap.size (vals 5) kk)∧RdSt BR t2 c2 w3:=g5 rfl
       have e9:=gq (vals 9) g9
       replace g10: ∃a cc,w3.heap[BB]? =some (Obj.cells #[.int .i64 v5, .int .i64 v6, .slice va LV.length vc, .slice a (gl.length+1) cc, .slice none 0 0] 52 (0,0))∧GOwn w3 w.heap.size (.slice a (gl.length+1) cc) (gl++[⟨id,kk⟩])∧(w3.heap[B2]? =some (Obj.cells #[.int .i64 0, .int .i64 0, .slice none 0 0, .slice none 0 0, .slice none 0 0] 52 (0,0))∧VOwn w3 w.heap.size (.slice va LV.length vc) LV):=g10 rfl
       simp only[Cl3.puts,e0,e1,e2,e4,e9]
       clear e0 e1 e2 e4 e9 g0 g1 g2 g3 g4 g6 g7 g8 g9
       go_simp
       generalize vals 5=u5 at*
       obtain⟨-,hrd⟩:=g5
       obtain⟨qa,qc,hk3,hrow,hk2,hvr⟩:=g10
       have HU4:=jD (show UpSt w BR B2 BB v5 v6 (.slice va LV.length vc) (.slice qa (gl.length+1) qc) (.slice none 0 0) LV (gl++[⟨id,kk⟩]) [] t2 c2 w3 from⟨hrd,hk2,hk3,hvr,hrow,POwn.nil _ _,hg⟩)
       clear hrd hk3 hrow hk2 hvr hg HC1 HC2 HRA HRB HR0 HOW HKB HEX HGK
       go_wp2
       go_roundw
       case rel=>
        refine⟨m,gl.length+1,by omega,by go_num, .slice qa (gl.length+1) qc, ?_⟩
        rw[HNX.out];exact HU4.out
       case measure=>simp [intOf] <;> omega
   | succ m=>
    have HNX:=jD (show manyR ver1 s1 b1 (k+1)=((manyR ver1 s1 b1 k).1++[(ver1 (manyR ver1 s1 b1 k).2.1 (manyR ver1 s1 b1 k).2.2).1],(ver1 (manyR ver1 s1 b1 k).2.1 (manyR ver1 s1 b1 k).2.2).2) from rfl)
    obtain⟨lv,hlv⟩: ∃lv,lv=(manyR ver1 s1 b1 k).1:=⟨_,rfl⟩
    obtain⟨sk,hsk⟩: ∃sk,sk=(manyR ver1 s1 b1 k).2.1:=⟨_,rfl⟩
    obtain⟨bk,hbk⟩: ∃bk,bk=(manyR ver1 s1 b1 k).2.2:=⟨_,rfl⟩
    rw[←hlv] at hml hst HNX
    rw[←hsk] at hms hst HNX
    rw[←hbk] at hst HNX
    clear hlv hsk hbk
    subst hml
    have hlk:lv.length≤60:=by omega
    obtain⟨id,ds,dc,tg,nm,bd,kk,t1,t2,t3,t4,t5,t6,t7,c1,c2,c3,c4,c5,c6,c7,hvc⟩:=verCall BR sk bk (by omega)
    rw[hvc.eq] at HNX
    have HVC:=jD hvc
    have HST:=jD hst
    have hmb:decide ((0:Int) < ((m+1:Nat):Int))=true:=by simp
    obtain⟨wo,hwo⟩: ∃wo,wo=wr:=⟨_,rfl⟩
    rw[←hwo] at HST ⊢
    have hbro:=hlt_of hst.rd.blk
    rw[←hwo] at hbro
    clear hst hvc hwo
    go_wp2_with fail
    (with_reducible refine(HVC.out.c0 _ HST.out.rd).mono ?_)
    rintro e wa ⟨rfl,h1,h2⟩
    have hwa:=h2.size
    have A1:=jD (show VSt wo BR wa.heap.size t1 c1 #[.string id, .int .i64 0, .int .i64 0, .int .i64 0, .int .i64 0, .int .i64 0, .slice none 0 0, .slice none 0 0] (wa.alloc (.cells #[.string id, .int .i64 0, .int .i64 0, .int .i64 0, .int .i64 0, .int .i64 0, .slice none 0 0, .slice none 0 0] 75)) from
     ⟨⟨below_keep (bal _) h1.blk⟩,alloc_new _ _ _ _ rfl,h2.trans (RKeep.of_below (bal _))⟩)
    obtain⟨VB,hVB⟩: ∃VB,VB=wa.heap.size:=⟨_,rfl⟩
    have hlo:wo.heap.size≤VB:=by omega
    have hvr:VB≠BR:=by omega
    clear h1 h2 hwa
    go_wp2_with fail
    rw[←hVB] at A1 ⊢
    generalize wa.alloc (.cells #[.string id, .int .i64 0, .int .i64 0, .int .i64 0, .int .i64 0, .int .i64 0, .slice none 0 0, .slice none 0 0] 75)=wa1 at*
    clear hVB
    (with_reducible refine(HVC.out.c1 _ A1.out.rd).mono ?_)
    rintro e wb ⟨rfl,h1,h2⟩
    have A2:=jD (A1.out.call h1 h2 hvr)
    clear h1 h2 A1
    go_wp2_with fail
    (with_reducible refine(HVC.out.c2 _ A2.out.rd).mono ?_)
    rintro e wd ⟨rfl,h1,h2⟩
    have A3:=jD (A2.out.call h1 h2 hvr)
    have x1:=cell_of_block (j:=1) A3.out.vb rfl
    have x2:=cell_of_block (j:=2) A3.out.vb rfl
    have y1:=free_of_block (j:=1) A3.out.vb
    have y2:=free_of_block (j:=2) A3.out.vb
    have hl:=hlt_of A3.out.vb
    have A4:=jD (show VSt wo BR VB t3 c3 #[.string id, .int .i64 ds, .int .i64 dc, .int .i64 0, .int .i64 0, .int .i64 0, .slice none 0 0, .slice none 0 0] ((wd.setCell ⟨VB,1,none⟩ (.int .i64 ds)).setCell ⟨VB,2,none⟩ (.int .i64 dc)) from(A3.out.set (j:=1) (x:= .int .i64 ds) hvr hlo).set (j:=2) (x:= .int .i64 dc) hvr hlo)
    clear h1 h2 A2 A3
    go_wp2_with fail
    clear x1 x2 y1 y2 hl
    generalize (wd.setCell ⟨VB,1,none⟩ (.int .i64 ds)).setCell ⟨VB,2,none⟩ (.int .i64 dc)=wd1 at*
    (with_reducible refine(HVC.out.c3 _ A4.out.rd).mono ?_)
    rintro e we ⟨rfl,h1,h2⟩
    have A5:=jD (A4.out.call h1 h2 hvr)
    clear h1 h2 A4
    go_wp2_with fail
    (with_reducible refine(HVC.out.c4 _ A5.out.rd).mono ?_)
    rintro e wf ⟨rfl,h1,h2⟩
    have A6:=jD (A5.out.call h1 h2 hvr)
    have x1:=cell_of_block (j:=3) A6.out.vb rfl
    have x2:=cell_of_block (j:=4) A6.out.vb rfl
    have y1:=free_of_block (j:=3) A6.out.vb
    have y2:=free_of_block (j:=4) A6.out.vb
    have hl:=hlt_of A6.out.vb
    have A7:=jD (show VSt wo BR VB t5 c5 #[.string id, .int .i64 ds, .int .i64 dc, .int .i64 tg, .int .i64 nm, .int .i64 0, .slice none 0 0, .slice none 0 0] ((wf.setCell ⟨VB,3,none⟩ (.int .i64 tg)).setCell ⟨VB,4,none⟩ (.int .i64 nm)) from(A6.out.set (j:=3) (x:= .int .i64 tg) hvr hlo).set (j:=4) (x:= .int .i64 nm) hvr hlo)
    clear h1 h2 A5 A6
    go_wp2_with fail
    clear x1 x2 y1 y2 hl
    generalize (wf.setCell ⟨VB,3,none⟩ (.int .i64 tg)).setCell ⟨VB,4,none⟩ (.int .i64 nm)=wf1 at*
    (with_reducible refine(HVC.out.c5 _ A7.out.rd).mono ?_)
    rintro e wg ⟨rfl,h1,h2⟩
    have A8:=jD (A7.out.call h1 h2 hvr)
    have x1:=cell_of_block (j:=5) A8.out.vb rfl
    have y1:=free_of_block (j:=5) A8.out.vb
    have hl:=hlt_of A8.out.vb
    have A9:=jD (show VSt wo BR VB t6 c6 #[.string id, .int .i64 ds, .int .i64 dc, .int .i64 tg, .int .i64 nm, .int .i64 bd, .slice none 0 0, .slice none 0 0] (wg.setCell ⟨VB,5,none⟩ (.int .i64 bd)) from A8.out.set (j:=5) (x:= .int .i64 bd) hvr hlo)
    clear h1 h2 A7 A8
    go_wp2_with fail
    clear x1 y1 hl
    generalize wg.setCell ⟨VB,5,none⟩ (.int .i64 bd)=wg1 at*
    (with_reducible refine(HVC.out.c6 _ A9.out.rd).mono ?_)
    rintro e wh ⟨ku,kx,rfl,hkn,h1,h2⟩
    have A10:=jD (A9.out.call h1 h2 hvr)
    obtain⟨ka,kc,hku⟩:=owns_slice hkn.vec
    obtain⟨kb,kd,hkx⟩:=owns_slice hkn.more
    subst hku hkx
    have x1:=cell_of_block (j:=6) A10.out.vb rfl
    have x2:=cell_of_block (j:=7) A10.out.vb rfl
    have x3:=cell_of_block (j:=0) A10.out.vb rfl
    have x4:=cell_of_block (j:=1) A10.out.vb rfl
    have x5:=cell_of_block (j:=2) A10.out.vb rfl
    have x6:=cell_of_block (j:=3) A10.out.vb rfl
    have x7:=cell_of_block (j:=4) A10.out.vb rfl
    have x8:=cell_of_block (j:=5) A10.out.vb rfl
    have y1:=free_of_block (j:=6) A10.out.vb
    have y2:=free_of_block (j:=7) A10.out.vb
    have hl:=hlt_of A10.out.vb
    have A11:=jD (show VSt wo BR VB t7 c7 (verC ⟨id,ds,dc,tg,nm,bd,kk⟩ (.slice ka kk.vec.length kc) (.slice kb kk.more.length kd)) ((wh.setCell ⟨VB,6,none⟩ (.slice ka kk.vec.length kc)).setCell ⟨VB,7,none⟩ (.slice kb kk.more.length kd)) from(A10.out.set (j:=6) (x:= .slice ka kk.vec.length kc) hvr hlo).set (j:=7) (x:= .slice kb kk.more.length kd) hvr hlo)
    have hwr:=HST.out.rk.size
    have HKN:=jD (KnOwn.set1 (j:=7) (y:= .slice kb kk.more.length kd) (KnOwn.set1 (j:=6) (y:= .slice ka kk.vec.length kc) (hkn.mono (show w.heap.size≤wg1.heap.size from Nat.le_trans hwr A9.out.rk.size)) A10.out.vb) (A10.out.set (j:=6) (x:= .slice ka kk.vec.length kc) hvr hlo).vb)
    clear h1 h2 hkn A9 A10
    have z1:=cell_of_block (j:=2) (A11.out.rk.keep HST.out.bb (by omega)) rfl
    have z2:=free_of_block (j:=2) (A11.out.rk.keep HST.out.bb (by omega))
    have z3:=hlt_of (A11.out.rk.keep HST.out.bb (by omega))
    go_wp2_with (at_builtin;apply Classical.byContradiction;intro hcon)
    have HV1:=jD (((HST.out.v.tk (A11.out.owns HST.out.rd) (by decide) (by decide) (by decide))).below (bal (.cells (verC ⟨id,ds,dc,tg,nm,bd,kk⟩ (.slice ka kk.vec.length kc) (.slice kb kk.more.length kd)) 75)))
    have HKN2:=jD (HKN.out.below (bal (.cells (verC ⟨id,ds,dc,tg,nm,bd,kk⟩ (.slice ka kk.vec.length kc) (.slice kb kk.more.length kd)) 75)))
    have HRD1:=jD (below_keep (bal (.cells (verC ⟨id,ds,dc,tg,nm,bd,kk⟩ (.slice ka kk.vec.length kc) (.slice kb kk.more.length kd)) 75)) A11.out.rd.blk)
    have HBB1:=jD (below_keep (bal (.cells (verC ⟨id,ds,dc,tg,nm,bd,kk⟩ (.slice ka kk.vec.length kc) (.slice kb kk.more.length kd)) 75)) (A11.out.rk.keep HST.out.bb (by omega)))
    have HB21:=jD (below_keep (bal (.cells (verC ⟨id,ds,dc,tg,nm,bd,kk⟩ (.slice ka kk.vec.length kc) (.slice kb kk.more.length kd)) 75)) (A11.out.rk.keep HST.out.b2 (by omega)))
    have HRK1:=jD ((HST.out.rk.trans A11.out.rk).trans (RKeep.of_below (bal (.cells (verC ⟨id,ds,dc,tg,nm,bd,kk⟩ (.slice ka kk.vec.length kc) (.slice kb kk.more.length kd)) 75))))
    have ROW:=jD (CellsAt.mk (w:=((wh.setCell ⟨VB,6,none⟩ (.slice ka kk.vec.length kc)).setCell ⟨VB,7,none⟩ (.slice kb kk.more.length kd)).alloc (.cells (verC ⟨id,ds,dc,tg,nm,bd,kk⟩ (.slice ka kk.vec.length kc) (.slice kb kk.more.length kd)) 75)) (b:=((wh.setCell ⟨VB,6,none⟩ (.slice ka kk.vec.length kc)).setCell ⟨VB,7,none⟩ (.slice kb kk.more.length kd)).heap.size) (off:=0) (n:=1) (cap:=1) (xs:=(verC ⟨id,ds,dc,tg,nm,bd,kk⟩ (.slice ka kk.vec.length kc) (.slice kb kk.more.length kd)).toList) (Nat.le_refl _) (by decide) (by simp) (fun j x hj=>by
     rw[Nat.zero_add,World.cell?_alloc_at _ _ _ _ rfl];simpa using hj))
    obtain⟨css,e1,e2⟩:=HV1.out
    have E1:=jD e1
    have E2:=jD e2
    have hsz:=HRK1.out.size
    clear e1 e2 HV1
    refine hcon ?_
    (refine wpList_append_cells2 rfl (.tmp 83) (.tmp 85) 48 rfl w.heap.size 75 _ 8 104 Tryz.underlying48 VerTy.info rfl (by decide) (.slice va lv.length vc) lv.length _ (by simp[go_sem]) E2.out _ 1 _ (by simp[go_sem]) ROW.out rfl (by intro z hz;simp [verC] at hz;rcases hz with rfl | rfl | rfl | rfl | rfl | rfl | rfl | rfl <;> rfl) hsz (by unfold maxLen;omega) (by omega) ?_)
    intro v9 w9 ho hgr
    obtain⟨qa,qc,hq⟩:=owns_slice ho
    subst hq
    have HV2:=jD (VOwn.push (x:=⟨id,ds,dc,tg,nm,bd,kk⟩) E1.out E2.out HKN2.out ho hgr)
    have HBB2:=jD (grown_keep E2.out hgr HBB1.out (by decide))
    have HB22:=jD (grown_keep E2.out hgr HB21.out (by decide))
    have HRD2:=jD (grown_keep E2.out hgr HRD1.out (by decide))
    have HRK2:=jD (HRK1.out.row E2.out hgr (Nat.le_refl _))
    have z4:=cell_of_block (j:=2) HBB2.out rfl
    have z5:=free_of_block (j:=2) HBB2.out
    have z6:=hlt_of HBB2.out
    have HU2:=jD (show UpSt w BR B2 BB v5 v6 (.slice qa (lv.length+1) qc) (.slice none 0 0) (.slice none 0 0) (lv++[⟨id,ds,dc,tg,nm,bd,kk⟩]) [] [] t7 c7 (w9.setCell ⟨BB,2,none⟩ (.slice qa (lv.length+1) qc)) from
     UpSt.of_set (j:=2) ⟨HRD2.out⟩ HB22.out HBB2.out rfl HV2.out (GOwn.nil _ _) (POwn.nil _ _) HRK2.out (by omega) (by omega) (by omega))
    clear ho hgr hcon z1 z2 z3 x1 x2 x3 x4 x5 x6 x7 x8 y1 y2 hl hsz
    go_wp2
    go_roundw
    case rel=>
     refine⟨m,lv.length+1,by omega,by go_num, .slice qa (lv.length+1) qc, ?_⟩
     rw[HNX.out];exact HU2.out
    case measure=>simp [intOf] <;> omega
end Go.Proofs.YtgkgdedhicnohaaGreat
