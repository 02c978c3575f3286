/- Towards what desk.Run answers. -/
import Derived.Test.YtajgndoiddmbmaaGreatDoorMDkR
namespace Go.Proofs.YtajgndoiddmbmaaGreatDoor
set_option maxRecDepth 100000
set_option maxHeartbeats 40000000
open Go.RowKit
theorem Yo (w:World) (hG:Gd w.heap.size w):Calls Tryz.prog 6 #[.string ⟨#[115,104,111,119,32,33,40,35,49,124,91,50,44,57,41,41,10,99,111,117,110,116,32,35,52,10]⟩] w fun e w'=>e= .returned (.string ⟨#[111,107,32,33,40,35,49,124,91,50,44,57,41,41,10,101,114,114,111,114,32,49,10]⟩)∧Below w.heap.size w w':=by
 refine(zH Np w (by decide) hG).mono ?_;rintro e w' ⟨h1,h2, -⟩;exact⟨by rw[h1,abT],h2⟩
theorem Wu (k m:Int) (hm:1≤m):((LP k m:Nat):Int) < m:=by
 have h2:=Int.emod_lt_of_pos (k%18446744073709551616) (show 0 < m by omega);have h1:=Int.emod_nonneg (k%18446744073709551616) (show m≠0 by omega);unfold LP;omega
theorem Ej (s:ByteArray) (k:Int) (w:World) (hG:Gd w.heap.size w) (hs:s.size≤1048576):
  Calls Tryz.prog 5 #[.string s, .int .i64 k] w fun e w'=>e= .returned (.bool true)∧Below w.heap.size w w':=by
 have HG:=jD hG;have gN:=jD (Yo w hG);clear hG;go_enter Tryz.func5,Tryz.ntmps5;go_wp2_with fail
 (with_reducible refine(gN.o).mono ?_);rintro e w1 ⟨rfl,hb1⟩;have bh:=jD hb1;have Eh:=jD (Mu s 10 w1 (by omega));clear hb1 gN;obtain⟨L,hL⟩: ∃L,L=fK 10 s:=⟨_,rfl⟩
 have Md:L.length=Lib.countB s ⟨#[10]⟩+1:=by rw[hL,DN]
 have hcl:=Lib.countB_le ⟨#[10]⟩ (Nat.le_refl 1) s.size s (Nat.le_refl _);rw[←hL] at Eh;have HL:=jD hL;obtain⟨n,hn⟩: ∃n,n=L.length:=⟨_,rfl⟩
 have hn1:1≤n∧n≤1048577:=by omega
 have hns:n≤s.size+1:=by omega
 rw[←hn] at Eh;have HN:=jD hn;clear hL Md hcl hn;go_wp2_with fail
 (with_reducible refine(Eh.o).mono ?_);rintro e w2 ⟨rfl,hw2⟩;obtain⟨BL,hBL⟩: ∃B,B=w1.heap.size:=⟨_,rfl⟩
 have HST:=jD (show sB w2 BL L from⟨by rw[hw2,hBL];exact au _ _ _ _ rfl⟩);have cw:=jD (show Below w.heap.size w w2 from aj bh.o (by rw[hw2];exact aG _));rw[←hBL];clear hw2 hBL Eh bh;have HWI:=jD (abH k n w2 (by omega) (by omega));have Jn:=Wu k n (by omega);generalize LP k n=kk at*;have hkk:kk < n:=by omega
 go_wp2_with fail
 (with_reducible refine(HWI.o).mono ?_);rintro e w3 ⟨rfl,hb3⟩;have aaO:=jD (HST.o.below hb3);have eH:=jD (aj cw.o hb3);have Rq:=jD (zH s w3 (by omega) (HG.o.next eH.o));clear hb3 HWI HST cw Jn;go_wp2_with fail
 (with_reducible refine(Rq.o).mono ?_);rintro e w4 ⟨rfl,hb4, -⟩;have aaN:=jD (aaO.o.below hb4);have gp:=jD (aj eH.o hb4);clear hb4 Rq aaO eH;by_cases he:jg s=Oh
 ·have q1:=Ya (L:=[101,114,114,111,114,32,50,10]) he;clear he;generalize jg s=rs at*;go_wp2;go_ret;exact⟨rfl,gp.o⟩
 have q1:=qz (L:=[101,114,114,111,114,32,50,10]) he;have hbig:eX s=false:=by
  cases hb:eX s with
  | false=>rfl
  | true=>exact absurd (by unfold jg;rw [hb];rfl) he
 have hbg:=Lg hbig kk;have hjs:=(uF s kk).2;rw[←HL.o] at hbg hjs;have Ba:s.size≤65536:=by
  unfold eX at hbig;simp only[Bool.or_eq_false_iff,decide_eq_false_iff_not] at hbig;omega
 have htl:(L.take kk).length=kk:=by rw[List.length_take,←HN.o];omega
 have HJN:=jD (show Calls Tryz.prog 12 #[.slice (some ⟨BL,0,none⟩) kk n, .string ⟨#[]⟩] w4 fun e w'=>e= .returned (.string (dG (L.take kk)))∧Below w4.heap.size w4 w' from by
  have h:=WO BL 0 n (L.take kk) w4 (fun j hj=>by
   rw[Nat.zero_add,List.getElem_take];exact aaN.o.get (by rw[←HN.o];omega)) (ai aaN.o.blk) (by omega) (by omega) (by omega)
  rw[htl] at h;exact h)
 have hjl:(dG (L.take kk)).size < 4294967281:=by omega
 have qJ:=jD hbg;clear he hbig hbg htl hjs;generalize dG (L.take kk)=jb at*;have uK:=jD (fun (w5:World) (hb:Below w.heap.size w w5)=>zH jb w5 hjl (HG.o.next hb));have HHP:=jD (fun w6=>wj (jg s) (jg jb) w6);rw[qJ.o] at HHP;generalize jg s=rs at*;generalize jg jb=rj at*;have c0:(kk:Int)≤(n:Int):=by omega
 go_wp2_with fail
 (with_reducible refine(HJN.o).mono ?_);rintro e w5 ⟨rfl,bR⟩;have oo:=jD (aj gp.o bR);clear bR HJN gp;go_wp2_with fail
 (with_reducible refine(uK.o _ oo.o).mono ?_);rintro e w6 ⟨rfl,gP, -⟩;have wV:=jD (aj oo.o gP);clear gP uK oo;go_wp2_with fail
 (with_reducible refine(HHP.o _).mono ?_);rintro e w7 ⟨rfl,rfl⟩;go_wp2;go_ret;exact⟨rfl,wV.o⟩
end Go.Proofs.YtajgndoiddmbmaaGreatDoor
