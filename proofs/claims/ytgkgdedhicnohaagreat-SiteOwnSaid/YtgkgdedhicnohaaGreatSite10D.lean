/- A site makes some versions (reedkeep.makes), and what it holds then, as a function. Printed by gen/site10d.py out of XSite10. -/
import Derived.Test.YtgkgdedhicnohaaGreatMSiteD
namespace Go.Proofs.YtgkgdedhicnohaaGreat
set_option maxRecDepth 100000
set_option maxHeartbeats 40000000
open Go.RowKit
def mkOne (s:SiteS) (c:List Int):SiteS:=match c with
 | x0::x1::x2::_=>madeS s (sidA (wiN x0 4)) (wiN x1 16:Nat) (wiN x2 32:Nat) (wiN x2 1000:Nat)
 | _=>s
def mkS (s:SiteS) (l:List (List Int)):SiteS:=l.foldl mkOne s
theorem mkOne_short {s:SiteS} {c:List Int} (h:c.length < 3):mkOne s c=s:=by
 match c,h with
 | [],_=>rfl
 | [_],_=>rfl
 | [_,_],_=>rfl
 | _::_::_::_,h=>simp at h;omega
theorem mkOne_long {s:SiteS} {c:List Int} {x0 x1 x2:Int} (h0:c[0]? =some x0) (h1:c[1]? =some x1) (h2:c[2]? =some x2):mkOne s c=madeS s (sidA (wiN x0 4)) (wiN x1 16:Nat) (wiN x2 32:Nat) (wiN x2 1000:Nat):=by
 match c,h0,h1,h2 with
 | _::_::_::_,h0,h1,h2=>
  simp only[List.getElem?_cons_zero,List.getElem?_cons_succ,Option.some.injEq] at h0 h1 h2
  subst h0 h1 h2;rfl
theorem mkS_next {s:SiteS} {l:List (List Int)} {n k:Nat} (hk:k < (l.take n).length):mkS s (l.take (k+1))=mkOne (mkS s (l.take k)) (l.take n)[k]:=by
 rw[List.length_take] at hk
 rw[List.getElem_take,List.take_succ_eq_append_getElem (by omega)]
 unfold mkS;rw [List.foldl_append];rfl
def MakesPostD (U:List Ver) (l:List (List Int)) (s:SiteS) (b g:Nat) (wz:World) (e:Ending) (w':World):Prop:= ∃U' s',e= .returned (.bool true)∧Grow U s U' s' 12∧s'=mkS s (l.take 12)∧SiteAt w' b g s'∧Stp (fun q=>q=g) wz w'
theorem smakesd_c (g b:Nat) (s:SiteS) (U:List Ver) (lv:Value) (l:List (List Int)) (wz:World) (h:SiteAt wz b g s) (hM:Made U s) (hU:U.length≤47) (hm:s.made≤900) (hl: ∀w',Stp (fun q=>q=g) wz w'→RowAt vecE w' lv l):
  Calls Tryz.prog 40 #[.pointer (some ⟨g,0,none⟩),lv] wz (MakesPostD U l s b g wz):=by
 have hl0:=hl wz (Stp.refl _ _)
 have hll:=hl0.len
 obtain⟨la,lc,rfl,hcap, -, -, -⟩:=hl0.open_
 obtain⟨n,hn⟩: ∃n:Nat,n=min l.length 12:=⟨_,rfl⟩
 have hn1:n≤l.length:=by omega
 have hn2:n≤12:=by omega
 have hn3:n≤lc:=by omega
 have hmin:min (l.length:Int) 12=(n:Int):=by omega
 have HL:=jD (fun w' (hs:Stp (fun q=>q=g) wz w')=>RowAt.take (hl w' hs) n hn1)
 have HS0:=jD h
 have HM0:=jD (Grow.refl hM)
 have HGL:=jD h.lt
 have HTK:=jD (show l.take n=l.take 12 by rw[hn];simp [List.take_eq_take_iff];omega)
 clear h hM hl hl0 hn
 go_enter Tryz.func40,Tryz.ntmps40
 go_wp2
 go_loopw [15] (fun i wr=> ∃k:Nat,k≤n∧i= .int .i64 k∧ ∃U' s',Grow U s U' s' k∧s'=mkS s (l.take k)∧SiteAt wr b g s'∧Stp (fun q=>q=g) wz wr) (fun i _=>n - (intOf i).toNat)
 case atStart=>exact ⟨0,Nat.zero_le _,rfl,U,s,HM0.out,rfl,HS0.out,Stp.refl _ _⟩
 case round=>
  obtain⟨k,hk,rfl,U',s',hgr,hmk,hsa,hst⟩:=hrel
  have HMS:=jD hmk
  clear hmk
  by_cases hlt:k < n
  rotate_left
  ·obtain rfl:k=n:=by omega
   have hkb:decide ((k:Int) < (k:Int))=false:=by simp
   go_wp2
   go_ret
   exact⟨_,_,rfl,hgr.up hn2,by rw[HMS.out,HTK.out],hsa,hst⟩
  have hkb:decide ((k:Int) < (n:Int))=true:=by simp;omega
  have HLr:=jD (HL.out wr hst)
  obtain⟨a',cap',ha', -, -, -,hvl2⟩:=HLr.out.open_
  simp only[Value.slice.injEq] at ha'
  obtain⟨hla, -,hlc⟩:=ha'
  have hltk:k < (l.take n).length:=by rw[List.length_take];omega
  rcases hvl2 with hnil | ⟨b7,off,ha7,hb,hc⟩
  ·rw[hnil] at hltk;simp at hltk
  rw[ha7] at hla
  subst hla
  obtain⟨c,⟨u,rfl,hu⟩,hcc⟩:=hc k hltk
  have c1:wr.cell? ⟨b7,off+k,none⟩=some u:=by have:=hcc 0 u rfl;simpa [vecE] using this
  have HNX:=jD (mkS_next (s:=s) hltk)
  rw[←HMS.out] at HNX
  generalize (l.take n)[k]=cs at*
  have HSA:=jD hsa
  have HGR:=jD hgr
  have HST:=jD hst
  obtain⟨ua,uc,hus⟩:=hu.shape
  subst hus
  have HU:=jD hu
  clear hc hcc hsa hgr hst hu HLr ha7 hlc
  by_cases h3:cs.length < 3
  ·have hd:decide ((cs.length:Int) < 3)=true:=by simp;omega
   go_wp2
   go_roundw
   case rel=>exact ⟨k+1,by omega,by go_num,U',s',HGR.out.up (by omega),by rw[HNX.out,mkOne_short h3],HSA.out,HST.out⟩
   case measure=>simp [intOf] <;> omega
  have hd:decide ((cs.length:Int) < 3)=false:=by simp;omega
  obtain⟨cb,coff,cc,hcs,hcb,x0,x1,x2,q0,q1,q2,r0,r1,r2⟩:=three_ints HU.out (by omega)
  simp only[Value.slice.injEq,true_and] at hcs
  obtain⟨rfl,rfl⟩:=hcs
  obtain⟨k0,hk0⟩: ∃k0,k0=wiN x0 4:=⟨_,rfl⟩
  obtain⟨k1,hk1⟩: ∃k1,k1=wiN x1 16:=⟨_,rfl⟩
  obtain⟨k2,hk2⟩: ∃k2,k2=wiN x2 32:=⟨_,rfl⟩
  obtain⟨k3,hk3⟩: ∃k3,k3=wiN x2 1000:=⟨_,rfl⟩
  have hk04:k0 < 4:=by rw[hk0];exact wiN_lt x0 4 (by decide)
  have hk116:k1 < 16:=by rw[hk1];exact wiN_lt x1 16 (by decide)
  have hk232:k2 < 32:=by rw[hk2];exact wiN_lt x2 32 (by decide)
  have hk31:k3 < 1000:=by rw[hk3];exact wiN_lt x2 1000 (by decide)
  have HW0:=jD (fun (y:World)=>wiN_c x0 4 y (by decide) (by decide))
  have HW1:=jD (fun (y:World)=>wiN_c x1 16 y (by decide) (by decide))
  have HW2:=jD (fun (y:World)=>wiN_c x2 32 y (by decide) (by decide))
  have HW3:=jD (fun (y:World)=>wiN_c x2 1000 y (by decide) (by decide))
  rw[←hk0] at HW0
  rw[←hk1] at HW1
  rw[←hk2] at HW2
  rw[←hk3] at HW3
  have HK0:=jD hk04
  have HNM:=jD (names4 hk04)
  have HX0:=jD q0
  have HX1:=jD q1
  have HX2:=jD q2
  have hgl:=HGR.out.len
  obtain⟨hez,hstep⟩:=HGR.out.step HSA.out.ok (by omega) (by omega) (sidA_ok k0) (madeB_ok hk116 hk232 (show k3≤1000000 by omega))
  obtain⟨d0,hd0⟩: ∃d0,d0=s'.me:=⟨_,rfl⟩
  obtain⟨d1,hd1⟩: ∃d1,d1=s'.made+1:=⟨_,rfl⟩
  obtain⟨s9,hs9⟩: ∃s9,s9=madeS s' (sidA k0) k1 k2 k3:=⟨_,rfl⟩
  have HMK:=jD (fun (wx:World) (hx:SiteAt wx b g s')=>show Calls Tryz.prog 17 #[.pointer (some ⟨g,0,none⟩), .string (sidA k0), .agg #[.int .i64 (k1:Nat), .int .i64 (k2:Nat)], .int .i64 (k3:Nat)] wx fun e w'=>e= .returned (.tuple #[.agg #[.int .i64 d0, .int .i64 d1], .int .i64 0])∧SiteAt w' b g s9∧Stp (fun q=>q=g) wx w' from
   (smake_c g b s' (sidA k0) k1 k2 k3 wx hx).mono fun e w' hh=>by
    obtain⟨h1,h2,h3⟩:=hh
    rw[if_pos hez,if_pos hez,hez,←hd0,←hd1] at h1
    rw[←hs9] at h2
    exact⟨h1,h2,h3⟩)
  rw[←hs9] at hstep
  have HE9:=jD (show s9=mkS s (l.take (k+1)) by rw[HNX.out,mkOne_long r0 r1 r2,hs9,hk0,hk1,hk2,hk3])
  clear r0 r1 r2 HNX HMS
  have HSTEP:=jD hstep
  have HS:=jD HSA.out
  have HLT:=jD HSA.out.lt
  clear hez hstep hd0 hd1 hs9 hk0 hk1 hk2 hk3 q0 q1 q2 hk04 hk116 hk232 hk31 hgl HSA HGR HU
  go_wp2_with fail
  refine Cl2.region0 50 rfl [21,26] (fun w=>Below wr.heap.size wr w) (fun jq=>match jq with | 1=>[21,26] | 6=>[21,26] | 25=>[26] | _=>[]) (fun jq v ww=>match jq with | 0=>v= .pointer (some ⟨g,0,none⟩) | 1=>StrRow ww wr.heap.size 4 #[.string { data:= #[97] }, .string { data:= #[98] }, .string { data:= #[99] }, .string { data:= #[100] }] v | 2=>v= .slice (some ⟨cb,coff,none⟩) cs.length uc | 3=>v= .pointer (some ⟨cb,coff,none⟩) | 4=>v= .int .i64 x0 | 5=>v= .int .i64 (k0:Nat) | 6=>StrPt ww wr.heap.size k0 #[.string { data:= #[97] }, .string { data:= #[98] }, .string { data:= #[99] }, .string { data:= #[100] }] v | 7=>v= .string (sidA k0) | 8=>v= .slice (some ⟨cb,coff,none⟩) cs.length uc | 9=>v= .pointer (some ⟨cb,coff+1,none⟩) | 10=>v= .int .i64 x1 | 11=>v= .int .i64 (k1:Nat) | 12=>v= .slice (some ⟨cb,coff,none⟩) cs.length uc | 13=>v= .pointer (some ⟨cb,coff+2,none⟩) | 14=>v= .int .i64 x2 | 15=>v= .int .i64 (k2:Nat) | 16=>v= .agg #[.int .i64 (k1:Nat), .int .i64 (k2:Nat)] | 17=>v= .slice (some ⟨cb,coff,none⟩) cs.length uc | 18=>v= .pointer (some ⟨cb,coff+2,none⟩) | 19=>v= .int .i64 x2 | 20=>v= .int .i64 (k3:Nat) | 21=>SiteAt ww b g s9∧v= .tuple #[.agg #[.int .i64 d0, .int .i64 d1], .int .i64 0] | 22=>v= .tuple #[.agg #[.int .i64 d0, .int .i64 d1], .int .i64 0] | 23=>v= .agg #[.int .i64 d0, .int .i64 d1] | 24=>v= .int .i64 0 | 25=>DotNew ww wr.heap.size v | 26=>DotIs ww wr.heap.size d0 d1 v | 27=>v= .int .i64 0 | _=>True) (fun ww=>Stp (fun qq=>qq=g) wr ww) (fun jq ww ww'=>(jq≠21→jq≠26→Below ww.heap.size ww ww')∧(jq=21→Stp (fun qq=>qq=g) ww ww')∧(jq=26→DotSet wr.heap.size ww ww')) Tryz.mixed (by decide+kernel) (Stp.refl _ _).drew ((Below.refl _ _).drew) ?_ (fun q w w' hk h hR=>bstep h (hR.1 (by intro e;subst e;exact absurd hk (by decide)) (by intro e;subst e;exact absurd hk (by decide)))) ?_ ?_
  ·intro q r v w w' hne hk hlt h hR
   match r,hk,hlt,h,hne with
   | 0,_,_,h,_=>exact h
   | 1,hk,hlt,h,hne=>
    exact h.below (hR.1 (by intro e;subst e;first | exact absurd hlt (by decide+kernel) | exact absurd rfl hne | simp at hk) (by intro e;subst e;first | exact absurd hlt (by decide+kernel) | exact absurd rfl hne | simp at hk))
   | 2,_,_,h,_=>exact h
   | 3,_,_,h,_=>exact h
   | 4,_,_,h,_=>exact h
   | 5,_,_,h,_=>exact h
   | 6,hk,hlt,h,hne=>
    exact h.below (hR.1 (by intro e;subst e;first | exact absurd hlt (by decide+kernel) | exact absurd rfl hne | simp at hk) (by intro e;subst e;first | exact absurd hlt (by decide+kernel) | exact absurd rfl hne | simp at hk))
   | 7,_,_,h,_=>exact h
   | 8,_,_,h,_=>exact h
   | 9,_,_,h,_=>exact h
   | 10,_,_,h,_=>exact h
   | 11,_,_,h,_=>exact h
   | 12,_,_,h,_=>exact h
   | 13,_,_,h,_=>exact h
   | 14,_,_,h,_=>exact h
   | 15,_,_,h,_=>exact h
   | 16,_,_,h,_=>exact h
   | 17,_,_,h,_=>exact h
   | 18,_,_,h,_=>exact h
   | 19,_,_,h,_=>exact h
   | 20,_,_,h,_=>exact h
   | 21,hk,hlt,h,hne=>
    by_cases e:q=26
    ·exact⟨h.1.dot (hR.2.2 e) (by exact HLT.out),h.2⟩
    ·exact⟨h.1.below (hR.1 (by exact hne) e),h.2⟩
   | 22,_,_,h,_=>exact h
   | 23,_,_,h,_=>exact h
   | 24,_,_,h,_=>exact h
   | 25,hk,hlt,h,hne=>
    by_cases e:q=21
    ·exact h.stp (hR.2.1 e) (by exact HLT.out)
    ·exact h.below (hR.1 e (by simpa using hk))
   | 26,hk,hlt,h,hne=>
    exact h.below (hR.1 (by intro e;subst e;first | exact absurd hlt (by decide+kernel) | exact absurd rfl hne | simp at hk) (by intro e;subst e;first | exact absurd hlt (by decide+kernel) | exact absurd rfl hne | simp at hk))
   | 27,_,_,h,_=>exact h
   | _+28,_,_,_,_=>trivial
  ·refine⟨?_, ?_, ?_, ?_, ?_, ?_, ?_, ?_, ?_, ?_, ?_, ?_, ?_, ?_, ?_, ?_, ?_, ?_, ?_, ?_, ?_, ?_, ?_, ?_, ?_, ?_, ?_, ?_,trivial⟩
   ·intro x wx hG
    have f0:=hG.o 0
    replace hG:=hG.good
    go_wp2
    exact⟨_,rfl,rfl,hG,⟨fun _ _=>Below.refl _ _,fun h=>zd h,fun h=>zd h⟩⟩
   ·intro x wx hG
    have hp:=hG.p
    replace hG:=hG.good
    go_wp2
    exact⟨_,rfl,⟨_,rfl,alloc_new _ _ _ _ rfl,hp.size⟩,hG.below (bal _),⟨fun _ _=>bal _,fun h=>zd h,fun h=>zd h⟩⟩
   ·intro x wx hG
    have f6:=hG.o 6
    replace hG:=hG.good
    go_wp2
    exact⟨_,rfl,rfl,hG,⟨fun _ _=>Below.refl _ _,fun h=>zd h,fun h=>zd h⟩⟩
   ·intro x wx hG
    have g2:(x.tmps.getD 25 undef)= .slice (some ⟨cb,coff,none⟩) cs.length uc:=hG.c 2 _ rfl
    have g2b:=gd g2
    replace hG:=hG.good
    go_wp2
    exact⟨_,rfl,rfl,hG,⟨fun _ _=>Below.refl _ _,fun h=>zd h,fun h=>zd h⟩⟩
   ·intro x wx hG
    have g3:(x.tmps.getD 26 undef)= .pointer (some ⟨cb,coff,none⟩):=hG.c 3 _ rfl
    have g3b:=gd g3
    have hp:=hG.p
    replace hG:=hG.good
    have c_HX0:=ckeep hp HX0.out
    go_wp2
    exact⟨_,rfl,rfl,hG,⟨fun _ _=>Below.refl _ _,fun h=>zd h,fun h=>zd h⟩⟩
   ·intro x wx hG
    have g4:(x.tmps.getD 27 undef)= .int .i64 x0:=hG.c 4 _ rfl
    have g4b:=gd g4
    replace hG:=hG.good
    go_wp2_with fail
    (with_reducible refine(HW0.out wx).mono ?_)
    rintro e wq ⟨rfl,hb⟩
    have HBB:=jD hb
    clear hb
    go_wp2
    exact⟨_,rfl,rfl,hG.below HBB.out,⟨fun _ _=>HBB.out,fun h=>zd h,fun h=>zd h⟩⟩
   ·intro x wx hG
    have g1:StrRow wx wr.heap.size 4 #[.string { data:= #[97] }, .string { data:= #[98] }, .string { data:= #[99] }, .string { data:= #[100] }] (x.tmps.getD 24 undef):=hG.c 1 _ rfl
    have g5:(x.tmps.getD 28 undef)= .int .i64 (k0:Nat):=hG.c 5 _ rfl
    have g5b:=gd g5
    replace hG:=hG.good
    obtain⟨q,hv,hq,hlo⟩:=g1
    have hvb:=hv
    rw[Array.getD_eq_getD_getElem?] at hvb
    have hk0:=HK0.out
    have hk1:(k0:Int) < 4:=by omega
    have HQ:=jD (And.intro hq hlo)
    clear hq hlo
    go_wp2
    exact⟨_,rfl,⟨q,by simp,HQ.out.1,HQ.out.2⟩,hG,⟨fun _ _=>Below.refl _ _,fun h=>zd h,fun h=>zd h⟩⟩
   ·intro x wx hG
    have g6:StrPt wx wr.heap.size k0 #[.string { data:= #[97] }, .string { data:= #[98] }, .string { data:= #[99] }, .string { data:= #[100] }] (x.tmps.getD 29 undef):=hG.c 6 _ rfl
    replace hG:=hG.good
    obtain⟨q,hv,hq,hlo⟩:=g6
    have hvb:=hv
    rw[Array.getD_eq_getD_getElem?] at hvb
    have hcq:=cell_of_block (j:=k0) hq HNM.out
    clear hq hlo
    go_wp2
    exact⟨_,rfl,rfl,hG,⟨fun _ _=>Below.refl _ _,fun h=>zd h,fun h=>zd h⟩⟩
   ·intro x wx hG
    have f6:=hG.o 6
    replace hG:=hG.good
    go_wp2
    exact⟨_,rfl,rfl,hG,⟨fun _ _=>Below.refl _ _,fun h=>zd h,fun h=>zd h⟩⟩
   ·intro x wx hG
    have g8:(x.tmps.getD 31 undef)= .slice (some ⟨cb,coff,none⟩) cs.length uc:=hG.c 8 _ rfl
    have g8b:=gd g8
    replace hG:=hG.good
    go_wp2
    exact⟨_,rfl,rfl,hG,⟨fun _ _=>Below.refl _ _,fun h=>zd h,fun h=>zd h⟩⟩
   ·intro x wx hG
    have g9:(x.tmps.getD 32 undef)= .pointer (some ⟨cb,coff+1,none⟩):=hG.c 9 _ rfl
    have g9b:=gd g9
    have hp:=hG.p
    replace hG:=hG.good
    have c_HX1:=ckeep hp HX1.out
    go_wp2
    exact⟨_,rfl,rfl,hG,⟨fun _ _=>Below.refl _ _,fun h=>zd h,fun h=>zd h⟩⟩
   ·intro x wx hG
    have g10:(x.tmps.getD 33 undef)= .int .i64 x1:=hG.c 10 _ rfl
    have g10b:=gd g10
    replace hG:=hG.good
    go_wp2_with fail
    (with_reducible refine(HW1.out wx).mono ?_)
    rintro e wq ⟨rfl,hb⟩
    have HBB:=jD hb
    clear hb
    go_wp2
    exact⟨_,rfl,rfl,hG.below HBB.out,⟨fun _ _=>HBB.out,fun h=>zd h,fun h=>zd h⟩⟩
   ·intro x wx hG
    have f6:=hG.o 6
    replace hG:=hG.good
    go_wp2
    exact⟨_,rfl,rfl,hG,⟨fun _ _=>Below.refl _ _,fun h=>zd h,fun h=>zd h⟩⟩
   ·intro x wx hG
    have g12:(x.tmps.getD 35 undef)= .slice (some ⟨cb,coff,none⟩) cs.length uc:=hG.c 12 _ rfl
    have g12b:=gd g12
    replace hG:=hG.good
    go_wp2
    exact⟨_,rfl,rfl,hG,⟨fun _ _=>Below.refl _ _,fun h=>zd h,fun h=>zd h⟩⟩
   ·intro x wx hG
    have g13:(x.tmps.getD 36 undef)= .pointer (some ⟨cb,coff+2,none⟩):=hG.c 13 _ rfl
    have g13b:=gd g13
    have hp:=hG.p
    replace hG:=hG.good
    have c_HX2:=ckeep hp HX2.out
    go_wp2
    exact⟨_,rfl,rfl,hG,⟨fun _ _=>Below.refl _ _,fun h=>zd h,fun h=>zd h⟩⟩
   ·intro x wx hG
    have g14:(x.tmps.getD 37 undef)= .int .i64 x2:=hG.c 14 _ rfl
    have g14b:=gd g14
    replace hG:=hG.good
    go_wp2_with fail
    (with_reducible refine(HW2.out wx).mono ?_)
    rintro e wq ⟨rfl,hb⟩
    have HBB:=jD hb
    clear hb
    go_wp2
    exact⟨_,rfl,rfl,hG.below HBB.out,⟨fun _ _=>HBB.out,fun h=>zd h,fun h=>zd h⟩⟩
   ·intro x wx hG
    have g11:(x.tmps.getD 34 undef)= .int .i64 (k1:Nat):=hG.c 11 _ rfl
    have g11b:=gd g11
    have g15:(x.tmps.getD 38 undef)= .int .i64 (k2:Nat):=hG.c 15 _ rfl
    have g15b:=gd g15
    replace hG:=hG.good
    go_wp2
    exact⟨_,rfl,rfl,hG,⟨fun _ _=>Below.refl _ _,fun h=>zd h,fun h=>zd h⟩⟩
   ·intro x wx hG
    have f6:=hG.o 6
    replace hG:=hG.good
    go_wp2
    exact⟨_,rfl,rfl,hG,⟨fun _ _=>Below.refl _ _,fun h=>zd h,fun h=>zd h⟩⟩
   ·intro x wx hG
    have g17:(x.tmps.getD 40 undef)= .slice (some ⟨cb,coff,none⟩) cs.length uc:=hG.c 17 _ rfl
    have g17b:=gd g17
    replace hG:=hG.good
    go_wp2
    exact⟨_,rfl,rfl,hG,⟨fun _ _=>Below.refl _ _,fun h=>zd h,fun h=>zd h⟩⟩
   ·intro x wx hG
    have g18:(x.tmps.getD 41 undef)= .pointer (some ⟨cb,coff+2,none⟩):=hG.c 18 _ rfl
    have g18b:=gd g18
    have hp:=hG.p
    replace hG:=hG.good
    have c_HX2:=ckeep hp HX2.out
    go_wp2
    exact⟨_,rfl,rfl,hG,⟨fun _ _=>Below.refl _ _,fun h=>zd h,fun h=>zd h⟩⟩
   ·intro x wx hG
    have g19:(x.tmps.getD 42 undef)= .int .i64 x2:=hG.c 19 _ rfl
    have g19b:=gd g19
    replace hG:=hG.good
    go_wp2_with fail
    (with_reducible refine(HW3.out wx).mono ?_)
    rintro e wq ⟨rfl,hb⟩
    have HBB:=jD hb
    clear hb
    go_wp2
    exact⟨_,rfl,rfl,hG.below HBB.out,⟨fun _ _=>HBB.out,fun h=>zd h,fun h=>zd h⟩⟩
   ·intro x wx hG
    have g0:(x.tmps.getD 23 undef)= .pointer (some ⟨g,0,none⟩):=hG.c 0 _ rfl
    have g0b:=gd g0
    have g7:(x.tmps.getD 30 undef)= .string (sidA k0):=hG.c 7 _ rfl
    have g7b:=gd g7
    have g16:(x.tmps.getD 39 undef)= .agg #[.int .i64 (k1:Nat), .int .i64 (k2:Nat)]:=hG.c 16 _ rfl
    have g16b:=gd g16
    have g20:(x.tmps.getD 43 undef)= .int .i64 (k3:Nat):=hG.c 20 _ rfl
    have g20b:=gd g20
    have hp:=hG.p
    replace hG:=hG.good
    have HN:=jD (HMK.out wx (HS.out.below hp))
    go_wp2_with fail
    (with_reducible refine(HN.out).mono ?_)
    rintro e wq ⟨rfl,h1,h2⟩
    have H1:=jD h1
    have H2:=jD h2
    clear h1 h2 HN
    go_wp2
    exact⟨_,rfl,⟨H1.out,rfl⟩,hG.trans H2.out,⟨fun h _=>absurd rfl h,fun _=>H2.out,fun h=>zd h⟩⟩
   ·intro x wx hG
    have g21:SiteAt wx b g s9∧(x.tmps.getD 44 undef)= .tuple #[.agg #[.int .i64 d0, .int .i64 d1], .int .i64 0]:=hG.c 21 _ rfl
    replace hG:=hG.good
    have g21v:=g21.2
    have g21vb:=g21v
    rw[Array.getD_eq_getD_getElem?] at g21vb
    go_wp2
    exact⟨_,rfl,rfl,hG,⟨fun _ _=>Below.refl _ _,fun h=>zd h,fun h=>zd h⟩⟩
   ·intro x wx hG
    have g22:(x.tmps.getD 22 undef)= .tuple #[.agg #[.int .i64 d0, .int .i64 d1], .int .i64 0]:=hG.c 22 _ rfl
    have g22b:=gd g22
    replace hG:=hG.good
    go_wp2
    exact⟨_,rfl,rfl,hG,⟨fun _ _=>Below.refl _ _,fun h=>zd h,fun h=>zd h⟩⟩
   ·intro x wx hG
    have g22:(x.tmps.getD 22 undef)= .tuple #[.agg #[.int .i64 d0, .int .i64 d1], .int .i64 0]:=hG.c 22 _ rfl
    have g22b:=gd g22
    replace hG:=hG.good
    go_wp2
    exact⟨_,rfl,rfl,hG,⟨fun _ _=>Below.refl _ _,fun h=>zd h,fun h=>zd h⟩⟩
   ·intro x wx hG
    replace hG:=hG.good
    go_wp2
    exact⟨_,rfl,⟨_,rfl,alloc_new _ _ _ _ rfl,hG.size⟩,hG.below (bal _),⟨fun _ _=>bal _,fun h=>zd h,fun h=>zd h⟩⟩
   ·intro x wx hG
    have g25:DotNew wx wr.heap.size (x.tmps.getD 7 undef):=hG.c 25 _ rfl
    have g23:(x.tmps.getD 45 undef)= .agg #[.int .i64 d0, .int .i64 d1]:=hG.c 23 _ rfl
    have g23b:=gd g23
    replace hG:=hG.good
    obtain⟨q,hv,hq,hlo⟩:=g25
    have HV:=jD hv
    have hvb:=hv
    rw[Array.getD_eq_getD_getElem?] at hvb
    have gxb:=g23
    rw[Array.getD_eq_getD_getElem?] at gxb
    have r0:=cell_of_block (j:=0) hq rfl
    have r1:=cell_of_block (j:=1) hq rfl
    have q0:=free_of_block (j:=0) hq
    have q1:=free_of_block (j:=1) hq
    have hRl:=hlt_of hq
    have HQ:=jD hq
    have HLO:=jD hlo
    clear hq hlo
    go_wp2
    exact⟨undef,rfl,⟨q,Eq.trans (by kernel_rfl) HV.out,by rw[heap_set_same (heap_set_same HQ.out)];rfl,HLO.out⟩,DotSet.stp hG ⟨q,_,_,HLO.out,HQ.out,rfl⟩,⟨fun _ h=>absurd rfl h,fun h=>zd h,fun _=>⟨q,_,_,HLO.out,HQ.out,rfl⟩⟩⟩
   ·intro x wx hG
    have g24:(x.tmps.getD 46 undef)= .int .i64 0:=hG.c 24 _ rfl
    have g24b:=gd g24
    replace hG:=hG.good
    go_wp2
    exact⟨_,rfl,rfl,hG,⟨fun _ _=>Below.refl _ _,fun h=>zd h,fun h=>zd h⟩⟩
  ·intro vals w9 hg hF
   obtain⟨g0,g1,g2,g3,g4,g5,g6,g7,g8,g9,g10,g11,g12,g13,g14,g15,g16,g17,g18,g19,g20,g21,g22,g23,g24,g25,g26,g27, -⟩:=hF
   have e0:=gq (vals 0) g0
   have e2:=gq (vals 2) g2
   have e3:=gq (vals 3) g3
   have e4:=gq (vals 4) g4
   have e5:=gq (vals 5) g5
   have e7:=gq (vals 7) g7
   have e8:=gq (vals 8) g8
   have e9:=gq (vals 9) g9
   have e10:=gq (vals 10) g10
   have e11:=gq (vals 11) g11
   have e12:=gq (vals 12) g12
   have e13:=gq (vals 13) g13
   have e14:=gq (vals 14) g14
   have e15:=gq (vals 15) g15
   have e16:=gq (vals 16) g16
   have e17:=gq (vals 17) g17
   have e18:=gq (vals 18) g18
   have e19:=gq (vals 19) g19
   have e20:=gq (vals 20) g20
   replace g21:SiteAt w9 b g s9∧(vals 21)= .tuple #[.agg #[.int .i64 d0, .int .i64 d1], .int .i64 0]:=g21 rfl
   have e22:=gq (vals 22) g22
   have e23:=gq (vals 23) g23
   have e24:=gq (vals 24) g24
   have g26:=g26 rfl
   have e27:=gq (vals 27) g27
   simp only[Cl2.puts,e0,e2,e3,e4,e5,e7,e8,e9,e10,e11,e12,e13,e14,e15,e16,e17,e18,e19,e20,e22,e23,e24,e27]
   clear e0 e2 e3 e4 e5 e7 e8 e9 e10 e11 e12 e13 e14 e15 e16 e17 e18 e19 e20 e22 e23 e24 e27 g0 g1 g2 g3 g4 g5 g6 g7 g8 g9 g10 g11 g12 g13 g14 g15 g16 g17 g18 g19 g20 g22 g23 g24 g25 g27
   go_simp
   generalize vals 21=mk9 at*
   have HSA:=jD g21.1
   have HST2:=jD (HST.out.trans hg)
   clear g21 hg c1
   generalize vals 1=j1 at*
   generalize vals 6=j6 at*
   generalize vals 25=j9 at*
   go_wp2
   go_roundw
   case rel=>exact ⟨k+1,by omega,by go_num,_,s9,HSTEP.out,HE9.out,HSA.out,HST2.out⟩
   case measure=>simp [intOf] <;> omega
end Go.Proofs.YtgkgdedhicnohaaGreat
