/- What TownAlone does. Written by a small program (gen/townalone.py). -/
import Derived.Test.YtihpddhngbgcdaaGreatTownAl2
namespace Go.Proofs.YtihpddhngbgcdaaGreat
open Go.RowKit Go.Maps
structure AlSt (w2:World) (b g M k:Nat) (T:Nat→Prop) (wr:World) (D:DV) (t:TownS) (s0 s1:SiteS):Prop where
 town:TownAt wr b T g t
 way:t.way=[]
 sites:t.sites=[s0,s1]
 none:s1.L=[]
 als:AlS k D s0
 map:MapV wr M k D
 bel:Below w2.heap.size w2 wr
set_option maxRecDepth 100000 in
set_option maxHeartbeats 16000000 in
theorem TownAlone_walk (lv:Value) (l:List (List Int)) (w:World) (hl:RowAt vecE w lv l):
  Calls Tryz.prog 8 #[lv] w fun e w'=>e= .returned (.bool true)∧Below w.heap.size w w':=by
 obtain⟨la,lc,hlv,hlcap,hlm, -,hvl⟩:=hl.open_
 subst hlv
 have HL:=Lib.hid hl
 clear hl
 have hmm:= @run_makeMap Tryz.prog
 go_enter Tryz.func8,Tryz.ntmps8
 go_wp2_with fail
 (with_reducible refine(townBegun_c w).mono ?_)
 rintro e w1 ⟨rfl,hb⟩
 have HB1:=Lib.hid hb
 clear hb
 go_wp2_with fail
 (with_reducible refine(everyS w1).mono ?_)
 rintro e w2 ⟨fv,rfl,hfo,hb⟩
 have HB2:=Lib.hid (bstep HB1.out hb)
 have HFO:=Lib.hid (FOwn.at_ok hfo every_chk)
 obtain⟨fa,fc,hfv⟩:=HFO.out.shape
 subst hfv
 clear hfo hb
 go_wp2_with fail
 obtain⟨w3,hw3⟩: ∃w3,w3=w2.alloc (Obj.cells #[.slice none 0 0, .slice fa (List.length everyB) fc] 33):=⟨_,rfl⟩
 have hb3:Below w2.heap.size w2 w3:=by rw[hw3];exact bal _
 have HB3:=Lib.hid hb3
 have HRW:=Lib.hid (two_row (F:=everyB) (show w3.heap[w2.heap.size]? =_ by rw[hw3];exact alloc_new _ _ _ _ rfl) (HFO.out.below hb3))
 rw[←hw3]
 have HNW:=Lib.hid (tnew_c _ [[],everyB] (fun q=>w3.heap.size≤q) w3 HRW.out (by decide) (fun F hF=>(List.mem_cons.1 hF).elim (fun h=>by subst h;decide) (fun h=>by rw[List.mem_singleton.1 h];exact every_chk)) (fun q hq=>hq))
 clear hw3 hb3
 (with_reducible refine(HNW.out).mono ?_)
 rintro e w4 ⟨g,rfl,ht,hb⟩
 have HB4:=Lib.hid (bstep HB3.out hb)
 obtain⟨T1,hT1⟩: ∃T1:Nat→Prop,T1=fun q=>w3.heap.size≤q∧q < w4.heap.size:=⟨_,rfl⟩
 have HT1:=Lib.hid (show ∀q,T1 q→w2.heap.size≤q∧q < w4.heap.size from fun q hq=>by rw[hT1] at hq;have:=HB3.out.size;omega)
 have HTW:=Lib.hid (show TownAt w4 w3.heap.size T1 g (newT [[],everyB]) from ht.retype fun q h1 h2=>by rw[hT1];exact ⟨h2,h1⟩)
 obtain⟨n,hn⟩: ∃n,n=min l.length 20:=⟨_,rfl⟩
 have hn1:n≤l.length:=by omega
 have hn2:n≤20:=by omega
 have hn3:n≤lc:=by omega
 have hmin:min (l.length:Int) 20=(n:Int):=by omega
 have HLR:=Lib.hid (fun w' (hs:Below w2.heap.size w2 w')=>RowAt.take ((HL.out.below HB2.out).below hs) n hn1)
 have HAL:=Lib.hid (show AlSt w2 w3.heap.size g w4.heap.size 0 T1 (w4.alloc (.map #[] 0)) (.map []) (newT [[],everyB]) (newS 0 (ptsOf [])) (newS 1 (ptsOf everyB)) from
  ⟨HTW.out.below (bal _),rfl,rfl,rfl,AlS.new 0 (by decide) _,World.ownsMap_made _ _ _ _,bstep HB4.out (bal _)⟩)
 clear ht hb hT1 HNW HRW HFO hn hvl HTW HL
 go_wp2
 go_loopw [34] (fun i wr=> ∃k:Nat,k≤n∧i= .int .i64 k∧ ∃D t s0 s1,AlSt w2 w3.heap.size g w4.heap.size k T1 wr D t s0 s1) (fun i _=>n - (intOf i).toNat)
 case atStart=>exact ⟨0,Nat.zero_le _,rfl,_,_,_,_,HAL.out⟩
 case round=>
  clear HAL
  obtain⟨k,hk,rfl,D,t,s0,s1,hst⟩:=hrel
  have HST:=Lib.hid hst
  by_cases hlt:k < n
  rotate_left
  ·obtain rfl:k=n:=by omega
   have hkb:decide ((k:Int) < (k:Int))=false:=by simp
   clear hst
   have h0l:0 < t.sites.length:=by rw[HST.out.sites];exact Nat.succ_pos _
   have h1l:1 < t.sites.length:=by rw[HST.out.sites];exact Nat.lt_succ_self _
   have hs0:t.sites[0]'h0l=s0:=List.getElem_of_eq HST.out.sites _
   have hs1:t.sites[1]'h1l=s1:=List.getElem_of_eq HST.out.sites _
   have HSH0:=Lib.hid (show Calls Tryz.prog 30 #[.pointer (some ⟨g,0,none⟩), .int .i64 0] wr fun e w'=> ∃a c,e= .returned (.tuple #[.slice a s0.L.length c, .int .i64 0])∧VOwn w' wr.heap.size (.slice a s0.L.length c) s0.L∧Below wr.heap.size wr w' by rw[←hs0];exact tshelf_c _ _ _ t 0 h0l wr HST.out.town)
   have HSH1:=Lib.hid (fun (wx:World) (hx:Below wr.heap.size wr wx)=>show Calls Tryz.prog 30 #[.pointer (some ⟨g,0,none⟩), .int .i64 1] wx fun e w'=> ∃a c,e= .returned (.tuple #[.slice a 0 c, .int .i64 0])∧Below wx.heap.size wx w' from
    (tshelf_c _ _ _ t 1 h1l wx (HST.out.town.below hx)).mono fun e w' hh=>by
     obtain⟨a,c,h1, -,h3⟩:=hh
     rw[hs1,HST.out.none] at h1
     exact⟨a,c,h1,h3⟩)
   have HOK:=Lib.hid (show ShOk s0.L by obtain⟨-,⟨H,h2, -, -⟩, -⟩:=HST.out.als;exact h2.ok.L)
   have HSIZE:=Lib.hid HST.out.als.size
   have HATD:=Lib.hid HST.out.als.al.at_
   have HM:=Lib.hid HST.out.map
   have HBL:=Lib.hid HST.out.bel
   clear hs0 hs1 h0l h1l
   go_wp2_with fail
   (with_reducible refine(HSH0.out).mono ?_)
   rintro e w5 ⟨xa,xc,rfl,hx,hb5⟩
   have HX:=Lib.hid (VOwn.mono hx (Nat.zero_le _))
   have HB5:=Lib.hid hb5
   clear hx hb5 HSH0
   go_wp2_with fail
   (with_reducible refine(HSH1.out w5 HB5.out).mono ?_)
   rintro e w6 ⟨ya,yc,rfl,hb6⟩
   have HX6:=Lib.hid (HX.out.below hb6)
   have HB6:=Lib.hid (bstep HBL.out (bstep HB5.out hb6))
   have HM6:=Lib.hid (HM.out.keep fun _ ho=>below_keep (bstep HB5.out hb6) ho)
   have hlen:=HM6.out.len Tryz.underlying96 3
   rw[HSIZE.out] at hlen
   obtain⟨X,hX⟩: ∃X,X=s0.L:=⟨_,rfl⟩
   rw[←hX] at HX6 HOK HATD hlen ⊢
   have hds:((X.length:Int) != (X.length:Int))=false:=by simp
   have hx60:X.length≤60:=HOK.out.len
   clear hb6 HX HB5 HSH1 HST HSIZE HM HBL hX
   go_wp2
   go_loopw [99] (fun i wr=> ∃j:Nat,j≤X.length∧i= .int .i64 j∧Below w2.heap.size w2 wr∧VOwn wr 0 (.slice xa X.length xc) X∧MapV wr w4.heap.size k D) (fun i _=>X.length - (intOf i).toNat)
   case atStart=>exact ⟨0,Nat.zero_le _,rfl,HB6.out,HX6.out,HM6.out⟩
   case round=>
    obtain⟨j,hj,rfl,hbl,hxr,hmr⟩:=hrel
    have HBL:=Lib.hid hbl
    have HXR:=Lib.hid hxr
    have HMR:=Lib.hid hmr
    clear hbl hxr hmr HX6 HM6
    by_cases hjl:j < X.length
    rotate_left
    ·obtain rfl:j=X.length:=by omega
     have hjb:decide ((X.length:Int) < (X.length:Int))=false:=by simp
     go_wp2
     go_ret
     exact⟨rfl,bstep HB2.out HBL.out⟩
    have hjb:decide ((j:Int) < (X.length:Int))=true:=by simp;omega
    obtain⟨gx,cx,a1,n1,d1,a2,n2,d2,hsx,hgx,hkn,hcl⟩:=HXR.out.cell hjl
    simp only[Value.slice.injEq,true_and] at hsx
    obtain⟨rfl,rfl⟩:=hsx
    have HVOK:=Lib.hid (HOK.out.ok _ (List.getElem_mem hjl))
    have HAT:=Lib.hid (HATD.out _ (List.getElem_mem hjl))
    generalize X[j]=v1 at*
    have c0:=hcl 0 _ rfl
    have c1:=hcl 1 _ rfl
    have c2:=hcl 2 _ rfl
    have c3:=hcl 3 _ rfl
    have c4:=hcl 4 _ rfl
    have c5:=hcl 5 _ rfl
    have c6:=hcl 6 _ rfl
    have c7:=hcl 7 _ rfl
    rw[Nat.add_zero] at c0
    have HK1:=Lib.hid (show keyOf Tryz.prog 9 (.string v1.id)=some (kid v1.id) from WideMaps.keyOf_string_mk Tryz.underlying9 (by
     have h1:=HVOK.out.id
     unfold idOk at h1
     simp only[Bool.and_eq_true,decide_eq_true_eq] at h1
     have:=h1.1.2
     unfold maxLen;omega))
    have HMA:=Lib.hid (HMR.out.keep fun _ ho=>below_keep (bal (W:=wr) (.cells #[.string v1.id, .int .i64 v1.ds, .int .i64 v1.dc, .int .i64 v1.tg, .int .i64 v1.nm, .int .i64 v1.bd, .slice a1 n1 d1, .slice a2 n2 d2] 75)) ho)
    have hz: ∀wx,(zeroValue 41).run Tryz.prog wx= .ok (.agg #[.int .i64 0, .int .i64 0]) wx:=fun wx=>by kernel_rfl
    have HBA:=Lib.hid (bal (W:=wr) (.cells #[.string v1.id, .int .i64 v1.ds, .int .i64 v1.dc, .int .i64 v1.tg, .int .i64 v1.nm, .int .i64 v1.bd, .slice a1 n1 d1, .slice a2 n2 d2] 75))
    have e0:(wr.alloc (.cells #[.string v1.id, .int .i64 v1.ds, .int .i64 v1.dc, .int .i64 v1.tg, .int .i64 v1.nm, .int .i64 v1.bd, .slice a1 n1 d1, .slice a2 n2 d2] 75)).cell? ⟨wr.heap.size,0,none⟩=some (.string v1.id):=cell_of_block (j:=0) (alloc_new _ _ _ _ rfl) rfl
    have e1:(wr.alloc (.cells #[.string v1.id, .int .i64 v1.ds, .int .i64 v1.dc, .int .i64 v1.tg, .int .i64 v1.nm, .int .i64 v1.bd, .slice a1 n1 d1, .slice a2 n2 d2] 75)).cell? ⟨wr.heap.size,1,none⟩=some (.int .i64 v1.ds):=cell_of_block (j:=1) (alloc_new _ _ _ _ rfl) rfl
    have e2:(wr.alloc (.cells #[.string v1.id, .int .i64 v1.ds, .int .i64 v1.dc, .int .i64 v1.tg, .int .i64 v1.nm, .int .i64 v1.bd, .slice a1 n1 d1, .slice a2 n2 d2] 75)).cell? ⟨wr.heap.size,2,none⟩=some (.int .i64 v1.dc):=cell_of_block (j:=2) (alloc_new _ _ _ _ rfl) rfl
    clear hkn hcl hgx HVOK
    go_wp2_with (at_lookup;apply Classical.byContradiction;intro hcon)
    refine hcon ?_
    (refine wpList_lookup_held _ rfl _ _ 96 rfl 9 41 lawS Tryz.underlying96 (hz _) w4.heap.size _ D rfl HMA.out _ (kid v1.id) rfl HK1.out (.agg #[.int .i64 v1.ds, .int .i64 v1.dc]) HAT.out ?_)
    clear hcon
    go_wp2
    go_roundw
    case rel=>exact ⟨j+1,by omega,by go_num,bstep HBL.out HBA.out,HXR.out.below HBA.out,HMA.out⟩
    case measure=>simp [intOf] <;> omega
  have hkb:decide ((k:Int) < (n:Int))=true:=by simp;omega
  have HLr:=Lib.hid (HLR.out wr hst.bel)
  obtain⟨a',cap',ha', -, -, -,hvl2⟩:=HLr.out.open_
  simp only[Value.slice.injEq] at ha'
  obtain⟨hla, -,hlc2⟩:=ha'
  have hltk:k < (l.take n).length:=by rw[List.length_take];omega
  rcases hvl2 with hnil | ⟨b7,off,ha7,hb,hc⟩
  ·rw[hnil] at hltk;simp at hltk
  rw[ha7] at hla
  subst hla
  obtain⟨c,⟨u,rfl,hu⟩,hcc⟩:=hc k hltk
  have c1:wr.cell? ⟨b7,off+k,none⟩=some u:=by have:=hcc 0 u rfl;simpa [vecE] using this
  generalize (l.take n)[k]=cs at*
  obtain⟨ua,uc,hus⟩:=hu.shape
  subst hus
  have HU:=Lib.hid hu
  clear hc hcc hst hu HLr ha7 hlc2
  by_cases h3:cs.length < 3
  ·have hd:decide ((cs.length:Int) < 3)=true:=by simp;omega
   go_wp2
   go_roundw
   case rel=>exact ⟨k+1,by omega,by go_num,D,t,s0,s1,by have h1:=HST.out;exact ⟨h1.town,h1.way,h1.sites,h1.none,h1.als.up (by omega),h1.map.mono (by omega),h1.bel⟩⟩
   case measure=>simp [intOf] <;> omega
  have hd:decide ((cs.length:Int) < 3)=false:=by simp;omega
  obtain⟨cb,coff,cc,hcs,hcb,x0,x1,x2,q0,q1,q2, -⟩:=three_ints HU.out (by omega)
  simp only[Value.slice.injEq,true_and] at hcs
  obtain⟨rfl,rfl⟩:=hcs
  clear HU
  obtain⟨k0,hk0⟩: ∃k0,k0=wiN x0 3:=⟨_,rfl⟩
  obtain⟨k1,hk1⟩: ∃k1,k1=wiN x1 16:=⟨_,rfl⟩
  obtain⟨k2,hk2⟩: ∃k2,k2=wiN x2 32:=⟨_,rfl⟩
  have hk03:k0 < 3:=by rw[hk0];exact wiN_lt x0 3 (by decide)
  have hk116:k1 < 16:=by rw[hk1];exact wiN_lt x1 16 (by decide)
  have hk232:k2 < 32:=by rw[hk2];exact wiN_lt x2 32 (by decide)
  have HW0:=Lib.hid (fun (y:World)=>wiN_c x0 3 y (by decide) (by decide))
  have HW1:=Lib.hid (fun (y:World)=>wiN_c x1 16 y (by decide) (by decide))
  have HW2:=Lib.hid (fun (y:World)=>wiN_c x2 32 y (by decide) (by decide))
  rw[←hk0] at HW0
  rw[←hk1] at HW1
  rw[←hk2] at HW2
  have HC1:=Lib.hid q1
  have HC2:=Lib.hid q2
  have HNM:=Lib.hid (names3 hk03)
  have q0':=ckeep (bal (W:=wr) (.cells #[.string { data:= #[97] }, .string { data:= #[98] }, .string { data:= #[99] }] 9)) q0
  clear hk0 hk1 hk2 q1 q2
  go_wp2_with fail
  obtain⟨w5,hw5⟩: ∃w5,w5=wr.alloc (.cells #[.string { data:= #[97] }, .string { data:= #[98] }, .string { data:= #[99] }] 9):=⟨_,rfl⟩
  have hb5:Below wr.heap.size wr w5:=by rw[hw5];exact bal _
  have HSC:=Lib.hid (show w5.cell? ⟨wr.heap.size,k0,none⟩=some (.string (sidA k0)) from cell_of_block (j:=k0) (show w5.heap[wr.heap.size]? =_ by rw[hw5];exact alloc_new _ _ _ _ rfl) HNM.out)
  rw[←hw5]
  (with_reducible refine(HW0.out w5).mono ?_)
  rintro e w6 ⟨rfl,hb6⟩
  have hsc:=ckeep hb6 HSC.out
  have HB6:=Lib.hid (bstep hb5 hb6)
  have HX1:=Lib.hid (ckeep HB6.out HC1.out)
  have HX2:=Lib.hid (ckeep HB6.out HC2.out)
  have hki3:(k0:Int) < 3:=by omega
  clear hw5 hb5 hb6 q0 q0' c1
  have hb1z:madeB (k1:Int) (k2:Int) 1=false:=madeB_ok hk116 hk232 (show 1≤1000000 by decide)
  obtain⟨hez,hals⟩:=HST.out.als.make (id:=sidA k0) (t:=k1) (n:=k2) (bd:=1) (by omega) (sidA_ok k0) hb1z
  obtain⟨d0,hd0⟩: ∃d0,d0=s0.me:=⟨_,rfl⟩
  obtain⟨d1,hd1⟩: ∃d1,d1=s0.made+1:=⟨_,rfl⟩
  rw[←hd0,←hd1] at hals
  have h0l:0 < t.sites.length:=by rw[HST.out.sites];exact Nat.succ_pos _
  obtain⟨t9,ht9⟩: ∃t9,t9=makeT t 0 h0l (sidA k0) k1 k2 1:=⟨_,rfl⟩
  have hs0:t.sites[0]'h0l=s0:=List.getElem_of_eq HST.out.sites _
  have HW9:=Lib.hid (show t9.way=[] by rw[ht9];exact HST.out.way)
  have HSI9:=Lib.hid (show t9.sites=[madeS s0 (sidA k0) k1 k2 1,s1] by rw[ht9];show t.sites.set 0 (madeS (t.sites[0]'h0l) _ _ _ _)=_;rw [hs0,HST.out.sites];rfl)
  have HMK:=Lib.hid (fun (wx:World) (hx:TownAt wx w3.heap.size T1 g t)=>show Calls Tryz.prog 23 #[.pointer (some ⟨g,0,none⟩), .int .i64 0, .string (sidA k0), .agg #[.int .i64 (k1:Nat), .int .i64 (k2:Nat)], .int .i64 1] wx fun e w'=>e= .returned (.tuple #[.agg #[.int .i64 d0, .int .i64 d1], .int .i64 0])∧TownAt w' w3.heap.size T1 g t9∧Stp T1 wx w' from
   (tmake_c g w3.heap.size T1 t 0 h0l (sidA k0) k1 k2 1 wx hx).mono fun e w' hh=>by
    obtain⟨h1,h2,h3⟩:=hh
    unfold madeD at h1
    rw[hs0,if_pos hez,hez,←hd0,←hd1] at h1
    rw[←ht9] at h2
    exact⟨h1,h2,h3⟩)
  have HALS:=Lib.hid hals
  have HS:=Lib.hid (HST.out.town.below HB6.out)
  have HLT:=Lib.hid (show ∀q,T1 q→q < w6.heap.size from fun q hq=>by
   obtain⟨es,c,hM⟩:=HST.out.map.blk
   have h1:=(Array.getElem?_eq_some_iff.1 hM).1
   have h2:=(HT1.out q hq).2
   have h3:=HB6.out.size
   omega)
  clear hb1z hez hals hd0 hd1 ht9 hs0
  go_wp2_with fail
  refine Cl2.region0 111 rfl [11,16] (fun w=>Below w6.heap.size w6 w) (fun jq=>match jq with | 15=>[16] | _=>[]) (fun jq v ww=>match jq with | 0=>v= .pointer (some ⟨g,0,none⟩) | 1=>v= .string (sidA k0) | 2=>v= .slice (some ⟨cb,coff,none⟩) cs.length uc | 3=>v= .pointer (some ⟨cb,coff+1,none⟩) | 4=>v= .int .i64 x1 | 5=>v= .int .i64 (k1:Nat) | 6=>v= .slice (some ⟨cb,coff,none⟩) cs.length uc | 7=>v= .pointer (some ⟨cb,coff+2,none⟩) | 8=>v= .int .i64 x2 | 9=>v= .int .i64 (k2:Nat) | 10=>v= .agg #[.int .i64 (k1:Nat), .int .i64 (k2:Nat)] | 11=>TownAt ww w3.heap.size T1 g t9∧v= .tuple #[.agg #[.int .i64 d0, .int .i64 d1], .int .i64 0] | 12=>v= .tuple #[.agg #[.int .i64 d0, .int .i64 d1], .int .i64 0] | 13=>v= .agg #[.int .i64 d0, .int .i64 d1] | 14=>v= .int .i64 0 | 15=>DotNew ww w6.heap.size v | 16=>DotIs ww w6.heap.size d0 d1 v | 17=>v= .int .i64 0 | _=>True) (fun ww=>Stp T1 w6 ww) (fun jq ww ww'=>(jq≠11→jq≠16→Below ww.heap.size ww ww')∧(jq=11→Stp T1 ww ww')∧(jq=16→DotSet w6.heap.size ww ww')) Tryz.mixed (by decide+kernel) (Stp.refl _ _).drew ((Below.refl _ _).drew) ?_ (fun q w w' hk h hR=>bstep h (hR.1 (by intro e;subst e;exact absurd hk (by decide)) (by intro e;subst e;exact absurd hk (by decide)))) ?_ ?_
  ·intro q r v w w' hne hk hlt h hR
   match r,hk,hlt,h,hne with
   | 0,_,_,h,_=>exact h
   | 1,_,_,h,_=>exact h
   | 2,_,_,h,_=>exact h
   | 3,_,_,h,_=>exact h
   | 4,_,_,h,_=>exact h
   | 5,_,_,h,_=>exact h
   | 6,_,_,h,_=>exact h
   | 7,_,_,h,_=>exact h
   | 8,_,_,h,_=>exact h
   | 9,_,_,h,_=>exact h
   | 10,_,_,h,_=>exact h
   | 11,hk,hlt,h,hne=>
    by_cases e:q=16
    ·exact⟨h.1.dot0 HW9.out HLT.out (hR.2.2 e),h.2⟩
    ·exact⟨h.1.below (hR.1 (by exact hne) e),h.2⟩
   | 12,_,_,h,_=>exact h
   | 13,_,_,h,_=>exact h
   | 14,_,_,h,_=>exact h
   | 15,hk,hlt,h,hne=>
    by_cases e:q=11
    ·exact h.stpT (hR.2.1 e) HLT.out
    ·exact h.below (hR.1 e (by simpa using hk))
   | 16,hk,hlt,h,hne=>
    exact h.below (hR.1 (by intro e;subst e;first | exact absurd hlt (by decide+kernel) | exact absurd rfl hne | simp at hk) (by intro e;subst e;first | exact absurd hlt (by decide+kernel) | exact absurd rfl hne | simp at hk))
   | 17,_,_,h,_=>exact h
   | _+18,_,_,_,_=>trivial
  ·refine⟨?_, ?_, ?_, ?_, ?_, ?_, ?_, ?_, ?_, ?_, ?_, ?_, ?_, ?_, ?_, ?_, ?_, ?_,trivial⟩
   ·intro x wx hG
    have f3:=hG.old 3 (by decide+kernel)
    have hg:=hG.good
    clear hG
    go_wp2
    exact⟨_,rfl,rfl,hg,⟨fun _ _=>Below.refl _ _,fun h=>absurd h (by decide),fun h=>absurd h (by decide)⟩⟩
   ·intro x wx hG
    have f8:=hG.old 8 (by decide+kernel)
    have hg:=hG.good
    clear hG
    go_wp2
    exact⟨_,rfl,rfl,hg,⟨fun _ _=>Below.refl _ _,fun h=>absurd h (by decide),fun h=>absurd h (by decide)⟩⟩
   ·intro x wx hG
    have f7:=hG.old 7 (by decide+kernel)
    have hg:=hG.good
    clear hG
    go_wp2
    exact⟨_,rfl,rfl,hg,⟨fun _ _=>Below.refl _ _,fun h=>absurd h (by decide),fun h=>absurd h (by decide)⟩⟩
   ·intro x wx hG
    have g2:(x.tmps.getD 51 undef)= .slice (some ⟨cb,coff,none⟩) cs.length uc:=hG.claims 2 _ rfl (by decide+kernel) (by decide+kernel)
    have g2b:=g2
    rw[Array.getD_eq_getD_getElem?] at g2b
    have hg:=hG.good
    clear hG
    go_wp2
    exact⟨_,rfl,rfl,hg,⟨fun _ _=>Below.refl _ _,fun h=>absurd h (by decide),fun h=>absurd h (by decide)⟩⟩
   ·intro x wx hG
    have g3:(x.tmps.getD 52 undef)= .pointer (some ⟨cb,coff+1,none⟩):=hG.claims 3 _ rfl (by decide+kernel) (by decide+kernel)
    have g3b:=g3
    rw[Array.getD_eq_getD_getElem?] at g3b
    have hp:=hG.pre (by decide+kernel)
    have hg:=hG.good
    clear hG
    have c_HX1:=ckeep hp HX1.out
    go_wp2
    exact⟨_,rfl,rfl,hg,⟨fun _ _=>Below.refl _ _,fun h=>absurd h (by decide),fun h=>absurd h (by decide)⟩⟩
   ·intro x wx hG
    have g4:(x.tmps.getD 53 undef)= .int .i64 x1:=hG.claims 4 _ rfl (by decide+kernel) (by decide+kernel)
    have g4b:=g4
    rw[Array.getD_eq_getD_getElem?] at g4b
    have hg:=hG.good
    clear hG
    go_wp2_with fail
    (with_reducible refine(HW1.out wx).mono ?_)
    rintro e wq ⟨rfl,hb⟩
    have HBB:=Lib.hid hb
    clear hb
    go_wp2
    exact⟨_,rfl,rfl,hg.below HBB.out,⟨fun _ _=>HBB.out,fun h=>absurd h (by decide),fun h=>absurd h (by decide)⟩⟩
   ·intro x wx hG
    have f7:=hG.old 7 (by decide+kernel)
    have hg:=hG.good
    clear hG
    go_wp2
    exact⟨_,rfl,rfl,hg,⟨fun _ _=>Below.refl _ _,fun h=>absurd h (by decide),fun h=>absurd h (by decide)⟩⟩
   ·intro x wx hG
    have g6:(x.tmps.getD 55 undef)= .slice (some ⟨cb,coff,none⟩) cs.length uc:=hG.claims 6 _ rfl (by decide+kernel) (by decide+kernel)
    have g6b:=g6
    rw[Array.getD_eq_getD_getElem?] at g6b
    have hg:=hG.good
    clear hG
    go_wp2
    exact⟨_,rfl,rfl,hg,⟨fun _ _=>Below.refl _ _,fun h=>absurd h (by decide),fun h=>absurd h (by decide)⟩⟩
   ·intro x wx hG
    have g7:(x.tmps.getD 56 undef)= .pointer (some ⟨cb,coff+2,none⟩):=hG.claims 7 _ rfl (by decide+kernel) (by decide+kernel)
    have g7b:=g7
    rw[Array.getD_eq_getD_getElem?] at g7b
    have hp:=hG.pre (by decide+kernel)
    have hg:=hG.good
    clear hG
    have c_HX2:=ckeep hp HX2.out
    go_wp2
    exact⟨_,rfl,rfl,hg,⟨fun _ _=>Below.refl _ _,fun h=>absurd h (by decide),fun h=>absurd h (by decide)⟩⟩
   ·intro x wx hG
    have g8:(x.tmps.getD 57 undef)= .int .i64 x2:=hG.claims 8 _ rfl (by decide+kernel) (by decide+kernel)
    have g8b:=g8
    rw[Array.getD_eq_getD_getElem?] at g8b
    have hg:=hG.good
    clear hG
    go_wp2_with fail
    (with_reducible refine(HW2.out wx).mono ?_)
    rintro e wq ⟨rfl,hb⟩
    have HBB:=Lib.hid hb
    clear hb
    go_wp2
    exact⟨_,rfl,rfl,hg.below HBB.out,⟨fun _ _=>HBB.out,fun h=>absurd h (by decide),fun h=>absurd h (by decide)⟩⟩
   ·intro x wx hG
    have g5:(x.tmps.getD 54 undef)= .int .i64 (k1:Nat):=hG.claims 5 _ rfl (by decide+kernel) (by decide+kernel)
    have g5b:=g5
    rw[Array.getD_eq_getD_getElem?] at g5b
    have g9:(x.tmps.getD 58 undef)= .int .i64 (k2:Nat):=hG.claims 9 _ rfl (by decide+kernel) (by decide+kernel)
    have g9b:=g9
    rw[Array.getD_eq_getD_getElem?] at g9b
    have hg:=hG.good
    clear hG
    go_wp2
    exact⟨_,rfl,rfl,hg,⟨fun _ _=>Below.refl _ _,fun h=>absurd h (by decide),fun h=>absurd h (by decide)⟩⟩
   ·intro x wx hG
    have g0:(x.tmps.getD 49 undef)= .pointer (some ⟨g,0,none⟩):=hG.claims 0 _ rfl (by decide+kernel) (by decide+kernel)
    have g0b:=g0
    rw[Array.getD_eq_getD_getElem?] at g0b
    have g1:(x.tmps.getD 50 undef)= .string (sidA k0):=hG.claims 1 _ rfl (by decide+kernel) (by decide+kernel)
    have g1b:=g1
    rw[Array.getD_eq_getD_getElem?] at g1b
    have g10:(x.tmps.getD 59 undef)= .agg #[.int .i64 (k1:Nat), .int .i64 (k2:Nat)]:=hG.claims 10 _ rfl (by decide+kernel) (by decide+kernel)
    have g10b:=g10
    rw[Array.getD_eq_getD_getElem?] at g10b
    have hp:=hG.pre (by decide+kernel)
    have hg:=hG.good
    clear hG
    have HN:=Lib.hid (HMK.out wx (HS.out.below hp))
    go_wp2_with fail
    (with_reducible refine(HN.out).mono ?_)
    rintro e wq ⟨rfl,h1,h2⟩
    have H1:=Lib.hid h1
    have H2:=Lib.hid h2
    clear h1 h2 HN
    go_wp2
    exact⟨_,rfl,⟨H1.out,rfl⟩,hg.trans H2.out,⟨fun h _=>absurd rfl h,fun _=>H2.out,fun h=>absurd h (by decide)⟩⟩
   ·intro x wx hG
    have g11:TownAt wx w3.heap.size T1 g t9∧(x.tmps.getD 60 undef)= .tuple #[.agg #[.int .i64 d0, .int .i64 d1], .int .i64 0]:=hG.claims 11 _ rfl (by decide+kernel) (by decide+kernel)
    have hg:=hG.good
    clear hG
    have g11v:=g11.2
    have g11vb:=g11v
    rw[Array.getD_eq_getD_getElem?] at g11vb
    go_wp2
    exact⟨_,rfl,rfl,hg,⟨fun _ _=>Below.refl _ _,fun h=>absurd h (by decide),fun h=>absurd h (by decide)⟩⟩
   ·intro x wx hG
    have g12:(x.tmps.getD 48 undef)= .tuple #[.agg #[.int .i64 d0, .int .i64 d1], .int .i64 0]:=hG.claims 12 _ rfl (by decide+kernel) (by decide+kernel)
    have g12b:=g12
    rw[Array.getD_eq_getD_getElem?] at g12b
    have hg:=hG.good
    clear hG
    go_wp2
    exact⟨_,rfl,rfl,hg,⟨fun _ _=>Below.refl _ _,fun h=>absurd h (by decide),fun h=>absurd h (by decide)⟩⟩
   ·intro x wx hG
    have g12:(x.tmps.getD 48 undef)= .tuple #[.agg #[.int .i64 d0, .int .i64 d1], .int .i64 0]:=hG.claims 12 _ rfl (by decide+kernel) (by decide+kernel)
    have g12b:=g12
    rw[Array.getD_eq_getD_getElem?] at g12b
    have hg:=hG.good
    clear hG
    go_wp2
    exact⟨_,rfl,rfl,hg,⟨fun _ _=>Below.refl _ _,fun h=>absurd h (by decide),fun h=>absurd h (by decide)⟩⟩
   ·intro x wx hG
    have hg:=hG.good
    clear hG
    go_wp2
    exact⟨_,rfl,⟨_,rfl,alloc_new _ _ _ _ rfl,hg.size⟩,hg.below (bal _),⟨fun _ _=>bal _,fun h=>absurd h (by decide),fun h=>absurd h (by decide)⟩⟩
   ·intro x wx hG
    have g15:DotNew wx w6.heap.size (x.tmps.getD 9 undef):=hG.claims 15 _ rfl (by decide+kernel) (by decide+kernel)
    have g13:(x.tmps.getD 61 undef)= .agg #[.int .i64 d0, .int .i64 d1]:=hG.claims 13 _ rfl (by decide+kernel) (by decide+kernel)
    have g13b:=g13
    rw[Array.getD_eq_getD_getElem?] at g13b
    have hg:=hG.good
    clear hG
    obtain⟨q,hv,hq,hlo⟩:=g15
    have HV:=Lib.hid hv
    have hvb:=hv
    rw[Array.getD_eq_getD_getElem?] at hvb
    have gxb:=g13
    rw[Array.getD_eq_getD_getElem?] at gxb
    have r0:=cell_of_block (j:=0) hq rfl
    have r1:=cell_of_block (j:=1) hq rfl
    have q0:=free_of_block (j:=0) hq
    have q1:=free_of_block (j:=1) hq
    have hRl:=hlt_of hq
    have HQ:=Lib.hid hq
    have HLO:=Lib.hid hlo
    clear hq hlo
    go_wp2
    exact⟨undef,rfl,⟨q,Eq.trans (by kernel_rfl) HV.out,by rw[heap_set_same (heap_set_same HQ.out)];rfl,HLO.out⟩,DotSet.stp hg ⟨q,_,_,HLO.out,HQ.out,rfl⟩,⟨fun _ h=>absurd rfl h,fun h=>absurd h (by decide),fun _=>⟨q,_,_,HLO.out,HQ.out,rfl⟩⟩⟩
   ·intro x wx hG
    have g14:(x.tmps.getD 62 undef)= .int .i64 0:=hG.claims 14 _ rfl (by decide+kernel) (by decide+kernel)
    have g14b:=g14
    rw[Array.getD_eq_getD_getElem?] at g14b
    have hg:=hG.good
    clear hG
    go_wp2
    exact⟨_,rfl,rfl,hg,⟨fun _ _=>Below.refl _ _,fun h=>absurd h (by decide),fun h=>absurd h (by decide)⟩⟩
  ·intro vals w9 hg hF
   obtain⟨g0,g1,g2,g3,g4,g5,g6,g7,g8,g9,g10,g11,g12,g13,g14,g15,g16,g17, -⟩:=hF
   have e0:vals 0= .pointer (some ⟨g,0,none⟩):=g0 rfl
   have e1:vals 1= .string (sidA k0):=g1 rfl
   have e2:vals 2= .slice (some ⟨cb,coff,none⟩) cs.length uc:=g2 rfl
   have e3:vals 3= .pointer (some ⟨cb,coff+1,none⟩):=g3 rfl
   have e4:vals 4= .int .i64 x1:=g4 rfl
   have e5:vals 5= .int .i64 (k1:Nat):=g5 rfl
   have e6:vals 6= .slice (some ⟨cb,coff,none⟩) cs.length uc:=g6 rfl
   have e7:vals 7= .pointer (some ⟨cb,coff+2,none⟩):=g7 rfl
   have e8:vals 8= .int .i64 x2:=g8 rfl
   have e9:vals 9= .int .i64 (k2:Nat):=g9 rfl
   have e10:vals 10= .agg #[.int .i64 (k1:Nat), .int .i64 (k2:Nat)]:=g10 rfl
   replace g11:TownAt w9 w3.heap.size T1 g t9∧(vals 11)= .tuple #[.agg #[.int .i64 d0, .int .i64 d1], .int .i64 0]:=g11 rfl
   have e12:vals 12= .tuple #[.agg #[.int .i64 d0, .int .i64 d1], .int .i64 0]:=g12 rfl
   have e13:vals 13= .agg #[.int .i64 d0, .int .i64 d1]:=g13 rfl
   have e14:vals 14= .int .i64 0:=g14 rfl
   have g16:=g16 rfl
   have e17:vals 17= .int .i64 0:=g17 rfl
   simp only[Cl2.puts,e0,e1,e2,e3,e4,e5,e6,e7,e8,e9,e10,e12,e13,e14,e17]
   clear e0 e1 e2 e3 e4 e5 e6 e7 e8 e9 e10 e12 e13 e14 e17 g0 g1 g2 g3 g4 g5 g6 g7 g8 g9 g10 g12 g13 g14 g15 g17
   go_simp
   generalize vals 11=mk9 at*
   obtain⟨q9,hv9,hq9,hlo9⟩:=g16
   have hv8:vals 15= .pointer (some ⟨q9,0,none⟩):=Eq.trans (by kernel_rfl) hv9
   rw[hv8]
   have HT9:=Lib.hid g11.1
   have HS9:=Lib.hid hg
   have y0:=cell_of_block (j:=0) hq9 rfl
   have y1:=cell_of_block (j:=1) hq9 rfl
   have HNT:=Lib.hid (show ¬T1 w4.heap.size from fun h=>by have:=(HT1.out _ h).2;omega)
   have HM9:=Lib.hid ((HST.out.map.keep fun _ ho=>below_keep HB6.out ho).stp HS9.out HNT.out)
   have HKEY:=Lib.hid (show keyOf Tryz.prog 9 (.string (sidA k0))=some (kid (sidA k0)) from WideMaps.keyOf_string_mk Tryz.underlying9 (by
    have h1:=sidA_ok k0
    unfold idOk at h1
    simp only[Bool.and_eq_true,decide_eq_true_eq] at h1
    have:=h1.1.2
    unfold maxLen;omega))
   clear g11 hg hv9 hlo9 hq9
   go_wp2_with (at_mapUpdate;apply Classical.byContradiction;intro hcon)
   refine hcon ?_
   (refine wpList_mapUpdate_own _ rfl _ _ _ 96 rfl 9 41 lawS Tryz.underlying96 heldR w4.heap.size k D rfl HM9.out (by unfold maxLen;omega) _ _ (kid (sidA k0)) rfl rfl HKEY.out _ [] rfl ?_)
   intro w10 hown10 hgrow10
   have HOWN:=Lib.hid hown10
   have HGR:=Lib.hid hgrow10
   clear hown10 hgrow10 hcon
   go_wp2
   go_roundw
   case rel=>
    obtain⟨es,c,hM⟩:=HM9.out.blk
    exact⟨k+1,by omega,by go_num,_,t9,_,s1,HT9.out.mapped HW9.out HGR.out hM,HW9.out,HSI9.out,HST.out.none,HALS.out,HOWN.out,
     ((((Stp.of_below HST.out.bel).trans (Stp.of_below HB6.out)).trans (HS9.out.mono fun q hq=>(HT1.out q hq).1)).trans ((mapped_stp HGR.out hM).mono fun q hq=>by have:=HB4.out.size;omega)).sp.toBelow (base:=w2.heap.size) (fun q hq=>hq) (Nat.le_refl _)⟩
   case measure=>simp [intOf] <;> omega
end Go.Proofs.YtihpddhngbgcdaaGreat
