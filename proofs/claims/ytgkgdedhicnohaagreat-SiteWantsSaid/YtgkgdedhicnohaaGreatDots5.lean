/- The reference's All: the dots of a set. Written by a small program (gen/dots5.py). -/
import Derived.Test.YtgkgdedhicnohaaGreatMDots
namespace Go.Proofs.YtgkgdedhicnohaaGreat
set_option maxRecDepth 100000
set_option maxHeartbeats 40000000
open Go.RowKit
def Has1 (m:Nat→Nat) (p:Nat→Nat→Bool):Prop:= ∀s c:Nat,s < 5→1≤c→c < 1024→memD m s c=p s c
structure ASt (m:Nat→Nat) (z:Array Value) (u x:Value) (w wr:World):Prop where
 k:wr.heap[w.heap.size]? =some (Obj.cells #[u,x] 73 (0,0))
 o:wr.heap[w.heap.size+1]? =some (Obj.cells z 162 (0,0))
 d:wr.heap[w.heap.size+2]? =some (Obj.cells (dotC m) 162 (0,0))
 bel:Below w.heap.size w wr
section
variable {m:Nat→Nat} {z:Array Value} {u x:Value} {w wr:World}
theorem ASt.below {w2:World} (h:ASt m z u x w wr) (hb:Below wr.heap.size wr w2):ASt m z u x w w2:=
 ⟨below_keep hb h.k,below_keep hb h.o,below_keep hb h.d,h.bel.trans (hb.mono h.bel.size)⟩
theorem ASt.bit {s q r:Nat} (h:ASt m z u x w wr):ASt (fun j=>if j=s*16+q then m (s*16+q) ||| 2^r else m j) z u x w (wr.setCell ⟨w.heap.size+2,s*16+q,none⟩ (.int .u64 ((m (s*16+q) ||| 2^r:Nat):Int))):=
 ⟨(heap_set_other (by omega)).trans h.k,(heap_set_other (by omega)).trans h.o,by rw[heap_set_same h.d,dotC_set],h.bel.setCell (by simp) _⟩
theorem ASt.put {m':Nat→Nat} (h:ASt m z u x w wr):ASt m' z u x w (wr.setRow (w.heap.size+2) (dotC m')):=
 ⟨by unfold World.setRow;simp only;rw [Array.getElem?_modify,if_neg (by omega)];exact h.k,by unfold World.setRow;simp only;rw [Array.getElem?_modify,if_neg (by omega)];exact h.o,setRow_heap _ _ _ _ _ _ h.d,below_setRow h.bel (by omega) _⟩
end
theorem withD_eq (m:Nat→Nat) (s c:Nat):withD m s c=fun j=>if j=s*16+c / 64 then m (s*16+c / 64) ||| 2^(c%64) else m j:=by
 funext j;unfold withD;by_cases e:j=s*16+c / 64;rw [if_pos e,if_pos e,e];rw [if_neg e,if_neg e]
theorem has_zero:Has1 (fun _=>0) fun _ _=>false:=fun s c _ _ _=>by simp[memD]
theorem has_with {m:Nat→Nat} {p:Nat→Nat→Bool} (h:Has1 m p) {s c:Nat} (hc:c < 1024):Has1 (withD m s c) fun s' c'=>p s' c' || decide (s'=s∧c'=c):=
 fun s' c' h1 h2 h3=>by rw[memD_with _ _ _ _ _ hc h3,h s' c' h1 h2 h3]
def allP (k:Kn):Nat→Nat→Bool:=fun s c=>decide ((c:Int)≤vecAt k.vec s) || decide (((s:Int),(c:Int))∈k.more)
theorem dall_c (u x:Value) (k:Kn) (w:World) (hk:KnAt w u x k) (hok:KnOk k) (h60:k.more.length≤60):
  Calls Tryz.prog 90 #[.agg #[u,x]] w fun e w'=> ∃m,e= .returned (.agg (dotC m))∧DWord m∧Has1 m (allP k)∧Below w.heap.size w w':=by
 obtain⟨ua,uc,rfl,hucap,hum, -,hul⟩:=hk.vec.open_
 obtain⟨xa,xc,rfl,hxcap,hxm, -,hxl⟩:=hk.more.open_
 obtain⟨z,hz⟩: ∃z,z=dotC (fun _=>0):=⟨_,rfl⟩
 have hz2:z=Tryz.zeroCells162:=by rw[hz,dotC_zero];rfl
 obtain⟨W,hW⟩: ∃W,W=((w.alloc (.cells #[.slice ua k.vec.length uc, .slice xa k.more.length xc] 73)).alloc (.cells z 162)).alloc (.cells z 162):=⟨_,rfl⟩
 have M0:=jD (show ASt (fun _=>0) z (.slice ua k.vec.length uc) (.slice xa k.more.length xc) w W from⟨by rw[hW];exact alloc_keep _ (alloc_keep _ (alloc_new _ _ _ _ rfl)),by rw[hW];exact alloc_keep _ (alloc_new _ _ _ _ (by simp)),by rw[hW,hz];exact alloc_new _ _ _ _ (by simp),by rw[hW];exact ((bal _).alloc (by simp) _).alloc (by simp;omega) _⟩)
 have HUL:=jD hul
 have HXL:=jD hxl
 have HZ:=jD (show z.size=80 by rw[hz,dotC_size])
 have HOK:=jD hok
 have hl5:k.vec.length≤5:=hok.len
 clear hk hok hul hxl hz
 have r0:=cell_of_block (j:=0) M0.out.k rfl
 go_enter Tryz.func90,Tryz.ntmps90
 go_wp2_with fail
 rw[←hz2,show w.heap.size+1+1=w.heap.size+2 from rfl,←hW]
 clear hW hz2
 go_wp2
 clear r0
 go_loopw [12] (fun i wr=> ∃(q:Nat) (m:Nat→Nat),q≤k.vec.length∧i= .int .i64 q∧DWord m∧Has1 m (fun s c=>decide (s < q)&&decide ((c:Int)≤vecAt k.vec s))∧ASt m z (.slice ua k.vec.length uc) (.slice xa k.more.length xc) w wr) (fun i _=>k.vec.length - (intOf i).toNat)
 case atStart=>exact ⟨0,_,Nat.zero_le _,rfl,fun _=>by decide,fun s c h1 h2 h3=>by rw[has_zero s c h1 h2 h3];simp,M0.out⟩
 case round=>
  clear M0
  obtain⟨q,m,hq,rfl,hmw,hh,hM⟩:=hrel
  have M:=jD hM
  have HMW:=jD hmw
  have HH:=jD hh
  clear hM hmw hh
  by_cases hlt:q < k.vec.length
  ·rcases HUL.out with hnil | ⟨b,off,rfl,hb,hc⟩
   ·rw[hnil] at hlt;simp at hlt
   have c1:=(M.out.bel.cell (p:=⟨b,off+q,none⟩) hb).trans (hc q hlt)
   have hbd:=HOK.out.bd _ (List.getElem_mem hlt)
   have HVA:=jD (show vecAt k.vec (q:Int)=k.vec[q] from vecAt_nat hlt)
   have hltb:decide ((q:Int) < (k.vec.length:Int))=true:=by simp;omega
   clear hc
   generalize k.vec[q]=nn at*
   obtain⟨n,rfl⟩:=Int.eq_ofNat_of_zero_le hbd.1
   have hn:n≤1000:=by omega
   clear hbd
   go_wp2
   clear c1
   go_loopw [6] (fun c wr=> ∃(c0:Nat) (m:Nat→Nat),1≤c0∧c0≤n+1∧c= .int .i64 c0∧DWord m∧Has1 m (fun s' c'=>(decide (s' < q)&&decide ((c':Int)≤vecAt k.vec s')) || (decide (s'=q)&&decide (c' < c0)))∧ASt m z (.slice (some ⟨b,off,none⟩) k.vec.length uc) (.slice xa k.more.length xc) w wr) (fun c _=>n+1 - (intOf c).toNat)
   case atStart=>exact ⟨1,m,Nat.le_refl _,by omega,rfl,HMW.out,fun s c h1 h2 h3=>by rw[HH.out s c h1 h2 h3];simp;omega,M.out⟩
   case round=>
    clear M HMW HH
    obtain⟨c0,m,hc1,hc2,rfl,hmw,hh,hM⟩:=hrel
    have M:=jD hM
    have HMW:=jD hmw
    have HH:=jD hh
    clear hM hmw hh
    by_cases hcn:c0≤n
    ·obtain⟨qd,hqd⟩: ∃qd,qd=c0 / 64:=⟨_,rfl⟩
     obtain⟨rd,hrd⟩: ∃rd,rd=c0%64:=⟨_,rfl⟩
     have hq5:q < 5:=by omega
     have CT:=jD (cell_of_block (j:=q*16+qd) M.out.d (dotC_get m _ (by omega)))
     have HOR:=jD (or_bit (m (q*16+qd)) rd (HMW.out _) (by omega))
     have HWR:=jD (wrap_pow rd (by omega))
     have HWD:=jD (show withD m q c0=fun j=>if j=q*16+qd then m (q*16+qd) ||| 2^rd else m j by rw[hqd,hrd];exact withD_eq m q c0)
     have HHN:=jD (has_with HH.out (s:=q) (c:=c0) (by omega))
     have HWN:=jD (withD_word HMW.out q c0)
     have hqq:((c0:Int) / 64)=(qd:Int):=by omega
     have hrr:((c0:Int)%64)=(rd:Int):=by omega
     have hq16:qd < 16:=by omega
     have hr64:rd < 64:=by omega
     clear hqd hrd
     have hcb:decide ((c0:Int)≤(n:Int))=true:=by simp;omega
     go_wp2
     refine Cl.region0 47 rfl [12] (fun ww=>Below wr.heap.size wr ww) (fun _=>[]) (fun jq v ww=>match jq with | 0=>v= .int .i64 (q:Nat) | 1=>v= .int .i64 (c0:Nat) | 2=>v= .int .i64 qd | 3=>v= .pointer (some ⟨w.heap.size+2,q*16,none⟩) | 4=>v= .pointer (some ⟨w.heap.size+2,q*16+qd,none⟩) | 5=>v= .int .u64 (m (q*16+qd)) | 6=>v= .int .i64 (c0:Nat) | 7=>v= .int .i64 rd | 8=>v= .int .u64 (2^rd) | 9=>v= .int .u64 (((m (q*16+qd) ||| 2^rd:Nat)):Int) | 10=>v= .pointer (some ⟨w.heap.size+2,q*16,none⟩) | 11=>v= .pointer (some ⟨w.heap.size+2,q*16+qd,none⟩) | 12=>ASt (withD m q c0) z (.slice (some ⟨b,off,none⟩) k.vec.length uc) (.slice xa k.more.length xc) w ww | _=>True) (fun ww=>True) (fun jq ww ww'=>jq≠12→Below ww.heap.size ww ww') Tryz.mixed (by decide+kernel) trivial ((Below.refl _ _).drew) ?_ (fun jq ww ww' hk h hR=>bstep h (hR (by simpa using hk))) ?_ ?_
     ·intro qq r v w w' hne hk hlt h hR
      match r,hk,hlt,h,hne with
      | 0,_,_,h,_=>exact h
      | 1,_,_,h,_=>exact h
      | 2,_,_,h,_=>exact h
      | 3,_,_,h,_=>exact h
      | 4,_,_,h,_=>exact h
      | 5,_,_,h,_=>exact h
      | 6,_,_,h,_=>exact h
      | 7,_,_,h,_=>exact h
      | 8,_,_,h,_=>exact h
      | 9,_,_,h,_=>exact h
      | 10,_,_,h,_=>exact h
      | 11,_,_,h,_=>exact h
      | 12,_,_,h,hne=>exact ASt.below h (hR (by exact hne))
      | _+13,_,_,_,_=>trivial
     ·refine⟨?_, ?_, ?_, ?_, ?_, ?_, ?_, ?_, ?_, ?_, ?_, ?_, ?_,trivial⟩
      ·intro x wx hG
       have f4:=hG.o 4
       have hp:=hG.p
       replace hG:=hG.good
       have hG:=hp
       go_wp2
       exact⟨_,rfl,rfl,trivial,fun _=>Below.refl _ _⟩
      ·intro x wx hG
       have f6:=hG.o 6
       have hp:=hG.p
       replace hG:=hG.good
       have hG:=hp
       go_wp2
       exact⟨_,rfl,rfl,trivial,fun _=>Below.refl _ _⟩
      ·intro x wx hG
       have g1:(x.tmps.getD 23 undef)= .int .i64 (c0:Nat):=hG.c 1 _ rfl
       have hp:=hG.p
       replace hG:=hG.good
       have hG:=hp
       go_wp2
       exact⟨_,rfl,rfl,trivial,fun _=>Below.refl _ _⟩
      ·intro x wx hG
       have f3:=hG.o 3
       have g0:(x.tmps.getD 22 undef)= .int .i64 (q:Nat):=hG.c 0 _ rfl
       have hp:=hG.p
       replace hG:=hG.good
       have hG:=hp
       go_wp2
       exact⟨_,rfl,rfl,trivial,fun _=>Below.refl _ _⟩
      ·intro x wx hG
       have g3:(x.tmps.getD 25 undef)= .pointer (some ⟨w.heap.size+2,q*16,none⟩):=hG.c 3 _ rfl
       have g2:(x.tmps.getD 24 undef)= .int .i64 qd:=hG.c 2 _ rfl
       have hp:=hG.p
       replace hG:=hG.good
       have hG:=hp
       go_wp2
       exact⟨_,rfl,rfl,trivial,fun _=>Below.refl _ _⟩
      ·intro x wx hG
       have g4:(x.tmps.getD 26 undef)= .pointer (some ⟨w.heap.size+2,q*16+qd,none⟩):=hG.c 4 _ rfl
       have hp:=hG.p
       replace hG:=hG.good
       have hG:=hp
       have c_CT:=ckeep hG CT.out
       go_wp2
       exact⟨_,rfl,rfl,trivial,fun _=>Below.refl _ _⟩
      ·intro x wx hG
       have f6:=hG.o 6
       have hp:=hG.p
       replace hG:=hG.good
       have hG:=hp
       go_wp2
       exact⟨_,rfl,rfl,trivial,fun _=>Below.refl _ _⟩
      ·intro x wx hG
       have g6:(x.tmps.getD 28 undef)= .int .i64 (c0:Nat):=hG.c 6 _ rfl
       have hp:=hG.p
       replace hG:=hG.good
       have hG:=hp
       go_wp2
       rw[hrr]
       exact⟨_,rfl,rfl,trivial,fun _=>Below.refl _ _⟩
      ·intro x wx hG
       have g7:(x.tmps.getD 29 undef)= .int .i64 rd:=hG.c 7 _ rfl
       have hp:=hG.p
       replace hG:=hG.good
       have hG:=hp
       go_wp2
       rw[HWR.out]
       exact⟨_,rfl,rfl,trivial,fun _=>Below.refl _ _⟩
      ·intro x wx hG
       have g5:(x.tmps.getD 27 undef)= .int .u64 (m (q*16+qd)):=hG.c 5 _ rfl
       have g8:(x.tmps.getD 30 undef)= .int .u64 (2^rd):=hG.c 8 _ rfl
       have hp:=hG.p
       replace hG:=hG.good
       have hG:=hp
       have hor:=HOR.out
       go_wp2
       exact⟨_,rfl,rfl,trivial,fun _=>Below.refl _ _⟩
      ·intro x wx hG
       have f3:=hG.o 3
       have g0:(x.tmps.getD 22 undef)= .int .i64 (q:Nat):=hG.c 0 _ rfl
       have hp:=hG.p
       replace hG:=hG.good
       have hG:=hp
       go_wp2
       exact⟨_,rfl,rfl,trivial,fun _=>Below.refl _ _⟩
      ·intro x wx hG
       have g10:(x.tmps.getD 32 undef)= .pointer (some ⟨w.heap.size+2,q*16,none⟩):=hG.c 10 _ rfl
       have g2:(x.tmps.getD 24 undef)= .int .i64 qd:=hG.c 2 _ rfl
       have hp:=hG.p
       replace hG:=hG.good
       have hG:=hp
       go_wp2
       exact⟨_,rfl,rfl,trivial,fun _=>Below.refl _ _⟩
      ·intro x wx hG
       have g11:(x.tmps.getD 33 undef)= .pointer (some ⟨w.heap.size+2,q*16+qd,none⟩):=hG.c 11 _ rfl
       have g9:(x.tmps.getD 31 undef)= .int .u64 (((m (q*16+qd) ||| 2^rd:Nat)):Int):=hG.c 9 _ rfl
       have hp:=hG.p
       replace hG:=hG.good
       have hG:=hp
       have hM:=M.out.below hp
       have hN:=hM.bit (s:=q) (q:=qd) (r:=rd)
       rw[←HWD.out] at hN
       have HN:=jD hN
       have r0:=cell_of_block (j:=q*16+qd) hM.d (dotC_get _ _ (by omega))
       have f0:=free_of_block (j:=q*16+qd) hM.d
       have hRl:=hlt_of hM.d
       clear hM hN hp hG
       generalize ((m (q*16+qd) ||| 2^rd:Nat):Int)=xx at*
       go_wp2
       exact⟨undef,rfl,HN.out,trivial,fun h=>absurd rfl h⟩
     ·intro vals w3 hg hF
      obtain⟨g0,g1,g2,g3,g4,g5,g6,g7,g8,g9,g10,g11,g12, -⟩:=hF
      have e0:=gq (vals 0) g0
      have e1:=gq (vals 1) g1
      have e2:=gq (vals 2) g2
      have e3:=gq (vals 3) g3
      have e4:=gq (vals 4) g4
      have e5:=gq (vals 5) g5
      have e6:=gq (vals 6) g6
      have e7:=gq (vals 7) g7
      have e8:=gq (vals 8) g8
      have e9:=gq (vals 9) g9
      have e10:=gq (vals 10) g10
      have e11:=gq (vals 11) g11
      replace g12:ASt (withD m q c0) z (.slice (some ⟨b,off,none⟩) k.vec.length uc) (.slice xa k.more.length xc) w w3:=g12 rfl
      simp only[Cl.puts,e0,e1,e2,e3,e4,e5,e6,e7,e8,e9,e10,e11]
      clear e0 e1 e2 e3 e4 e5 e6 e7 e8 e9 e10 e11 g0 g1 g2 g3 g4 g5 g6 g7 g8 g9 g10 g11
      go_simp
      have HN:=jD g12
      clear g12 hg CT HOR HWR HWD
      go_wp2
      go_roundw
      case rel=>
       refine⟨c0+1,_,by omega,by omega,by go_num,HWN.out,fun s c h1 h2 h3=> ?_,HN.out⟩
       rw[HHN.out s c h1 h2 h3,Bool.eq_iff_iff]
       simp only[Bool.or_eq_true,Bool.and_eq_true,decide_eq_true_eq]
       omega
      case measure=>simp [intOf] <;> omega
    ·obtain rfl:c0=n+1:=by omega
     have hcb:decide (((n+1:Nat):Int)≤(n:Int))=false:=by simp;omega
     go_wp2
     go_roundw
     case rel=>
      refine⟨q+1,m,by omega,by go_num,HMW.out,fun s c h1 h2 h3=> ?_,M.out⟩
      rw[HH.out s c h1 h2 h3,Bool.eq_iff_iff]
      simp only[Bool.or_eq_true,Bool.and_eq_true,decide_eq_true_eq]
      have hv:=HVA.out
      constructor
      ·rintro(⟨h,h'⟩ | ⟨h,h'⟩)
       ·exact⟨by omega,h'⟩
       ·subst h;exact ⟨by omega,by rw[hv];omega⟩
      ·rintro⟨h,h'⟩
       by_cases e:s=q
       ·subst e;rw [hv] at h';exact .inr ⟨rfl,by omega⟩
       ·exact .inl ⟨by omega,h'⟩
     case measure=>simp [intOf] <;> omega
  ·obtain rfl:q=k.vec.length:=by omega
   have HH2:=jD (show Has1 m (fun s c=>decide ((c:Int)≤vecAt k.vec s) || decide (((s:Int),(c:Int))∈k.more.take 0)) from fun s c h1 h2 h3=>by
    rw[HH.out s c h1 h2 h3,Bool.eq_iff_iff]
    simp only[Bool.or_eq_true,Bool.and_eq_true,decide_eq_true_eq,List.take_zero,List.not_mem_nil,or_false]
    constructor
    ·exact fun h=>h.2
    ·intro h
     refine⟨?_,h⟩
     by_cases e:s < k.vec.length
     ·exact e
     ·rw[vecAt_out (by omega)] at h;omega)
   have r1:=cell_of_block (j:=1) M.out.k rfl
   clear HH
   go_wp2
   clear r1
   go_loopw [38] (fun i wr=> ∃(j:Nat) (m:Nat→Nat),j≤k.more.length∧i= .int .i64 j∧DWord m∧Has1 m (fun s c=>decide ((c:Int)≤vecAt k.vec s) || decide (((s:Int),(c:Int))∈k.more.take j))∧ASt m z (.slice ua k.vec.length uc) (.slice xa k.more.length xc) w wr) (fun i _=>k.more.length - (intOf i).toNat)
   case atStart=>exact ⟨0,m,Nat.zero_le _,rfl,HMW.out,HH2.out,M.out⟩
   case round=>
    clear M HMW HH2
    obtain⟨j,m,hj,rfl,hmw,hh,hM⟩:=hrel
    have M:=jD hM
    have HMW:=jD hmw
    have HH:=jD hh
    clear hM hmw hh
    by_cases hlj:j < k.more.length
    ·rcases HXL.out with hnil | ⟨b,off,rfl,hb,hc⟩
     ·rw[hnil] at hlj;simp at hlj
     obtain⟨c1,c2⟩:=hc j hlj
     replace c1:=(M.out.bel.cell (p:=⟨b,off+j*2,none⟩) hb).trans c1
     replace c2:=(M.out.bel.cell (p:=⟨b,off+j*2+1,none⟩) hb).trans c2
     obtain⟨⟨d0,d5⟩,d1,d2⟩:=dotOk_iff.1 (HOK.out.dots _ (List.getElem_mem hlj)).1
     have HT:=jD (show k.more.take (j+1)=k.more.take j++[k.more[j]] from List.take_succ_eq_append_getElem hlj)
     clear hc
     generalize k.more[j]=d at*
     obtain⟨ds,dc⟩:=d
     simp only at c1 c2 d0 d5 d1 d2
     obtain⟨ds,rfl⟩:=Int.eq_ofNat_of_zero_le d0
     obtain⟨dc,rfl⟩:=Int.eq_ofNat_of_zero_le (show 0≤dc by omega)
     have MA:=jD (M.out.below (bal (.cells #[.int .i64 (ds:Int), .int .i64 (dc:Int)] 41)))
     have HD:=jD MA.out.d
     have HI:=jD (DotsTy.size m)
     have HI2:=jD (DotsTy.size (withD m ds dc))
     have x0:=cat wr #[.int .i64 (ds:Int), .int .i64 (dc:Int)] 41 0 _ rfl _ rfl
     have x1:=cat wr #[.int .i64 (ds:Int), .int .i64 (dc:Int)] 41 1 _ rfl _ rfl
     have HHN:=jD (has_with HH.out (s:=ds) (c:=dc) (by omega))
     have HWN:=jD (withD_word HMW.out ds dc)
     have hltb:decide ((j:Int) < (k.more.length:Int))=true:=by simp;omega
     clear M
     go_wp2_with (with_reducible refine wpList_load_row rfl 162 (.tmp 3) rfl (w.heap.size+2) rfl 162 (dotC m) (0,0) _ HD.out Tryz.underlying162 rfl HI.out ?_)
     go_wp2_with fail
     (with_reducible refine(dwith_c m ds dc _ HMW.out (by omega) (by omega)).mono ?_)
     rintro e w3 ⟨rfl,hb3⟩
     have MB:=jD (MA.out.below hb3)
     clear hb3 MA HD x0 x1 c1 c2
     go_wp2_with (with_reducible refine wpList_store_row rfl 162 (.tmp 3) (.tmp 44) rfl (w.heap.size+2) (dotC (withD m ds dc)) rfl rfl 162 (dotC m) MB.out.d HI2.out ?sz ?one ?_)
     case sz=>simp [dotC_size]
     case one=>simp [dotC,Value.oneCell']
     go_wp2
     go_roundw
     case rel=>
      refine⟨j+1,_,by omega,by go_num,HWN.out,fun s c h1 h2 h3=> ?_,MB.out.put⟩
      rw[HHN.out s c h1 h2 h3,HT.out,Bool.eq_iff_iff]
      simp only[Bool.or_eq_true,decide_eq_true_eq,List.mem_append,List.mem_singleton,Prod.mk.injEq]
      rw[or_assoc]
      constructor
      ·rintro(h | h | ⟨h,h'⟩)
       ·exact .inl h
       ·exact .inr (.inl h)
       ·exact .inr (.inr ⟨by omega,by omega⟩)
      ·rintro(h | h | ⟨h,h'⟩)
       ·exact .inl h
       ·exact .inr (.inl h)
       ·exact .inr (.inr ⟨by omega,by omega⟩)
     case measure=>simp [intOf] <;> omega
    ·obtain rfl:j=k.more.length:=by omega
     have HF:=jD (show Has1 m (allP k) from fun s c h1 h2 h3=>by have h:=HH.out s c h1 h2 h3;rw [List.take_length] at h;exact h)
     have HA:=jD M.out.d
     have HZZ:=jD M.out.o
     have hi:=jD (DotsTy.size m)
     have hbl:=M.out.bel
     have hltb:decide ((k.more.length:Int) < (k.more.length:Int))=false:=by simp
     clear M HH
     go_wp2_with (first | (with_reducible refine wpList_load_row rfl 162 (.tmp 3) rfl (w.heap.size+2) rfl 162 (dotC m) (0,0) _ HA.out Tryz.underlying162 rfl hi.out ?_) | (with_reducible refine wpList_store_row rfl 162 (.tmp 2) (.tmp 46) rfl (w.heap.size+1) (dotC m) rfl rfl 162 _ HZZ.out hi.out ?sz ?one ?_))
     case sz=>rw [HZ.out,dotC_size]
     case one=>simp [dotC,Value.oneCell']
     exact bodyPost_ret (results_cell_row rfl _ _ (w.heap.size+1) 162 (dotC m) (0,0) _ rfl (setRow_heap _ _ _ _ _ _ HZZ.out) Tryz.underlying162 rfl hi.out) rfl ⟨m,rfl,HMW.out,HF.out,below_setRow hbl (by omega) _⟩
end Go.Proofs.YtgkgdedhicnohaaGreat
