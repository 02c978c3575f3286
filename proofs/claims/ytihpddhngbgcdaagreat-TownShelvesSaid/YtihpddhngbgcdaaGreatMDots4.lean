/- The reference's All: the dots of a set. Written by a small program (gen/dots5.py). What the reference's Over does. Written by a small program (gen/shelf9.py). -/
import Derived.Test.YtihpddhngbgcdaaGreatMDots
import Derived.Test.YtihpddhngbgcdaaGreatMKnow5
import Derived.Test.YtihpddhngbgcdaaGreatMShelf1
import Derived.Test.YtihpddhngbgcdaaGreatMClaims
import Derived.Deep.QuietTactic
import Derived.BigQuiet
namespace Go.Proofs.YtihpddhngbgcdaaGreat
open Go.RowKit
def Has1 (m:Nat→Nat) (p:Nat→Nat→Bool):Prop:= ∀s c:Nat,s < 5→1≤c→c < 1024→memD m s c=p s c
structure ASt (m:Nat→Nat) (z:Array Value) (u x:Value) (w wr:World):Prop where
 k:wr.heap[w.heap.size]? =some (Obj.cells #[u,x] 73 (0,0))
 o:wr.heap[w.heap.size+1]? =some (Obj.cells z 172 (0,0))
 d:wr.heap[w.heap.size+2]? =some (Obj.cells (dotC m) 172 (0,0))
 bel:Below w.heap.size w wr
section
variable {m:Nat→Nat} {z:Array Value} {u x:Value} {w wr:World}
theorem ASt.below {w2:World} (h:ASt m z u x w wr) (hb:Below wr.heap.size wr w2):ASt m z u x w w2:=
 ⟨below_keep hb h.k,below_keep hb h.o,below_keep hb h.d,h.bel.trans (hb.mono h.bel.size)⟩
theorem ASt.bit {s q r:Nat} (h:ASt m z u x w wr):ASt (fun j=>if j=s*16+q then m (s*16+q) ||| 2^r else m j) z u x w (wr.setCell ⟨w.heap.size+2,s*16+q,none⟩ (.int .u64 ((m (s*16+q) ||| 2^r:Nat):Int))):=
 ⟨(heap_set_other (by omega)).trans h.k,(heap_set_other (by omega)).trans h.o,by rw[heap_set_same h.d,dotC_set],h.bel.setCell (by simp) _⟩
theorem ASt.put {m':Nat→Nat} (h:ASt m z u x w wr):ASt m' z u x w (wr.setRow (w.heap.size+2) (dotC m')):=
 ⟨by unfold World.setRow;simp only;rw [Array.getElem?_modify,if_neg (by omega)];exact h.k,by unfold World.setRow;simp only;rw [Array.getElem?_modify,if_neg (by omega)];exact h.o,setRow_heap _ _ _ _ _ _ h.d,below_setRow h.bel (by omega) _⟩
end
theorem withD_eq (m:Nat→Nat) (s c:Nat):withD m s c=fun j=>if j=s*16+c / 64 then m (s*16+c / 64) ||| 2^(c%64) else m j:=by
 funext j;unfold withD;by_cases e:j=s*16+c / 64;rw [if_pos e,if_pos e,e];rw [if_neg e,if_neg e]
theorem has_zero:Has1 (fun _=>0) fun _ _=>false:=fun s c _ _ _=>by simp[memD]
theorem has_with {m:Nat→Nat} {p:Nat→Nat→Bool} (h:Has1 m p) {s c:Nat} (hc:c < 1024):Has1 (withD m s c) fun s' c'=>p s' c' || decide (s'=s∧c'=c):=
 fun s' c' h1 h2 h3=>by rw[memD_with _ _ _ _ _ hc h3,h s' c' h1 h2 h3]
def allP (k:Kn):Nat→Nat→Bool:=fun s c=>decide ((c:Int)≤vecAt k.vec s) || decide (((s:Int),(c:Int))∈k.more)
set_option maxRecDepth 100000 in
set_option maxHeartbeats 4000000 in
theorem dall_c (u x:Value) (k:Kn) (w:World) (hk:KnAt w u x k) (hok:KnOk k) (h60:k.more.length≤60):
  Calls Tryz.prog 109 #[.agg #[u,x]] w fun e w'=> ∃m,e= .returned (.agg (dotC m))∧DWord m∧Has1 m (allP k)∧Below w.heap.size w w':=by
 obtain⟨ua,uc,rfl,hucap,hum, -,hul⟩:=hk.vec.open_
 obtain⟨xa,xc,rfl,hxcap,hxm, -,hxl⟩:=hk.more.open_
 obtain⟨z,hz⟩: ∃z,z=dotC (fun _=>0):=⟨_,rfl⟩
 have hz2:z=Tryz.zeroCells172:=by rw[hz,dotC_zero];rfl
 obtain⟨W,hW⟩: ∃W,W=((w.alloc (.cells #[.slice ua k.vec.length uc, .slice xa k.more.length xc] 73)).alloc (.cells z 172)).alloc (.cells z 172):=⟨_,rfl⟩
 have M0:=Lib.hid (show ASt (fun _=>0) z (.slice ua k.vec.length uc) (.slice xa k.more.length xc) w W from⟨by rw[hW];exact alloc_keep _ (alloc_keep _ (alloc_new _ _ _ _ rfl)),by rw[hW];exact alloc_keep _ (alloc_new _ _ _ _ (by simp)),by rw[hW,hz];exact alloc_new _ _ _ _ (by simp),by rw[hW];exact ((bal _).alloc (by simp) _).alloc (by simp;omega) _⟩)
 have HUL:=Lib.hid hul
 have HXL:=Lib.hid hxl
 have HZ:=Lib.hid (show z.size=80 by rw[hz,dotC_size])
 have HOK:=Lib.hid hok
 have hl5:k.vec.length≤5:=hok.len
 clear hk hok hul hxl hz
 have r0:=cell_of_block (j:=0) M0.out.k rfl
 go_enter Tryz.func109,Tryz.ntmps109
 go_wp2_with fail
 rw[←hz2,show w.heap.size+1+1=w.heap.size+2 from rfl,←hW]
 clear hW hz2
 go_wp2
 clear r0
 go_loopw [12] (fun i wr=> ∃(q:Nat) (m:Nat→Nat),q≤k.vec.length∧i= .int .i64 q∧DWord m∧Has1 m (fun s c=>decide (s < q)&&decide ((c:Int)≤vecAt k.vec s))∧ASt m z (.slice ua k.vec.length uc) (.slice xa k.more.length xc) w wr) (fun i _=>k.vec.length - (intOf i).toNat)
 case atStart=>exact ⟨0,_,Nat.zero_le _,rfl,fun _=>by decide,fun s c h1 h2 h3=>by rw[has_zero s c h1 h2 h3];simp,M0.out⟩
 case round=>
  clear M0
  obtain⟨q,m,hq,rfl,hmw,hh,hM⟩:=hrel
  have M:=Lib.hid hM
  have HMW:=Lib.hid hmw
  have HH:=Lib.hid hh
  clear hM hmw hh
  by_cases hlt:q < k.vec.length
  ·rcases HUL.out with hnil | ⟨b,off,rfl,hb,hc⟩
   ·rw[hnil] at hlt;simp at hlt
   have c1:=(M.out.bel.cell (p:=⟨b,off+q,none⟩) hb).trans (hc q hlt)
   have hbd:=HOK.out.bd _ (List.getElem_mem hlt)
   have HVA:=Lib.hid (show vecAt k.vec (q:Int)=k.vec[q] from vecAt_nat hlt)
   have hltb:decide ((q:Int) < (k.vec.length:Int))=true:=by simp;omega
   clear hc
   generalize k.vec[q]=nn at*
   obtain⟨n,rfl⟩:=Int.eq_ofNat_of_zero_le hbd.1
   have hn:n≤1000:=by omega
   clear hbd
   go_wp2
   clear c1
   go_loopw [6] (fun c wr=> ∃(c0:Nat) (m:Nat→Nat),1≤c0∧c0≤n+1∧c= .int .i64 c0∧DWord m∧Has1 m (fun s' c'=>(decide (s' < q)&&decide ((c':Int)≤vecAt k.vec s')) || (decide (s'=q)&&decide (c' < c0)))∧ASt m z (.slice (some ⟨b,off,none⟩) k.vec.length uc) (.slice xa k.more.length xc) w wr) (fun c _=>n+1 - (intOf c).toNat)
   case atStart=>exact ⟨1,m,Nat.le_refl _,by omega,rfl,HMW.out,fun s c h1 h2 h3=>by rw[HH.out s c h1 h2 h3];simp;omega,M.out⟩
   case round=>
    clear M HMW HH
    obtain⟨c0,m,hc1,hc2,rfl,hmw,hh,hM⟩:=hrel
    have M:=Lib.hid hM
    have HMW:=Lib.hid hmw
    have HH:=Lib.hid hh
    clear hM hmw hh
    by_cases hcn:c0≤n
    ·obtain⟨qd,hqd⟩: ∃qd,qd=c0 / 64:=⟨_,rfl⟩
     obtain⟨rd,hrd⟩: ∃rd,rd=c0%64:=⟨_,rfl⟩
     have hq5:q < 5:=by omega
     have CT:=Lib.hid (cell_of_block (j:=q*16+qd) M.out.d (dotC_get m _ (by omega)))
     have HOR:=Lib.hid (or_bit (m (q*16+qd)) rd (HMW.out _) (by omega))
     have HWR:=Lib.hid (wrap_pow rd (by omega))
     have HWD:=Lib.hid (show withD m q c0=fun j=>if j=q*16+qd then m (q*16+qd) ||| 2^rd else m j by rw[hqd,hrd];exact withD_eq m q c0)
     have HHN:=Lib.hid (has_with HH.out (s:=q) (c:=c0) (by omega))
     have HWN:=Lib.hid (withD_word HMW.out q c0)
     have hqq:((c0:Int) / 64)=(qd:Int):=by omega
     have hrr:((c0:Int)%64)=(rd:Int):=by omega
     have hq16:qd < 16:=by omega
     have hr64:rd < 64:=by omega
     clear hqd hrd
     have hcb:decide ((c0:Int)≤(n:Int))=true:=by simp;omega
     go_wp2
     refine Cl.region0 47 rfl [12] (fun ww=>Below wr.heap.size wr ww) (fun _=>[]) (fun jq v ww=>match jq with | 0=>v= .int .i64 (q:Nat) | 1=>v= .int .i64 (c0:Nat) | 2=>v= .int .i64 qd | 3=>v= .pointer (some ⟨w.heap.size+2,q*16,none⟩) | 4=>v= .pointer (some ⟨w.heap.size+2,q*16+qd,none⟩) | 5=>v= .int .u64 (m (q*16+qd)) | 6=>v= .int .i64 (c0:Nat) | 7=>v= .int .i64 rd | 8=>v= .int .u64 (2^rd) | 9=>v= .int .u64 (((m (q*16+qd) ||| 2^rd:Nat)):Int) | 10=>v= .pointer (some ⟨w.heap.size+2,q*16,none⟩) | 11=>v= .pointer (some ⟨w.heap.size+2,q*16+qd,none⟩) | 12=>ASt (withD m q c0) z (.slice (some ⟨b,off,none⟩) k.vec.length uc) (.slice xa k.more.length xc) w ww | _=>True) (fun ww=>True) (fun jq ww ww'=>jq≠12→Below ww.heap.size ww ww') Tryz.mixed (by decide+kernel) trivial ((Below.refl _ _).drew) ?_ (fun jq ww ww' hk h hR=>bstep h (hR (by simpa using hk))) ?_ ?_
     ·intro qq r v w w' hne hk hlt h hR
      match r,hk,hlt,h,hne with
      | 0,_,_,h,_=>exact h
      | 1,_,_,h,_=>exact h
      | 2,_,_,h,_=>exact h
      | 3,_,_,h,_=>exact h
      | 4,_,_,h,_=>exact h
      | 5,_,_,h,_=>exact h
      | 6,_,_,h,_=>exact h
      | 7,_,_,h,_=>exact h
      | 8,_,_,h,_=>exact h
      | 9,_,_,h,_=>exact h
      | 10,_,_,h,_=>exact h
      | 11,_,_,h,_=>exact h
      | 12,_,_,h,hne=>exact ASt.below h (hR (by exact hne))
      | _+13,_,_,_,_=>trivial
     ·refine⟨?_, ?_, ?_, ?_, ?_, ?_, ?_, ?_, ?_, ?_, ?_, ?_, ?_,trivial⟩
      ·intro x wx hG
       have f4:=hG.old 4 (by decide+kernel)
       have hp:=hG.pre (by decide+kernel)
       have hg:=hG.good
       clear hG
       have hg:=hp
       go_wp2
       exact⟨_,rfl,rfl,trivial,fun _=>Below.refl _ _⟩
      ·intro x wx hG
       have f6:=hG.old 6 (by decide+kernel)
       have hp:=hG.pre (by decide+kernel)
       have hg:=hG.good
       clear hG
       have hg:=hp
       go_wp2
       exact⟨_,rfl,rfl,trivial,fun _=>Below.refl _ _⟩
      ·intro x wx hG
       have g1:(x.tmps.getD 23 undef)= .int .i64 (c0:Nat):=hG.claims 1 _ rfl (by decide+kernel) (by decide+kernel)
       have hp:=hG.pre (by decide+kernel)
       have hg:=hG.good
       clear hG
       have hg:=hp
       go_wp2
       exact⟨_,rfl,rfl,trivial,fun _=>Below.refl _ _⟩
      ·intro x wx hG
       have f3:=hG.old 3 (by decide+kernel)
       have g0:(x.tmps.getD 22 undef)= .int .i64 (q:Nat):=hG.claims 0 _ rfl (by decide+kernel) (by decide+kernel)
       have hp:=hG.pre (by decide+kernel)
       have hg:=hG.good
       clear hG
       have hg:=hp
       go_wp2
       exact⟨_,rfl,rfl,trivial,fun _=>Below.refl _ _⟩
      ·intro x wx hG
       have g3:(x.tmps.getD 25 undef)= .pointer (some ⟨w.heap.size+2,q*16,none⟩):=hG.claims 3 _ rfl (by decide+kernel) (by decide+kernel)
       have g2:(x.tmps.getD 24 undef)= .int .i64 qd:=hG.claims 2 _ rfl (by decide+kernel) (by decide+kernel)
       have hp:=hG.pre (by decide+kernel)
       have hg:=hG.good
       clear hG
       have hg:=hp
       go_wp2
       exact⟨_,rfl,rfl,trivial,fun _=>Below.refl _ _⟩
      ·intro x wx hG
       have g4:(x.tmps.getD 26 undef)= .pointer (some ⟨w.heap.size+2,q*16+qd,none⟩):=hG.claims 4 _ rfl (by decide+kernel) (by decide+kernel)
       have hp:=hG.pre (by decide+kernel)
       have hg:=hG.good
       clear hG
       have hg:=hp
       have c_CT:=ckeep hg CT.out
       go_wp2
       exact⟨_,rfl,rfl,trivial,fun _=>Below.refl _ _⟩
      ·intro x wx hG
       have f6:=hG.old 6 (by decide+kernel)
       have hp:=hG.pre (by decide+kernel)
       have hg:=hG.good
       clear hG
       have hg:=hp
       go_wp2
       exact⟨_,rfl,rfl,trivial,fun _=>Below.refl _ _⟩
      ·intro x wx hG
       have g6:(x.tmps.getD 28 undef)= .int .i64 (c0:Nat):=hG.claims 6 _ rfl (by decide+kernel) (by decide+kernel)
       have hp:=hG.pre (by decide+kernel)
       have hg:=hG.good
       clear hG
       have hg:=hp
       go_wp2
       rw[hrr]
       exact⟨_,rfl,rfl,trivial,fun _=>Below.refl _ _⟩
      ·intro x wx hG
       have g7:(x.tmps.getD 29 undef)= .int .i64 rd:=hG.claims 7 _ rfl (by decide+kernel) (by decide+kernel)
       have hp:=hG.pre (by decide+kernel)
       have hg:=hG.good
       clear hG
       have hg:=hp
       go_wp2
       rw[HWR.out]
       exact⟨_,rfl,rfl,trivial,fun _=>Below.refl _ _⟩
      ·intro x wx hG
       have g5:(x.tmps.getD 27 undef)= .int .u64 (m (q*16+qd)):=hG.claims 5 _ rfl (by decide+kernel) (by decide+kernel)
       have g8:(x.tmps.getD 30 undef)= .int .u64 (2^rd):=hG.claims 8 _ rfl (by decide+kernel) (by decide+kernel)
       have hp:=hG.pre (by decide+kernel)
       have hg:=hG.good
       clear hG
       have hg:=hp
       have hor:=HOR.out
       go_wp2
       exact⟨_,rfl,rfl,trivial,fun _=>Below.refl _ _⟩
      ·intro x wx hG
       have f3:=hG.old 3 (by decide+kernel)
       have g0:(x.tmps.getD 22 undef)= .int .i64 (q:Nat):=hG.claims 0 _ rfl (by decide+kernel) (by decide+kernel)
       have hp:=hG.pre (by decide+kernel)
       have hg:=hG.good
       clear hG
       have hg:=hp
       go_wp2
       exact⟨_,rfl,rfl,trivial,fun _=>Below.refl _ _⟩
      ·intro x wx hG
       have g10:(x.tmps.getD 32 undef)= .pointer (some ⟨w.heap.size+2,q*16,none⟩):=hG.claims 10 _ rfl (by decide+kernel) (by decide+kernel)
       have g2:(x.tmps.getD 24 undef)= .int .i64 qd:=hG.claims 2 _ rfl (by decide+kernel) (by decide+kernel)
       have hp:=hG.pre (by decide+kernel)
       have hg:=hG.good
       clear hG
       have hg:=hp
       go_wp2
       exact⟨_,rfl,rfl,trivial,fun _=>Below.refl _ _⟩
      ·intro x wx hG
       have g11:(x.tmps.getD 33 undef)= .pointer (some ⟨w.heap.size+2,q*16+qd,none⟩):=hG.claims 11 _ rfl (by decide+kernel) (by decide+kernel)
       have g9:(x.tmps.getD 31 undef)= .int .u64 (((m (q*16+qd) ||| 2^rd:Nat)):Int):=hG.claims 9 _ rfl (by decide+kernel) (by decide+kernel)
       have hp:=hG.pre (by decide+kernel)
       have hg:=hG.good
       clear hG
       have hg:=hp
       have hM:=M.out.below hp
       have hN:=hM.bit (s:=q) (q:=qd) (r:=rd)
       rw[←HWD.out] at hN
       have HN:=Lib.hid hN
       have r0:=cell_of_block (j:=q*16+qd) hM.d (dotC_get _ _ (by omega))
       have f0:=free_of_block (j:=q*16+qd) hM.d
       have hRl:=hlt_of hM.d
       clear hM hN hp hg
       generalize ((m (q*16+qd) ||| 2^rd:Nat):Int)=xx at*
       go_wp2
       exact⟨undef,rfl,HN.out,trivial,fun h=>absurd rfl h⟩
     ·intro vals w3 hg hF
      obtain⟨g0,g1,g2,g3,g4,g5,g6,g7,g8,g9,g10,g11,g12, -⟩:=hF
      have e0:vals 0= .int .i64 (q:Nat):=g0 rfl
      have e1:vals 1= .int .i64 (c0:Nat):=g1 rfl
      have e2:vals 2= .int .i64 qd:=g2 rfl
      have e3:vals 3= .pointer (some ⟨w.heap.size+2,q*16,none⟩):=g3 rfl
      have e4:vals 4= .pointer (some ⟨w.heap.size+2,q*16+qd,none⟩):=g4 rfl
      have e5:vals 5= .int .u64 (m (q*16+qd)):=g5 rfl
      have e6:vals 6= .int .i64 (c0:Nat):=g6 rfl
      have e7:vals 7= .int .i64 rd:=g7 rfl
      have e8:vals 8= .int .u64 (2^rd):=g8 rfl
      have e9:vals 9= .int .u64 (((m (q*16+qd) ||| 2^rd:Nat)):Int):=g9 rfl
      have e10:vals 10= .pointer (some ⟨w.heap.size+2,q*16,none⟩):=g10 rfl
      have e11:vals 11= .pointer (some ⟨w.heap.size+2,q*16+qd,none⟩):=g11 rfl
      replace g12:ASt (withD m q c0) z (.slice (some ⟨b,off,none⟩) k.vec.length uc) (.slice xa k.more.length xc) w w3:=g12 rfl
      simp only[Cl.puts,e0,e1,e2,e3,e4,e5,e6,e7,e8,e9,e10,e11]
      clear e0 e1 e2 e3 e4 e5 e6 e7 e8 e9 e10 e11 g0 g1 g2 g3 g4 g5 g6 g7 g8 g9 g10 g11
      go_simp
      have HN:=Lib.hid g12
      clear g12 hg CT HOR HWR HWD
      go_wp2
      go_roundw
      case rel=>
       refine⟨c0+1,_,by omega,by omega,by go_num,HWN.out,fun s c h1 h2 h3=> ?_,HN.out⟩
       rw[HHN.out s c h1 h2 h3,Bool.eq_iff_iff]
       simp only[Bool.or_eq_true,Bool.and_eq_true,decide_eq_true_eq]
       omega
      case measure=>simp [intOf] <;> omega
    ·obtain rfl:c0=n+1:=by omega
     have hcb:decide (((n+1:Nat):Int)≤(n:Int))=false:=by simp;omega
     go_wp2
     go_roundw
     case rel=>
      refine⟨q+1,m,by omega,by go_num,HMW.out,fun s c h1 h2 h3=> ?_,M.out⟩
      rw[HH.out s c h1 h2 h3,Bool.eq_iff_iff]
      simp only[Bool.or_eq_true,Bool.and_eq_true,decide_eq_true_eq]
      have hv:=HVA.out
      constructor
      ·rintro(⟨h,h'⟩ | ⟨h,h'⟩)
       ·exact⟨by omega,h'⟩
       ·subst h;exact ⟨by omega,by rw[hv];omega⟩
      ·rintro⟨h,h'⟩
       by_cases e:s=q
       ·subst e;rw [hv] at h';exact .inr ⟨rfl,by omega⟩
       ·exact .inl ⟨by omega,h'⟩
     case measure=>simp [intOf] <;> omega
  ·obtain rfl:q=k.vec.length:=by omega
   have HH2:=Lib.hid (show Has1 m (fun s c=>decide ((c:Int)≤vecAt k.vec s) || decide (((s:Int),(c:Int))∈k.more.take 0)) from fun s c h1 h2 h3=>by
    rw[HH.out s c h1 h2 h3,Bool.eq_iff_iff]
    simp only[Bool.or_eq_true,Bool.and_eq_true,decide_eq_true_eq,List.take_zero,List.not_mem_nil,or_false]
    constructor
    ·exact fun h=>h.2
    ·intro h
     refine⟨?_,h⟩
     by_cases e:s < k.vec.length
     ·exact e
     ·rw[vecAt_out (by omega)] at h;omega)
   have r1:=cell_of_block (j:=1) M.out.k rfl
   clear HH
   go_wp2
   clear r1
   go_loopw [38] (fun i wr=> ∃(j:Nat) (m:Nat→Nat),j≤k.more.length∧i= .int .i64 j∧DWord m∧Has1 m (fun s c=>decide ((c:Int)≤vecAt k.vec s) || decide (((s:Int),(c:Int))∈k.more.take j))∧ASt m z (.slice ua k.vec.length uc) (.slice xa k.more.length xc) w wr) (fun i _=>k.more.length - (intOf i).toNat)
   case atStart=>exact ⟨0,m,Nat.zero_le _,rfl,HMW.out,HH2.out,M.out⟩
   case round=>
    clear M HMW HH2
    obtain⟨j,m,hj,rfl,hmw,hh,hM⟩:=hrel
    have M:=Lib.hid hM
    have HMW:=Lib.hid hmw
    have HH:=Lib.hid hh
    clear hM hmw hh
    by_cases hlj:j < k.more.length
    ·rcases HXL.out with hnil | ⟨b,off,rfl,hb,hc⟩
     ·rw[hnil] at hlj;simp at hlj
     obtain⟨c1,c2⟩:=hc j hlj
     replace c1:=(M.out.bel.cell (p:=⟨b,off+j*2,none⟩) hb).trans c1
     replace c2:=(M.out.bel.cell (p:=⟨b,off+j*2+1,none⟩) hb).trans c2
     obtain⟨⟨d0,d5⟩,d1,d2⟩:=dotOk_iff.1 (HOK.out.dots _ (List.getElem_mem hlj)).1
     have HT:=Lib.hid (show k.more.take (j+1)=k.more.take j++[k.more[j]] from List.take_succ_eq_append_getElem hlj)
     clear hc
     generalize k.more[j]=d at*
     obtain⟨ds,dc⟩:=d
     simp only at c1 c2 d0 d5 d1 d2
     obtain⟨ds,rfl⟩:=Int.eq_ofNat_of_zero_le d0
     obtain⟨dc,rfl⟩:=Int.eq_ofNat_of_zero_le (show 0≤dc by omega)
     have MA:=Lib.hid (M.out.below (bal (.cells #[.int .i64 (ds:Int), .int .i64 (dc:Int)] 41)))
     have HD:=Lib.hid MA.out.d
     have HI:=Lib.hid (DotsTy.size m)
     have HI2:=Lib.hid (DotsTy.size (withD m ds dc))
     have x0:=cat wr #[.int .i64 (ds:Int), .int .i64 (dc:Int)] 41 0 _ rfl _ rfl
     have x1:=cat wr #[.int .i64 (ds:Int), .int .i64 (dc:Int)] 41 1 _ rfl _ rfl
     have HHN:=Lib.hid (has_with HH.out (s:=ds) (c:=dc) (by omega))
     have HWN:=Lib.hid (withD_word HMW.out ds dc)
     have hltb:decide ((j:Int) < (k.more.length:Int))=true:=by simp;omega
     clear M
     go_wp2_with (with_reducible refine wpList_load_row rfl 172 (.tmp 3) rfl (w.heap.size+2) rfl 172 (dotC m) (0,0) _ HD.out Tryz.underlying172 rfl HI.out ?_)
     go_wp2_with fail
     (with_reducible refine(dwith_c m ds dc _ HMW.out (by omega) (by omega)).mono ?_)
     rintro e w3 ⟨rfl,hb3⟩
     have MB:=Lib.hid (MA.out.below hb3)
     clear hb3 MA HD x0 x1 c1 c2
     go_wp2_with (with_reducible refine wpList_store_row rfl 172 (.tmp 3) (.tmp 44) rfl (w.heap.size+2) (dotC (withD m ds dc)) rfl rfl 172 (dotC m) MB.out.d HI2.out ?sz ?one ?_)
     case sz=>simp [dotC_size]
     case one=>simp [dotC,Value.oneCell']
     go_wp2
     go_roundw
     case rel=>
      refine⟨j+1,_,by omega,by go_num,HWN.out,fun s c h1 h2 h3=> ?_,MB.out.put⟩
      rw[HHN.out s c h1 h2 h3,HT.out,Bool.eq_iff_iff]
      simp only[Bool.or_eq_true,decide_eq_true_eq,List.mem_append,List.mem_singleton,Prod.mk.injEq]
      rw[or_assoc]
      constructor
      ·rintro(h | h | ⟨h,h'⟩)
       ·exact .inl h
       ·exact .inr (.inl h)
       ·exact .inr (.inr ⟨by omega,by omega⟩)
      ·rintro(h | h | ⟨h,h'⟩)
       ·exact .inl h
       ·exact .inr (.inl h)
       ·exact .inr (.inr ⟨by omega,by omega⟩)
     case measure=>simp [intOf] <;> omega
    ·obtain rfl:j=k.more.length:=by omega
     have HF:=Lib.hid (show Has1 m (allP k) from fun s c h1 h2 h3=>by have h:=HH.out s c h1 h2 h3;rw [List.take_length] at h;exact h)
     have HA:=Lib.hid M.out.d
     have HZZ:=Lib.hid M.out.o
     have hi:=Lib.hid (DotsTy.size m)
     have hbl:=M.out.bel
     have hltb:decide ((k.more.length:Int) < (k.more.length:Int))=false:=by simp
     clear M HH
     go_wp2_with (first | (with_reducible refine wpList_load_row rfl 172 (.tmp 3) rfl (w.heap.size+2) rfl 172 (dotC m) (0,0) _ HA.out Tryz.underlying172 rfl hi.out ?_) | (with_reducible refine wpList_store_row rfl 172 (.tmp 2) (.tmp 46) rfl (w.heap.size+1) (dotC m) rfl rfl 172 _ HZZ.out hi.out ?sz ?one ?_))
     case sz=>rw [HZ.out,dotC_size]
     case one=>simp [dotC,Value.oneCell']
     exact bodyPost_ret (results_cell_row rfl _ _ (w.heap.size+1) 172 (dotC m) (0,0) _ rfl (setRow_heap _ _ _ _ _ _ HZZ.out) Tryz.underlying172 rfl hi.out) rfl ⟨m,rfl,HMW.out,HF.out,below_setRow hbl (by omega) _⟩
end Go.Proofs.YtihpddhngbgcdaaGreat
namespace Go.Proofs.YtihpddhngbgcdaaGreat
open Go.RowKit
def DotsV (v:Value) (k:Kn):Prop:= ∃m,v= .agg (dotC m)∧DWord m∧Has1 m (allP k)
set_option maxRecDepth 100000 in
set_option maxHeartbeats 2000000 in
theorem rover_c (a b:Ver) (u x y z:Value) (w:World) (ha:KnAt w u x a.past) (hb:KnAt w y z b.past) (hok:KnOk a.past) (h60:a.past.more.length≤60) (hd:dotOk (b.ds,b.dc)=true):
  Calls Tryz.prog 58 #[.agg (verC a u x), .agg (verC b y z)] w fun e w'=>e= .returned (.bool (verOver a b))∧Below w.heap.size w w':=by
 obtain⟨xa,ca,rfl⟩:=ha.vec.shape
 obtain⟨ya,da,rfl⟩:=ha.more.shape
 obtain⟨xb,cb,rfl⟩:=hb.vec.shape
 obtain⟨yb,db,rfl⟩:=hb.more.shape
 obtain⟨W,hW⟩: ∃W,W=(w.alloc (.cells (verC a (.slice xa a.past.vec.length ca) (.slice ya a.past.more.length da)) 75)).alloc (.cells (verC b (.slice xb b.past.vec.length cb) (.slice yb b.past.more.length db)) 75):=⟨_,rfl⟩
 have hbel:Below w.heap.size w W:=by rw[hW];exact (bal _).alloc (by simp) _
 have A:=(show W.heap[w.heap.size]? =some (Obj.cells (verC a (.slice xa a.past.vec.length ca) (.slice ya a.past.more.length da)) 75 (0,0)) by rw[hW];exact alloc_keep _ (alloc_new _ _ _ _ rfl))
 have B:=(show W.heap[w.heap.size+1]? =some (Obj.cells (verC b (.slice xb b.past.vec.length cb) (.slice yb b.past.more.length db)) 75 (0,0)) by rw[hW];exact alloc_new _ _ _ _ (by simp))
 obtain⟨a0,a1,a2,a6,a7⟩:=verAt A
 obtain⟨b0,b1,b2,b6,b7⟩:=verAt B
 have A0:=Lib.hid a0
 have A6:=Lib.hid a6
 have A7:=Lib.hid a7
 have B0:=Lib.hid b0
 have B1:=Lib.hid b1
 have B2:=Lib.hid b2
 have HK:=Lib.hid (ha.below hbel)
 have OK:=Lib.hid hok
 have HBEL:=Lib.hid hbel
 have HO:=Lib.hid (show verOver a b=(decide (a.id=b.id)&&knIn a.past b.ds b.dc) from rfl)
 have hids:=ids_eq a.id b.id
 obtain⟨⟨d0,d5⟩,d1,d2⟩:=dotOk_iff.1 hd
 simp only at d0 d5 d1 d2
 clear A B ha hb hok hd a0 a1 a2 a6 a7 b0 b1 b2 b6 b7 hbel
 unfold verC at hW ⊢
 generalize hq:decide (a.id=b.id)=q0 at*
 have HQ:=Lib.hid hq
 clear hq
 obtain⟨s,hs⟩:=Int.eq_ofNat_of_zero_le d0
 obtain⟨c,hc⟩:=Int.eq_ofNat_of_zero_le (show 0≤b.dc by omega)
 have HS:=Lib.hid hs
 have HC:=Lib.hid hc
 rw[hs] at d5
 rw[hc] at d1 d2
 have hs5:s < 5:=by omega
 have hc1:1≤c:=by omega
 have hc2:c < 1024:=by omega
 rw[hs] at B1
 rw[hc] at B2
 clear hs hc d0 d5 d1 d2
 cases q0
 ·go_enter Tryz.func58,Tryz.ntmps58
  go_wp2_with fail
  rw[←hW]
  clear hW
  refine Cl.region0 18 rfl [] (fun _=>True) (fun _=>[]) (fun jq v ww=>match jq with | 0=>v= .pointer (some ⟨w.heap.size,0,none⟩) | 1=>v= .string a.id | 2=>v= .pointer (some ⟨w.heap.size+1,0,none⟩) | 3=>v= .string b.id | 4=>v= .bool false | 5=>v= .bool false | 6=>v=undef | 7=>v=undef | 8=>v=undef | 9=>v=undef | 10=>v=undef | 11=>v=undef | 12=>v= .bool false | 13=>v= .bool false | _=>True) (fun ww=>Below W.heap.size W ww) (fun jq ww ww'=>Below ww.heap.size ww ww') Tryz.mixed (by decide+kernel) (Below.refl _ _).drew trivial (fun q r v w w' _ _ _ h _=>h) (fun _ _ _ _ _ _=>trivial) ?_ ?_
  ·refine⟨?_, ?_, ?_, ?_, ?_, ?_, ?_, ?_, ?_, ?_, ?_, ?_, ?_, ?_,trivial⟩
   ·intro x wx hG
    have f2:=hG.old 2 (by decide+kernel)
    have hg:=hG.good
    clear hG
    go_wp2
    exact⟨_,rfl,rfl,hg,Below.refl _ _⟩
   ·intro x wx hG
    have g0:(x.tmps.getD 5 undef)= .pointer (some ⟨w.heap.size,0,none⟩):=hG.claims 0 _ rfl (by decide+kernel) (by decide+kernel)
    have hg:=hG.good
    clear hG
    have c_A0:=ckeep hg A0.out
    go_wp2
    exact⟨_,rfl,rfl,hg,Below.refl _ _⟩
   ·intro x wx hG
    have f3:=hG.old 3 (by decide+kernel)
    have hg:=hG.good
    clear hG
    go_wp2
    exact⟨_,rfl,rfl,hg,Below.refl _ _⟩
   ·intro x wx hG
    have g2:(x.tmps.getD 7 undef)= .pointer (some ⟨w.heap.size+1,0,none⟩):=hG.claims 2 _ rfl (by decide+kernel) (by decide+kernel)
    have hg:=hG.good
    clear hG
    have c_B0:=ckeep hg B0.out
    go_wp2
    exact⟨_,rfl,rfl,hg,Below.refl _ _⟩
   ·intro x wx hG
    have g1:(x.tmps.getD 6 undef)= .string a.id:=hG.claims 1 _ rfl (by decide+kernel) (by decide+kernel)
    have g3:(x.tmps.getD 8 undef)= .string b.id:=hG.claims 3 _ rfl (by decide+kernel) (by decide+kernel)
    have hg:=hG.good
    clear hG
    go_wp2
    exact⟨_,rfl,rfl,hg,Below.refl _ _⟩
   ·intro x wx hG
    have g4:(x.tmps.getD 9 undef)= .bool false:=hG.claims 4 _ rfl (by decide+kernel) (by decide+kernel)
    have hg:=hG.good
    clear hG
    go_wp2
    exact⟨_,rfl,rfl,hg,Below.refl _ _⟩
   ·intro x wx hG
    have gg:(x.tmps.getD 10 undef)= .bool false:=hG.claims 5 _ rfl (by decide+kernel) (by decide+kernel)
    replace gg:=Cl.opt (hG.size.trans (show _=18 from rfl)) (by decide) gg
    have hg:=hG.good
    clear hG
    go_wp2
    exact⟨_,rfl,rfl,hg,Below.refl _ _⟩
   ·intro x wx hG
    have gg:(x.tmps.getD 10 undef)= .bool false:=hG.claims 5 _ rfl (by decide+kernel) (by decide+kernel)
    replace gg:=Cl.opt (hG.size.trans (show _=18 from rfl)) (by decide) gg
    have hg:=hG.good
    clear hG
    go_wp2
    exact⟨_,rfl,rfl,hg,Below.refl _ _⟩
   ·intro x wx hG
    have gg:(x.tmps.getD 10 undef)= .bool false:=hG.claims 5 _ rfl (by decide+kernel) (by decide+kernel)
    replace gg:=Cl.opt (hG.size.trans (show _=18 from rfl)) (by decide) gg
    have hg:=hG.good
    clear hG
    go_wp2
    exact⟨_,rfl,rfl,hg,Below.refl _ _⟩
   ·intro x wx hG
    have gg:(x.tmps.getD 10 undef)= .bool false:=hG.claims 5 _ rfl (by decide+kernel) (by decide+kernel)
    replace gg:=Cl.opt (hG.size.trans (show _=18 from rfl)) (by decide) gg
    have hg:=hG.good
    clear hG
    go_wp2
    exact⟨_,rfl,rfl,hg,Below.refl _ _⟩
   ·intro x wx hG
    have gg:(x.tmps.getD 10 undef)= .bool false:=hG.claims 5 _ rfl (by decide+kernel) (by decide+kernel)
    replace gg:=Cl.opt (hG.size.trans (show _=18 from rfl)) (by decide) gg
    have hg:=hG.good
    clear hG
    go_wp2
    exact⟨_,rfl,rfl,hg,Below.refl _ _⟩
   ·intro x wx hG
    have gg:(x.tmps.getD 10 undef)= .bool false:=hG.claims 5 _ rfl (by decide+kernel) (by decide+kernel)
    replace gg:=Cl.opt (hG.size.trans (show _=18 from rfl)) (by decide) gg
    have hg:=hG.good
    clear hG
    go_wp2
    exact⟨_,rfl,rfl,hg,Below.refl _ _⟩
   ·intro x wx hG
    have g5:(x.tmps.getD 10 undef)= .bool false:=hG.claims 5 _ rfl (by decide+kernel) (by decide+kernel)
    have g11:(x.tmps.getD 16 undef)=undef:=hG.claims 11 _ rfl (by decide+kernel) (by decide+kernel)
    have hg:=hG.good
    clear hG
    go_wp2
    exact⟨_,rfl,rfl,hg,Below.refl _ _⟩
   ·intro x wx hG
    have g12:(x.tmps.getD 17 undef)= .bool false:=hG.claims 12 _ rfl (by decide+kernel) (by decide+kernel)
    have hg:=hG.good
    clear hG
    go_wp2
    exact⟨_,rfl,rfl,hg,Below.refl _ _⟩
  ·intro vals w2 hg hF
   obtain⟨g0,g1,g2,g3,g4,g5,g6,g7,g8,g9,g10,g11,g12,g13, -⟩:=hF
   have e0:vals 0= .pointer (some ⟨w.heap.size,0,none⟩):=g0 rfl
   have e1:vals 1= .string a.id:=g1 rfl
   have e2:vals 2= .pointer (some ⟨w.heap.size+1,0,none⟩):=g2 rfl
   have e3:vals 3= .string b.id:=g3 rfl
   have e4:vals 4= .bool false:=g4 rfl
   have e5:vals 5= .bool false:=g5 rfl
   have e6:vals 6=undef:=g6 rfl
   have e7:vals 7=undef:=g7 rfl
   have e8:vals 8=undef:=g8 rfl
   have e9:vals 9=undef:=g9 rfl
   have e10:vals 10=undef:=g10 rfl
   have e11:vals 11=undef:=g11 rfl
   have e12:vals 12= .bool false:=g12 rfl
   have e13:vals 13= .bool false:=g13 rfl
   simp only[Cl.puts,e0,e1,e2,e3,e4,e5,e6,e7,e8,e9,e10,e11,e12,e13]
   clear e0 e1 e2 e3 e4 e5 e6 e7 e8 e9 e10 e11 e12 e13 g0 g1 g2 g3 g4 g5 g6 g7 g8 g9 g10 g11 g12 g13
   go_simp
   have hbl:=HBEL.out.trans (hg.mono HBEL.out.size)
   clear hg
   go_wp2
   go_ret
   exact⟨ret_bool (by rw[HO.out];rfl),hbl⟩
 ·go_enter Tryz.func58,Tryz.ntmps58
  go_wp2_with fail
  rw[←hW]
  clear hW
  refine Cl.region0 18 rfl [] (fun _=>True) (fun _=>[]) (fun jq v ww=>match jq with | 0=>v= .pointer (some ⟨w.heap.size,0,none⟩) | 1=>v= .string a.id | 2=>v= .pointer (some ⟨w.heap.size+1,0,none⟩) | 3=>v= .string b.id | 4=>v= .bool true | 5=>v= .bool true | 6=>v= .pointer (some ⟨w.heap.size,6,none⟩) | 7=>v= .agg #[.slice xa a.past.vec.length ca, .slice ya a.past.more.length da] | 8=>DotsV v a.past | 9=>v= .pointer (some ⟨w.heap.size+1,1,none⟩) | 10=>v= .agg #[.int .i64 (s:Nat), .int .i64 (c:Nat)] | 11=>v= .bool (knIn a.past b.ds b.dc) | 12=>v= .bool (knIn a.past b.ds b.dc) | 13=>v= .bool (knIn a.past b.ds b.dc) | _=>True) (fun ww=>Below W.heap.size W ww) (fun jq ww ww'=>Below ww.heap.size ww ww') Tryz.mixed (by decide+kernel) (Below.refl _ _).drew trivial (fun q r v w w' _ _ _ h _=>h) (fun _ _ _ _ _ _=>trivial) ?_ ?_
  ·refine⟨?_, ?_, ?_, ?_, ?_, ?_, ?_, ?_, ?_, ?_, ?_, ?_, ?_, ?_,trivial⟩
   ·intro x wx hG
    have f2:=hG.old 2 (by decide+kernel)
    have hg:=hG.good
    clear hG
    go_wp2
    exact⟨_,rfl,rfl,hg,Below.refl _ _⟩
   ·intro x wx hG
    have g0:(x.tmps.getD 5 undef)= .pointer (some ⟨w.heap.size,0,none⟩):=hG.claims 0 _ rfl (by decide+kernel) (by decide+kernel)
    have hg:=hG.good
    clear hG
    have c_A0:=ckeep hg A0.out
    go_wp2
    exact⟨_,rfl,rfl,hg,Below.refl _ _⟩
   ·intro x wx hG
    have f3:=hG.old 3 (by decide+kernel)
    have hg:=hG.good
    clear hG
    go_wp2
    exact⟨_,rfl,rfl,hg,Below.refl _ _⟩
   ·intro x wx hG
    have g2:(x.tmps.getD 7 undef)= .pointer (some ⟨w.heap.size+1,0,none⟩):=hG.claims 2 _ rfl (by decide+kernel) (by decide+kernel)
    have hg:=hG.good
    clear hG
    have c_B0:=ckeep hg B0.out
    go_wp2
    exact⟨_,rfl,rfl,hg,Below.refl _ _⟩
   ·intro x wx hG
    have g1:(x.tmps.getD 6 undef)= .string a.id:=hG.claims 1 _ rfl (by decide+kernel) (by decide+kernel)
    have g3:(x.tmps.getD 8 undef)= .string b.id:=hG.claims 3 _ rfl (by decide+kernel) (by decide+kernel)
    have hg:=hG.good
    clear hG
    go_wp2
    exact⟨_,rfl,rfl,hg,Below.refl _ _⟩
   ·intro x wx hG
    have g4:(x.tmps.getD 9 undef)= .bool true:=hG.claims 4 _ rfl (by decide+kernel) (by decide+kernel)
    have hg:=hG.good
    clear hG
    go_wp2
    exact⟨_,rfl,rfl,hg,Below.refl _ _⟩
   ·intro x wx hG
    have f2:=hG.old 2 (by decide+kernel)
    have gg:(x.tmps.getD 10 undef)= .bool true:=hG.claims 5 _ rfl (by decide+kernel) (by decide+kernel)
    replace gg:=Cl.opt (hG.size.trans (show _=18 from rfl)) (by decide) gg
    have hg:=hG.good
    clear hG
    go_wp2
    exact⟨_,rfl,rfl,hg,Below.refl _ _⟩
   ·intro x wx hG
    have g6:(x.tmps.getD 11 undef)= .pointer (some ⟨w.heap.size,6,none⟩):=hG.claims 6 _ rfl (by decide+kernel) (by decide+kernel)
    have gg:(x.tmps.getD 10 undef)= .bool true:=hG.claims 5 _ rfl (by decide+kernel) (by decide+kernel)
    replace gg:=Cl.opt (hG.size.trans (show _=18 from rfl)) (by decide) gg
    have hg:=hG.good
    clear hG
    have c_A6:=ckeep hg A6.out
    have c_A7:=ckeep hg A7.out
    go_wp2
    exact⟨_,rfl,rfl,hg,Below.refl _ _⟩
   ·intro x wx hG
    have g7:(x.tmps.getD 12 undef)= .agg #[.slice xa a.past.vec.length ca, .slice ya a.past.more.length da]:=hG.claims 7 _ rfl (by decide+kernel) (by decide+kernel)
    have gg:(x.tmps.getD 10 undef)= .bool true:=hG.claims 5 _ rfl (by decide+kernel) (by decide+kernel)
    replace gg:=Cl.opt (hG.size.trans (show _=18 from rfl)) (by decide) gg
    have hg:=hG.good
    clear hG
    have hk:=HK.out.below hg
    have HKX:=Lib.hid hk
    clear hk
    go_wp2_with fail
    (with_reducible refine(dall_c _ _ a.past _ HKX.out OK.out h60).mono ?_)
    rintro e wq ⟨m,rfl,hm1,hm2,hb⟩
    have H1:=Lib.hid hm1
    have H2:=Lib.hid hm2
    clear hm1 hm2
    go_wp2
    exact⟨_,rfl,⟨_,rfl,H1.out,H2.out⟩,bstep hg hb,hb⟩
   ·intro x wx hG
    have f3:=hG.old 3 (by decide+kernel)
    have gg:(x.tmps.getD 10 undef)= .bool true:=hG.claims 5 _ rfl (by decide+kernel) (by decide+kernel)
    replace gg:=Cl.opt (hG.size.trans (show _=18 from rfl)) (by decide) gg
    have hg:=hG.good
    clear hG
    go_wp2
    exact⟨_,rfl,rfl,hg,Below.refl _ _⟩
   ·intro x wx hG
    have g9:(x.tmps.getD 14 undef)= .pointer (some ⟨w.heap.size+1,1,none⟩):=hG.claims 9 _ rfl (by decide+kernel) (by decide+kernel)
    have gg:(x.tmps.getD 10 undef)= .bool true:=hG.claims 5 _ rfl (by decide+kernel) (by decide+kernel)
    replace gg:=Cl.opt (hG.size.trans (show _=18 from rfl)) (by decide) gg
    have hg:=hG.good
    clear hG
    have c_B1:=ckeep hg B1.out
    have c_B2:=ckeep hg B2.out
    go_wp2
    exact⟨_,rfl,rfl,hg,Below.refl _ _⟩
   ·intro x wx hG
    have g8:DotsV (x.tmps.getD 13 undef) a.past:=hG.claims 8 _ rfl (by decide+kernel) (by decide+kernel)
    have g10:(x.tmps.getD 15 undef)= .agg #[.int .i64 (s:Nat), .int .i64 (c:Nat)]:=hG.claims 10 _ rfl (by decide+kernel) (by decide+kernel)
    have g10b:=g10
    rw[Array.getD_eq_getD_getElem?] at g10b
    have gg:(x.tmps.getD 10 undef)= .bool true:=hG.claims 5 _ rfl (by decide+kernel) (by decide+kernel)
    replace gg:=Cl.opt (hG.size.trans (show _=18 from rfl)) (by decide) gg
    have hg:=hG.good
    clear hG
    obtain⟨m,hm0,hm1,hm2⟩:=g8
    have hm0b:=hm0
    rw[Array.getD_eq_getD_getElem?] at hm0b
    have H1:=Lib.hid hm1
    have H3:=Lib.hid (show memD m s c=knIn a.past b.ds b.dc by rw[hm2 s c hs5 hc1 hc2,HS.out,HC.out];rfl)
    clear hm1 hm2
    go_wp2_with fail
    (with_reducible refine(dhas_c m s c _ H1.out hs5 hc2).mono ?_)
    rintro e wq ⟨rfl,hb⟩
    rw[H3.out]
    go_wp2
    exact⟨_,rfl,rfl,bstep hg hb,hb⟩
   ·intro x wx hG
    have g5:(x.tmps.getD 10 undef)= .bool true:=hG.claims 5 _ rfl (by decide+kernel) (by decide+kernel)
    have g11:(x.tmps.getD 16 undef)= .bool (knIn a.past b.ds b.dc):=hG.claims 11 _ rfl (by decide+kernel) (by decide+kernel)
    have hg:=hG.good
    clear hG
    go_wp2
    exact⟨_,rfl,rfl,hg,Below.refl _ _⟩
   ·intro x wx hG
    have g12:(x.tmps.getD 17 undef)= .bool (knIn a.past b.ds b.dc):=hG.claims 12 _ rfl (by decide+kernel) (by decide+kernel)
    have hg:=hG.good
    clear hG
    go_wp2
    exact⟨_,rfl,rfl,hg,Below.refl _ _⟩
  ·intro vals w2 hg hF
   obtain⟨g0,g1,g2,g3,g4,g5,g6,g7,g8,g9,g10,g11,g12,g13, -⟩:=hF
   have e0:vals 0= .pointer (some ⟨w.heap.size,0,none⟩):=g0 rfl
   have e1:vals 1= .string a.id:=g1 rfl
   have e2:vals 2= .pointer (some ⟨w.heap.size+1,0,none⟩):=g2 rfl
   have e3:vals 3= .string b.id:=g3 rfl
   have e4:vals 4= .bool true:=g4 rfl
   have e5:vals 5= .bool true:=g5 rfl
   have e6:vals 6= .pointer (some ⟨w.heap.size,6,none⟩):=g6 rfl
   have e7:vals 7= .agg #[.slice xa a.past.vec.length ca, .slice ya a.past.more.length da]:=g7 rfl
   have e9:vals 9= .pointer (some ⟨w.heap.size+1,1,none⟩):=g9 rfl
   have e10:vals 10= .agg #[.int .i64 (s:Nat), .int .i64 (c:Nat)]:=g10 rfl
   have e11:vals 11= .bool (knIn a.past b.ds b.dc):=g11 rfl
   have e12:vals 12= .bool (knIn a.past b.ds b.dc):=g12 rfl
   have e13:vals 13= .bool (knIn a.past b.ds b.dc):=g13 rfl
   simp only[Cl.puts,e0,e1,e2,e3,e4,e5,e6,e7,e9,e10,e11,e12,e13]
   clear e0 e1 e2 e3 e4 e5 e6 e7 e9 e10 e11 e12 e13 g0 g1 g2 g3 g4 g5 g6 g7 g8 g9 g10 g11 g12 g13
   go_simp
   have hbl:=HBEL.out.trans (hg.mono HBEL.out.size)
   clear hg
   go_wp2
   go_ret
   exact⟨ret_bool (by rw[HO.out];rfl),hbl⟩
end Go.Proofs.YtihpddhngbgcdaaGreat
