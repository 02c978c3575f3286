/- What the reference's In does. -/
import Derived.Test.YtgkgdedhicnohaaGreatMPartN
namespace Go.Proofs.YtgkgdedhicnohaaGreat
set_option maxRecDepth 100000
set_option maxHeartbeats 40000000
open Go.RowKit
def gdC (y n t:Int) (i:Nat):Bool:= !((((y / 2^i).tmod 2==1)&& !((t / 2^i).tmod 2==1)) || (((n / 2^i).tmod 2==1)&&((t / 2^i).tmod 2==1)))
theorem gdC_nat: ∀y:Nat,y < 16→ ∀n:Nat,n < 16→ ∀t:Nat,t < 16→cubeIn y n t=(gdC y n t 0&&gdC y n t 1&&gdC y n t 2&&gdC y n t 3):=by decide+kernel
theorem gdC_all {y n t:Int} (hy:0≤y∧y≤15) (hn:0≤n∧n≤15) (ht:0≤t∧t≤15):cubeIn y n t=(gdC y n t 0&&gdC y n t 1&&gdC y n t 2&&gdC y n t 3):=by
 have:=gdC_nat y.toNat (by omega) n.toNat (by omega) t.toNat (by omega)
 rwa[Int.toNat_of_nonneg hy.1,Int.toNat_of_nonneg hn.1,Int.toNat_of_nonneg ht.1] at this
theorem gdC_bad {y n t:Int} (h:cubeIn y n t=(gdC y n t 0&&gdC y n t 1&&gdC y n t 2&&gdC y n t 3)) {k:Nat} (hk:k < 4) (hg:gdC y n t k=false):cubeIn y n t=false:=by
 rw[h]
 obtain rfl | rfl | rfl | rfl:k=0∨k=1∨k=2∨k=3:=by omega
 all_goals simp[hg]
theorem gdC_end {y n t:Int} (h:cubeIn y n t=(gdC y n t 0&&gdC y n t 1&&gdC y n t 2&&gdC y n t 3)) (hg: ∀j:Nat,j < 4→gdC y n t j=true):cubeIn y n t=true:=by
 rw[h,hg 0 (by omega),hg 1 (by omega),hg 2 (by omega),hg 3 (by omega)];rfl
theorem gdC_step {y n t:Int} {k:Nat} (h: ∀j:Nat,j < k→gdC y n t j=true) (hk:gdC y n t k=true): ∀j:Nat,j < k+1→gdC y n t j=true:=fun j hj=>by
 by_cases e:j=k
 ·rw[e];exact hk
 ·exact h j (by omega)
theorem rin_c (y n t:Int) (w:World) (hy:0≤y∧y≤15) (hn:0≤n∧n≤15) (ht:0≤t∧t≤15):
  Calls Tryz.prog 147 #[.agg #[.int .i64 y, .int .i64 n], .int .i64 t] w fun e w'=>e= .returned (.bool (cubeIn y n t))∧Below w.heap.size w w':=by
 have HR:=jD (gdC_all hy hn ht)
 have hbx:=bal (W:=w) (.cells #[.int .i64 y, .int .i64 n] 122)
 have HNB:=jD (alloc_new w #[.int .i64 y, .int .i64 n] 122 _ rfl)
 have HBX:=jD hbx
 clear hbx hy hn ht
 go_enter Tryz.func147,Tryz.ntmps147
 go_wp2
 go_loopw [7] (fun i wr=> ∃k:Nat,k≤4∧i= .int .i64 k∧(∀j:Nat,j < k→gdC y n t j=true)∧Below (w.heap.size+1) (w.alloc (.cells #[.int .i64 y, .int .i64 n] 122)) wr) (fun i _=>4 - (intOf i).toNat)
 case atStart=>exact ⟨0,by omega,rfl,fun j hj=>absurd hj (by omega),Below.refl _ _⟩
 case round=>
  obtain⟨k,hk,rfl,hal,hbl⟩:=hrel
  have HAL:=jD hal
  have HBL:=jD hbl
  have hb':Below (w.alloc (.cells #[.int .i64 y, .int .i64 n] 122)).heap.size (w.alloc (.cells #[.int .i64 y, .int .i64 n] 122)) wr:=by rw[World.size_alloc];exact hbl
  have HBE:=jD (bstep HBX.out hb')
  have hnb:=below_keep hb' HNB.out
  have c0:=cell_of_block (j:=0) hnb rfl
  have c1:=cell_of_block (j:=1) hnb rfl
  clear hal hbl hb' hnb
  by_cases hlt:k < 4
  ·have hkb:decide ((k:Int) < 4)=true:=by simp;omega
   have HG:=jD (show gdC y n t k= !((((y / 2^k).tmod 2==1)&& !((t / 2^k).tmod 2==1)) || (((n / 2^k).tmod 2==1)&&((t / 2^k).tmod 2==1))) from rfl)
   cases hyb:((y / 2^k).tmod 2==1) <;> cases hnb:((n / 2^k).tmod 2==1) <;> cases htb:((t / 2^k).tmod 2==1) <;>
    (
     rw[hyb,hnb,htb] at HG
     have hyd:decide ((y / 2^k).tmod 2=1)=((y / 2^k).tmod 2==1):=rfl
     have hnd:decide ((n / 2^k).tmod 2=1)=((n / 2^k).tmod 2==1):=rfl
     have htd:decide ((t / 2^k).tmod 2=1)=((t / 2^k).tmod 2==1):=rfl
     rw[hyb] at hyd
     rw[hnb] at hnd
     rw[htb] at htd
     go_wp2
     first
     | (
      go_ret
      exact⟨ret_bool (gdC_bad HR.out hlt HG.out).symm,HBE.out⟩)
     | (
      go_roundw
      case rel=>exact ⟨k+1,by omega,by go_num,gdC_step HAL.out HG.out,HBL.out⟩
      case measure=>simp [intOf] <;> omega))
  ·obtain rfl:k=4:=by omega
   go_wp2
   go_ret
   exact⟨ret_bool (gdC_end HR.out HAL.out).symm,HBE.out⟩
end Go.Proofs.YtgkgdedhicnohaaGreat
