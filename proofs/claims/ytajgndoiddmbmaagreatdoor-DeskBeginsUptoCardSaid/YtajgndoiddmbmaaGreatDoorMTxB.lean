/- Towards what desk.Run answers. -/
import Derived.Test.YtajgndoiddmbmaaGreatDoorMTxA
import Derived.Lib.ItoaNum
import Derived.Defers
import Derived.Recover
import Derived.Laws.Pointers
import Derived.RegionTactic
import Derived.ChangeAlike
namespace Go.Proofs.YtajgndoiddmbmaaGreatDoor
set_option maxRecDepth 100000
set_option maxHeartbeats 40000000
open Go.RowKit
theorem Pd (l:cH) (t n:Int) (j k:Nat) (h:j < k):(valsK l t n k).getD j false=(valsK l t n (j+1)).getD j false:=by
 induction k with
 | zero=>omega
 | succ k ih=>
  by_cases e:j=k
  ·subst e;rfl
  ·rw[←ih (by omega)];simp only[valsK,List.getD,List.getElem?_append_left (show j < (valsK l t n k).length by rw[yK];omega)]
theorem Na (l:cH) (t n:Int) (k:Nat):(valsK l t n (k+1)).getD k false=tK (valsK l t n k) t n (l.getD k ⟨0,0,0⟩):=by
 simp[valsK,List.getD,yK]
theorem BO (s t:ByteArray):(s++t).size=s.size+t.size:=ByteArray.size_append
theorem XT {s:ByteArray} {i c:Nat} (h:chr s i=c) (hc:c < 256):i < s.size:=jd (by omega)
theorem xy {s:ByteArray} : ∀ {f i:Nat} {ns zh:cH} {j:Nat},oneP s f i ns=some (j,zh)→ ∃m,zh=ns++m
 | 0,_,_,_,_,h=>by simp[oneP] at h
 | f+1,i,ns,zh,j,h=>by
  by_cases c1:chr s i=42
  ·rw[xA c1] at h;simp only[Option.some.injEq,Prod.mk.injEq] at h;exact⟨_,h.2.symm⟩
  by_cases c2:chr s i=35
  ·rw[uf c2] at h;cases hn:fD s (i+1) with
   | none=>simp [hn] at h
   | some p=>
    simp only[hn,Option.bind_some,Option.some.injEq,Prod.mk.injEq] at h;exact⟨_,h.2.symm⟩
  by_cases c3:chr s i=91
  ·rw[pn c3] at h;cases hn:fD s (i+1) with
   | none=>simp [hn] at h
   | some p=>
    simp only[hn,Option.bind_some] at h;split at h
    ·cases hm:fD s (p.1+1) with
     | none=>simp [hm] at h
     | some q=>
      simp only[hm,Option.bind_some] at h;split at h
      ·simp only[Option.some.injEq,Prod.mk.injEq] at h;exact⟨_,h.2.symm⟩
      ·cases h
    ·cases h
  by_cases c4:chr s i=33
  ·rw[ug c4] at h;cases hn:oneP s f (i+1) ns with
   | none=>simp [hn] at h
   | some p=>
    obtain⟨m,hm⟩:=xy (zh:=p.2) (j:=p.1) hn;simp only[hn,Option.bind_some,Option.some.injEq,Prod.mk.injEq] at h;exact⟨_,by rw[←h.2,hm,List.append_assoc]⟩
  by_cases c5:chr s i=40
  ·rw[jB c5] at h;cases hn:oneP s f (i+1) ns with
   | none=>simp [hn] at h
   | some p=>
    obtain⟨m,hm⟩:=xy (zh:=p.2) (j:=p.1) hn;simp only[hn,Option.bind_some] at h;split at h
    ·cases ho:oneP s f (p.1+1) p.2 with
     | none=>simp [ho] at h
     | some q=>
      obtain⟨m2,hm2⟩:=xy (zh:=q.2) (j:=q.1) ho;simp only[ho,Option.bind_some] at h;split at h
      ·simp only[Option.some.injEq,Prod.mk.injEq] at h;exact⟨_,by rw[←h.2,hm2,hm,List.append_assoc,List.append_assoc]⟩
      ·cases h
    ·cases h
  ·rw[xz c1 c2 c3 c4 c5] at h;cases h
theorem Ny {s:ByteArray} (h:readE s=0):s.size≤400∧ ∃l,oneP s 401 0 []=some (s.size,l)∧cI l=0∧ey s=l:=by
 have h2:=h;unfold readE at h;split at h
 ·cases h
 ·rename_i hs;refine⟨by omega, ?_⟩;cases ho:oneP s 401 0 [] with
  | none=>rw [ho] at h;cases h
  | some p=>
   obtain⟨j,l⟩:=p;rw[ho] at h;have hj:=(jT ho).2.1;by_cases hlt:j < s.size
   ·dsimp only at h;rw[if_pos hlt] at h;cases h
   ·obtain rfl:j=s.size:=by omega
    refine⟨l,rfl, ?_, ?_⟩
    ·dsimp only at h;rw[if_neg hlt] at h;exact h
    ·rw[ey,if_pos h2,ho]
def abI (i:Nat) (n:Nd):Prop:=n.k=1∨n.k=2∨n.k=3∨(n.k=4∧0≤n.a∧n.a < i)∨((n.k=5∨n.k=6)∧0≤n.a∧n.a < i∧0≤n.b∧n.b < i)
def abJ (l:cH):Prop:= ∀k (h:k < l.length),abI k l[k]
def Nc (c:UInt8) (s t:ByteArray):ByteArray:=(((⟨#[40]⟩++s)++⟨#[c]⟩)++t)++⟨#[41]⟩
def aeR (s:ByteArray):ByteArray:=⟨#[33]⟩++s
theorem Nl (c:UInt8):(⟨#[c]⟩:ByteArray).size=1:=rfl
theorem FH (c:UInt8) (s t:ByteArray):(Nc c s t).size=s.size+t.size+3:=by
 simp only[Nc,BO,Nl];omega
section
variable (c:UInt8) (s t:ByteArray)
end
def iw (b:ByteArray):ByteArray:=if 400 < b.size then b.extract 0 401 else b
def ia (n:Nat):ByteArray:=⟨(Lib.decDigits n).toArray⟩
def oq (ss:List ByteArray) (n:Nd):ByteArray:=
 if n.k=1 then⟨#[42]⟩
 else if n.k=2 then⟨#[35]⟩++ia n.a.toNat
 else if n.k=3 then(((⟨#[91]⟩++ia n.a.toNat)++⟨#[44]⟩)++ia n.b.toNat)++⟨#[41]⟩
 else if n.k=4 then aeR (ss.getD n.a.toNat ByteArray.empty)
 else if n.k=5 then Nc 38 (ss.getD n.a.toNat ByteArray.empty) (ss.getD n.b.toNat ByteArray.empty)
 else Nc 124 (ss.getD n.a.toNat ByteArray.empty) (ss.getD n.b.toNat ByteArray.empty)
def txtsK (l:cH):Nat→List ByteArray
 | 0=>[]
 | k+1=>txtsK l k++[iw (oq (txtsK l k) (l.getD k ⟨0,0,0⟩))]
theorem pO (l:cH) (k:Nat):(txtsK l k).length=k:=by
 induction k with
 | zero=>rfl
 | succ k ih=>simp [txtsK,ih]
theorem uW (l:cH) (j k:Nat) (h:j < k):(txtsK l k).getD j ByteArray.empty=iw (oq (txtsK l j) (l.getD j ⟨0,0,0⟩)):=by
 induction k with
 | zero=>omega
 | succ k ih=>
  by_cases e:j=k
  ·subst e;simp[txtsK,List.getD,pO]
  ·rw[←ih (by omega)];simp only[txtsK,List.getD,List.getElem?_append_left (show j < (txtsK l k).length by rw[pO];omega)]
theorem K9 (l m:cH) (k:Nat) (h: ∀j,j < k→l.getD j ⟨0,0,0⟩=m.getD j ⟨0,0,0⟩):txtsK l k=txtsK m k:=by
 induction k with
 | zero=>rfl
 | succ k ih=>simp only[txtsK];rw [ih fun j hj=>h j (by omega),h k (by omega)]
theorem FE (l m:cH) (k:Nat) (h:k≤l.length):txtsK (l++m) k=txtsK l k:=
 K9 _ _ _ fun j hj=>by simp[List.getD,List.getElem?_append_left (show j < l.length by omega)]
def wX (l:cH):List ByteArray:=txtsK l l.length
def mQ (l:cH):ByteArray:=(wX l).getD (l.length - 1) ByteArray.empty
def nQ (l:cH):Int:=if cI l=0 then(if 400 < (mQ l).size then 2 else 0) else cI l
def jI (l:cH):ByteArray:=if nQ l=0 then mQ l else ByteArray.empty
structure Good (s:ByteArray) (m:cH):Prop where
 sz:s.size≤400
 par:oneP s 401 0 []=some (s.size,m)
 well:abJ m
 GK: ∀k (h:k < m.length),ez k m[k]=0
def rf (a:Nat):ByteArray:=if a < 10 then⟨#[UInt8.ofNat (48+a)]⟩ else⟨#[UInt8.ofNat (48+a / 10),UInt8.ofNat (48+a%10)]⟩
theorem wL {a:Nat} (h:a < 100):ia a=rf a:=by
 unfold ia rf;by_cases h1:a < 10
 ·rw[if_pos h1,Lib.decDigits,dif_pos h1]
 ·rw[if_neg h1,Lib.decDigits,dif_neg h1,Lib.decDigits,dif_pos (by omega)];rfl
theorem WJ: ∀a,a < 4→oneP (⟨#[35]⟩++rf a) 401 0 []=some ((⟨#[35]⟩++rf a).size,[⟨2,(a:Nat),0⟩])∧(⟨#[35]⟩++rf a).size≤400:=by decide+kernel
theorem YQ: ∀b,b < 33→ ∀a,a < b→oneP ((((⟨#[91]⟩++rf a)++⟨#[44]⟩)++rf b)++⟨#[41]⟩) 401 0 []=some (((((⟨#[91]⟩++rf a)++⟨#[44]⟩)++rf b)++⟨#[41]⟩).size,[⟨3,(a:Nat),(b:Nat)⟩])∧((((⟨#[91]⟩++rf a)++⟨#[44]⟩)++rf b)++⟨#[41]⟩).size≤400:=by decide+kernel
theorem eF {a b:ByteArray} (h:a.data.toList=b.data.toList):a=b:=by
 cases a;cases b
 simp only at h;congr 1;exact Array.ext' h
theorem jG (a b:ByteArray):(a++b).data.toList=a.data.toList++b.data.toList:=by rw[ByteArray.data_append,Array.toList_append]
theorem mJ (s:ByteArray) {i k j:Nat} (h1:i≤k) (h2:k≤j):s.extract i k++s.extract k j=s.extract i j:=by
 apply eF;rw[jG,oW,oW,oW,show j - i=(k - i)+(j - k) by omega,List.take_add,List.drop_drop,show i+(k - i)=k by omega]
theorem mI {s:ByteArray} {i:Nat} {c:UInt8} (h:chr s i=c.toNat):s.extract i (i+1)=⟨#[c]⟩:=by
 have hi:i < s.size:=XT h c.toNat_lt;apply eF;rw[Og hi];rw[iK hi] at h;rw[UInt8.toNat_inj.1 h]
theorem EE {s:ByteArray} {i j v:Nat} (h:fD s i=some (j,v)):ia v=s.extract i j:=by
 apply eF;rw[ia];unfold fD at h;split at h
 ·cases h
 ·rename_i h0;have d0:iP (chr s i)=true:=by cases hq:iP (chr s i) <;> simp_all
  have l0:=qO d0;have e0:=jY.1 d0;rw[iK l0] at e0;split at h
  ·simp only[Option.some.injEq,Prod.mk.injEq] at h;obtain⟨rfl,rfl⟩:=h;rw[Og l0,iK l0];exact(YH s[i] e0).2
  ·rename_i h1;have d1:iP (chr s (i+1))=true:=by cases hq:iP (chr s (i+1)) <;> simp_all
   have l1:=qO d1;have e1:=jY.1 d1;rw[iK l1] at e1;split at h
   ·cases h
   ·rename_i h2;simp only[Option.some.injEq,Prod.mk.injEq] at h;obtain⟨rfl,rfl⟩:=h;rw[Ub l1,iK l0,iK l1];exact(YG s[i] s[i+1] e0 e1).2.2 fun e=>h2 (.inr (by rw[iK l0];exact e))
theorem Sq {l r:cH} {k:Nat} (h:k < l.length):(wX (l++r)).getD k ByteArray.empty=(wX l).getD k ByteArray.empty:=by
 rw[wX,wX,uW _ k _ (by rw[List.length_append];omega),uW l k _ h,FE _ _ _ (by omega)];congr 2;simp[List.getD,List.getElem?_append_left h]
theorem rT (m:cH) (n:Nd):mQ (m++[n])=iw (oq (wX m) n):=by
 rw[mQ,wX,List.length_append,List.length_singleton,Nat.add_sub_cancel,uW _ _ _ (Nat.lt_succ_self _),FE _ _ _ (Nat.le_refl _)];simp[wX,List.getD]
theorem wR {s:ByteArray} (h:s.size≤400) (i j:Nat):iw (s.extract i j)=s.extract i j:=by
 unfold iw;rw[if_neg (by rw[ByteArray.size_extract];omega)]
theorem zk {l r:cH} {x:Int} (hl:0 < l.length) (hx:x=(l.length:Int) - 1):(wX (l++r)).getD x.toNat ByteArray.empty=mQ l:=by
 have:x.toNat=l.length - 1:=by omega
 rw[this,Sq (by omega)];rfl
theorem vg {s:ByteArray} (hs:s.size≤400): ∀ {f i:Nat} {ns l:cH} {j:Nat},oneP s f i ns=some (j,l)→mQ l=s.extract i j
 | 0,_,_,_,_,e=>by simp[oneP] at e
 | f+1,i,ns,l,j,e=>by
  by_cases c1:chr s i=42
  ·rw[xA c1] at e;simp only[Option.some.injEq,Prod.mk.injEq] at e;obtain⟨rfl,rfl⟩:=e;rw[rT,←wR hs,mI (c:=42) c1];rfl
  by_cases c2:chr s i=35
  ·rw[uf c2] at e;cases hn:fD s (i+1) with
   | none=>simp [hn] at e
   | some q=>
    obtain⟨k,v⟩:=q;have hk:=nT hn;simp only[hn,Option.bind_some,Option.some.injEq,Prod.mk.injEq] at e;obtain⟨rfl,rfl⟩:=e;rw[rT,←wR hs,←mJ s (show i≤i+1 by omega) (show i+1≤k by omega),mI (c:=35) c2,←EE hn];rfl
  by_cases c3:chr s i=91
  ·rw[pn c3] at e;cases hn:fD s (i+1) with
   | none=>simp [hn] at e
   | some q=>
    obtain⟨k,v⟩:=q;have hk:=nT hn;simp only[hn,Option.bind_some] at e;split at e
    ·rename_i d1;cases hm:fD s (k+1) with
     | none=>simp [hm] at e
     | some r=>
      obtain⟨k2,v2⟩:=r;have hk2:=nT hm;simp only[hm,Option.bind_some] at e;split at e
      ·rename_i d2;simp only[Option.some.injEq,Prod.mk.injEq] at e;obtain⟨rfl,rfl⟩:=e;rw[rT,←wR hs,←mJ s (show i≤k2 by omega) (show k2≤k2+1 by omega),←mJ s (show i≤k+1 by omega) (show k+1≤k2 by omega),←mJ s (show i≤k by omega) (show k≤k+1 by omega),
        ←mJ s (show i≤i+1 by omega) (show i+1≤k by omega),mI (c:=91) c3,←EE hn,mI (c:=44) d1,←EE hm,mI (c:=41) d2];rfl
      ·cases e
    ·cases e
  by_cases c4:chr s i=33
  ·rw[ug c4] at e;cases hn:oneP s f (i+1) ns with
   | none=>simp [hn] at e
   | some q=>
    obtain⟨k,m⟩:=q;have hk:=jT hn;have ih:=vg hs hn;simp only[hn,Option.bind_some,Option.some.injEq,Prod.mk.injEq] at e;obtain⟨rfl,rfl⟩:=e;rw[rT,←wR hs,←mJ s (show i≤i+1 by omega) (show i+1≤k by omega),mI (c:=33) c4,←ih];have:=zk (l:=m) (r:=[]) (x:=(m.length:Int) - 1) (by omega) rfl;rw[List.append_nil] at this;rw[←this];rfl
  by_cases c5:chr s i=40
  ·rw[jB c5] at e;cases hn:oneP s f (i+1) ns with
   | none=>simp [hn] at e
   | some q=>
    obtain⟨k,m⟩:=q;have hk:=jT hn;have ih:=vg hs hn;simp only[hn,Option.bind_some] at e;split at e
    ·rename_i d1;cases ho:oneP s f (k+1) m with
     | none=>simp [ho] at e
     | some r=>
      obtain⟨k2,m2⟩:=r;have hk2:=jT ho;have ih2:=vg hs ho;obtain⟨r,rfl⟩:=xy ho;simp only[ho,Option.bind_some] at e;split at e
      ·rename_i d2;simp only[Option.some.injEq,Prod.mk.injEq] at e;obtain⟨rfl,rfl⟩:=e;have p1:=zk (l:=m) (r:=r) (x:=(m.length:Int) - 1) (by omega) rfl;have p2:=zk (l:=m++r) (r:=[]) (x:=((m++r).length:Int) - 1) (by omega) rfl;rw[List.append_nil] at p2;rw[rT,←wR hs,←mJ s (show i≤k2 by omega) (show k2≤k2+1 by omega),←mJ s (show i≤k+1 by omega) (show k+1≤k2 by omega),←mJ s (show i≤k by omega) (show k≤k+1 by omega),
        ←mJ s (show i≤i+1 by omega) (show i+1≤k by omega),mI (c:=40) c5,←ih,←ih2,mI (c:=41) d2,←p1,←p2]
       by_cases d:chr s k=124
       ·rw[if_pos d,mI (c:=124) d];rfl
       ·rw[if_neg d,mI (c:=38) (by rcases d1 with d1 | d1;exact absurd d1 d;exact d1)];rfl
      ·cases e
    ·cases e
  ·rw[xz c1 c2 c3 c4 c5] at e;cases e
theorem pU {s:ByteArray} (h:readE s=0):nQ (ey s)=0∧mQ (ey s)=s:=by
 obtain⟨h4,l,ho,hf,hl⟩:=Ny h;have e:mQ l=s:=by
  rw[vg h4 ho];apply eF;rw[oW];simp only[List.drop_zero,Nat.sub_zero];exact List.take_of_length_le (by simp)
 rw[hl];exact⟨by rw[nQ,if_pos hf,if_neg (by rw[e];omega)],e⟩
def BJ (B:Nat):Value:= .slice (some ⟨B+1,0,none⟩) 0 0
theorem LH {B:Nat} {x0 x1:Value} {w:World} (h0:w.heap[B]? =some (Obj.cells #[x0] 23 (0,0))) (h1:w.heap[B+1]? =some (Obj.cells #[x1] 24 (0,0))) (o:Obj) (u v:Value):
  (((w.setCell ⟨B,0,none⟩ u).setCell ⟨B+1,0,none⟩ v).alloc o).drew.heap[B]? =some (Obj.cells #[u] 23 (0,0))∧(((w.setCell ⟨B,0,none⟩ u).setCell ⟨B+1,0,none⟩ v).alloc o).drew.heap[B+1]? =some (Obj.cells #[v] 24 (0,0))∧Kp B (BJ B) (BJ B) w (((w.setCell ⟨B,0,none⟩ u).setCell ⟨B+1,0,none⟩ v).alloc o).drew:=by
 have k:Kp B (BJ B) (BJ B) w ((w.setCell ⟨B,0,none⟩ u).setCell ⟨B+1,0,none⟩ v):=⟨rfl,rfl,rfl,by simp[World.setCell],fun k _ hR hv=>by rw[cO (fun e=>hv (by rw[e];rfl)),cO hR], .inl rfl⟩
 refine⟨?_, ?_,k.trans (Kp.of_below ((aG o).trans (br).drew))⟩
 ·exact aO (w:=(w.setCell ⟨B,0,none⟩ u).setCell ⟨B+1,0,none⟩ v) _ ((cO (by omega)).trans (ki h0))
 ·exact aO (w:=(w.setCell ⟨B,0,none⟩ u).setCell ⟨B+1,0,none⟩ v) _ (ki ((cO (by omega)).trans h1))
theorem XV (B:Nat) (x0 x1:Value) (older:List PanicEntry) (w:World) (h0:w.heap[B]? =some (Obj.cells #[x0] 23 (0,0))) (h1:w.heap[B+1]? =some (Obj.cells #[x1] 24 (0,0))):
  CallsD Tryz.prog 18 #[.pointer (some ⟨B,0,none⟩), .pointer (some ⟨B+1,0,none⟩)] (.panicking ({ v:= .iface 54 (.agg #[.int .i64 9]),recovered:=false } ::older)) w fun e u' w'=>
   e= .returned (.tuple #[])∧u'= .panicking ({ v:= .iface 54 (.agg #[.int .i64 9]),recovered:=true } ::older)∧w'.heap[B]? =some (Obj.cells #[.slice none 0 0] 23 (0,0))∧w'.heap[B+1]? =some (Obj.cells #[.int .i64 9] 24 (0,0))∧Kp B (BJ B) (BJ B) w w':=by
 refine callsD_of_wpS Tryz.func18 rfl fun c₀ cs hu=> ?_;apply wpS_seq;apply wpS_region;simp[wpOpsS,go_sem,recoverD,hu,Tryz.ntmps18,Exit.thenS];apply wpS_seq;apply wpS_region;simp[wpOpsS,go_sem,Exit.thenS,Array.replicate];refine wpS_cond (t:=true) (by simp[Act.eval]) ?_;simp only[if_true];refine wpS_of_wp ?_;have hx0:=cq 0 h0 rfl;have hz0:=fq 0 h0;have hx1:=cq 0 h1 rfl;have hz1:=fq 0 h1;have hl0:=ai h0;have Vq:=ai h1;have hta: ∀w:World,(Instr.typeAssert (.iface 54 (.agg #[.int .i64 9])) 20 54 true).run Tryz.prog w= .ok (.tuple #[.agg #[.int .i64 9], .bool true]) w:=fun _=>by kernel_rfl
 go_wp2;go_region;go_wp2;have CW:=jD (LH h0 h1 (Obj.cells #[Value.int IntKind.i64 9] 54) (.slice none 0 0) (.int .i64 9));clear h0 h1 hx0 hz0 hx1 hz1;cases c₀
 simp_all only[bodyPostS];exact⟨trivial,_,rfl,_,results_none rfl _ _ _,rfl,rfl,CW.o⟩
theorem Ff (B:Nat) (w:World):
  CallsD Tryz.prog 18 #[.pointer (some ⟨B,0,none⟩), .pointer (some ⟨B+1,0,none⟩)] .returning w fun e u' w'=>e= .returned (.tuple #[])∧u'= .returning∧w'=w:=by
 refine callsD_of_wpS Tryz.func18 rfl fun c₀ cs hu=> ?_;apply wpS_seq;apply wpS_region;simp[wpOpsS,go_sem,recoverD,hu,Tryz.ntmps18,Exit.thenS];apply wpS_seq;apply wpS_region;simp[wpOpsS,go_sem,Exit.thenS,Array.replicate];refine wpS_cond (t:=false) (by simp[Act.eval]) ?_;simp only[Bool.false_eq_true,if_false];refine wpS_of_wp (wp_skip ?_);cases c₀
 simp_all only[bodyPostS];exact⟨trivial,_,rfl,_,results_none rfl _ _ _,rfl,rfl,trivial⟩
def aax (s:ByteArray) (w:World) (e:Ending) (w':World):Prop:= ∃u,e= .returned (.tuple #[u, .int .i64 (readE s)])∧jm w' u (ey s)∧Below w.heap.size w w'
theorem jm.nil (w:World):jm w (.slice none 0 0) []:=aF.nil w
theorem BU {B:Nat} {x0 x1:Value} {w:World} (_h0:w.heap[B]? =some (Obj.cells #[x0] 23 (0,0))) (_h1:w.heap[B+1]? =some (Obj.cells #[x1] 24 (0,0))) (u v:Value):
  Below B w ((w.setCell ⟨B,0,none⟩ u).setCell ⟨B+1,0,none⟩ v)∧(∀k,B+1 < k→((w.setCell ⟨B,0,none⟩ u).setCell ⟨B+1,0,none⟩ v).heap[k]? =w.heap[k]?):=
 ⟨⟨rfl,rfl,rfl,by simp[World.setCell],fun k hk=>by rw[cO (by omega),cO (by omega)]⟩,fun k hk=>by rw[cO (by omega),cO (by omega)]⟩
structure RdW (w:World) (s:ByteArray) (W:World):Prop where
 b0:W.heap[w.heap.size]? =some (Obj.cells #[.slice none 0 0] 23 (0,0))
 b1:W.heap[w.heap.size+1]? =some (Obj.cells #[.int .i64 0] 24 (0,0))
 rd:ic W (w.heap.size+1+1) s 0 (.slice none 0 0) []
 gl:Gl W (w.heap.size+1+1)
 aW:Below w.heap.size w W
theorem rdW {w:World} (hg:Gl w w.heap.size) (s:ByteArray):RdW w s (((w.alloc (Obj.cells #[Value.slice none 0 0] 23)).alloc (Obj.cells #[Value.int IntKind.i64 0] 24)).alloc (Obj.cells #[Value.string s,Value.int IntKind.i64 0,Value.slice none 0 0] 58)):=by
 have hb:Below w.heap.size w (((w.alloc (Obj.cells #[Value.slice none 0 0] 23)).alloc (Obj.cells #[Value.int IntKind.i64 0] 24)).alloc (Obj.cells #[Value.string s,Value.int IntKind.i64 0,Value.slice none 0 0] 58)):=((aG _).alloc (by simp) _).alloc (by simp;omega) _;have hg2:=hg.below hb;refine⟨aO _ (aO _ (au _ _ _ _ rfl)),aO _ (au _ _ _ _ (by simp)),⟨au _ _ _ _ (by simp),World.ownsRow_nil _ _ _ _⟩,⟨hg2.syn,hg2.ran, ?_, ?_⟩,hb⟩
 ·have:=hg.Je;omega
 ·have:=hg.Jf;omega
theorem IY (s:ByteArray) (w:World) (hg:Gl w w.heap.size) (hs:s.size≤4611686018427387904):
  Calls Tryz.prog 7 #[.string s] w fun e w'=>aax s w e w':=by
 have pz: ∀(fn:Fn) (first cap:Array Value) (w:World),(Instr.makeFunc fn first cap).run Tryz.prog w= .ok (.func fn first cap) w:=fun _ _ _ _=>rfl;have HG:=jD hg;clear hg;by_cases hbig:400 < s.size
 ·have HE:=jD (show readE s=2 by rw[readE,if_pos hbig]);have hd:decide ((400:Int) < (s.size:Int))=true:=by rw[decide_eq_true_eq];omega
  go_enter_defers Tryz.func7,Tryz.ntmps7;go_wp2;simp[bodyPostD,Leaves,results,Tryz.results7,go_sem];refine⟨_,by rw[HE.o], ?_,(aG _).alloc (by simp) _⟩;rw[ey,if_neg (by rw[HE.o];decide)];exact jm.nil _
 have hd:decide ((400:Int) < (s.size:Int))=false:=by rw[decide_eq_false_iff_not];omega
 have afq:s.size≤400:=by omega
 go_enter_defers Tryz.func7,Tryz.ntmps7;go_wp2_with fail
 have HW:=jD (rdW HG.o s);generalize (((w.alloc (Obj.cells #[Value.slice none 0 0] 23)).alloc (Obj.cells #[Value.int IntKind.i64 0] 24)).alloc (Obj.cells #[Value.string s,Value.int IntKind.i64 0,Value.slice none 0 0] 58))=W at HW ⊢;refine(YA _ s afq 401 0 _ [] _ HW.o.rd HW.o.gl (Nat.zero_le _) (by omega) (Nat.zero_le _)).mono ?_;rintro e w1 h1;have hwz:w.heap.size≠w.heap.size+1+1:=by omega
 have YU:w.heap.size+1≠w.heap.size+1+1:=by omega
 cases ho:oneP s 401 0 [] with
 | none=>
  rw[ho] at h1;obtain⟨rfl,Vf,k1⟩:=h1;have HE:=jD (show readE s=9 by rw[readE,if_neg (by omega),ho]);have gN:=jD (k1.block HW.o.b0 hwz (by simp[Value.ownBlock]));have bh:=jD (k1.block HW.o.b1 YU (by simp[Value.ownBlock]));have HK:=jD (HW.o.aW.trans (k1.toBelow (fun q hq=>by simp[Value.ownBlock] at hq) (by omega) HW.o.rd.lt));clear k1;unfold sw;go_wp2;refine leaves_cons (f:=18) (args:= #[.pointer (some ⟨w.heap.size,0,none⟩), .pointer (some ⟨w.heap.size+1,0,none⟩)]) (by simp) (by simp[go_sem]) ?_;refine(XV w.heap.size _ _ [] _ gN.o bh.o).mono ?_;rintro e u' w2 ⟨rfl,rfl,g0,g1,k2⟩;have jH:=jD (show ey s=[] by rw[ey,if_neg (by rw[HE.o];decide)]);have cS:=jD (HK.o.trans (k2.toBelow (fun q hq=>by simp[BJ,Value.ownBlock] at hq;omega) (Nat.le_refl _) (ai gN.o)));have y0:=cq 0 g0 rfl;have y1:=cq 0 g1 rfl;clear g0 g1 k2;simp[Leaves,settle,results,Tryz.results7,go_sem,y0,y1];exact⟨_,by rw[HE.o],by rw[jH.o];exact jm.nil _,cS.o⟩
 | some p=>
  obtain⟨j,ns⟩:=p;rw[ho] at h1;obtain⟨rfl,Vf,r1,k1⟩:=h1;have cz:=jT ho;have gN:=jD (k1.block HW.o.b0 hwz (by simp[Value.ownBlock]));have bh:=jD (k1.block HW.o.b1 YU (by simp[Value.ownBlock]));have HK:=jD (HW.o.aW.trans (k1.toBelow (fun q hq=>by simp[Value.ownBlock] at hq) (by omega) HW.o.rd.lt));have qI:=jD r1;obtain⟨c0,c1,c2,z1,z2⟩:=r1.cells;have HOW:=jD r1.own;have y0:=cq 0 gN.o rfl;have y1:=cq 0 bh.o rfl;have f0:=fq 0 gN.o;have f1:=fq 0 bh.o;have g0:=ai gN.o;have g1:=ai bh.o;clear k1 r1;by_cases hj:j < s.size
  ·have HE:=jD (show readE s=9 by rw[readE,if_neg (by omega),ho];exact if_pos hj);have jH:=jD (show ey s=[] by rw[ey,if_neg (by rw[HE.o];decide)]);have hdj:decide ((j:Int) < (s.size:Int))=true:=by rw[decide_eq_true_eq];omega
   have HP:=jD (BU gN.o bh.o (.slice none 0 0) (.int .i64 9)).1;go_wp2;refine leaves_cons (f:=18) (args:= #[.pointer (some ⟨w.heap.size,0,none⟩), .pointer (some ⟨w.heap.size+1,0,none⟩)]) (by simp) (by simp[go_sem]) ?_;refine(Ff w.heap.size _).mono ?_;rintro e u' w2 ⟨rfl,rfl,rfl⟩;simp[Leaves,settle,results,Tryz.results7,go_sem,y0,y1];exact⟨_,by rw[HE.o],by rw[jH.o];exact jm.nil _,HK.o.trans HP.o⟩
  have hdj:decide ((j:Int) < (s.size:Int))=false:=by rw[decide_eq_false_iff_not];omega
  have HNA:=jD (show jm w1 Vf ns from aF.fZ HOW.o (by simp at cz;omega));have Bo:=jD (show readE s=cI ns by rw[readE,if_neg (by omega),ho];exact if_neg hj);go_wp2_with fail
  refine(zz Vf ns _ HNA.o).mono ?_;rintro e w2 ⟨rfl,hb⟩;have x7:=jD (ag hb gN.o);have rC:=jD (ag hb bh.o);have cS:=jD (HK.o.trans (hb.mono (by omega)));have uK:=jD (qI.o.below hb);clear y0 y1 f0 f1 g0 g1 c0 c1 c2 z1 z2 hb;obtain⟨c0,c1,c2,z1,z2⟩:=uK.o.cells;have y0:=cq 0 x7.o rfl;have y1:=cq 0 rC.o rfl;have f0:=fq 0 x7.o;have f1:=fq 0 rC.o;have g0:=ai x7.o;have g1:=ai rC.o;by_cases hz:cI ns=0
  ·rw[hz];have HP:=jD (BU x7.o rC.o Vf (.int .i64 0));obtain⟨na,nc,hnv⟩:=ay HOW.o;subst hnv;go_wp2;refine leaves_cons (f:=18) (args:= #[.pointer (some ⟨w.heap.size,0,none⟩), .pointer (some ⟨w.heap.size+1,0,none⟩)]) (by simp) (by simp[go_sem]) ?_;refine(Ff w.heap.size _).mono ?_;rintro e u' w3 ⟨rfl,rfl,rfl⟩;simp[Leaves,settle,results,Tryz.results7,go_sem,y0,y1];refine⟨_,by rw[Bo.o,hz], ?_,cS.o.trans HP.o.1⟩;rw[ey,if_pos (by rw[Bo.o];exact hz),ho];show jm _ _ ns;exact aF.fZ (u6 uK.o.own fun k hk=>HP.o.2 k (by have:=(uK.o.row k hk).1;omega)) (by simp at cz;omega)
  ·have hzb:(cI ns==0)=false:=beq_eq_false_iff_ne.2 hz;have HP:=jD (BU x7.o rC.o (.slice none 0 0) (.int .i64 (cI ns)));go_wp2;refine leaves_cons (f:=18) (args:= #[.pointer (some ⟨w.heap.size,0,none⟩), .pointer (some ⟨w.heap.size+1,0,none⟩)]) (by simp) (by simp[go_sem]) ?_;refine(Ff w.heap.size _).mono ?_;rintro e u' w3 ⟨rfl,rfl,rfl⟩;simp[Leaves,settle,results,Tryz.results7,go_sem,y0,y1];refine⟨_,by rw[Bo.o], ?_,cS.o.trans HP.o.1⟩;rw[ey,if_neg (by rw[Bo.o];exact hz)];exact jm.nil _
def sQ (ss:List ByteArray) (n:Nat):List Value:=ss.map Value.string++List.replicate (n - ss.length) (Value.string ByteArray.empty)
theorem IQ {ss:List ByteArray} {n a:Nat} (h:a < ss.length):(sQ ss n)[a]? =some (.string (ss.getD a ByteArray.empty)):=by
 simp[sQ,List.getElem?_append_left (show a < (ss.map Value.string).length by simpa using h),List.getD,List.getElem?_eq_getElem h]
theorem WU {ss:List ByteArray} {n a:Nat} (h:a < n): ∃x,(sQ ss n)[a]? =some (.string x):=by
 by_cases ha:a < ss.length
 ·exact⟨_,IQ ha⟩
 ·exact⟨ByteArray.empty,by rw[sQ,List.getElem?_append_right (by simp;omega),List.getElem?_replicate,if_pos (by simp;omega)]⟩
theorem SQ {ss:List ByteArray} {n:Nat} (h:ss.length < n) (x:ByteArray):(sQ ss n).set ss.length (.string x)=sQ (ss++[x]) n:=by
 unfold sQ;obtain⟨q,hq⟩: ∃q,n - ss.length=q+1:=⟨n - ss.length - 1,by omega⟩
 rw[hq,List.length_append,List.length_singleton,show n - (ss.length+1)=q by omega,List.replicate_succ];simp
theorem Pr {ss:List ByteArray} {n:Nat} (x y:ByteArray):(sQ (ss++[x]) n).set ss.length (.string y)=sQ (ss++[y]) n:=by
 unfold sQ;rw[List.length_append,List.length_append,List.length_singleton,List.length_singleton];simp
structure lH (ss:List ByteArray) (n g:Nat) (w0 w:World):Prop where
 own:w.ownsRow g 9 1 (.slice (some ⟨g,0,none⟩) n n) n (sQ ss n)
 aW:Below w0.heap.size w0 w
theorem lH.below {ss:List ByteArray} {n g:Nat} {w0 w w':World} (h:lH ss n g w0 w) (hb:Below w.heap.size w w'):lH ss n g w0 w':=⟨aI h.own hb,aj h.aW hb⟩
theorem lH.put {ss:List ByteArray} {n g k:Nat} {w0 w:World} (h:lH ss n g w0 w) (hk:k=ss.length) (hg:w0.heap.size≤g) (hn:ss.length < n) (x:ByteArray):lH (ss++[x]) n g w0 (w.setCell ⟨g,k,none⟩ (.string x)):=by
 subst hk;exact⟨by have:=(h.own.stored ss.length (.string x)).1;rwa [SQ hn] at this,h.aW.trans ⟨rfl,rfl,rfl,by simp[World.setCell],fun k hk=>cO (by omega)⟩⟩
theorem lH.BU {ss:List ByteArray} {n g k:Nat} {w0 w:World} {x:ByteArray} (h:lH (ss++[x]) n g w0 w) (hk:k=ss.length) (hg:w0.heap.size≤g) (y:ByteArray):lH (ss++[y]) n g w0 (w.setCell ⟨g,k,none⟩ (.string y)):=by
 subst hk;exact⟨by have:=(h.own.stored ss.length (.string y)).1;rwa [Pr] at this,h.aW.trans ⟨rfl,rfl,rfl,by simp[World.setCell],fun k hk=>cO (by omega)⟩⟩
theorem lH.get {ss:List ByteArray} {n g a:Nat} {w0 w:World} (h:lH ss n g w0 w) (ha:a < ss.length) (hn:ss.length≤n):w.cell? ⟨g,a,none⟩=some (.string (ss.getD a ByteArray.empty)):=by
 rw[h.own.cellAt a (by omega)];exact IQ ha
theorem lH.has {ss:List ByteArray} {n g a:Nat} {w0 w:World} (h:lH ss n g w0 w) (ha:a < n): ∃x,w.cell? ⟨g,a,none⟩=some (.string x):=by
 obtain⟨x,hx⟩:=WU (ss:=ss) ha;exact⟨x,by rw[h.own.cellAt a (by omega)];exact hx⟩
theorem QH (b:ByteArray):(iw b).size≤401:=by
 unfold iw;split
 ·rw[ByteArray.size_extract];omega
 ·omega
theorem Nb (l:cH) (a k:Nat) (h:a < k):((txtsK l k).getD a ByteArray.empty).size≤401:=by
 rw[uW l a k h];exact QH _
theorem lH.last {ss:List ByteArray} {n g k:Nat} {w0 w:World} {x:ByteArray} (h:lH (ss++[x]) n g w0 w) (hk:k=ss.length) (hn:ss.length < n):w.cell? ⟨g,k,none⟩=some (.string x):=by
 subst hk;have:=h.get (a:=ss.length) (by simp) (by simp;omega);simpa[List.getD] using this
theorem GC (a:Nat):(rf a).size≤2:=by
 unfold rf;split
 ·exact Nat.le_succ 1
 ·exact Nat.le_refl 2
theorem acQ.info:(Tryz.prog.info? 9).map (fun i=>(i.zero,i.size,i.bytes))=some (some (.string ByteArray.empty),1,16):=by kernel_rfl
theorem show_c (vz:Value) (l:cH) (wz:World) (hs:jm wz vz l):
  Calls Tryz.prog 45 #[vz] wz fun e w'=>e= .returned (.tuple #[.string (jI l), .int .i64 (nQ l)])∧Below wz.heap.size wz w':=by
 obtain⟨va,vc,rfl,hcap,hlen, -,hvl⟩:=hs.open_;have HS:=jD hs;clear hs;go_enter Tryz.func45,Tryz.ntmps45;go_wp2_with fail
 refine(zz _ l _ HS.o).mono ?_;rintro e w1 ⟨rfl,hb1⟩;have bh:=jD hb1;by_cases hl:cI l=0;rotate_left
 ·have hlb:(cI l==0)=false:=beq_eq_false_iff_ne.2 hl;have HE:=jD (show nQ l=cI l by rw[nQ,if_neg hl]);have jH:=jD (show jI l=ByteArray.empty by rw[jI,if_neg (by rw[HE.o];exact hl)]);go_wp2;go_ret2;exact⟨by rw[HE.o,jH.o];rfl,bh.o⟩
 have HL:=jD (Bc hl);have se:=HL.o.2.1;rw[hl];obtain⟨w2,hmk,hown,s8⟩:=xC (P:=Tryz.prog) w1 31 9 (.string ByteArray.empty) 1 16 Tryz.underlying31 acQ.info l.length (by omega) (by unfold maxLen;omega);rw[oN _ rfl] at hown;have HST:=jD (show lH [] l.length w1.heap.size wz w2 from⟨by simpa[sQ] using hown,aj hb1 s8⟩);have hbm1:Below w1.heap.size w1 w2:=s8;clear hown s8;go_wp2;clear hmk;have hg1:=hb1.size;have jN:=jD hvl;generalize hg:w1.heap.size=g at*;clear hvl;go_loopw [19] (fun i wr=> ∃k:Nat,k≤l.length∧i= .int .i64 k∧lH (txtsK l k) l.length g wz wr) (fun i _=>l.length - (intOf i).toNat)
 case atStart=>exact ⟨0,Nat.zero_le _,rfl,HST.o⟩
 case round=>
  clear HST;obtain⟨k,hk,rfl,hst⟩:=hrel;have ST:=jD hst;clear hst;by_cases hlt:k < l.length;rotate_left
  ·obtain rfl:k=l.length:=by omega
   have hkb:decide ((l.length:Int) < (l.length:Int))=false:=by simp
   have hpos:=HL.o.1;have hlen1:(txtsK l l.length).length=l.length:=pO _ _;have e0:=ST.o.get (a:=l.length - 1) (by omega) (by omega);have hw1:IntKind.i64.wrap ((l.length:Int) - 1)=((l.length - 1:Nat):Int):=by rw[IntKind.wrap_i64];omega
   have Qc:((l.length:Int) - 1)=((l.length - 1:Nat):Int):=by omega
   have MK:=jD (show mQ l=(txtsK l l.length).getD (l.length - 1) ByteArray.empty from rfl);rw[←MK.o] at e0;have HSE:=jD (show nQ l=if 400 < (mQ l).size then 2 else 0 by rw[nQ,if_pos hl]);have Jt:l.length - 1 < l.length:=by omega
   by_cases hbig:400 < (mQ l).size
   ·have hd:decide ((400:Int) < ((mQ l).size:Int))=true:=by rw[decide_eq_true_eq];omega
    have HE:=jD (HSE.o.trans (if_pos hbig));have jH:=jD (show jI l=ByteArray.empty by rw[jI,if_neg (by rw[HE.o];decide)]);go_wp2;go_ret2;exact⟨by rw[HE.o,jH.o];rfl,ST.o.aW⟩
   ·have hd:decide ((400:Int) < ((mQ l).size:Int))=false:=by rw[decide_eq_false_iff_not];omega
    have HE:=jD (HSE.o.trans (if_neg hbig));have jH:=jD (show jI l=mQ l by rw[jI,if_pos HE.o]);go_wp2;go_ret2;exact⟨by rw[HE.o,jH.o];rfl,ST.o.aW⟩
  rcases jN.o with rfl | ⟨b,off,rfl,hb,hc⟩
  ·simp at hlt
  obtain⟨d1,d2,d3⟩:=hc k hlt;clear hc;replace d1:=(ST.o.aW.cell (p:=⟨b,off+k*3,none⟩) hb).trans d1;replace d2:=(ST.o.aW.cell (p:=⟨b,off+k*3+1,none⟩) hb).trans d2;replace d3:=(ST.o.aW.cell (p:=⟨b,off+k*3+2,none⟩) hb).trans d3;have hq:=C8 (HL.o.2.2 k hlt);have hkl:(txtsK l k).length=k:=pO _ _;have HT:=jD (show txtsK l (k+1)=txtsK l k++[iw (oq (txtsK l k) l[k])] by
   simp only[txtsK];rw [show l.getD k ⟨0,0,0⟩=l[k] by simp[List.getD,hlt]])
  generalize hx:l[k]=x at*;obtain⟨kk,aa,bb⟩:=x;simp only at d1 d2 d3 hq;clear hx;have hkb:decide ((k:Int) < (l.length:Int))=true:=by rw[decide_eq_true_eq];omega
  have JH: ∀a,a < k→((txtsK l k).getD a ByteArray.empty).size≤401:=fun a ha=>Nb l a k ha;generalize hTX:txtsK l k=TX at*;clear hTX;rcases hq with rfl | ⟨rfl,h0,h1⟩ | ⟨rfl,h0,h1,h2⟩ | ⟨rfl,h0,h1⟩ | ⟨h5,h0,h1,h2,h3⟩
  ·have SA:=jD (ST.o.below (aG (Obj.cells #[Value.int .i64 1,Value.int .i64 aa,Value.int .i64 bb] 80)));obtain⟨x0,e0⟩:=SA.o.has (a:=k) hlt;have f0:=SA.o.own.frozenAt k;have y0:=cat wr #[Value.int .i64 1,Value.int .i64 aa,Value.int .i64 bb] 80 0 _ rfl _ rfl;have y1:=cat wr #[Value.int .i64 1,Value.int .i64 aa,Value.int .i64 bb] 80 1 _ rfl _ rfl;have y2:=cat wr #[Value.int .i64 1,Value.int .i64 aa,Value.int .i64 bb] 80 2 _ rfl _ rfl;go_wp2;go_roundw
   case rel=>exact ⟨k+1,by omega,by go_num,by rw[HT.o,show iw _=⟨#[42]⟩ from rfl];exact SA.o.put hkl.symm hg1 (by omega) _⟩
   case measure=>simp [intOf] <;> omega
  ·obtain⟨a,rfl⟩: ∃a:Nat,aa=a:=⟨aa.toNat,by omega⟩
   have ha:a < 100:=by omega
   have SA:=jD (ST.o.below (aG (Obj.cells #[Value.int .i64 2,Value.int .i64 (a:Nat),Value.int .i64 bb] 80)));obtain⟨x0,e0⟩:=SA.o.has (a:=k) hlt;have f0:=SA.o.own.frozenAt k;have y0:=cat wr #[Value.int .i64 2,Value.int .i64 (a:Nat),Value.int .i64 bb] 80 0 _ rfl _ rfl;have y1:=cat wr #[Value.int .i64 2,Value.int .i64 (a:Nat),Value.int .i64 bb] 80 1 _ rfl _ rfl;have y2:=cat wr #[Value.int .i64 2,Value.int .i64 (a:Nat),Value.int .i64 bb] 80 2 _ rfl _ rfl;go_wp2_with fail
   refine(Any.strconv_Itoa_small nV a ha _).mono ?_;rintro e w4 ⟨rfl,rfl⟩;have hsz:(⟨#[35]⟩++ia a:ByteArray).size≤400:=by rw[wL ha];exact (WJ a (by omega)).2
   have kH:=jD (show oq TX ⟨2,(a:Nat),bb⟩=⟨#[35]⟩++ia a from rfl);have hit:(⟨(Lib.decDigits a).toArray⟩:ByteArray)=ia a:=rfl;rw[hit];generalize ia a=sa at*;have hsa:1+sa.size≤400:=by rw[BO,Nl] at hsz;exact hsz
   have hd:decide ((400:Int) < 1+(sa.size:Int))=false:=by rw[decide_eq_false_iff_not];omega
   go_wp2;go_roundw
   case rel=>exact ⟨k+1,by omega,by go_num,by rw[HT.o,show iw _=⟨#[35]⟩++sa from by rw[kH.o,iw,if_neg (by omega)]];exact SA.o.put hkl.symm hg1 (by omega) _⟩
   case measure=>simp [intOf] <;> omega
  ·obtain⟨a,rfl⟩: ∃a:Nat,aa=a:=⟨aa.toNat,by omega⟩
   obtain⟨a2,rfl⟩: ∃a:Nat,bb=a:=⟨bb.toNat,by omega⟩
   have ha:a < 100:=by omega
   have ha2:a2 < 100:=by omega
   have hq1:(ia a).size≤2:=by rw[wL ha];exact GC a
   have hq2:(ia a2).size≤2:=by rw[wL ha2];exact GC a2
   have SA:=jD (ST.o.below (aG (Obj.cells #[Value.int .i64 3,Value.int .i64 (a:Nat),Value.int .i64 (a2:Nat)] 80)));have Y0:=jD (cat wr #[Value.int .i64 3,Value.int .i64 (a:Nat),Value.int .i64 (a2:Nat)] 80 0 _ rfl _ rfl);have Y1:=jD (cat wr #[Value.int .i64 3,Value.int .i64 (a:Nat),Value.int .i64 (a2:Nat)] 80 1 _ rfl _ rfl);have Y2:=jD (cat wr #[Value.int .i64 3,Value.int .i64 (a:Nat),Value.int .i64 (a2:Nat)] 80 2 _ rfl _ rfl);have hsz:(((((⟨#[91]⟩++ia a)++⟨#[44]⟩)++ia a2)++⟨#[41]⟩:ByteArray)).size≤400:=by rw[wL ha,wL ha2];exact (YQ a2 (by omega) a (by omega)).2
   have y0:=Y0.o;go_wp2;clear y0 Y0;generalize (wr.alloc (Obj.cells #[Value.int .i64 3,Value.int .i64 (a:Nat),Value.int .i64 (a2:Nat)] 80))=W at*;generalize wr.heap.size=BN at*;refine Cl.aV 129 rfl [13] (fun ww=>Below W.heap.size W ww) (fun _=>[]) (fun jq v ww=>match jq with | 0=>v= .slice (some ⟨g,0,none⟩) l.length l.length | 1=>v= .int .i64 (k:Nat) | 2=>v= .pointer (some ⟨BN,1,none⟩) | 3=>v= .int .i64 (a:Nat) | 4=>v= .string (ia a) | 5=>v= .string (⟨#[91]⟩++ia a) | 6=>v= .string ((⟨#[91]⟩++ia a)++⟨#[44]⟩) | 7=>v= .pointer (some ⟨BN,2,none⟩) | 8=>v= .int .i64 (a2:Nat) | 9=>v= .string (ia a2) | 10=>v= .string (((⟨#[91]⟩++ia a)++⟨#[44]⟩)++ia a2) | 11=>v= .string ((((⟨#[91]⟩++ia a)++⟨#[44]⟩)++ia a2)++⟨#[41]⟩) | 12=>v= .pointer (some ⟨g,k,none⟩) | 13=>lH (TX++[(((⟨#[91]⟩++ia a)++⟨#[44]⟩)++ia a2)++⟨#[41]⟩]) l.length g wz ww | _=>True) (fun ww=>True) (fun jq ww aR=>jq≠13→Below ww.heap.size ww aR) Tryz.mixed (by decide+kernel) trivial ((br).drew) ?_ (fun jq ww aR hk h hR=>aj h (hR (by simpa using hk))) ?_ ?_
   ·intro qq r v w w' hne hk hlt h hR;match r,hk,hlt,h,hne with
    | 0,_,_,h,_=>exact h
    | 1,_,_,h,_=>exact h
    | 2,_,_,h,_=>exact h
    | 3,_,_,h,_=>exact h
    | 4,_,_,h,_=>exact h
    | 5,_,_,h,_=>exact h
    | 6,_,_,h,_=>exact h
    | 7,_,_,h,_=>exact h
    | 8,_,_,h,_=>exact h
    | 9,_,_,h,_=>exact h
    | 10,_,_,h,_=>exact h
    | 11,_,_,h,_=>exact h
    | 12,_,_,h,_=>exact h
    | 13,_,_,h,hne=>exact lH.below h (hR (by exact hne))
    | _+14,_,_,_,_=>trivial
   ·refine⟨?_, ?_, ?_, ?_, ?_, ?_, ?_, ?_, ?_, ?_, ?_, ?_, ?_, ?_,trivial⟩
    ·intro x wx hG;have f5:=hG.o 5;have hp:=hG.p 0;replace hG:=hG.g;have hG:=hp;go_wp2;exact⟨_,rfl,rfl,trivial,fun _=>br⟩
    ·intro x wx hG;have f6:=hG.o 6;have hp:=hG.p 0;replace hG:=hG.g;have hG:=hp;go_wp2;exact⟨_,rfl,rfl,trivial,fun _=>br⟩
    ·intro x wx hG;have f7:=hG.o 7;have hp:=hG.p 0;replace hG:=hG.g;have hG:=hp;go_wp2;exact⟨_,rfl,rfl,trivial,fun _=>br⟩
    ·intro x wx hG;have g2:=gr 44 (hG.c 2 _ rfl);have hp:=hG.p 0;replace hG:=hG.g;have hG:=hp;have Fg:=ah hG Y1.o;go_wp2;exact⟨_,rfl,rfl,trivial,fun _=>br⟩
    ·intro x wx hG;have g3:=gr 45 (hG.c 3 _ rfl);have hp:=hG.p 0;replace hG:=hG.g;have hG:=hp;go_wp2_with fail
     (refine(Any.strconv_Itoa_small nV a ha _).mono ?_);rintro e wq ⟨rfl,rfl⟩;go_wp2;exact⟨_,rfl,rfl,trivial,fun _=>br⟩
    ·intro x wx hG;have g4:=gr 46 (hG.c 4 _ rfl);have hp:=hG.p 0;replace hG:=hG.g;have hG:=hp;go_wp2;exact⟨_,rfl,rfl,trivial,fun _=>br⟩
    ·intro x wx hG;have g5:=gr 47 (hG.c 5 _ rfl);have hp:=hG.p 0;replace hG:=hG.g;have hG:=hp;go_wp2;exact⟨_,rfl,rfl,trivial,fun _=>br⟩
    ·intro x wx hG;have f7:=hG.o 7;have hp:=hG.p 0;replace hG:=hG.g;have hG:=hp;go_wp2;exact⟨_,rfl,rfl,trivial,fun _=>br⟩
    ·intro x wx hG;have g7:=gr 49 (hG.c 7 _ rfl);have hp:=hG.p 0;replace hG:=hG.g;have hG:=hp;have Z7:=ah hG Y2.o;go_wp2;exact⟨_,rfl,rfl,trivial,fun _=>br⟩
    ·intro x wx hG;have g8:=gr 50 (hG.c 8 _ rfl);have hp:=hG.p 0;replace hG:=hG.g;have hG:=hp;go_wp2_with fail
     (refine(Any.strconv_Itoa_small nV a2 ha2 _).mono ?_);rintro e wq ⟨rfl,rfl⟩;go_wp2;exact⟨_,rfl,rfl,trivial,fun _=>br⟩
    ·intro x wx hG;have g6:=gr 48 (hG.c 6 _ rfl);have g9:=gr 51 (hG.c 9 _ rfl);have hp:=hG.p 0;replace hG:=hG.g;have hG:=hp;go_wp2;exact⟨_,rfl,rfl,trivial,fun _=>br⟩
    ·intro x wx hG;have g10:=gr 52 (hG.c 10 _ rfl);have hp:=hG.p 0;replace hG:=hG.g;have hG:=hp;go_wp2;exact⟨_,rfl,rfl,trivial,fun _=>br⟩
    ·intro x wx hG;have g0:=gr 42 (hG.c 0 _ rfl);have g1:=gr 43 (hG.c 1 _ rfl);have hp:=hG.p 0;replace hG:=hG.g;have hG:=hp;go_wp2;exact⟨_,rfl,rfl,trivial,fun _=>br⟩
    ·intro x wx hG;have g12:=gr 54 (hG.c 12 _ rfl);have g11:=gr 53 (hG.c 11 _ rfl);have hp:=hG.p 0;replace hG:=hG.g;have hG:=hp;have hM:=SA.o.below hp;have SX:=jD hM;obtain⟨xq,eq⟩:=hM.has (a:=k) hlt;have fq:=hM.own.frozenAt k;clear hM hp hG;go_wp2;exact⟨undef,rfl,SX.o.put hkl.symm hg1 (by omega) _,trivial,fun h=>absurd rfl h⟩
   ·intro af w6 hg hF;obtain⟨g0,g1,g2,g3,g4,g5,g6,g7,g8,g9,g10,g11,g12,g13, -⟩:=hF;replace g13:lH (TX++[(((⟨#[91]⟩++ia a)++⟨#[44]⟩)++ia a2)++⟨#[41]⟩]) l.length g wz w6:=g13 rfl;simp only[Cl3.puts,gq (af 0) g0,gq (af 1) g1,gq (af 2) g2,gq (af 3) g3,gq (af 4) g4,gq (af 5) g5,gq (af 6) g6,gq (af 7) g7,gq (af 8) g8,gq (af 9) g9,gq (af 10) g10,gq (af 11) g11,gq (af 12) g12];clear g0 g1 g2 g3 g4 g5 g6 g7 g8 g9 g10 g11 g12;go_simp
    have S6:=jD g13;clear g13;have e6:=S6.o.last hkl.symm (by omega);have f6:=S6.o.own.frozenAt k;have kH:=jD (show iw (oq TX ⟨3,(a:Nat),(a2:Nat)⟩)=(((⟨#[91]⟩++ia a)++⟨#[44]⟩)++ia a2)++⟨#[41]⟩ by
     rw[show oq TX ⟨3,(a:Nat),(a2:Nat)⟩=(((⟨#[91]⟩++ia a)++⟨#[44]⟩)++ia a2)++⟨#[41]⟩ from rfl,iw,if_neg (by omega)])
    generalize (((⟨#[91]⟩++ia a)++⟨#[44]⟩)++ia a2)++⟨#[41]⟩=sr at*;have hd:decide ((400:Int) < (sr.size:Int))=false:=by rw[decide_eq_false_iff_not];omega
    go_wp2;go_roundw
    case rel=>exact ⟨k+1,by omega,by go_num,by rw[HT.o,kH.o];exact S6.o⟩
    case measure=>simp [intOf] <;> omega
  ·obtain⟨a,rfl⟩: ∃a:Nat,aa=a:=⟨aa.toNat,by omega⟩
   have SA:=jD (ST.o.below (aG (Obj.cells #[Value.int .i64 4,Value.int .i64 (a:Nat),Value.int .i64 bb] 80)));obtain⟨x0,e0⟩:=SA.o.has (a:=k) hlt;have f0:=SA.o.own.frozenAt k;have y0:=cat wr #[Value.int .i64 4,Value.int .i64 (a:Nat),Value.int .i64 bb] 80 0 _ rfl _ rfl;have y1:=cat wr #[Value.int .i64 4,Value.int .i64 (a:Nat),Value.int .i64 bb] 80 1 _ rfl _ rfl;have y2:=cat wr #[Value.int .i64 4,Value.int .i64 (a:Nat),Value.int .i64 bb] 80 2 _ rfl _ rfl;have ea:=SA.o.get (a:=a) (by omega) (by omega);have kH:=jD (show oq TX ⟨4,(a:Nat),bb⟩=⟨#[33]⟩++TX.getD a ByteArray.empty from rfl);have hal:a < l.length:=by omega
   have hsa:=JH a (by omega);generalize TX.getD a ByteArray.empty=sa at*;have hsz:(⟨#[33]⟩++sa:ByteArray).size=1+sa.size:=by rw[BO,Nl]
   by_cases hbig:400 < (⟨#[33]⟩++sa:ByteArray).size
   ·have hd:decide ((400:Int) < 1+(sa.size:Int))=true:=by rw[decide_eq_true_eq];omega
    have hd2:(401:Int)≤1+(sa.size:Int):=by omega
    go_wp2;go_roundw
    case rel=>exact ⟨k+1,by omega,by go_num,by rw[HT.o,show iw _=(⟨#[33]⟩++sa:ByteArray).extract 0 401 from by rw[kH.o,iw,if_pos hbig]];exact (SA.o.put hkl.symm hg1 (by omega) _).BU hkl.symm hg1 _⟩
    case measure=>simp [intOf] <;> omega
   ·have hd:decide ((400:Int) < 1+(sa.size:Int))=false:=by rw[decide_eq_false_iff_not];omega
    go_wp2;go_roundw
    case rel=>exact ⟨k+1,by omega,by go_num,by rw[HT.o,show iw _=⟨#[33]⟩++sa from by rw[kH.o,iw,if_neg hbig]];exact SA.o.put hkl.symm hg1 (by omega) _⟩
    case measure=>simp [intOf] <;> omega
  ·rcases h5 with rfl | rfl
   ·obtain⟨a,rfl⟩: ∃a:Nat,aa=a:=⟨aa.toNat,by omega⟩
    obtain⟨a2,rfl⟩: ∃a:Nat,bb=a:=⟨bb.toNat,by omega⟩
    have hal:a < l.length:=by omega
    have afl:a2 < l.length:=by omega
    have hka:a < TX.length:=by omega
    have TE:a2 < TX.length:=by omega
    have hts:=JH a (by omega);have aeZ:=JH a2 (by omega);clear JH;have SA:=jD (ST.o.below (aG (Obj.cells #[Value.int .i64 5,Value.int .i64 (a:Nat),Value.int .i64 (a2:Nat)] 80)));have Y0:=jD (cat wr #[Value.int .i64 5,Value.int .i64 (a:Nat),Value.int .i64 (a2:Nat)] 80 0 _ rfl _ rfl);have Y1:=jD (cat wr #[Value.int .i64 5,Value.int .i64 (a:Nat),Value.int .i64 (a2:Nat)] 80 1 _ rfl _ rfl);have Y2:=jD (cat wr #[Value.int .i64 5,Value.int .i64 (a:Nat),Value.int .i64 (a2:Nat)] 80 2 _ rfl _ rfl);have Ku:=jD (show oq TX ⟨5,(a:Nat),(a2:Nat)⟩=(((⟨#[40]⟩++TX.getD a ByteArray.empty)++⟨#[38]⟩)++TX.getD a2 ByteArray.empty)++⟨#[41]⟩ from rfl);have EA:=jD (SA.o.get (a:=a) hka (by omega));have EB:=jD (SA.o.get (a:=a2) TE (by omega));generalize TX.getD a ByteArray.empty=sa at*;generalize TX.getD a2 ByteArray.empty=sb at*;have hsz:(((((⟨#[40]⟩++sa)++⟨#[38]⟩)++sb)++⟨#[41]⟩:ByteArray)).size=sa.size+sb.size+3:=FH 38 sa sb;have y0:=Y0.o;go_wp2;clear y0 Y0;generalize (wr.alloc (Obj.cells #[Value.int .i64 5,Value.int .i64 (a:Nat),Value.int .i64 (a2:Nat)] 80))=W at*;generalize wr.heap.size=BN at*;refine Cl.aV 129 rfl [17] (fun ww=>Below W.heap.size W ww) (fun _=>[]) (fun jq v ww=>match jq with | 0=>v= .slice (some ⟨g,0,none⟩) l.length l.length | 1=>v= .int .i64 (k:Nat) | 2=>v= .slice (some ⟨g,0,none⟩) l.length l.length | 3=>v= .pointer (some ⟨BN,1,none⟩) | 4=>v= .int .i64 (a:Nat) | 5=>v= .pointer (some ⟨g,a,none⟩) | 6=>v= .string sa | 7=>v= .string (⟨#[40]⟩++sa) | 8=>v= .string ((⟨#[40]⟩++sa)++⟨#[38]⟩) | 9=>v= .slice (some ⟨g,0,none⟩) l.length l.length | 10=>v= .pointer (some ⟨BN,2,none⟩) | 11=>v= .int .i64 (a2:Nat) | 12=>v= .pointer (some ⟨g,a2,none⟩) | 13=>v= .string sb | 14=>v= .string (((⟨#[40]⟩++sa)++⟨#[38]⟩)++sb) | 15=>v= .string ((((⟨#[40]⟩++sa)++⟨#[38]⟩)++sb)++⟨#[41]⟩) | 16=>v= .pointer (some ⟨g,k,none⟩) | 17=>lH (TX++[(((⟨#[40]⟩++sa)++⟨#[38]⟩)++sb)++⟨#[41]⟩]) l.length g wz ww | _=>True) (fun ww=>True) (fun jq ww aR=>jq≠17→Below ww.heap.size ww aR) Tryz.mixed (by decide+kernel) trivial ((br).drew) ?_ (fun jq ww aR hk h hR=>aj h (hR (by simpa using hk))) ?_ ?_
    ·intro qq r v w w' hne hk hlt h hR;match r,hk,hlt,h,hne with
     | 0,_,_,h,_=>exact h
     | 1,_,_,h,_=>exact h
     | 2,_,_,h,_=>exact h
     | 3,_,_,h,_=>exact h
     | 4,_,_,h,_=>exact h
     | 5,_,_,h,_=>exact h
     | 6,_,_,h,_=>exact h
     | 7,_,_,h,_=>exact h
     | 8,_,_,h,_=>exact h
     | 9,_,_,h,_=>exact h
     | 10,_,_,h,_=>exact h
     | 11,_,_,h,_=>exact h
     | 12,_,_,h,_=>exact h
     | 13,_,_,h,_=>exact h
     | 14,_,_,h,_=>exact h
     | 15,_,_,h,_=>exact h
     | 16,_,_,h,_=>exact h
     | 17,_,_,h,hne=>exact lH.below h (hR (by exact hne))
     | _+18,_,_,_,_=>trivial
    ·refine⟨?_, ?_, ?_, ?_, ?_, ?_, ?_, ?_, ?_, ?_, ?_, ?_, ?_, ?_, ?_, ?_, ?_, ?_,trivial⟩
     ·intro x wx hG;have f5:=hG.o 5;have hp:=hG.p 0;replace hG:=hG.g;have hG:=hp;go_wp2;exact⟨_,rfl,rfl,trivial,fun _=>br⟩
     ·intro x wx hG;have f6:=hG.o 6;have hp:=hG.p 0;replace hG:=hG.g;have hG:=hp;go_wp2;exact⟨_,rfl,rfl,trivial,fun _=>br⟩
     ·intro x wx hG;have f5:=hG.o 5;have hp:=hG.p 0;replace hG:=hG.g;have hG:=hp;go_wp2;exact⟨_,rfl,rfl,trivial,fun _=>br⟩
     ·intro x wx hG;have f7:=hG.o 7;have hp:=hG.p 0;replace hG:=hG.g;have hG:=hp;go_wp2;exact⟨_,rfl,rfl,trivial,fun _=>br⟩
     ·intro x wx hG;have g3:=gr 71 (hG.c 3 _ rfl);have hp:=hG.p 0;replace hG:=hG.g;have hG:=hp;have Fg:=ah hG Y1.o;go_wp2;exact⟨_,rfl,rfl,trivial,fun _=>br⟩
     ·intro x wx hG;have g2:=gr 70 (hG.c 2 _ rfl);have g4:=gr 72 (hG.c 4 _ rfl);have hp:=hG.p 0;replace hG:=hG.g;have hG:=hp;go_wp2;exact⟨_,rfl,rfl,trivial,fun _=>br⟩
     ·intro x wx hG;have g5:=gr 73 (hG.c 5 _ rfl);have hp:=hG.p 0;replace hG:=hG.g;have hG:=hp;have c9:=ah hG EA.o;go_wp2;exact⟨_,rfl,rfl,trivial,fun _=>br⟩
     ·intro x wx hG;have g6:=gr 74 (hG.c 6 _ rfl);have hp:=hG.p 0;replace hG:=hG.g;have hG:=hp;go_wp2;exact⟨_,rfl,rfl,trivial,fun _=>br⟩
     ·intro x wx hG;have g7:=gr 75 (hG.c 7 _ rfl);have hp:=hG.p 0;replace hG:=hG.g;have hG:=hp;go_wp2;exact⟨_,rfl,rfl,trivial,fun _=>br⟩
     ·intro x wx hG;have f5:=hG.o 5;have hp:=hG.p 0;replace hG:=hG.g;have hG:=hp;go_wp2;exact⟨_,rfl,rfl,trivial,fun _=>br⟩
     ·intro x wx hG;have f7:=hG.o 7;have hp:=hG.p 0;replace hG:=hG.g;have hG:=hp;go_wp2;exact⟨_,rfl,rfl,trivial,fun _=>br⟩
     ·intro x wx hG;have g10:=gr 78 (hG.c 10 _ rfl);have hp:=hG.p 0;replace hG:=hG.g;have hG:=hp;have Z7:=ah hG Y2.o;go_wp2;exact⟨_,rfl,rfl,trivial,fun _=>br⟩
     ·intro x wx hG;have g9:=gr 77 (hG.c 9 _ rfl);have g11:=gr 79 (hG.c 11 _ rfl);have hp:=hG.p 0;replace hG:=hG.g;have hG:=hp;go_wp2;exact⟨_,rfl,rfl,trivial,fun _=>br⟩
     ·intro x wx hG;have g12:=gr 80 (hG.c 12 _ rfl);have hp:=hG.p 0;replace hG:=hG.g;have hG:=hp;have c9:=ah hG EB.o;go_wp2;exact⟨_,rfl,rfl,trivial,fun _=>br⟩
     ·intro x wx hG;have g8:=gr 76 (hG.c 8 _ rfl);have g13:=gr 81 (hG.c 13 _ rfl);have hp:=hG.p 0;replace hG:=hG.g;have hG:=hp;go_wp2;exact⟨_,rfl,rfl,trivial,fun _=>br⟩
     ·intro x wx hG;have g14:=gr 82 (hG.c 14 _ rfl);have hp:=hG.p 0;replace hG:=hG.g;have hG:=hp;go_wp2;exact⟨_,rfl,rfl,trivial,fun _=>br⟩
     ·intro x wx hG;have g0:=gr 68 (hG.c 0 _ rfl);have g1:=gr 69 (hG.c 1 _ rfl);have hp:=hG.p 0;replace hG:=hG.g;have hG:=hp;go_wp2;exact⟨_,rfl,rfl,trivial,fun _=>br⟩
     ·intro x wx hG;have g16:=gr 84 (hG.c 16 _ rfl);have g15:=gr 83 (hG.c 15 _ rfl);have hp:=hG.p 0;replace hG:=hG.g;have hG:=hp;have hM:=SA.o.below hp;have SX:=jD hM;obtain⟨xq,eq⟩:=hM.has (a:=k) hlt;have fq:=hM.own.frozenAt k;clear hM hp hG;go_wp2;exact⟨undef,rfl,SX.o.put hkl.symm hg1 (by omega) _,trivial,fun h=>absurd rfl h⟩
    ·intro af w6 hg hF;obtain⟨g0,g1,g2,g3,g4,g5,g6,g7,g8,g9,g10,g11,g12,g13,g14,g15,g16,g17, -⟩:=hF;replace g17:lH (TX++[(((⟨#[40]⟩++sa)++⟨#[38]⟩)++sb)++⟨#[41]⟩]) l.length g wz w6:=g17 rfl;simp only[Cl3.puts,gq (af 0) g0,gq (af 1) g1,gq (af 2) g2,gq (af 3) g3,gq (af 4) g4,gq (af 5) g5,gq (af 6) g6,gq (af 7) g7,gq (af 8) g8,gq (af 9) g9,gq (af 10) g10,gq (af 11) g11,gq (af 12) g12,gq (af 13) g13,gq (af 14) g14,gq (af 15) g15,gq (af 16) g16];clear g0 g1 g2 g3 g4 g5 g6 g7 g8 g9 g10 g11 g12 g13 g14 g15 g16;go_simp
     have S6:=jD g17;clear g17;have e6:=S6.o.last hkl.symm (by omega);have f6:=S6.o.own.frozenAt k;generalize (((⟨#[40]⟩++sa)++⟨#[38]⟩)++sb)++⟨#[41]⟩=sr at*;by_cases hbig:400 < sr.size
     ·have hd:decide ((400:Int) < (sr.size:Int))=true:=by rw[decide_eq_true_eq];omega
      have hd2:(401:Int)≤(sr.size:Int):=by omega
      have kH:=jD (show iw (oq TX ⟨5,(a:Nat),(a2:Nat)⟩)=sr.extract 0 401 by rw[Ku.o,iw,if_pos hbig]);go_wp2;go_roundw
      case rel=>exact ⟨k+1,by omega,by go_num,by rw[HT.o,kH.o];exact S6.o.BU hkl.symm hg1 _⟩
      case measure=>simp [intOf] <;> omega
     ·have hd:decide ((400:Int) < (sr.size:Int))=false:=by rw[decide_eq_false_iff_not];omega
      have kH:=jD (show iw (oq TX ⟨5,(a:Nat),(a2:Nat)⟩)=sr by rw[Ku.o,iw,if_neg hbig]);go_wp2;go_roundw
      case rel=>exact ⟨k+1,by omega,by go_num,by rw[HT.o,kH.o];exact S6.o⟩
      case measure=>simp [intOf] <;> omega
   ·obtain⟨a,rfl⟩: ∃a:Nat,aa=a:=⟨aa.toNat,by omega⟩
    obtain⟨a2,rfl⟩: ∃a:Nat,bb=a:=⟨bb.toNat,by omega⟩
    have hal:a < l.length:=by omega
    have afl:a2 < l.length:=by omega
    have hka:a < TX.length:=by omega
    have TE:a2 < TX.length:=by omega
    have hts:=JH a (by omega);have aeZ:=JH a2 (by omega);clear JH;have SA:=jD (ST.o.below (aG (Obj.cells #[Value.int .i64 6,Value.int .i64 (a:Nat),Value.int .i64 (a2:Nat)] 80)));have Y0:=jD (cat wr #[Value.int .i64 6,Value.int .i64 (a:Nat),Value.int .i64 (a2:Nat)] 80 0 _ rfl _ rfl);have Y1:=jD (cat wr #[Value.int .i64 6,Value.int .i64 (a:Nat),Value.int .i64 (a2:Nat)] 80 1 _ rfl _ rfl);have Y2:=jD (cat wr #[Value.int .i64 6,Value.int .i64 (a:Nat),Value.int .i64 (a2:Nat)] 80 2 _ rfl _ rfl);have Ku:=jD (show oq TX ⟨6,(a:Nat),(a2:Nat)⟩=(((⟨#[40]⟩++TX.getD a ByteArray.empty)++⟨#[124]⟩)++TX.getD a2 ByteArray.empty)++⟨#[41]⟩ from rfl);have EA:=jD (SA.o.get (a:=a) hka (by omega));have EB:=jD (SA.o.get (a:=a2) TE (by omega));generalize TX.getD a ByteArray.empty=sa at*;generalize TX.getD a2 ByteArray.empty=sb at*;have hsz:(((((⟨#[40]⟩++sa)++⟨#[124]⟩)++sb)++⟨#[41]⟩:ByteArray)).size=sa.size+sb.size+3:=FH 124 sa sb;have y0:=Y0.o;go_wp2;clear y0 Y0;generalize (wr.alloc (Obj.cells #[Value.int .i64 6,Value.int .i64 (a:Nat),Value.int .i64 (a2:Nat)] 80))=W at*;generalize wr.heap.size=BN at*;refine Cl.aV 129 rfl [17] (fun ww=>Below W.heap.size W ww) (fun _=>[]) (fun jq v ww=>match jq with | 0=>v= .slice (some ⟨g,0,none⟩) l.length l.length | 1=>v= .int .i64 (k:Nat) | 2=>v= .slice (some ⟨g,0,none⟩) l.length l.length | 3=>v= .pointer (some ⟨BN,1,none⟩) | 4=>v= .int .i64 (a:Nat) | 5=>v= .pointer (some ⟨g,a,none⟩) | 6=>v= .string sa | 7=>v= .string (⟨#[40]⟩++sa) | 8=>v= .string ((⟨#[40]⟩++sa)++⟨#[124]⟩) | 9=>v= .slice (some ⟨g,0,none⟩) l.length l.length | 10=>v= .pointer (some ⟨BN,2,none⟩) | 11=>v= .int .i64 (a2:Nat) | 12=>v= .pointer (some ⟨g,a2,none⟩) | 13=>v= .string sb | 14=>v= .string (((⟨#[40]⟩++sa)++⟨#[124]⟩)++sb) | 15=>v= .string ((((⟨#[40]⟩++sa)++⟨#[124]⟩)++sb)++⟨#[41]⟩) | 16=>v= .pointer (some ⟨g,k,none⟩) | 17=>lH (TX++[(((⟨#[40]⟩++sa)++⟨#[124]⟩)++sb)++⟨#[41]⟩]) l.length g wz ww | _=>True) (fun ww=>True) (fun jq ww aR=>jq≠17→Below ww.heap.size ww aR) Tryz.mixed (by decide+kernel) trivial ((br).drew) ?_ (fun jq ww aR hk h hR=>aj h (hR (by simpa using hk))) ?_ ?_
    ·intro qq r v w w' hne hk hlt h hR;match r,hk,hlt,h,hne with
     | 0,_,_,h,_=>exact h
     | 1,_,_,h,_=>exact h
     | 2,_,_,h,_=>exact h
     | 3,_,_,h,_=>exact h
     | 4,_,_,h,_=>exact h
     | 5,_,_,h,_=>exact h
     | 6,_,_,h,_=>exact h
     | 7,_,_,h,_=>exact h
     | 8,_,_,h,_=>exact h
     | 9,_,_,h,_=>exact h
     | 10,_,_,h,_=>exact h
     | 11,_,_,h,_=>exact h
     | 12,_,_,h,_=>exact h
     | 13,_,_,h,_=>exact h
     | 14,_,_,h,_=>exact h
     | 15,_,_,h,_=>exact h
     | 16,_,_,h,_=>exact h
     | 17,_,_,h,hne=>exact lH.below h (hR (by exact hne))
     | _+18,_,_,_,_=>trivial
    ·refine⟨?_, ?_, ?_, ?_, ?_, ?_, ?_, ?_, ?_, ?_, ?_, ?_, ?_, ?_, ?_, ?_, ?_, ?_,trivial⟩
     ·intro x wx hG;have f5:=hG.o 5;have hp:=hG.p 0;replace hG:=hG.g;have hG:=hp;go_wp2;exact⟨_,rfl,rfl,trivial,fun _=>br⟩
     ·intro x wx hG;have f6:=hG.o 6;have hp:=hG.p 0;replace hG:=hG.g;have hG:=hp;go_wp2;exact⟨_,rfl,rfl,trivial,fun _=>br⟩
     ·intro x wx hG;have f5:=hG.o 5;have hp:=hG.p 0;replace hG:=hG.g;have hG:=hp;go_wp2;exact⟨_,rfl,rfl,trivial,fun _=>br⟩
     ·intro x wx hG;have f7:=hG.o 7;have hp:=hG.p 0;replace hG:=hG.g;have hG:=hp;go_wp2;exact⟨_,rfl,rfl,trivial,fun _=>br⟩
     ·intro x wx hG;have g3:=gr 90 (hG.c 3 _ rfl);have hp:=hG.p 0;replace hG:=hG.g;have hG:=hp;have Fg:=ah hG Y1.o;go_wp2;exact⟨_,rfl,rfl,trivial,fun _=>br⟩
     ·intro x wx hG;have g2:=gr 89 (hG.c 2 _ rfl);have g4:=gr 91 (hG.c 4 _ rfl);have hp:=hG.p 0;replace hG:=hG.g;have hG:=hp;go_wp2;exact⟨_,rfl,rfl,trivial,fun _=>br⟩
     ·intro x wx hG;have g5:=gr 92 (hG.c 5 _ rfl);have hp:=hG.p 0;replace hG:=hG.g;have hG:=hp;have c9:=ah hG EA.o;go_wp2;exact⟨_,rfl,rfl,trivial,fun _=>br⟩
     ·intro x wx hG;have g6:=gr 93 (hG.c 6 _ rfl);have hp:=hG.p 0;replace hG:=hG.g;have hG:=hp;go_wp2;exact⟨_,rfl,rfl,trivial,fun _=>br⟩
     ·intro x wx hG;have g7:=gr 94 (hG.c 7 _ rfl);have hp:=hG.p 0;replace hG:=hG.g;have hG:=hp;go_wp2;exact⟨_,rfl,rfl,trivial,fun _=>br⟩
     ·intro x wx hG;have f5:=hG.o 5;have hp:=hG.p 0;replace hG:=hG.g;have hG:=hp;go_wp2;exact⟨_,rfl,rfl,trivial,fun _=>br⟩
     ·intro x wx hG;have f7:=hG.o 7;have hp:=hG.p 0;replace hG:=hG.g;have hG:=hp;go_wp2;exact⟨_,rfl,rfl,trivial,fun _=>br⟩
     ·intro x wx hG;have g10:=gr 97 (hG.c 10 _ rfl);have hp:=hG.p 0;replace hG:=hG.g;have hG:=hp;have Z7:=ah hG Y2.o;go_wp2;exact⟨_,rfl,rfl,trivial,fun _=>br⟩
     ·intro x wx hG;have g9:=gr 96 (hG.c 9 _ rfl);have g11:=gr 98 (hG.c 11 _ rfl);have hp:=hG.p 0;replace hG:=hG.g;have hG:=hp;go_wp2;exact⟨_,rfl,rfl,trivial,fun _=>br⟩
     ·intro x wx hG;have g12:=gr 99 (hG.c 12 _ rfl);have hp:=hG.p 0;replace hG:=hG.g;have hG:=hp;have c9:=ah hG EB.o;go_wp2;exact⟨_,rfl,rfl,trivial,fun _=>br⟩
     ·intro x wx hG;have g8:=gr 95 (hG.c 8 _ rfl);have g13:=gr 100 (hG.c 13 _ rfl);have hp:=hG.p 0;replace hG:=hG.g;have hG:=hp;go_wp2;exact⟨_,rfl,rfl,trivial,fun _=>br⟩
     ·intro x wx hG;have g14:=gr 101 (hG.c 14 _ rfl);have hp:=hG.p 0;replace hG:=hG.g;have hG:=hp;go_wp2;exact⟨_,rfl,rfl,trivial,fun _=>br⟩
     ·intro x wx hG;have g0:=gr 87 (hG.c 0 _ rfl);have g1:=gr 88 (hG.c 1 _ rfl);have hp:=hG.p 0;replace hG:=hG.g;have hG:=hp;go_wp2;exact⟨_,rfl,rfl,trivial,fun _=>br⟩
     ·intro x wx hG;have g16:=gr 103 (hG.c 16 _ rfl);have g15:=gr 102 (hG.c 15 _ rfl);have hp:=hG.p 0;replace hG:=hG.g;have hG:=hp;have hM:=SA.o.below hp;have SX:=jD hM;obtain⟨xq,eq⟩:=hM.has (a:=k) hlt;have fq:=hM.own.frozenAt k;clear hM hp hG;go_wp2;exact⟨undef,rfl,SX.o.put hkl.symm hg1 (by omega) _,trivial,fun h=>absurd rfl h⟩
    ·intro af w6 hg hF;obtain⟨g0,g1,g2,g3,g4,g5,g6,g7,g8,g9,g10,g11,g12,g13,g14,g15,g16,g17, -⟩:=hF;replace g17:lH (TX++[(((⟨#[40]⟩++sa)++⟨#[124]⟩)++sb)++⟨#[41]⟩]) l.length g wz w6:=g17 rfl;simp only[Cl3.puts,gq (af 0) g0,gq (af 1) g1,gq (af 2) g2,gq (af 3) g3,gq (af 4) g4,gq (af 5) g5,gq (af 6) g6,gq (af 7) g7,gq (af 8) g8,gq (af 9) g9,gq (af 10) g10,gq (af 11) g11,gq (af 12) g12,gq (af 13) g13,gq (af 14) g14,gq (af 15) g15,gq (af 16) g16];clear g0 g1 g2 g3 g4 g5 g6 g7 g8 g9 g10 g11 g12 g13 g14 g15 g16;go_simp
     have S6:=jD g17;clear g17;have e6:=S6.o.last hkl.symm (by omega);have f6:=S6.o.own.frozenAt k;generalize (((⟨#[40]⟩++sa)++⟨#[124]⟩)++sb)++⟨#[41]⟩=sr at*;by_cases hbig:400 < sr.size
     ·have hd:decide ((400:Int) < (sr.size:Int))=true:=by rw[decide_eq_true_eq];omega
      have hd2:(401:Int)≤(sr.size:Int):=by omega
      have kH:=jD (show iw (oq TX ⟨6,(a:Nat),(a2:Nat)⟩)=sr.extract 0 401 by rw[Ku.o,iw,if_pos hbig]);go_wp2;go_roundw
      case rel=>exact ⟨k+1,by omega,by go_num,by rw[HT.o,kH.o];exact S6.o.BU hkl.symm hg1 _⟩
      case measure=>simp [intOf] <;> omega
     ·have hd:decide ((400:Int) < (sr.size:Int))=false:=by rw[decide_eq_false_iff_not];omega
      have kH:=jD (show iw (oq TX ⟨6,(a:Nat),(a2:Nat)⟩)=sr by rw[Ku.o,iw,if_neg hbig]);go_wp2;go_roundw
      case rel=>exact ⟨k+1,by omega,by go_num,by rw[HT.o,kH.o];exact S6.o⟩
      case measure=>simp [intOf] <;> omega
end Go.Proofs.YtajgndoiddmbmaaGreatDoor
