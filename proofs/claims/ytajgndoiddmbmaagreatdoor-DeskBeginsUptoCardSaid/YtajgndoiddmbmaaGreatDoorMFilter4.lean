/- Towards what desk.Run answers. -/
import Derived.Test.YtajgndoiddmbmaaGreatDoorMFilter1
namespace Go.Proofs.YtajgndoiddmbmaaGreatDoor
set_option maxRecDepth 100000
set_option maxHeartbeats 40000000
open Go.RowKit
theorem Qr {f g:bB} (h:dI f g=0):bP f=0∧bP g=0:=by
 unfold dI at h;by_cases hf:bP f=0
 ·rw[if_pos hf] at h;exact ⟨hf,h⟩
 ·rw[if_neg hf] at h;exact absurd h hf
theorem lR {f g:bB} (h:dI f g=0):(∀k n:Nat,(fu f k).testBit n=cE f k n)∧(∀k n:Nat,(fu g k).testBit n=cE g k n)∧(∀k,fu f k < 4294967296)∧ ∀k,fu g k < 4294967296:=by
 obtain⟨h1,h2⟩:=Qr h;have hf:=(gj.1 h1).2;have hg:=(gj.1 h2).2;exact⟨fun k=>(iE f k hf).2,fun k=>(iE g k hg).2,fun k=>(iE f k hf).1,fun k=>(iE g k hg).1⟩
theorem OH (a b n:Nat) (hb:b < 4294967296) (hn:n < 32):(a &&& (4294967295 - b)).testBit n=(a.testBit n&& !b.testBit n):=by
 rw[Nat.testBit_and];congr 1;have:4294967295 - b=2^32 - (b+1):=by omega
 rw[this,Nat.testBit_two_pow_sub_succ (by omega)];simp[hn]
theorem Xu (va vb:Value) (f g:bB) (w:World) (hf:bZ w va f) (hg:bZ w vb g):
  Calls Tryz.prog 117 #[va,vb] w fun e w'=> ∃v,e= .returned (.tuple #[v, .int .i64 (dI f g)])∧CA w.heap.size w' v (dI f g) (fun k n=>cE f k n || cE g k n)∧Below w.heap.size w w':=by
 obtain⟨fa,fc,rfl⟩:=hf.shape;obtain⟨ga,gc,rfl⟩:=hg.shape;have hm: ∀args W,(callFunc 157 args).run Tryz.prog W= .ok (.enter 157 args) W:=fun _ _=>by kernel_rfl
 have HB:=jD (both_c 157 (fun a b=>a ||| b) hm Xv (fun a b=>NG a b) (fun k n=>cE f k n || cE g k n) _ _ f g (fun h k n _ _=>by rw[Nat.testBit_or,(lR h).1,(lR h).2.1]) w hf hg);clear hm hf hg;go_enter Tryz.func117,Tryz.ntmps117;go_wp2_with fail
 (with_reducible refine HB.o.mono ?_);rintro e w1 ⟨v,rfl,ho,hb⟩;have HO:=jD ho;clear ho HB;go_wp2;go_ret2;exact⟨v,rfl,HO.o,hb⟩
theorem L4 (va vb:Value) (f g:bB) (w:World) (hf:bZ w va f) (hg:bZ w vb g):
  Calls Tryz.prog 116 #[va,vb] w fun e w'=> ∃v,e= .returned (.tuple #[v, .int .i64 (dI f g)])∧CA w.heap.size w' v (dI f g) (fun k n=>cE f k n&&cE g k n)∧Below w.heap.size w w':=by
 obtain⟨fa,fc,rfl⟩:=hf.shape;obtain⟨ga,gc,rfl⟩:=hg.shape;have hm: ∀args W,(callFunc 156 args).run Tryz.prog W= .ok (.enter 156 args) W:=fun _ _=>by kernel_rfl
 have HB:=jD (both_c 156 (fun a b=>a &&& b) hm Xl (fun a b h _=>Q8 a b h) (fun k n=>cE f k n&&cE g k n) _ _ f g (fun h k n _ _=>by rw[Nat.testBit_and,(lR h).1,(lR h).2.1]) w hf hg);clear hm hf hg;go_enter Tryz.func116,Tryz.ntmps116;go_wp2_with fail
 (with_reducible refine HB.o.mono ?_);rintro e w1 ⟨v,rfl,ho,hb⟩;have HO:=jD ho;clear ho HB;go_wp2;go_ret2;exact⟨v,rfl,HO.o,hb⟩
theorem L5 (va vb:Value) (f g:bB) (w:World) (hf:bZ w va f) (hg:bZ w vb g):
  Calls Tryz.prog 115 #[va,vb] w fun e w'=> ∃v,e= .returned (.tuple #[v, .int .i64 (dI f g)])∧CA w.heap.size w' v (dI f g) (fun k n=>cE f k n&& !cE g k n)∧Below w.heap.size w w':=by
 obtain⟨fa,fc,rfl⟩:=hf.shape;obtain⟨ga,gc,rfl⟩:=hg.shape;have hm: ∀args W,(callFunc 155 args).run Tryz.prog W= .ok (.enter 155 args) W:=fun _ _=>by kernel_rfl
 have HB:=jD (both_c 155 (fun a b=>a &&& (4294967295 - b)) hm Xr (fun a b h _=>Q8 a _ h) (fun k n=>cE f k n&& !cE g k n) _ _ f g (fun h k n _ hn=>by rw[OH _ _ _ ((lR h).2.2.2 k) hn,(lR h).1,(lR h).2.1]) w hf hg);clear hm hf hg;go_enter Tryz.func115,Tryz.ntmps115;go_wp2_with fail
 (with_reducible refine HB.o.mono ?_);rintro e w1 ⟨v,rfl,ho,hb⟩;have HO:=jD ho;clear ho HB;go_wp2;go_ret2;exact⟨v,rfl,HO.o,hb⟩
theorem CA.empty {base:Nat} {w:World} {v:Value} {p:Nat→Nat→Bool} (h:CA base w v 0 p): ∃a l cap,v= .slice a l cap∧((l:Int)==0)=l6 (fun k n=> !p k n):=by
 obtain⟨l,hl,hg⟩:=h.1 rfl;obtain⟨a,c,hv⟩:=hl.shape;refine⟨a,_,c,hv, ?_⟩;rw[Bool.eq_iff_iff,beq_iff_eq,zP];have e:((l.length:Int)=0)↔l=[]:=by rw[←List.length_eq_zero_iff];omega
 rw[e,hg.nil];exact⟨fun h t n ht hn=>by rw[h t n ht hn];rfl,fun h t n ht hn=>by have:=h t n ht hn;simpa using this⟩
def Ax (f g:bB):Bool:=if dI f g=0 then l6 (fun k n=> !(cE f k n ^^ cE g k n)) else false
def nO (f g:bB):Bool:=if dI f g=0 then l6 (fun k n=> !(cE f k n&& !cE g k n)) else false
theorem WR (va vb:Value) (f g:bB) (w:World) (hf:bZ w va f) (hg:bZ w vb g):
  Calls Tryz.prog 89 #[va,vb] w fun e w'=>e= .returned (.tuple #[.bool (Ax f g), .int .i64 (dI f g)])∧Below w.heap.size w w':=by
 obtain⟨fa,fc,rfl⟩:=hf.shape;obtain⟨ga,gc,rfl⟩:=hg.shape;have hm: ∀args W,(callFunc 123 args).run Tryz.prog W= .ok (.enter 123 args) W:=fun _ _=>by kernel_rfl
 have HB:=jD (both_c 123 (fun a b=>a ^^^ b) hm WS (fun a b=>X8 a b) (fun k n=>cE f k n ^^ cE g k n) _ _ f g (fun h k n _ _=>by rw[Nat.testBit_xor,(lR h).1,(lR h).2.1]) w hf hg);clear hm hf hg;go_enter Tryz.func89,Tryz.ntmps89;go_wp2_with fail
 (with_reducible refine HB.o.mono ?_);rintro e w1 ⟨v,rfl,ho,hb⟩;clear HB;by_cases h0:dI f g=0
 ·have H:=jD (show Ax f g=l6 (fun k n=> !(cE f k n ^^ cE g k n))∧dI f g=0 by simp only[Ax,if_pos h0];exact ⟨trivial,h0⟩);rw[h0] at ho ⊢;obtain⟨a,n,c,hv,he⟩:=ho.empty;subst hv;have HE:=jD he;clear ho he h0;go_wp2;go_ret2;exact⟨gZ (by rw[H.o.1];exact HE.o) H.o.2.symm,hb⟩
 ·have H:=jD (show Ax f g=false by simp only[Ax,if_neg h0]);have h':(dI f g==0)=false:=by simpa using h0
  clear h0 ho;go_wp2;go_ret2;exact⟨gZ H.o.symm rfl,hb⟩
theorem Fw (va vb:Value) (f g:bB) (w:World) (hf:bZ w va f) (hg:bZ w vb g):
  Calls Tryz.prog 88 #[va,vb] w fun e w'=>e= .returned (.tuple #[.bool (nO f g), .int .i64 (dI f g)])∧Below w.heap.size w w':=by
 obtain⟨fa,fc,rfl⟩:=hf.shape;obtain⟨ga,gc,rfl⟩:=hg.shape;have HB:=jD (L5 _ _ f g w hf hg);clear hf hg;go_enter Tryz.func88,Tryz.ntmps88;go_wp2_with fail
 (with_reducible refine HB.o.mono ?_);rintro e w1 ⟨v,rfl,ho,hb⟩;clear HB;by_cases h0:dI f g=0
 ·have H:=jD (show nO f g=l6 (fun k n=> !(cE f k n&& !cE g k n))∧dI f g=0 by simp only[nO,if_pos h0];exact ⟨trivial,h0⟩);rw[h0] at ho ⊢;obtain⟨a,n,c,hv,he⟩:=ho.empty;subst hv;have HE:=jD he;clear ho he h0;go_wp2;go_ret2;exact⟨gZ (by rw[H.o.1];exact HE.o) H.o.2.symm,hb⟩
 ·have H:=jD (show nO f g=false by simp only[nO,if_neg h0]);have h':(dI f g==0)=false:=by simpa using h0
  clear h0 ho;go_wp2;go_ret2;exact⟨gZ H.o.symm rfl,hb⟩
theorem P6 (q:Nat→Nat) (j:Nat) (hj:j < 16) (W:World):(Instr.index 133 (.agg (cL q)) (.int .i64 (j:Int))).run Tryz.prog W= .ok (.int .u32 (q j:Nat)) W:=by
 have hu:=Tryz.underlying133;have hi:(Tryz.prog.info? 131).map (·.size)=some 1:=by kernel_rfl
 have hg:(cL q)[j]? =some (.int .u32 (q j:Nat)):=lS q j hj;have hsz:=nr q;have hag: ∀W,(isAgg 131).run Tryz.prog W= .ok false W:=fun W=>by kernel_rfl
 obtain⟨i,hi2,hs⟩: ∃i,Tryz.prog.info? 131=some i∧i.size=1:=by
  cases h:Tryz.prog.info? 131 with
  | none=>rw [h] at hi;simp at hi
  | some i=>rw [h] at hi;exact ⟨i,rfl,by simpa using hi⟩
 simp only[Instr.index,asIntOf,run_underlying hu,Sem.run_bind,Sem.run_pure,Result.andThen_ok];rw[if_pos (by omega)];simp[part,sizeOf,typeInfo,hi2,hs,hag,hsz,Int.toNat_natCast,hj];exact(Array.getElem?_eq_some_iff.1 hg).2
def xR (f:bB):Int:=if bP f=0 then nI (cE f · ·) else 0
theorem Sn (x:Nat) (h:0 < x) (h2:x < 4294967296):bits .and .u32 (x:Int) ((x:Int) - 1)=((x &&& (x - 1):Nat):Int):=by
 rw[show((x:Int) - 1)=((x - 1:Nat):Int) by omega];exact u32_and_nat x (x - 1) h2 (by omega)
theorem J4 (v:Value) (f:bB) (w:World) (hf:bZ w v f):
  Calls Tryz.prog 48 #[v] w fun e w'=>e= .returned (.tuple #[.int .i64 (xR f), .int .i64 (bP f)])∧Below w.heap.size w w':=by
 obtain⟨fa,fc,rfl⟩:=hf.shape;go_enter Tryz.func48,Tryz.ntmps48;go_wp2_with fail
 (with_reducible refine(qg _ f _ hf).mono ?_);rintro e w1 ⟨rfl,hb⟩;replace hf:=hf.below hb;have hbel:=hb;clear hb;cases hx:(bP f==0)
 ·have H:=jD (show xR f=0 by simp at hx;simp [xR,hx]);have h':(bP f != 0)=true:=by simp[bne,hx]
  clear hx hf;go_wp2;go_ret2;exact⟨yR H.o.symm rfl,hbel⟩
 have h0:bP f=0:=by simpa using hx
 have hfo:=(gj.1 h0).2;have HF:=jD (show xR f=nI (fun k n=>(fu f k).testBit n)∧bP f=0 by
  simp only[xR,if_pos h0];exact ⟨xQ fun t n _ _=>((iE f t hfo).2 n).symm,h0⟩)
 have HT:=jD (fun k=>(iE f k hfo).1);rw[h0];clear h0 hx;go_wp2_with fail
 (with_reducible refine(xd _ f _ hf hfo).mono ?_);rintro e w2 ⟨rfl,hb⟩;replace hbel:=aj hbel hb;clear hb hf hfo;generalize fu f=t at*;have aZ:=jD (XS (fun k n=>(t k).testBit n));go_wp2;go_loop [5,15] (fun nn i=> ∃j:Nat,j≤16∧i= .int .i64 j∧nn= .int .i64 (cntT (fun k n=>(t k).testBit n) j)) (fun _ i=>16 - (intOf i).toNat)
 case atStart=>exact ⟨0,by omega,rfl,rfl⟩
 case round=>
  obtain⟨j,hj,rfl,rfl⟩:=hrel;by_cases hjl:j < 16
  ·have hdj:decide ((j:Int) < 16)=true:=by simp only[decide_eq_true_eq];omega
   have hidx:=P6 t j hjl w2;have afH:=jD (show cntT (fun k n=>(t k).testBit n) (j+1)=cntT (fun k n=>(t k).testBit n) j+cnt (fun n=>(t j).testBit n) 32 from rfl);have afh:=aZ.o j;have afg:=J5 (fun n=>(t j).testBit n) 32;have HTJ:=jD (HT.o j);generalize cntT (fun k n=>(t k).testBit n) j=c0 at*;obtain⟨hc0,hc1⟩:=afh;obtain⟨hd0,hd1⟩:=afg;go_wp2;have Bn:=jD (rfl:cnt (fun n=>(t j).testBit n) 32=cnt (fun n=>(t j).testBit n) 32);clear hidx;go_loop [5,7] (fun nn y=> ∃(x:Nat) (c:Int),y= .int .u32 x∧x < 4294967296∧0≤c∧c≤32∧nn= .int .i64 (c0+c)∧c+cnt (fun n=>x.testBit n) 32=cnt (fun n=>(t j).testBit n) 32) (fun _ y=>(intOf y).toNat)
   case atStart=>exact ⟨t j,0,rfl,HTJ.o,by omega,by omega,by simp,by simp⟩
   case round=>
    obtain⟨x,c,rfl,hx,hcc0,hcc1,rfl,hsum⟩:=hrel;have UH:=jD hsum;clear hsum;by_cases hz:x=0
    ·subst hz;have hcz:c=cnt (fun n=>(t j).testBit n) 32:=by
      have:=UH.o;rw[show cnt (fun n=>Nat.testBit 0 n) 32=0 from by
       have:(fun n=>Nat.testBit 0 n)=fun _=>false:=by funext n;simp
       rw[this];exact QK 32] at this
      omega
     have Al:=jD hcz;clear hcz;go_wp2;go_round
     case rel=>exact ⟨j+1,by omega,by go_num,by rw[afH.o,Al.o]⟩
     case measure=>first | (simp[intOf];done) | (simp[intOf];omega)
    ·have hp:0 < x:=by omega
     have hne:((x:Int) != 0)=true:=by rw[bne_iff_ne];omega
     have hcl:=QM 32 x hp hx;have hcb:=J5 (fun n=>(x &&& (x - 1)).testBit n) 32;have hle:c+1≤32:=by have:=UH.o;omega
     have hlt:=LN x hp;have HU:=jD (Sn x hp hx);have lu:=jD (show(c+1)+cnt (fun n=>(x &&& (x - 1)).testBit n) 32=cnt (fun n=>(t j).testBit n) 32 by have:=UH.o;omega);clear hcl hcb;go_wp2;go_round
     case rel=>exact ⟨x &&& (x - 1),c+1,by rw[HU.o],by omega,by omega,hle,by rw[Int.add_assoc],lu.o⟩
     case measure=>simp only[intOf];rw [HU.o];omega
  ·obtain rfl:j=16:=by omega
   go_wp2;go_ret2;exact⟨yR HF.o.1.symm HF.o.2.symm,hbel⟩
def FV (w:World) (v:Value) (p:Nat→Nat→Bool):Prop:= ∃l,bZ w v l∧bP l=0∧ ∀k n:Nat,k < 16→n < 32→cE l k n=p k n
theorem FV.below {w w':World} {v:Value} {p:Nat→Nat→Bool} (h:FV w v p) (hb:Below w.heap.size w w'):FV w' v p:=by
 obtain⟨l,h1,h2,h3⟩:=h;exact ⟨l,h1.below hb,h2,h3⟩
theorem FV.shape {w:World} {v:Value} {p:Nat→Nat→Bool} (h:FV w v p): ∃a n c,v= .slice a n c:=by
 obtain⟨l,h1, -⟩:=h;obtain ⟨a,c,hv⟩:=h1.shape;exact ⟨a,_,c,hv⟩
theorem ng.GK {l:bB} {p:Nat→Nat→Bool} (h:ng l p):bP l=0:=gj.2 ⟨by have:=h.len;omega,h.ok⟩
theorem Wt (va vb:Value) (p q:Nat→Nat→Bool) (w:World) (ha:FV w va p) (hb:FV w vb q):
  Calls Tryz.prog 88 #[va,vb] w fun e w'=>e= .returned (.tuple #[.bool (l6 fun k n=> !p k n || q k n), .int .i64 0])∧Below w.heap.size w w':=by
 obtain⟨f,f1,f2,f3⟩:=ha;obtain ⟨g,g1,g2,g3⟩:=hb;have h0:dI f g=0:=by simp[dI,f2,g2]
 refine(Fw va vb f g w f1 g1).mono ?_;rintro e w' ⟨rfl,hb⟩;exact⟨gZ (by simp only[nO,if_pos h0];exact wB fun k n hk hn=>by rw[f3 k n hk hn,g3 k n hk hn];cases p k n <;> cases q k n <;> rfl) h0,hb⟩
theorem Z0 (v:Value) (p:Nat→Nat→Bool) (w:World) (h:FV w v p):
  Calls Tryz.prog 48 #[v] w fun e w'=>e= .returned (.tuple #[.int .i64 (nI p), .int .i64 0])∧Below w.heap.size w w':=by
 obtain⟨f,f1,f2,f3⟩:=h;refine(J4 v f w f1).mono ?_;rintro e w' ⟨rfl,hb⟩;exact⟨yR (by simp only[xR,if_pos f2];exact xQ f3) f2,hb⟩
theorem acf (y n:Int) (sp:cp) (u:Value) (P:Nat) (t m:Int) (W:World) (hs:fJ W u sp) (h0:W.cell? ⟨P,0,none⟩=some (.int .i64 t)) (h1:W.cell? ⟨P,1,none⟩=some (.int .i64 m)):
  Calls Tryz.prog 126 #[.agg #[.int .i64 y, .int .i64 n,u], .pointer (some ⟨P,0,none⟩)] W fun e w'=>e= .returned (.bool (dK y n t&&jM sp m))∧Below W.heap.size W w':=by
 obtain⟨ua,uc,rfl⟩:=hs.shape;have hlt:=blt h0;have HC:=jD (fun (w1:World) (h:Below (W.alloc (.cells #[.int .i64 y, .int .i64 n, .slice ua sp.length uc] 177)).heap.size (W.alloc (.cells #[.int .i64 y, .int .i64 n, .slice ua sp.length uc] 177)) w1)=>
    (show w1.cell? ⟨W.heap.size,2,none⟩=some (.slice ua sp.length uc)∧Below W.heap.size W w1∧fJ w1 (.slice ua sp.length uc) sp∧w1.cell? ⟨P,1,none⟩=some (.int .i64 m) from
     ⟨ah h (cat _ _ _ 2 _ rfl _ rfl),zO h,hs.below (zO h),ah (zO h) h1⟩))
 clear hs;go_enter Tryz.func126,Tryz.ntmps126;go_wp2_with fail
 (with_reducible refine(uD _ _ _ _).mono ?_);rintro e w1 ⟨rfl,hb⟩;obtain⟨c2,hbel,hs1,cm⟩:=HC.o _ hb;clear HC hb h0 h1;cases hc:dK y n t
 ·have H:=jD hc;clear hc hs1;go_wp2;go_ret;exact⟨dU (by rw[H.o];rfl),hbel⟩
 ·have H:=jD hc;clear hc;go_wp2_with fail
  (with_reducible refine(aeU _ sp m _ hs1).mono ?_);rintro e w2 ⟨rfl,hb⟩;clear c2 hs1 cm;go_wp2;go_ret;exact⟨dU (by rw[H.o];simp),aj hbel hb⟩
def K4 (g:FuncId) (caps:Array Value) (q:Bx→Bool) (w:World):Prop:=
 (∀args W,(callFunc g args).run Tryz.prog W= .ok (.enter g args) W)∧ ∀(b:Bx) (u:Value) (W:World),fJ W u b.sp→Below w.heap.size w W→Calls Tryz.prog g (#[.agg #[.int .i64 b.y, .int .i64 b.n,u]]++caps) W fun e w'=>e= .returned (.bool (q b))∧Below W.heap.size W w'
def vI (l:bB) (q:Bx→Bool):Int:=match l.findIdx? q with | some i=>i | none=> -1
theorem QV (l:bB) (q:Bx→Bool) (k:Nat) (hk:k < l.length) (hno: ∀j (h:j < k),q (l[j]'(by omega))=false) (h:q l[k]=true):vI l q=k:=by
 unfold vI;rw[List.findIdx?_eq_some_iff_getElem.2 ⟨hk,h,fun j hj=>by simp[hno j hj]⟩]
theorem OD (l:bB) (q:Bx→Bool) (hno: ∀j (h:j < l.length),q l[j]=false):vI l q= -1:=by
 unfold vI;rw[List.findIdx?_eq_none_iff.2 fun x hx=>by
  obtain⟨j,hj,rfl⟩:=List.getElem_of_mem hx;exact hno j hj]
theorem QW (l:bB) (q:Bx→Bool):decide (0≤vI l q)=l.any q:=by
 unfold vI;cases h:l.findIdx? q with
 | none=>
  rw[List.findIdx?_eq_none_iff] at h;have:l.any q=false:=by rw[List.any_eq_false];intro x hx;simp [h x hx]
  rw[this];decide
 | some i=>
  obtain⟨hi,hq, -⟩:=List.findIdx?_eq_some_iff_getElem.1 h;have:l.any q=true:=List.any_eq_true.2 ⟨_,List.getElem_mem hi,hq⟩;rw[this];simp
theorem QU (g:FuncId) (caps:Array Value) (q:Bx→Bool) (v:Value) (l:bB) (w:World) (hs:bZ w v l) (hg:K4 g caps q w):
  Calls Tryz.prog 160 #[v, .func (.func g) #[] caps] w fun e w'=>e= .returned (.int .i64 (vI l q))∧Below w.heap.size w w':=by
 obtain⟨a,cap,rfl,hcap,hm, -,hl⟩:=hs.open_;clear hs;obtain⟨hcall,hg⟩:=hg;have HG:=jD hg;clear hg;go_enter Tryz.func160,Tryz.ntmps160;go_wp2;go_loopw [8] (fun i wr=> ∃k:Nat,k≤l.length∧i= .int .i64 k∧(∀j (h:j < k) (h':j < l.length),q l[j]=false)∧Below w.heap.size w wr) (fun i _=>l.length - (intOf i).toNat)
 case atStart=>exact ⟨0,Nat.zero_le _,rfl,fun j h=>by omega,br⟩
 case round=>
  obtain⟨k,hk,rfl,hno,hbl⟩:=hrel;have HN:=jD hno;clear hno;by_cases hlt:k < l.length
  ·rcases hl with rfl | ⟨b,off,rfl,hb,hc⟩
   ·simp at hlt
   obtain⟨u,d1,d2,d3,hsp⟩:=hc k hlt;replace d1:=(hbl.cell (p:=⟨b,off+k*3,none⟩) hb).trans d1;replace d2:=(hbl.cell (p:=⟨b,off+k*3+1,none⟩) hb).trans d2;replace d3:=(hbl.cell (p:=⟨b,off+k*3+2,none⟩) hb).trans d3;replace hsp:=hsp.below hbl;have HH:=jD (fun h=>QV l q k hlt (fun j hj=>HN.o j hj (by omega)) h);have qu:=jD (fun (h:q l[k]=false)=>show ∀j (h:j < k+1) (h':j < l.length),q l[j]=false from fun j hj hj'=>by
    by_cases e:j=k
    ·subst e;exact h
    ·exact HN.o j (by omega) hj')
   clear hc;generalize hx:l[k]=bx at*;clear hx;have hdk:decide ((k:Int) < (l.length:Int))=true:=by simp only[decide_eq_true_eq];omega
   go_wp2_with fail
   refine(HG.o bx u _ hsp hbl).mono ?_;rintro e w1 ⟨rfl,hb1⟩;replace hbl:=aj hbl hb1;clear hb1 d1 d2 d3 hsp;cases hq:q bx
   ·have H:=jD (qu.o hq);clear hq HH;go_wp2;go_roundw
    case rel=>exact ⟨k+1,by omega,by go_num,H.o,hbl⟩
    case measure=>first | (simp[intOf];done) | (simp[intOf];omega)
   ·have H:=jD (HH.o hq);clear hq HH;go_wp2;go_ret;exact⟨bw H.o.symm,hbl⟩
  ·obtain rfl:k=l.length:=by omega
   go_wp2;go_ret;exact⟨bw (OD l q fun j h=>HN.o j h h).symm,hbl⟩
theorem J9 (g:FuncId) (caps:Array Value) (q:Bx→Bool) (v:Value) (l:bB) (w:World) (hs:bZ w v l) (hg:K4 g caps q w):
  Calls Tryz.prog 125 #[v, .func (.func g) #[] caps] w fun e w'=>e= .returned (.bool (l.any q))∧Below w.heap.size w w':=by
 have HI:=jD (QU g caps q v l w hs hg);have HA:=jD (QW l q);clear hs hg;go_enter Tryz.func125,Tryz.ntmps125;go_wp2_with fail
 (with_reducible refine HI.o.mono ?_);rintro e w1 ⟨rfl,hb⟩;generalize vI l q=x at*;clear HI;go_wp2;go_ret;exact⟨dU HA.o,hb⟩
theorem Ig (v:Value) (l:bB) (t n:Int) (w:World) (hs:bZ w v l):
  Calls Tryz.prog 91 #[v, .agg #[.int .i64 t, .int .i64 n]] w fun e w'=>e= .returned (.bool (cE l t n))∧Below w.heap.size w w':=by
 obtain⟨a,cap,rfl⟩:=hs.shape;have hm: ∀args W,(callFunc 126 args).run Tryz.prog W= .ok (.enter 126 args) W:=fun _ _=>by kernel_rfl
 have hp:K4 126 #[.pointer (some ⟨w.heap.size,0,none⟩)] (fun b=>dK b.y b.n t&&jM b.sp n) (w.alloc (.cells #[.int .i64 t, .int .i64 n] 96)):=
  ⟨hm,fun b u W hsp hW=>acf b.y b.n b.sp u _ t n W hsp (ah hW (cat _ _ _ 0 _ rfl _ rfl)) (ah hW (cat _ _ _ 1 _ rfl _ rfl))⟩
 have HB:=jD (J9 _ _ _ _ l _ (hs.below (aG _)) hp);clear hm hp hs;go_enter Tryz.func91,Tryz.ntmps91;go_wp2_with fail
 (with_reducible refine HB.o.mono ?_);rintro e w1 ⟨rfl,hb⟩;clear HB;go_wp2;go_ret;exact⟨rfl,zO hb⟩
def hasB (f:bB) (t n:Int):Bool:=if bP f=0 then(if eP t n then cE f t n else false) else false
def vB (f:bB) (t n:Int):Int:=if bP f=0 then(if eP t n then 0 else 1) else bP f
theorem Zw (v:Value) (f:bB) (t n:Int) (w:World) (hs:bZ w v f):
  Calls Tryz.prog 55 #[v, .agg #[.int .i64 t, .int .i64 n]] w fun e w'=>e= .returned (.tuple #[.bool (hasB f t n), .int .i64 (vB f t n)])∧Below w.heap.size w w':=by
 obtain⟨a,cap,rfl⟩:=hs.shape;have hcell: ∀w1,Below (w.alloc (.cells #[.int .i64 t, .int .i64 n] 96)).heap.size (w.alloc (.cells #[.int .i64 t, .int .i64 n] 96)) w1→
   w1.cell? ⟨w.heap.size,0,none⟩=some (.int .i64 t)∧w1.cell? ⟨w.heap.size,1,none⟩=some (.int .i64 n)∧Below w.heap.size w w1:=fun w1 h=>
  ⟨ah h (cat _ _ _ 0 _ rfl _ rfl),ah h (cat _ _ _ 1 _ rfl _ rfl),zO h⟩
 have HC:=jD hcell;clear hcell;go_enter Tryz.func55,Tryz.ntmps55;go_wp2_with fail
 (with_reducible refine(qg _ f _ (hs.below (aG _))).mono ?_);rintro e w1 ⟨rfl,hb⟩;obtain⟨c0,c1,hbel⟩:=HC.o _ hb;replace hs:=hs.below hbel;clear HC hb;cases hx:(bP f==0)
 ·have H:=jD (show hasB f t n=false∧vB f t n=bP f by simp at hx;simp [hasB,vB,hx]);have h':(bP f != 0)=true:=by simp[bne,hx]
  clear hx hs;go_wp2;go_ret2;exact⟨gZ H.o.1.symm H.o.2.symm,hbel⟩
 have h0:bP f=0:=by simpa using hx
 have H0:=jD h0;rw[h0];clear h0 hx;go_wp2_with fail
 (with_reducible refine(AA _ _ _).mono ?_);rintro e w2 ⟨rfl,hb⟩;replace c0:=ah hb c0;replace c1:=ah hb c1;replace hs:=hs.below hb;replace hbel:=aj hbel hb;clear hb;cases hp:eP t n
 ·have H:=jD (show hasB f t n=false∧vB f t n=1 by simp[hasB,vB,H0.o,hp]);clear hp hs;go_wp2;go_ret2;exact⟨gZ H.o.1.symm H.o.2.symm,hbel⟩
 have H:=jD (show hasB f t n=cE f t n∧vB f t n=0 by simp[hasB,vB,H0.o,hp]);clear hp;go_wp2_with fail
 (with_reducible refine(Ig _ f t n _ hs).mono ?_);rintro e w3 ⟨rfl,hb⟩;clear c0 c1 hs;go_wp2;go_ret2;exact⟨gZ H.o.1.symm H.o.2.symm,aj hbel hb⟩
def Mr (p:Nat→Nat→Bool) (t n:Int):Bool:=eP t n&&p t.toNat n.toNat
theorem afk (v:Value) (p:Nat→Nat→Bool) (t n:Int) (w:World) (h:FV w v p):
  Calls Tryz.prog 55 #[v, .agg #[.int .i64 t, .int .i64 n]] w fun e w'=>e= .returned (.tuple #[.bool (Mr p t n), .int .i64 (if eP t n then 0 else 1)])∧Below w.heap.size w w':=by
 obtain⟨f,f1,f2,f3⟩:=h;refine(Zw v f t n w f1).mono ?_;rintro e w' ⟨rfl,hb⟩;refine⟨gZ ?_ (by simp[vB,f2]),hb⟩;unfold hasB Mr;rw[if_pos f2];cases hp:eP t n
 ·simp
 ·simp only[if_true,Bool.true_and];have hb:0≤t∧t≤15∧0≤n∧n < 32:=by
   simp only[eP,rG,Bool.and_eq_true,decide_eq_true_eq] at hp;omega
  have:=f3 t.toNat n.toNat (by omega) (by omega);rw[Int.toNat_of_nonneg hb.1,Int.toNat_of_nonneg hb.2.2.1] at this;exact this
theorem LO (v:Value) (n:Nat) (xs:List Value) (w:World) (hs:aF w v n xs) (hl:xs.length=n*2) (h1: ∀u∈xs,u.oneCell'=true) (hb:n*16≤140737488355328):
  Calls Tryz.prog 158 #[v] w fun e w'=> ∃v',e= .returned v'∧w'.ownsRow w.heap.size 179 2 v' n xs∧Below w.heap.size w w':=by
 obtain⟨i0,hi,hz0,hz1,hz2⟩:=info_parts zS.info;have hs0:=hs;obtain⟨a,cap,rfl,hn,hm,h0,hc⟩:=hs;cases a with
 | none=>
  obtain rfl:=h0 rfl;obtain rfl:n=0:=by omega
  obtain rfl:xs=[]:=List.eq_nil_of_length_eq_zero (by simpa using hl);clear hc hs0 h0 hn hm hl;have heq:=Lib.run_eql_slice_nil (P:=Tryz.prog) w 175 179 none 0 0 0 0 Tryz.underlying175;go_enter Tryz.func158,Tryz.ntmps158;go_wp2;go_ret;exact⟨_,rfl,World.ownsRow_nil _ _ _ _,br⟩
 | some ad=>
  have HS:=jD (hs0.below (aG (.cells #[] 179)));have HO:=jD (Dd w w.heap.size 2 179 #[] 0 _ rfl (Nat.le_refl _) (by decide) rfl);have HL:=jD hl;clear hc hs0 h0 hl;have heq:=Lib.run_eql_slice_nil (P:=Tryz.prog) w 175 179 (some ad) n cap 0 0 Tryz.underlying175;go_enter Tryz.func158,Tryz.ntmps158;go_wp2_with (at_builtin;refine fH (w0:=w) rfl (.tmp 5) (.tmp 6) 175 rfl w.heap.size 179 (.agg #[.int .i64 0, .int .i64 0]) 2 16 Tryz.underlying175 zS.info rfl (by decide) _ 0 [] rfl HO.o _ n xs rfl HS.o HL.o h1 (aG _) (by simp) (by unfold maxLen;omega) (by omega) ?_)
  intro v' w1 hown hb1;go_wp2;go_ret;exact⟨_,rfl,by simpa using hown,hb1⟩
theorem xP (v:Value) (l:bB) (w:World) (hs:bZ w v l) (hc:bP l=0):
  Calls Tryz.prog 118 #[v] w fun e w'=> ∃v',e= .returned v'∧cB w' w.heap.size 177 179 v' l∧Below w.heap.size w w':=by
 obtain⟨a,cap,rfl,hcap,hm, -,hl⟩:=hs.open_;obtain⟨hlen,hok⟩:=gj.1 hc;clear hs hc;go_enter Tryz.func118,Tryz.ntmps118;go_wp2;go_loopw [3,8] (fun vo i wr=> ∃k:Nat,k≤l.length∧i= .int .i64 k∧cB wr w.heap.size 177 179 vo (l.take k)∧Below w.heap.size w wr) (fun _ i _=>l.length - (intOf i).toNat)
 case atStart=>exact ⟨0,Nat.zero_le _,rfl,cB.nil _ _ _ _,br⟩
 case round=>
  obtain⟨k,hk,rfl,hown,hbl⟩:=hrel;by_cases hlt:k < l.length
  ·rcases hl with rfl | ⟨b,off,rfl,hb,hcc⟩
   ·simp at hlt
   obtain⟨u,d1,d2,d3,hsp⟩:=hcc k hlt;replace d1:=(hbl.cell (p:=⟨b,off+k*3,none⟩) hb).trans d1;replace d2:=(hbl.cell (p:=⟨b,off+k*3+1,none⟩) hb).trans d2;replace d3:=(hbl.cell (p:=⟨b,off+k*3+2,none⟩) hb).trans d3;replace hsp:=hsp.below hbl;have hsl:=(mN (lY.1 (hok _ (List.getElem_mem hlt))).2).1;have kG:=jD (List.take_succ_eq_append_getElem hlt);clear hcc;generalize hx:l[k]=bx at*;obtain⟨y,n,sp⟩:=bx;simp only at d1 d2 d3 hsp hsl;clear hx;have hcl:aF (wr.alloc (.cells #[.int .i64 y, .int .i64 n,u] 177)) u sp.length (az sp):=hsp.below (aG _);have lu:=jD hcl;obtain⟨ua,uc,rfl⟩:=hsp.shape;have HO:=jD hown;clear hsp hcl hown;go_wp2_with fail
   (with_reducible refine(LO _ sp.length (az sp) _ lu.o (cC sp) (kM sp) (by omega)).mono ?_);rintro e w1 ⟨v1,rfl,od,hb1⟩;have hz1:wr.heap.size < w1.heap.size:=by have:=hb1.size;simp at this;omega
   have c0:=ah hb1 (cat wr #[.int .i64 y, .int .i64 n, .slice ua sp.length uc] 177 0 _ rfl _ rfl);have c1:=ah hb1 (cat wr #[.int .i64 y, .int .i64 n, .slice ua sp.length uc] 177 1 _ rfl _ rfl);have c2:=ah hb1 (cat wr #[.int .i64 y, .int .i64 n, .slice ua sp.length uc] 177 2 _ rfl _ rfl);have f2:=VI hb1 (cat wr #[.int .i64 y, .int .i64 n, .slice ua sp.length uc] 177 2 _ rfl _ rfl) (fat _ _ _ 2 _ rfl);obtain⟨ra,rc,hv⟩:=ay od;subst hv;rw[World.size_alloc] at od;have Ab:=jD od;have mq:Below wr.heap.size wr w1:=zO hb1;have ek:=jD mq;clear od hb1 mq lu;obtain⟨us,o1,o2,o3⟩:=HO.o;have hk2:(l.take k).length=k:=by simp;omega
   have bO:Below wr.heap.size wr ((w1.setCell ⟨wr.heap.size,2,none⟩ (.slice ra sp.length rc)).alloc (.cells #[.int .i64 y, .int .i64 n, .slice ra sp.length rc] 177)):=
    (ek.o.setCell (p:=⟨wr.heap.size,2,none⟩) (Nat.le_refl _) _).alloc (by simp;omega) _
   have O1:=jD o1;have O2:=jD (aI o2 bO);have O3:=jD (fun i hi hi'=>aI (o3 i hi hi') bO);have U:=jD ((ED (j:=2) (u:= .slice ra sp.length rc) Ab.o (Nat.lt_succ_self _)).alloc (.cells #[.int .i64 y, .int .i64 n, .slice ra sp.length rc] 177));have ROW:=jD (aF.mk (w:=(w1.setCell ⟨wr.heap.size,2,none⟩ (.slice ra sp.length rc)).alloc (.cells #[.int .i64 y, .int .i64 n, .slice ra sp.length rc] 177)) (b:=w1.heap.size) (off:=0) (n:=1) (cap:=1) (xs:=[.int .i64 y, .int .i64 n, .slice ra sp.length rc]) (Nat.le_refl _) (by decide) (by simp) (fun j x hj=>by
    rw[Nat.zero_add,World.cell?_alloc_at _ _ _ _ (by simp)];simpa using hj))
   have cw:=jD bO;have hws:=hbl.size;have cS:=jD hk2;obtain⟨za,zc,hz⟩:=ay o2;rw[hk2] at hz;subst hz;clear o1 o2 o3 bO HO hk2;go_wp2_with (at_builtin;refine bM rfl (.tmp 16) (.tmp 18) 89 rfl w.heap.size 177 _ 3 40 Tryz.underlying89 Ws.info rfl (by decide) _ (l.take k).length _ rfl O2.o _ 1 _ rfl ROW.o rfl (by intro z hz;simp at hz;rcases hz with rfl | rfl | rfl <;> rfl) (by have:=cw.o.size;omega) (by rw[cS.o];unfold maxLen;omega) (by rw[cS.o];omega) ?_)
   intro v9 w9 ho hgr;have HN:=jD (cB.push (b:=⟨y,n,sp⟩) (by decide) O1.o O2.o O3.o (bV U.o (by omega)) (by rw[cS.o];exact ho) hgr);have HG:=jD hgr;obtain⟨qa,qc,hq⟩:=ay ho;subst hq;clear ho hgr;go_wp2;go_roundw
   case rel=>
    refine⟨k+1,by omega,by go_num, ?_,(hbl.trans (cw.o.mono hws)).grown HG.o (by have:=cw.o.size;omega) (fun q hq=>(O2.o.lt q hq).1)⟩;rw[kG.o];exact HN.o
   case measure=>first | (simp[intOf];done) | (simp[intOf];omega)
  ·obtain rfl:k=l.length:=by omega
   rw[List.take_length] at hown;obtain⟨va,vc,hv⟩:=hown.shape;subst hv;have HO:=jD hown;clear hown;go_wp2;go_ret;exact⟨_,rfl,HO.o,hbl⟩
end Go.Proofs.YtajgndoiddmbmaaGreatDoor
