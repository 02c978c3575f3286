/- Towards what desk.Run answers. -/
import Derived.Test.YtajgndoiddmbmaaGreatDoorMSpan
import Derived.Test.YtajgndoiddmbmaaGreatDoorMForm
import Derived.Laws.BitsAllLaws
namespace Go.Proofs.YtajgndoiddmbmaaGreatDoor
open Go.RowKit
structure Bx where
 y:Int
 n:Int
 sp:cp
abbrev bB:=List Bx
def bxCells:bB→List Value→List Value
 | b::l,u::us=> .int .i64 b.y:: .int .i64 b.n::u::bxCells l us
 | _,_=>[]
theorem Fh (l:bB) (us:List Value) (h:us.length=l.length):(bxCells l us).length=l.length*3:=by
 induction l generalizing us with
 | nil=>simp [bxCells]
 | cons b l ih=>cases us with
  | nil=>simp at h
  | cons u us=>have:=ih us (by simpa using h);simp only[bxCells,List.length_cons,this];omega
theorem LM (l:bB) (us:List Value) (h:us.length=l.length) (i:Nat) (hi:i < l.length):(bxCells l us)[i*3]? =some (.int .i64 l[i].y)∧(bxCells l us)[i*3+1]? =some (.int .i64 l[i].n)∧(bxCells l us)[i*3+2]? =some (us[i]'(by omega)):=by
 induction l generalizing us i with
 | nil=>simp at hi
 | cons b l ih=>cases us with
  | nil=>simp at h
  | cons u us=>
   cases i with
   | zero=>simp [bxCells]
   | succ i=>
    have:=ih us (by simpa using h) i (by simpa using hi);rw[show(i+1)*3=i*3+1+1+1 from by omega];simpa[bxCells] using this
theorem Fi (l m:bB) (us vs:List Value) (h:us.length=l.length):bxCells (l++m) (us++vs)=bxCells l us++bxCells m vs:=by
 induction l generalizing us with
 | nil=>simp only[List.length_nil,List.length_eq_zero_iff] at h;subst h;simp [bxCells]
 | cons b l ih=>cases us with
  | nil=>simp at h
  | cons u us=>simp only[List.cons_append,bxCells];rw [ih us (by simpa using h)]
def bZ (w:World) (v:Value) (l:bB):Prop:=
 ∃us:List Value,us.length=l.length∧aF w v l.length (bxCells l us)∧ ∀i (h:i < l.length) (h':i < us.length),fJ w us[i] l[i].sp
theorem bZ.below {w w':World} {v:Value} {l:bB} (h:bZ w v l) (hb:Below w.heap.size w w'):bZ w' v l:=by
 obtain⟨us,h1,h2,h3⟩:=h;exact⟨us,h1,h2.below hb,fun i hi hi'=>(h3 i hi hi').below hb⟩
theorem bZ.shape {w:World} {v:Value} {l:bB} (h:bZ w v l): ∃a cap,v= .slice a l.length cap:=by
 obtain⟨us, -,h, -⟩:=h;exact h.shape
theorem bZ.open_ {w:World} {v:Value} {l:bB} (h:bZ w v l): ∃a cap,v= .slice a l.length cap∧l.length≤cap∧l.length≤140737488355328∧(a=none→cap=0)∧
  (l=[]∨ ∃b off,a=some ⟨b,off,none⟩∧b < w.heap.size∧ ∀i (h:i < l.length),∃u,w.cell? ⟨b,off+i*3,none⟩=some (.int .i64 l[i].y)∧w.cell? ⟨b,off+i*3+1,none⟩=some (.int .i64 l[i].n)∧w.cell? ⟨b,off+i*3+2,none⟩=some u∧fJ w u l[i].sp):=by
 obtain⟨us,hu,⟨a,cap,hv,hn,hm,h0,h⟩,hs⟩:=h;refine⟨a,cap,hv,hn,hm,h0, ?_⟩;rcases h with h | ⟨b,off,ha,hlt,hc⟩
 ·left;have:=Fh l us hu;rw[h] at this;exact List.eq_nil_of_length_eq_zero (by simp at this;omega)
 ·refine .inr ⟨b,off,ha,hlt,fun i hi=>⟨us[i]'(by omega), ?_⟩⟩;obtain⟨g1,g2,g3⟩:=LM l us hu i hi;exact⟨hc _ _ g1,by rw[Nat.add_assoc];exact hc _ _ g2,by rw[Nat.add_assoc];exact hc _ _ g3,hs i hi (by omega)⟩
def iC (b:Bx):Int:=if eo b.y b.n=0 then dH b.sp else eo b.y b.n
def bxsFrom:bB→Int
 | []=>0
 | b::l=>if iC b=0 then bxsFrom l else iC b
def bP (l:bB):Int:=if 40 < l.length then 2 else bxsFrom l
theorem Oy (l:bB) (k:Nat) (hk:k < l.length) (h:iC l[k]=0):bxsFrom (l.drop k)=bxsFrom (l.drop (k+1)):=by
 rw[List.drop_eq_getElem_cons hk];simp only[bxsFrom];rw [if_pos h]
theorem LJ (l:bB) (k:Nat) (hk:k < l.length) (h:iC l[k]≠0):bxsFrom (l.drop k)=iC l[k]:=by
 rw[List.drop_eq_getElem_cons hk];simp only[bxsFrom];rw [if_neg h]
theorem LL {l:bB} (h:bxsFrom l=0): ∀b∈l,iC b=0:=by
 induction l with
 | nil=>intro b hb;simp at hb
 | cons x l ih=>
  simp only[bxsFrom] at h;by_cases hx:iC x=0
  ·rw[if_pos hx] at h;intro b hb;rcases List.mem_cons.1 hb with rfl | hb
   ·exact hx
   ·exact ih h b hb
  ·rw[if_neg hx] at h;exact absurd h hx
theorem Oz {l:bB} (h: ∀b∈l,iC b=0):bxsFrom l=0:=by
 induction l with
 | nil=>rfl
 | cons x l ih=>simp only[bxsFrom];rw [if_pos (h x List.mem_cons_self)];exact ih fun b hb=>h b (List.mem_cons_of_mem _ hb)
theorem gj {l:bB} :bP l=0↔l.length≤40∧ ∀b∈l,iC b=0:=by
 unfold bP;split
 ·constructor
  ·intro h;simp at h
  ·intro⟨h,_⟩;omega
 ·exact⟨fun h=>⟨by omega,LL h⟩,fun h=>Oz h.2⟩
theorem lY {b:Bx} :iC b=0↔eo b.y b.n=0∧dH b.sp=0:=by
 unfold iC;split <;> simp_all
def cE (l:bB) (t n:Int):Bool:=l.any fun b=>dK b.y b.n t&&jM b.sp n
def spN (acc:Nat):cp→Nat
 | []=>acc
 | s::l=>spN (acc ||| (2^s.2.toNat - 2^s.1.toNat)) l
theorem Ni (acc:Nat) (l m:cp):spN acc (l++m)=spN (spN acc l) m:=by
 induction l generalizing acc with
 | nil=>rfl
 | cons s l ih=>simp only[List.cons_append,spN];exact ih _
theorem Td (a b i:Nat) (h:a≤b):(2^b - 2^a).testBit i=(decide (a≤i)&&decide (i < b)):=by
 obtain⟨c,rfl⟩: ∃c,b=a+c:=⟨b - a,by omega⟩
 have e:2^(a+c) - 2^a=2^a*(2^c - 1):=by rw[Nat.pow_add,Nat.mul_sub,Nat.mul_one]
 rw[e,Nat.testBit_two_pow_mul,Nat.testBit_two_pow_sub_one];by_cases h1:a≤i
 ·simp[h1];constructor <;> intro h <;> omega
 ·simp[h1]
theorem WL (l:cp) (acc i:Nat) (h: ∀s∈l,0≤s.1∧s.1 < s.2∧s.2≤32):(spN acc l).testBit i=(acc.testBit i || jM l i):=by
 induction l generalizing acc with
 | nil=>simp [spN,jM]
 | cons s l ih=>
  have hs:=h s List.mem_cons_self;simp only[spN];rw[ih _ fun x hx=>h x (List.mem_cons_of_mem _ hx),Nat.testBit_or,Td _ _ _ (by omega),xG,Bool.or_assoc];congr 1;congr 1;rw[show decide (s.1.toNat≤i)=decide (s.1≤(i:Int)) from by simp,show decide (i < s.2.toNat)=decide ((i:Int) < s.2) from by simp]
theorem EJ (a b:Nat) (h:b≤32):2^b - 2^a < 4294967296:=by
 have:2^b≤2^32:=Nat.pow_le_pow_right (by decide) h;have:0 < 2^a:=Nat.pow_pos (by decide);omega
theorem NG (a b:Nat) (ha:a < 4294967296) (hb:b < 4294967296):a ||| b < 4294967296:=Nat.or_lt_two_pow (n:=32) ha hb
theorem Q8 (a b:Nat) (ha:a < 4294967296):a &&& b < 4294967296:=Nat.lt_of_le_of_lt Nat.and_le_left ha
theorem X8 (a b:Nat) (ha:a < 4294967296) (hb:b < 4294967296):a ^^^ b < 4294967296:=Nat.xor_lt_two_pow (n:=32) ha hb
theorem II (l:cp) (acc:Nat) (ha:acc < 4294967296) (h: ∀s∈l,0≤s.1∧s.1 < s.2∧s.2≤32):spN acc l < 4294967296:=by
 induction l generalizing acc with
 | nil=>exact ha
 | cons s l ih=>
  have hs:=h s List.mem_cons_self;exact ih _ (NG _ _ ha (EJ _ _ (by omega))) fun x hx=>h x (List.mem_cons_of_mem _ hx)
def fu (l:bB) (k:Nat):Nat:=l.foldl (fun acc b=>if dK b.y b.n k then acc ||| spN 0 b.sp else acc) 0
theorem FM (l:bB) (b:Bx) (k:Nat):fu (l++[b]) k=if dK b.y b.n k then fu l k ||| spN 0 b.sp else fu l k:=by simp[fu]
theorem iE (l:bB) (k:Nat):(∀b∈l,iC b=0)→fu l k < 4294967296∧ ∀i:Nat,(fu l k).testBit i=cE l k i:=by
 refine lT (p:=fun l=>(∀b∈l,iC b=0)→fu l k < 4294967296∧ ∀i:Nat,(fu l k).testBit i=cE l k i) ?_ ?_ l
 ·intro _;exact ⟨by simp[fu],fun i=>by simp[fu,cE]⟩
 ·intro l b ih h;obtain⟨h1,h2⟩:=ih fun x hx=>h x (List.mem_append_left _ hx);have hb:=(mN (lY.1 (h b (by simp))).2).2;rw[FM];have e: ∀i:Nat,cE (l++[b]) k i=(cE l k i || (dK b.y b.n k&&jM b.sp i)):=fun i=>by simp[cE]
  split
  ·rename_i hc;refine⟨NG _ _ h1 (II _ _ (by decide) hb),fun i=> ?_⟩;rw[Nat.testBit_or,h2,WL _ _ _ hb,e,hc];simp
  ·rename_i hc;refine⟨h1,fun i=> ?_⟩;rw[h2,e];simp [hc]
def eV (y k:Nat):Nat:=if y.testBit k then y - 2^k else y
theorem J2: ∀T:Nat,T < 16→eo (T:Int) (15 - (T:Int))=0∧dK (T:Int) (15 - (T:Int)) (T:Int)=true∧ ∀o:Nat,o < 16→dK (T:Int) (15 - (T:Int)) (o:Int)=true→o=T:=by decide+kernel
theorem rO: ∀y:Nat,y < 16→ ∀k:Nat,k < 4→bits .andNot .i64 (y:Int) ((2:Int)^k)=(eV y k:Int)∧eV y k < 16:=by decide+kernel
theorem Hr: ∀y:Nat,y < 16→ ∀n:Nat,n < 16→ ∀k:Nat,k < 4→eo (y:Int) (n:Int)=0→eo (eV y k:Int) (eV n k:Int)=0:=by decide+kernel
theorem JW: ∀y:Nat,y < 16→ ∀n:Nat,n < 16→ ∀k:Nat,k < 4→ ∀o:Nat,o < 16→dK (y:Int) (n:Int) (o:Int)=true→dK (eV y k:Int) (eV n k:Int) (o:Int)=true:=by decide+kernel
def jK (d:Nat→Bool):Array Value:=((List.range 16).map fun k=>Value.bool (d k)).toArray
theorem Od (d:Nat→Bool):(jK d).size=16:=by simp[jK]
theorem Gx (d:Nat→Bool) (k:Nat) (h:k < 16):(jK d)[k]? =some (.bool (d k)):=by simp[jK,h]
theorem Gw (d:Nat→Bool) (k:Nat) (x:Bool):(jK d).setIfInBounds k (.bool x)=jK (fun j=>if j=k then x else d j):=by
 apply Array.ext
 ·simp[jK]
 ·intro i h1 h2;simp only[Array.size_setIfInBounds,Od] at h1;by_cases h:k=i
  ·subst h;simp [jK]
  ·rw[Array.getElem_setIfInBounds_ne (by simpa[jK] using h1) h];simp[jK,show ¬i=k from fun e=>h e.symm]
theorem Oc:jK (fun _=>false)=Array.replicate 16 (.bool false):=by
 apply Array.ext
 ·simp[jK]
 ·intro i h1 h2;simp [jK]
structure oU (q:Nat→Nat) (T:Nat) (l:bB) (dn:Nat→Bool):Prop where
 len:l.length≤T
 ok: ∀b∈l,iC b=0
 pts: ∀k n:Nat,k < 16→n < 32→cE l k n=(dn k&&(q k).testBit n)
 all: ∀k,k < T→q k≠0→dn k=true
 some_:l≠[]→ ∃k,k < 16∧q k≠0
theorem oU.zero (q:Nat→Nat):oU q 0 [] (fun _=>false):=⟨Nat.le_refl _,fun b hb=>by simp at hb,fun k n _ _=>by simp[cE],fun k hk=>by omega,fun h=>absurd rfl h⟩
theorem oU.skip {q:Nat→Nat} {T:Nat} {l:bB} {dn:Nat→Bool} (h:oU q T l dn) (hs:dn T=true∨q T=0):oU q (T+1) l dn:=
 ⟨by have:=h.len;omega,h.ok,h.pts,fun k hk hq=>by
  by_cases e:k=T
  ·subst e;rcases hs with h | h
   ·exact h
   ·exact absurd h hq
  ·exact h.all k (by omega) hq,h.some_⟩
structure sN (q:Nat→Nat) (T y n:Nat):Prop where
 U1:y < 16
 n16:n < 16
 ok:eo (y:Int) (n:Int)=0
 self:dK (y:Int) (n:Int) (T:Int)=true
 same: ∀o:Nat,o < 16→dK (y:Int) (n:Int) (o:Int)=true→q o=q T
theorem sN.zero (q:Nat→Nat) {T:Nat} (hT:T < 16):sN q T T (15 - T):=by
 obtain⟨h1,h2,h3⟩:=J2 T hT;have e:((15 - T:Nat):Int)=15 - (T:Int):=by omega
 refine⟨hT,by omega,by rw[e];exact h1,by rw[e];exact h2,fun o ho h=> ?_⟩;rw[e] at h;rw[h3 o ho h]
theorem sN.drop {q:Nat→Nat} {T y n k:Nat} (h:sN q T y n) (hT:T < 16) (hk:k < 4) (hs: ∀o:Nat,o < 16→dK (eV y k:Int) (eV n k:Int) (o:Int)=true→q o=q T):sN q T (eV y k) (eV n k):=
 ⟨(rO y h.U1 k hk).2,(rO n h.n16 k hk).2,Hr y h.U1 n h.n16 k hk h.ok,JW y h.U1 n h.n16 k hk T hT h.self,hs⟩
theorem oU.push {q:Nat→Nat} {T y n:Nat} {l:bB} {dn:Nat→Bool} (h:oU q T l dn) (hT:T < 16) (hq:q T≠0) (hc:sN q T y n):
  oU q (T+1) (l++[⟨y,n,make fun i=>(q T).testBit i⟩]) (fun k=>dn k || dK (y:Int) (n:Int) (k:Int)):=by
 refine⟨by have:=h.len;simp;omega, ?_, ?_, ?_,fun _=>⟨T,hT,hq⟩⟩
 ·intro b hb;rcases List.mem_append.1 hb with hb | hb
  ·exact h.ok b hb
  ·simp only[List.mem_singleton] at hb;subst hb;exact lY.2 ⟨hc.ok,Tf _⟩
 ·intro k m hk hm;have e:cE (l++[⟨y,n,make fun i=>(q T).testBit i⟩]) k m=(cE l k m || (dK y n k&&jM (make fun i=>(q T).testBit i) m)):=by simp[cE]
  rw[e,h.pts k m hk hm,Ls _ m hm];cases hin:dK (y:Int) (n:Int) (k:Int)
  ·simp
  ·rw[hc.same k hk hin];cases dn k <;> simp
 ·intro k hk hqk;by_cases e:k=T
  ·subst e;simp [hc.self]
  ·simp[h.all k (by omega) hqk]
def cB (w:World) (base eB eS:Nat) (v:Value) (l:bB):Prop:=
 ∃us:List Value,us.length=l.length∧w.ownsRow base eB 3 v l.length (bxCells l us)∧ ∀i (h:i < l.length) (h':i < us.length),w.ownsRow base eS 2 us[i] l[i].sp.length (az l[i].sp)
theorem cB.nil (w:World) (base eB eS:Nat):cB w base eB eS (.slice none 0 0) []:=⟨[],rfl,World.ownsRow_nil _ _ _ _,fun i h=>by simp at h⟩
theorem cB.below {w w':World} {base eB eS:Nat} {v:Value} {l:bB} (h:cB w base eB eS v l) (hb:Below w.heap.size w w'):cB w' base eB eS v l:=by
 obtain⟨us,h1,h2,h3⟩:=h;exact⟨us,h1,aI h2 hb,fun i hi hi'=>aI (h3 i hi hi') hb⟩
theorem cB.at_ {w:World} {base eB eS:Nat} {v:Value} {l:bB} (h:cB w base eB eS v l) (hl:l.length≤1000) (hok: ∀b∈l,iC b=0):bZ w v l:=by
 obtain⟨us,h1,h2,h3⟩:=h;refine⟨us,h1,aF.fZ h2 (by omega),fun i hi hi'=>aF.fZ (h3 i hi hi') ?_⟩;have:=(mN (lY.1 (hok _ (List.getElem_mem hi))).2).1;omega
theorem cB.shape {w:World} {base eB eS:Nat} {v:Value} {l:bB} (h:cB w base eB eS v l): ∃a cap,v= .slice a l.length cap:=by
 obtain⟨us, -,h, -⟩:=h;exact ay h
theorem GG (p:Nat→Bool) (k:Nat):cnt p (k+1)=(if p 0 then 1 else 0)+cnt (fun n=>p (n+1)) k:=by
 induction k with
 | zero=>simp [cnt]
 | succ k ih=>
  rw[cnt,ih,cnt];omega
theorem QL {p q:Nat→Bool} (k:Nat) (h: ∀n,n < k→p n=q n):cnt p k=cnt q k:=by
 induction k with
 | zero=>rfl
 | succ k ih=>rw [cnt,cnt,ih fun n hn=>h n (by omega),h k (by omega)]
theorem QM (k:Nat): ∀x:Nat,0 < x→x < 2^k→cnt (fun n=>(x &&& (x - 1)).testBit n) k+1=cnt (fun n=>x.testBit n) k:=by
 induction k with
 | zero=>intro x h1 h2;simp at h2;omega
 | succ k ih=>
  intro x h1 h2;have e2:2^(k+1)=2*2^k:=by rw[Nat.pow_succ];omega
  rw[show(fun n=>(x &&& (x - 1)).testBit n)=fun n=>x.testBit n&&(x - 1).testBit n from by funext n;rw [Nat.testBit_and],GG,GG (fun n=>x.testBit n)];simp only[Nat.testBit_succ,Nat.testBit_zero];rcases Nat.mod_two_eq_zero_or_one x with h0 | h0
  ·have hy:0 < x / 2:=by omega
   have hz:(x - 1) / 2=x / 2 - 1:=by omega
   have:=ih (x / 2) hy (by omega);simp only[Nat.testBit_and] at this;simp only[hz,h0];simp;omega
  ·have hz:(x - 1) / 2=x / 2:=by omega
   have h3:(x - 1)%2=0:=by omega
   simp only[hz,h0,h3,Bool.and_self];simp;omega
theorem LN (x:Nat) (h:0 < x):x &&& (x - 1) < x:=Nat.lt_of_le_of_lt Nat.and_le_right (by omega)
def cntT (p:Nat→Nat→Bool):Nat→Int
 | 0=>0
 | k+1=>cntT p k+cnt (p k) 32
def nI (p:Nat→Nat→Bool):Int:=cntT p 16
theorem Ot {p q:Nat→Nat→Bool} (k:Nat) (hk:k≤16) (h: ∀t n,t < 16→n < 32→p t n=q t n):cntT p k=cntT q k:=by
 induction k with
 | zero=>rfl
 | succ k ih=>rw [cntT,cntT,ih (by omega),QL 32 fun n hn=>h k n (by omega) hn]
theorem xQ {p q:Nat→Nat→Bool} (h: ∀t n,t < 16→n < 32→p t n=q t n):nI p=nI q:=Ot 16 (Nat.le_refl _) h
theorem XS (p:Nat→Nat→Bool) (k:Nat):0≤cntT p k∧cntT p k≤32*k:=by
 induction k with
 | zero=>simp [cntT]
 | succ k ih=>rw [cntT];have:=J5 (p k) 32;omega
def l6 (p:Nat→Nat→Bool):Bool:=(List.range 16).all fun t=>UE (p t)
theorem zP (p:Nat→Nat→Bool):l6 p=true↔ ∀t n,t < 16→n < 32→p t n=true:=by
 simp only[l6,List.all_eq_true,List.mem_range,UD];exact⟨fun h t n ht hn=>h t ht n hn,fun h t ht n hn=>h t n ht hn⟩
theorem wB {p q:Nat→Nat→Bool} (h: ∀t n,t < 16→n < 32→p t n=q t n):l6 p=l6 q:=by
 rw[Bool.eq_iff_iff,zP,zP];exact⟨fun H t n ht hn=>by rw[←h t n ht hn];exact H t n ht hn,fun H t n ht hn=>by rw[h t n ht hn];exact H t n ht hn⟩
end Go.Proofs.YtajgndoiddmbmaaGreatDoor
