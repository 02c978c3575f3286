/- Towards what desk.Run answers. -/
import Derived.Test.YtajgndoiddmbmaaGreatDoorPartS
import Derived.Test.YtajgndoiddmbmaaGreatDoorMPartA
import Derived.Test.YtajgndoiddmbmaaGreatDoorSpoil0
import Derived.Test.YtajgndoiddmbmaaGreatDoorMWire1
import Derived.Test.YtajgndoiddmbmaaGreatDoorMRev
namespace Go.Proofs.YtajgndoiddmbmaaGreatDoor
set_option maxRecDepth 100000
set_option maxHeartbeats 40000000
open Go.RowKit
def kJ (t:Nat):Bool:=t==3 || t==103 || t==177 || t==179 || t==120 || t==238 || t==201
theorem zJ:kJ 3=true:=by decide
theorem zK:kJ 103=true:=by decide
theorem GD:kJ 177=true:=by decide
theorem DA:kJ 179=true:=by decide
theorem QC:kJ 120=true:=by decide
theorem Oj:kJ 238=true:=by decide
theorem Ol:kJ 201=true:=by decide
theorem aM.trans {T:Nat→Bool} {a b c:World} (h:aM T a b) (k:aM T b c):aM T a c:=⟨Nat.le_trans h.size k.size,fun j cs t h1 h2=>k.blk j cs t (h.blk j cs t h1 h2) h2⟩
structure aB (G:Nat→Prop) (w w':World):Prop where
 sp:Sp G w w'
 tk:aM kJ w w'
theorem aB.size {G:Nat→Prop} {w w':World} (h:aB G w w'):w.heap.size≤w'.heap.size:=h.sp.size
theorem aB.of_below {G:Nat→Prop} {w w':World} (h:Below w.heap.size w w'):aB G w w':=⟨Sp.of_below h,aM.of_below h⟩
theorem aB.refl (G:Nat→Prop) (w:World):aB G w w:=⟨Sp.refl _ _,aM.refl _ _⟩
theorem aB.mono {G H:Nat→Prop} {w w':World} (h:aB G w w') (hGH: ∀k,G k→H k):aB H w w':=⟨h.sp.mono hGH,h.tk⟩
theorem aB.trans {G:Nat→Prop} {a b c:World} (h:aB G a b) (k:aB G b c):aB G a c:=⟨h.sp.trans k.sp,h.tk.trans k.tk⟩
theorem aB.below {G:Nat→Prop} {a b c:World} (h:aB G a b) (k:Below b.heap.size b c):aB G a c:=h.trans (aB.of_below k)
theorem aB.drew {G:Nat→Prop} {a b:World} (h:aB G a b):aB G a b.drew:=h.below ((br).drew)
theorem aB.block {G:Nat→Prop} {w w':World} {g:Nat} {o:Obj} (h:aB G w w') (hg:w.heap[g]? =some o) (hS: ¬G g):w'.heap[g]? =some o:=h.sp.block hg hS
theorem aB.set {w:World} {g j:Nat} {v:Value} {cs:Array Value} {t:TypeId} (hg:w.heap[g]? =some (Obj.cells cs t (0,0))) (ht:kJ t=false):aB (fun q=>q=g) w (w.setCell ⟨g,j,none⟩ v):=by
 refine⟨?_,aM.iG hg ht⟩;refine⟨rfl,rfl,rfl,by simp,fun k _ hk=>aC hk,fun k cs' e' hc=> ?_⟩;by_cases hk:k=g
 ·subst hk;rw[hg] at hc;simp only[Option.some.injEq,Obj.cells.injEq,and_true] at hc;obtain⟨rfl,rfl⟩:=hc;exact⟨_,ax hg,by simp⟩
 ·exact⟨cs',(aC hk).trans hc,rfl⟩
theorem cR.bD {G:Nat→Prop} {w w':World} {base:Nat} {v:Value} {l:bB} (h:cR w base v l) (hs:aB G w w'):cR w' base v l:=h.tk hs.tk GD DA
theorem FO.bD {G:Nat→Prop} {w w':World} {base:Nat} {v:Value} {p:Nat→Nat→Bool} (h:FO w base v p) (hs:aB G w w'):FO w' base v p:=by
 obtain⟨l,h1,h2,h3⟩:=h;exact ⟨l,cR.bD h1 hs,h2,h3⟩
theorem bA.bD {G:Nat→Prop} {w w':World} {base:Nat} {v:Value} {l:List aA} (h:bA w base v l) (hs:aB G w w'):bA w' base v l:=h.tk hs.tk zJ zK QC
theorem fM.bD {G:Nat→Prop} {w w':World} {base:Nat} {v:Value} {l:List Gn} (h:fM w base v l) (hs:aB G w w'):fM w' base v l:=h.tk hs.tk zJ zK Ol
theorem eW.tk {T:Nat→Bool} {w w':World} {base:Nat} {v:Value} {l:List Pt} (h:eW w base v l) (hk:aM T w w') (h1:T 3=true) (h2:T 103=true) (h3:T 177=true) (h4:T 179=true) (h5:T 238=true):eW w' base v l:=by
 obtain⟨css,Ss,h⟩:=h;refine⟨css,Ss,h.lc,h.ls,hk.owns h.row h5,fun i a b c=>(h.each i a b c).map (fun _ hq=>hq) (fun e size n y xs he hr=>hk.owns hr ?_),h.apart,fun i hi q hq=>Nat.lt_of_lt_of_le (h.low i hi q hq) hk.size⟩;rcases he with rfl | rfl | rfl | rfl <;> assumption
theorem aY.bD {G:Nat→Prop} {w w':World} {base:Nat} {v:Value} {S:List SP} (h:aY w base v S) (hs:aB G w w'):aY w' base v S:=by
 obtain⟨l,h1,h2⟩:=h;exact ⟨l,h1.tk hs.tk zJ zK GD DA Oj,h2⟩
theorem aY.sem {w:World} {base:Nat} {v:Value} {S:List SP} (h:aY w base v S) (hl:S.length≤1000):DU w v S:=by
 obtain⟨l,h1,h2,rfl⟩:=h;exact⟨l,h1.at_ (fun p hp=>(h2 p hp).1) (by simpa using hl),fun p hp=>(h2 p hp).1,rfl⟩
theorem FO.at_ {w:World} {base:Nat} {v:Value} {p:Nat→Nat→Bool} (h:FO w base v p):FV w v p:=by
 obtain⟨l,h1,h2,h3⟩:=h;exact ⟨l,cR.vJ h1 h2,h2,h3⟩
structure aL where
 me:Int
 made:Int
 stamp:Int
 P:Nat→Nat→Bool
 L:List aA
 S:List SP
def AJ (t n:Nat):Bool:=decide (t < 16)&&decide (n < 32)
def gH (me made:Int):List Int:=if made=0 then [] else List.replicate me.toNat 0++[made]
def u7 (s:aL):SP:=⟨AJ,⟨gH s.me s.made,[]⟩⟩
def bT (s:aL):List SP:=dP (u7 s::s.S)
structure dV (s:aL):Prop where
 me:0≤s.me∧s.me < 5
 made:0≤s.made∧s.made≤1000
 stamp:0≤s.stamp∧s.stamp≤1000000
 L:nK s.L
 S: ∀x∈s.S,ql x
 len:s.S.length≤29
def xm (s:aL) (f l p:Value):Array Value:= #[.int .i64 s.me, .int .i64 s.made, .int .i64 s.stamp,f,l,p]
structure bz (w:World) (b g:Nat) (s:aL):Prop where
 ok:dV s
 ge:b≤g
 cells: ∃f l p,w.heap[g]? =some (.cells (xm s f l p) 191 (0,0))∧FO w b f s.P∧bA w b l s.L∧aY w b p s.S
theorem bz.bD {G:Nat→Prop} {w w':World} {b g:Nat} {s:aL} (h:bz w b g s) (hs:aB G w w') (hG: ¬G g):bz w' b g s:=by
 obtain⟨f,l,p,h1,h2,h3,h4⟩:=h.cells;exact⟨h.ok,h.ge,f,l,p,hs.block h1 hG,h2.bD hs,h3.bD hs,h4.bD hs⟩
theorem bz.below {w w':World} {b g:Nat} {s:aL} (h:bz w b g s) (hb:Below w.heap.size w w'):bz w' b g s:=h.bD (G:=fun _=>False) (aB.of_below hb) fun h=>h
theorem bz.lt {w:World} {b g:Nat} {s:aL} (h:bz w b g s):g < w.heap.size:=by
 obtain⟨f,l,p,h1, -⟩:=h.cells;exact ai h1
theorem FO.ow {w:World} {base:Nat} {v:Value} {p:Nat→Nat→Bool} (h:FO w base v p): ∃a n c,v= .slice a n c:=by
 obtain⟨l,⟨us, -,h1, -⟩, -⟩:=h;obtain⟨a,c,hv⟩:=ay h1;exact⟨a,_,c,hv⟩
theorem drop_zero {l:List aA} {id:ByteArray} {k:Kn} (h:nK l) (hid:gI id=true) (hk:bF k=0):nX l id k=0:=by
 unfold nX;rw [if_neg (by rw[jS.2 h];decide),if_neg (by rw[hid];decide),hk]
theorem Gz:Fp AJ:=fun t n h=>by
 unfold AJ;by_cases h1:t < 16
 ·rw[decide_eq_false (fun h2=>h ⟨h1,h2⟩),Bool.and_false]
 ·rw[decide_eq_false h1,Bool.false_and]
theorem Uc {t n:Nat} (ht:t < 16) (hn:n < 32):AJ t n=true:=by unfold AJ;rw [decide_eq_true ht,decide_eq_true hn];rfl
theorem y5 {me made:Int} (hm:0≤me∧me < 5) (hd:0≤made∧made≤1000):gz ⟨gH me made,[]⟩:=by
 refine⟨?_, ?_, ?_,by simp,by simp⟩
 ·show(gH me made).length≤5;unfold gH;split
  ·simp
  ·simp;omega
 ·intro n hn;have hn:n∈gH me made:=hn;unfold gH at hn;split at hn
  ·simp at hn
  ·rw[List.mem_append,List.mem_singleton] at hn;rcases hn with hn | rfl
   ·have:=List.eq_of_mem_replicate hn;omega
   ·exact hd
 ·show(gH me made).getLast? ≠some 0;unfold gH;split
  ·simp
  ·rename_i h;simp [h]
theorem dV.own {s:aL} (h:dV s):ql (u7 s):=⟨Gz,y5 h.me h.made,by simp[u7]⟩
theorem dV.all {s:aL} (h:dV s): ∀x∈u7 s::s.S,ql x:=fun x hx=>(List.mem_cons.1 hx).elim (fun e=>e ▸ h.own) (h.S x)
theorem dV.known {s:aL} (h:dV s): ∀x∈bT s,ql x:=JO h.all
theorem dV.NP {s:aL} (h:dV s):(bT s).length≤30:=by
 have:=EY (u7 s::s.S);have h2:=h.len;rw[List.length_cons] at this;unfold bT;omega
def rV (p:Nat→Nat→Bool) (v:aA):Bool:=p v.tg.toNat v.nm.toNat
def Jh (S:List SP) (v:aA):Bool:=De S v.tg.toNat v.nm.toNat v.ds v.dc
def gw (s:aL) (id:ByteArray) (t n bd:Int):aA:=⟨id,s.me,s.made+1,t,n,bd,nS s.L id⟩
def tL (t n bd:Int):Bool:=(!eP t n || decide (bd < 0)) || decide (1000000 < bd)
def fF (s:aL) (id:ByteArray) (t n bd:Int):Int:=
 if gI id=false then 3 else if tL t n bd=true then 1 else if s.made=1000 then 2 else if iB s.L id≠0 then iB s.L id else cM s.L (gw s id t n bd)
def mP (s:aL) (id:ByteArray) (t n bd:Int):aL:=if fF s id t n bd=0 then { s with L:=fR s.L (gw s id t n bd),made:=s.made+1 } else s
theorem NK {s:aL} {id:ByteArray} {t n bd:Int} :fF s id t n bd=0↔gI id=true∧tL t n bd=false∧s.made≠1000∧iB s.L id=0∧cM s.L (gw s id t n bd)=0:=by
 unfold fF;cases h1:gI id
 ·simp
 ·cases h2:tL t n bd
  ·by_cases h3:s.made=1000
   ·simp[h3]
   ·by_cases h4:iB s.L id=0
    ·simp[h3,h4]
    ·simp[h3,h4]
  ·simp
theorem Tg {s:aL} (h:dV s) (id:ByteArray) (t n bd:Int):dV (mP s id t n bd):=by
 unfold mP;split
 ·rename_i he;obtain⟨h1,h2,h3,h4,h5⟩:=NK.1 he;obtain⟨k1,k2,k3⟩:=FW.1 h5;exact⟨h.me,⟨by have:=h.made.1;show 0≤s.made+1;omega,by have:=h.made.2;show s.made+1≤1000;omega⟩,h.stamp,PD k1 k2 k3,h.S,h.len⟩
 ·exact h
def NR (s:aL) (p:Nat→Nat→Bool) (v:aA):Bool:=decide (v.ds=s.me) || rV p v
def Hx (s:aL) (p:Nat→Nat→Bool):aL:=⟨s.me,s.made,s.stamp+1,p,s.L.filter (NR s p),cN s.S p⟩
theorem Da (l:List SP) (q:Nat→Nat→Bool):(cN l q).length≤l.length:=by
 unfold cN;exact Nat.le_trans (EY _) (by rw[List.length_map];exact Nat.le_refl _)
theorem C9 {l:List SP} {q:Nat→Nat→Bool} (h: ∀x∈l,ql x): ∀x∈cN l q,ql x:=JO (PL h)
theorem Sd {s:aL} (h:dV s) (p:Nat→Nat→Bool) (hst:s.stamp < 1000000):dV (Hx s p):=
 ⟨h.me,h.made,⟨by have:=h.stamp.1;show 0≤s.stamp+1;omega,by show s.stamp+1≤1000000;omega⟩,h.L.filter _,C9 h.S,Nat.le_trans (Da _ _) h.len⟩
def iQ (L:List aA) (p:Nat→Nat→Bool) (A:List SP):List aA:=L.filter fun v=>rV p v&& !Jh A v
def jJ (L:List aA) (p:Nat→Nat→Bool):List Gn:=(L.filter fun v=> !rV p v).map fun v=>⟨v.id,v.past⟩
def VG (s:aL) (p:Nat→Nat→Bool):List SP:=cN (bT s) p
structure jP where
 site:Int
 stamp:Int
 V:List aA
 G:List Gn
 S:List SP
structure vV (b:jP):Prop where
 site:0≤b.site∧b.site < 5
 stamp:0≤b.stamp∧b.stamp≤1000000
 lv:b.V.length≤60
 lg:b.G.length≤60
 V: ∀v∈b.V,dz v
 G: ∀g∈b.G,cZ g=0
 S: ∀x∈b.S,ql x
 ls:b.S.length≤30
structure mh (w:World) (base:Nat) (vv gv pv:Value) (b:jP):Prop where
 mK:bA w base vv b.V
 gone:fM w base gv b.G
 parts:aY w base pv b.S
theorem mh.bD {G:Nat→Prop} {w w':World} {base:Nat} {vv gv pv:Value} {b:jP} (h:mh w base vv gv pv b) (hs:aB G w w'):mh w' base vv gv pv b:=⟨h.mK.bD hs,h.gone.bD hs,h.parts.bD hs⟩
theorem mh.below {w w':World} {base:Nat} {vv gv pv:Value} {b:jP} (h:mh w base vv gv pv b) (hb:Below w.heap.size w w'):mh w' base vv gv pv b:=h.bD (G:=fun _=>False) (aB.of_below hb)
theorem mh.mono {w:World} {base base':Nat} {vv gv pv:Value} {b:jP} (h:mh w base vv gv pv b) (hb:base'≤base):mh w base' vv gv pv b:=⟨h.mK.mono hb,h.gone.mono hb,h.parts.mono hb⟩
def oO (s:aL) (site stamp:Int) (p:Nat→Nat→Bool) (A:List SP):jP:=⟨site,stamp,iQ s.L p A,jJ s.L p,VG s p⟩
theorem dz.gone {v:aA} (h:dz v):cZ ⟨v.id,v.past⟩=0:=by
 unfold cZ;rw[if_neg (by rw[h.id];decide)];exact di.2 ⟨h.past,h.len⟩
theorem TT {s:aL} (h:dV s) {site stamp:Int} (h1:0≤site∧site < 5) (h2:0≤stamp∧stamp≤1000000) (p:Nat→Nat→Bool) (A:List SP):vV (oO s site stamp p A):=by
 refine⟨h1,h2,Nat.le_trans (List.length_filter_le _ _) h.L.len, ?_,fun v hv=>h.L.ok v (List.mem_filter.1 hv).1,fun g hg=> ?_,C9 h.known,Nat.le_trans (Da _ _) h.NP⟩
 ·show(jJ s.L p).length≤60;unfold jJ;rw [List.length_map];exact Nat.le_trans (List.length_filter_le _ _) h.L.len
 ·obtain⟨v,hv,rfl⟩:=List.mem_map.1 hg;exact(h.L.ok v (List.mem_filter.1 hv).1).gone
def putsE:List aA→List aA→Int
 | _,[]=>0
 | L,v::V=>if cM L v≠0 then cM L v else putsE (fR L v) V
def qh (L:List aA) (G:List Gn):List aA:=G.foldl (fun l g=>rN l g.id g.past) L
def iz (s:aL) (b:jP):Int:=
 if b.site≠s.me then 1 else if b.stamp≠s.stamp then 6 else if putsE s.L b.V≠0 then putsE s.L b.V else if 30≤(dP (s.S++b.S)).length then 2 else 0
def mM (s:aL) (b:jP):aL:=if iz s b=0 then { s with L:=qh (iZ s.L b.V) b.G,S:=dP (s.S++b.S) } else s
theorem yV: ∀(L V:List aA) (v:aA),putsE L (V++[v])=if putsE L V≠0 then putsE L V else cM (iZ L V) v
 | L,[],v=>by
  show putsE L [v]=if (0:Int)≠0 then 0 else cM L v;rw[if_neg (by decide)];unfold putsE putsE;by_cases h:cM L v≠0
  ·rw[if_pos h]
  ·rw[if_neg h];omega
 | L,u::V,v=>by
  show putsE L (u::(V++[v]))=_;unfold putsE;by_cases h:cM L u≠0
  ·rw[if_pos h,if_pos h,if_pos h]
  ·rw[if_neg h,if_neg h,yV];rfl
theorem Ga {L V:List aA} (hL:nK L) (h:putsE L V=0):nK (iZ L V):=by
 induction V generalizing L with
 | nil=>exact hL
 | cons v V ih=>
  unfold putsE at h;by_cases h1:cM L v≠0
  ·rw[if_pos h1] at h;exact absurd h h1
  ·rw[if_neg h1] at h;have h1:cM L v=0:=by simpa using h1
   obtain⟨k1,k2,k3⟩:=FW.1 h1;exact ih (PD k1 k2 k3) h
theorem GA {L:List aA} (hL:nK L): ∀G,nK (qh L G):=by
 intro G;induction G generalizing L with
 | nil=>exact hL
 | cons g G ih=>exact ih (hL.filter _)
theorem Nf {s:aL} {b:jP} :iz s b=0↔b.site=s.me∧b.stamp=s.stamp∧putsE s.L b.V=0∧(dP (s.S++b.S)).length≤29:=by
 unfold iz;by_cases h1:b.site=s.me
 ·by_cases h2:b.stamp=s.stamp
  ·by_cases h3:putsE s.L b.V=0
   ·by_cases h4:30≤(dP (s.S++b.S)).length
    ·simp[h1,h2,h3,h4];omega
    ·simp[h1,h2,h3,h4];omega
   ·simp[h1,h2,h3]
  ·simp[h1,h2]
 ·simp[h1]
theorem Sv {s:aL} (h:dV s) {b:jP} (hb:vV b):dV (mM s b):=by
 unfold mM;split
 ·rename_i he;obtain⟨h1,h2,h3,h4⟩:=Nf.1 he;exact⟨h.me,h.made,h.stamp,GA (Ga h.L h3) _,JO fun x hx=>(List.mem_append.1 hx).elim (h.S x) (hb.S x),h4⟩
 ·exact h
def uA:bB:=[⟨0,0,[(0,32)]⟩]
theorem ownRow (m:Nat) (made:Int):(List.replicate (m+1) (Value.int .i64 0)).toArray.setIfInBounds m (.int .i64 made)=(cV (List.replicate m 0++[made])).toArray:=by
 apply Array.toList_inj.1;simp only[Array.toList_setIfInBounds];rw[List.replicate_succ'];simp[cV]
theorem Xc {w:World} {base g n:Nat} {l:List Int} (hg:w.heap[g]? =some (Obj.cells (cV l).toArray 3 (0,0))) (hl:l.length=n) (hb:base≤g) (hn:n≤1000):w.ownsRow base 3 1 (.slice (some ⟨g,0,none⟩) n n) l.length (cV l):=by
 subst hl;exact⟨by simp[cV], .inr ⟨g,_,_,rfl,hb,hg,Nat.le_refl _,by unfold maxLen;omega,by simp[cV],by simp[cV,List.take_of_length_le]⟩⟩
def Mx (w:World) (me made:Int) (e:Ending) (w':World):Prop:=
 ∃f u,e= .returned (.agg #[f,u, .slice none 0 0])∧cR w' w.heap.size f uA∧w'.ownsRow w.heap.size 3 1 u (gH me made).length (cV (gH me made))∧Below w.heap.size w w'
theorem Yz (g m:Nat) (made stamp:Int) (f l p:Value) (w:World) (hm:m < 5) (hmade:0≤made∧made≤1000) (hb:w.heap[g]? =some (.cells #[.int .i64 (m:Int), .int .i64 made, .int .i64 stamp,f,l,p] 191 (0,0))):
  Calls Tryz.prog 176 #[.pointer (some ⟨g,0,none⟩)] w (Mx w (m:Int) made):=by
 obtain⟨W,hW⟩: ∃W,W=w.alloc (.cells #[.slice none 0 0, .slice none 0 0, .slice none 0 0] 238):=⟨_,rfl⟩
 have hbW:Below w.heap.size w W:=by rw[hW];exact aG _
 have hgl:=ai hb;have hb1:=ag hbW hb;have hr1:W.heap[w.heap.size]? =some (Obj.cells #[.slice none 0 0, .slice none 0 0, .slice none 0 0] 238 (0,0)):=by rw[hW];exact au _ _ _ _ rfl
 obtain⟨w2,hmk,hown,s8⟩:=xC (P:=Tryz.prog) W 115 3 (.int .i64 0) 1 8 Tryz.underlying115 OQ.info (m+1) (by omega) (by unfold maxLen;omega);rw[oN _ rfl] at hown;have hG:=I3 hown (by omega);have hb2:=ag s8 hb1;have hr2:=ag s8 hr1;have hWs:W.heap.size=w.heap.size+1:=by rw[hW,World.size_alloc]
 rw[hWs] at hG hmk;have HG:=jD hG;have HB:=jD hb2;have HR:=jD hr2;have aP:=jD (aj hbW s8);push_cast at hmk;have c0:=cq 0 hb rfl;clear hown hG hb hb1 hb2 hr1 hr2 s8 hbW hWs;subst hW;go_enter Tryz.func176,Tryz.ntmps176;go_wp2;clear hmk c0;have k0:=cq 0 HB.o rfl;have k1:=cq 1 HB.o rfl;have z:=aD (j:=m) (v:= .int .i64 0) HG.o (by simp);have zf:=dS (j:=m) HG.o;have hl:=ai HG.o;have hi:(m:Int) < (m:Int)+1:=by omega
 go_region;obtain⟨w3,hw3⟩: ∃w3,w3=w2.setCell ⟨w.heap.size+1,m,none⟩ (.int .i64 made):=⟨_,rfl⟩
 rw[←hw3];have ZF:w3.heap[w.heap.size+1]? =some (Obj.cells (cV (List.replicate m 0++[made])).toArray 3 (0,0)):=by
  rw[hw3,ax HG.o];congr 2;exact ownRow m made
 have ux:w3.heap[g]? =some (Obj.cells #[.int .i64 (m:Int), .int .i64 made, .int .i64 stamp,f,l,p] 191 (0,0)):=by rw[hw3,aC (by omega)];exact HB.o
 have hR3:w3.heap[w.heap.size]? =some (Obj.cells #[.slice none 0 0, .slice none 0 0, .slice none 0 0] 238 (0,0)):=by rw[hw3,aC (by omega)];exact HR.o
 have x6:=jD (show Below w.heap.size w w3 by rw[hw3];exact aP.o.setCell (p:=⟨w.heap.size+1,m,none⟩) (by simp) _);have kZ:=jD ZF;have sH:=jD hR3;clear hw3 HG HR HB aP k0 k1 z zf hl hi hR3;have k1:=cq 1 ux rfl;have hl:=ai ZF;clear ZF ux;by_cases h0:made=0
 ·subst h0;have k1:w3.cell? ⟨g,1,none⟩=some (.int .i64 0):=k1;go_wp2_with fail
  (with_reducible refine(zF _).mono ?_);rintro e w5 ⟨b1,b2,rfl,hb1,hb2,hne,e1,e2,bR⟩;have hs3:w3.drew.heap.size=w3.heap.size:=rfl;rw[hs3] at hb1 hb2 bR;have mF:=jD (ag (w:=w3.drew) bR sH.o);have uO:=jD (ag (w:=w3.drew) bR kZ.o);have oJ:=jD e1;have jH:=jD e2;have oo:=jD (aj x6.o.drew bR);have H12:=jD (show w.heap.size+1 < b1∧w.heap.size+1 < b2 by omega);have q0:=cq 0 mF.o rfl;have q1:=cq 1 mF.o rfl;have q2:=cq 2 mF.o rfl;have f0:=fq 0 mF.o;have f1:=fq 1 mF.o;have f2:=fq 2 mF.o;have Vp:=ai mF.o;clear e1 e2 bR hb1 hb2 hne kZ sH x6 k1 hl hs3;go_wp2;refine bodyPost_ret (v:= .agg #[.slice (some ⟨b2,0,none⟩) 1 1, .slice none 0 0, .slice none 0 0]) (by simp[results,Tryz.results176,go_sem, *]) rfl ?_;have h12:=H12.o;exact⟨_,_,rfl,zM (base:=w.heap.size) (g:=b1) (h:=b2) (s:=(0,32)) (by omega) (by omega) (by simp only[aC (show b1≠w.heap.size by omega)];exact oJ.o) (by simp only[aC (show b2≠w.heap.size by omega)];exact jH.o),by unfold gH;rw [if_pos rfl];exact World.ownsRow_nil _ _ _ _,
   ((oo.o.setCell (p:=⟨w.heap.size,0,none⟩) (by simp) _).setCell (p:=⟨w.heap.size,1,none⟩) (by simp) _).setCell (p:=⟨w.heap.size,2,none⟩) (by simp) _⟩
 ·have k1:w3.cell? ⟨g,1,none⟩=some (.int .i64 made):=k1;have hd:decide (made=0)=false:=by simpa using h0
  go_wp2_with fail
  (with_reducible refine(zF _).mono ?_);rintro e w5 ⟨b1,b2,rfl,hb1,hb2,hne,e1,e2,bR⟩;have hs3:w3.drew.heap.size=w3.heap.size:=rfl;rw[hs3] at hb1 hb2 bR;have mF:=jD (ag (w:=w3.drew) bR sH.o);have uO:=jD (ag (w:=w3.drew) bR kZ.o);have oJ:=jD e1;have jH:=jD e2;have oo:=jD (aj x6.o.drew bR);have H12:=jD (show w.heap.size+1 < b1∧w.heap.size+1 < b2 by omega);have q0:=cq 0 mF.o rfl;have q1:=cq 1 mF.o rfl;have q2:=cq 2 mF.o rfl;have f0:=fq 0 mF.o;have f1:=fq 1 mF.o;have f2:=fq 2 mF.o;have Vp:=ai mF.o;clear e1 e2 bR hb1 hb2 hne kZ sH x6 k1 hl hs3;go_wp2;refine bodyPost_ret (v:= .agg #[.slice (some ⟨b2,0,none⟩) 1 1, .slice (some ⟨w.heap.size+1,0,none⟩) (m+1) (m+1), .slice none 0 0]) (by simp[results,Tryz.results176,go_sem, *]) rfl ?_;have h12:=H12.o;exact⟨_,_,rfl,zM (base:=w.heap.size) (g:=b1) (h:=b2) (s:=(0,32)) (by omega) (by omega) (by simp only[aC (show b1≠w.heap.size by omega)];exact oJ.o) (by simp only[aC (show b2≠w.heap.size by omega)];exact jH.o),by
    unfold gH;rw [if_neg h0,Int.toNat_natCast];refine Xc ?_ (by simp) (by simp) (by omega);simp only[aC (show w.heap.size+1≠w.heap.size by omega)];have:=uO.o;simpa using this,
   ((oo.o.setCell (p:=⟨w.heap.size,0,none⟩) (by simp) _).setCell (p:=⟨w.heap.size,1,none⟩) (by simp) _).setCell (p:=⟨w.heap.size,2,none⟩) (by simp) _⟩
theorem ab3 (g:Nat) (s:aL) (f l p:Value) (w:World) (hok:dV s) (hb:w.heap[g]? =some (.cells (xm s f l p) 191 (0,0))):
  Calls Tryz.prog 176 #[.pointer (some ⟨g,0,none⟩)] w (Mx w s.me s.made):=by
 obtain⟨m,hm⟩:=Int.eq_ofNat_of_zero_le hok.me.1;have h5:=hok.me.2;unfold xm at hb;rw[hm] at hb h5 ⊢;exact Yz g m s.made s.stamp f l p w (by omega) hok.made hb
def rK (s:aL):Pt:=⟨uA,⟨gH s.me s.made,[]⟩⟩
theorem Qs:aX uA=AJ:=by
 refine(uX _).ext Gz fun t n ht hn=> ?_;rw[fS ht hn,Uc ht hn];simp[uA,cE,Fl t ht,jM];omega
theorem PI (s:aL):sem (rK s)=u7 s:=by
 unfold sem rK u7;simp only[Qs]
theorem SU {s:aL} (h:dV s):eG (rK s):=⟨show bP uA=0 by decide,di.2 ⟨y5 h.me h.made,by simp[rK]⟩⟩
end Go.Proofs.YtajgndoiddmbmaaGreatDoor
