/- Towards what desk.Run answers. -/
import Derived.Test.YtajgndoiddmbmaaGreatDoorMDkE
import Derived.Test.YtajgndoiddmbmaaGreatDoorMTown1
namespace Go.Proofs.YtajgndoiddmbmaaGreatDoor
set_option maxRecDepth 100000
set_option maxHeartbeats 40000000
open Go.RowKit
def KT (t:Nat):Bool:=t != 141&&t != 191&&t != 154
def KD (t:Nat):Bool:=KT t&&t != 41
theorem aM.weak {T U:Nat→Bool} {w w':World} (h:aM T w w') (hU: ∀t,U t=true→T t=true):aM U w w':=⟨h.size,fun k cs t h1 h2=>h.blk k cs t h1 (hU t h2)⟩
theorem KD.kt: ∀t,KD t=true→KT t=true:=fun t h=>by unfold KD at h;rw [Bool.and_eq_true] at h;exact h.1
theorem eA.tk {w w':World} (h:eA w w'):aM NB w w':=⟨h.size,h.blk⟩
theorem FO.tk {T:Nat→Bool} {w w':World} {base:Nat} {v:Value} {p:Nat→Nat→Bool} (h:FO w base v p) (hk:aM T w w') (h1:T 177=true) (h2:T 179=true):FO w' base v p:=by
 obtain⟨l,h3,h4,h5⟩:=h;exact ⟨l,cR.tk h3 hk h1 h2,h4,h5⟩
theorem bz.dk {w w':World} {b g:Nat} {s:aL} (h:bz w b g s) (hk:aM NB w w'):bz w' b g s:=by
 obtain⟨f,l,p,h1,h2,h3,h4⟩:=h.cells;exact⟨h.ok,h.ge,f,l,p,hk.blk _ _ _ h1 (by decide),h2.tk hk (by decide) (by decide),h3.tk hk (by decide) (by decide) (by decide),h4.tk hk (by decide) (by decide) (by decide) (by decide) (by decide)⟩
theorem fO.dk {w w':World} {b:Nat} {l:iy} {c:List Value} (h:fO w b l c) (hk:aM NB w w'):fO w' b l c:=by
 cases l with
 | ask t a=>
  obtain⟨q,h1,f,p,h2,h3,h4⟩:=h;exact⟨q,h1,f,p,hk.blk _ _ _ h2 (by decide),h3.tk hk (by decide) (by decide),h4.tk hk (by decide) (by decide) (by decide) (by decide) (by decide)⟩
 | sA t bt=>
  obtain⟨q,h1,v,g,p,h2,h3⟩:=h;exact⟨q,h1,v,g,p,hk.blk _ _ _ h2 (by decide),h3.mK.tk hk (by decide) (by decide) (by decide),h3.gone.tk hk (by decide) (by decide) (by decide),h3.parts.tk hk (by decide) (by decide) (by decide) (by decide) (by decide)⟩
theorem aJ.dk {w w':World} {b:Nat} {T:Nat→Prop} {g:Nat} {t:aK} (h:aJ w b T g t) (hk:aM NB w w'):aJ w' b T g t:=by
 obtain⟨sv,wv,gs,css,V⟩:=h.at_;exact⟨h.ok,h.ge,sv,wv,gs,css,hk.blk _ _ _ V.blk (by decide),hk.owns V.qL (by decide),⟨V.sites.len,V.sites.nd,fun i h1 h2=>(V.sites.each i h1 h2).dk hk⟩,V.gT,⟨V.lets.len,fun i h1 h2=>(V.lets.each i h1 h2).dk hk⟩,hk.owns V.oV (by decide),V.wT⟩
def Tw (B:Nat) (w:World) (q:Nat):Prop:=B≤q∧ ∀cs t,w.heap[q]? =some (Obj.cells cs t (0,0))→KT t=false
theorem Tw.new {B:Nat} {w:World} (hB:B≤w.heap.size): ∀q,w.heap.size≤q→Tw B w q:=fun q hq=>⟨Nat.le_trans hB hq,fun cs t h=>by
 have:=ai h;omega⟩
theorem aJ.re {w:World} {B b:Nat} {T:Nat→Prop} {g:Nat} {t:aK} (h:aJ w b T g t) (hB:B≤b):aJ w b (Tw B w) g t:=by
 obtain⟨sv,wv,gs,css,V⟩:=h.at_;have ty: ∀ {q:Nat} {c:Array Value} {u:Nat},w.heap[q]? =some (Obj.cells c u (0,0))→KT u=false→B≤q→Tw B w q:=fun h1 h2 h3=>⟨h3,fun c' t' h4=>by
  have:=kQ h1 h4;rw [←this];exact h2⟩
 refine⟨h.ok,⟨h.ge.1,ty V.blk (by decide) (Nat.le_trans hB h.ge.1)⟩,sv,wv,gs,css,V.blk,V.qL,V.sites,fun q hq=> ?_,V.lets,V.oV,fun q hq=> ?_⟩
 ·obtain⟨i,hi,rfl⟩:=List.getElem_of_mem hq;have hS:=V.sites.each i hi (by have:=V.sites.len;omega);obtain⟨cs,hc⟩:=hS.ty;exact ty hc (by decide) (Nat.le_trans hB hS.ge)
 ·rcases V.oV.2 with⟨rfl, -⟩ | ⟨q',cap,cur,rfl,h2,h3, -⟩
  ·simp[Value.ownBlock] at hq
  ·simp only[Value.ownBlock,Option.some.injEq] at hq;subst hq;exact ty h3 (by decide) (Nat.le_trans hB h2)
theorem aB.kt {B:Nat} {w w':World} (h:aB (Tw B w) w w'):aM KT w w':=⟨h.size,fun k cs t h1 h2=>h.block h1 fun hT=>by
 have:=hT.2 _ _ h1;rw [h2] at this;exact absurd this (by decide)⟩
theorem aB.aW {B:Nat} {w w':World} (h:aB (Tw B w) w w') (hB:B≤w.heap.size):Below B w w':=⟨h.sp.os,h.sp.tape,h.sp.output,h.size,fun k hk=>h.sp.keep k (by omega) fun hT=>by have:=hT.1;omega⟩
abbrev iT:=Nat→Nat→Bool
def clip (p:iT):iT:=fun t n=>decide (t < 16)&&decide (n < 32)&&p t n
theorem Mo {F:bB} {p:iT} (h: ∀k n:Nat,k < 16→n < 32→cE F k n=p k n):aX F=clip p:=by
 funext t n;unfold clip;by_cases ht:t < 16
 ·by_cases hn:n < 32
  ·rw[fS ht hn,h t n ht hn];simp [ht,hn]
  ·rw[uY (fun h=>hn h.2)];simp [hn]
 ·rw[uY (fun h=>ht h.1)];simp [ht]
structure bn where
 fs:List iT
 fQ:Option aK
 n:Nat
def bump (s:bn):bn:= { s with n:=s.n+1 }
def kI (w:World) (B:Nat):List iT→List Value→Prop
 | [],[]=>True
 | p::l,u::us=>FO w B u p∧kI w B l us
 | _,_=>False
theorem kI.map {w w':World} {B B':Nat} (h: ∀u p,FO w B u p→FO w' B' u p): ∀ {l:List iT} {us:List Value},kI w B l us→kI w' B' l us
 | [],[],_=>trivial
 | _::_,_::_,⟨h1,h2⟩=>⟨h _ _ h1,kI.map h h2⟩
 | [],_::_,h2=>h2.elim
 | _::_,[],h2=>h2.elim
theorem kI.len {w:World} {B:Nat} : ∀ {l:List iT} {us:List Value},kI w B l us→us.length=l.length
 | [],[],_=>rfl
 | _::_,_::_,⟨_,h2⟩=>by rw[List.length_cons,List.length_cons,kI.len h2]
 | [],_::_,h2=>h2.elim
 | _::_,[],h2=>h2.elim
theorem kI.snoc {w:World} {B:Nat} {p:iT} {u:Value} (hp:FO w B u p): ∀ {l:List iT} {us:List Value},kI w B l us→kI w B (l++[p]) (us++[u])
 | [],[],_=>⟨hp,trivial⟩
 | _::_,_::_,⟨h1,h2⟩=>⟨h1,kI.snoc hp h2⟩
 | [],_::_,h2=>h2.elim
 | _::_,[],h2=>h2.elim
theorem kI.one {w:World} {B:Nat} : ∀ {l:List iT} {us:List Value},kI w B l us→ ∀u∈us,u.oneCell'=true
 | [],[],_,u,hu=>by simp at hu
 | _::_,x::us,⟨h1,h2⟩,u,hu=>by
  rcases List.mem_cons.1 hu with rfl | hu
  ·obtain⟨a,n,c,rfl⟩:=h1.ow;rfl
  ·exact kI.one h2 u hu
 | [],_::_,h2,_,_=>h2.elim
 | _::_,[],h2,_,_=>h2.elim
theorem kI.bxs {w:World} {B:Nat} : ∀ {l:List iT} {us:List Value},kI w B l us→ ∃Fs:List bB,Els OC w Fs (us.map fun u=>[u])∧(∀F∈Fs,bP F=0)∧Fs.map aX=l.map clip
 | [],[],_=>⟨[],trivial,by simp,rfl⟩
 | p::l,u::us,⟨h1,h2⟩=>by
  obtain⟨Fs,a,b,c⟩:=kI.bxs h2;obtain⟨F,f1,f2,f3⟩:=h1.at_;exact⟨F::Fs,⟨⟨u,rfl,f1⟩,a⟩,by simpa using ⟨f2,b⟩,by rw[List.map_cons,List.map_cons,Mo f3,c]⟩
 | [],_::_,h2=>h2.elim
 | _::_,[],h2=>h2.elim
theorem Qq (us:List Value):(us.map fun u=>[u]).flatten=us:=by
 induction us with
 | nil=>rfl
 | cons u us ih=>rw [List.map_cons,List.flatten_cons,ih];rfl
theorem kI.row {w:World} {B:Nat} {l:List iT} {us:List Value} {fv:Value} (h:kI w B l us) (hr:w.ownsRow B 89 1 fv l.length us) (hl:l.length≤1000): ∃Fs:List bB,bK OC w fv Fs∧Fs.length=l.length∧(∀F∈Fs,bP F=0)∧Fs.map aX=l.map clip:=by
 obtain⟨Fs,a,b,c⟩:=h.bxs;have hlen:Fs.length=l.length:=by have:=congrArg List.length c;simpa using this
 refine⟨Fs,⟨_,a, ?_⟩,hlen,b,c⟩;rw[Qq,hlen];exact aF.fZ hr (by omega)
def rF (l:List iT):aK:=⟨l.mapIdx fun i p=>pX i (clip p),[]⟩
theorem Xh {Fs:List bB} {l:List iT} (h:Fs.map aX=l.map clip):EF Fs=rF l:=by
 unfold EF rF newL;congr 1;apply List.ext_getElem?;intro i;rw[List.getElem?_mapIdx,List.getElem?_mapIdx];have h1:=congrArg (fun x=>x[i]?) h;simp only[List.getElem?_map] at h1;cases h2:Fs[i]? <;> cases h3:l[i]? <;> rw[h2,h3] at h1 <;> simp_all
def xU (B:Nat) (w:World) (tv:Value):Option aK→Prop
 | none=>tv= .pointer none
 | some t=> ∃g b T,tv= .pointer (some ⟨g,0,none⟩)∧B≤b∧aJ w b T g t
theorem xU.dk {B:Nat} {w w':World} {tv:Value} : ∀ {o:Option aK},xU B w tv o→aM NB w w'→xU B w' tv o
 | none,h,_=>h
 | some _,⟨g,b,T,h1,h2,h3⟩,hk=>⟨g,b,T,h1,h2,h3.dk hk⟩
structure eN (B d:Nat) (w:World) (s:bn):Prop where
 ge:B≤d
 l5:s.fs.length≤5
 blk: ∃tv fv us,w.heap[d]? =some (.cells #[tv,fv] 41 (0,0))∧kI w B s.fs us∧w.ownsRow B 89 1 fv s.fs.length us∧xU B w tv s.fQ
 st: ∀t,s.fQ=some t→ ∀i (h:i < t.sites.length),t.sites[i].stamp≤(s.n:Nat)
theorem eN.dk {B d:Nat} {w w':World} {s:bn} (h:eN B d w s) (hk:aM NB w w'):eN B d w' s:=by
 obtain⟨tv,fv,us,h1,h2,h3,h4⟩:=h.blk;exact⟨h.ge,h.l5,⟨tv,fv,us,hk.blk _ _ _ h1 (by decide),h2.map fun _ _ hf=>hf.tk hk (by decide) (by decide),hk.owns h3 (by decide),h4.dk hk⟩,h.st⟩
theorem eN.below {B d:Nat} {w w':World} {s:bn} (h:eN B d w s) (hb:Below w.heap.size w w'):eN B d w' s:=h.dk (aM.of_below hb)
theorem eN.bump {B d:Nat} {w:World} {s:bn} (h:eN B d w s):eN B d w (bump s):=⟨h.ge,h.l5,h.blk,fun t ht i hi=>by
 have:=h.st t ht i hi;show _≤((s.n+1:Nat):Int);omega⟩
theorem eN.lt {B d:Nat} {w:World} {s:bn} (h:eN B d w s):d < w.heap.size:=by
 obtain⟨tv,fv,us,h1, -⟩:=h.blk;exact ai h1
theorem eN.open_ {B d:Nat} {w:World} {s:bn} (h:eN B d w s): ∃tv fa fc us,w.heap[d]? =some (.cells #[tv, .slice fa s.fs.length fc] 41 (0,0))∧kI w B s.fs us∧w.ownsRow B 89 1 (.slice fa s.fs.length fc) s.fs.length us∧xU B w tv s.fQ:=by
 obtain⟨tv,fv,us,h1,h2,h3,h4⟩:=h.blk;obtain⟨a,c,rfl⟩:=ay h3;exact⟨tv,a,c,us,h1,h2,h3,h4⟩
theorem eN.step {B d:Nat} {w w':World} {s:bn} {g b:Nat} {t':aK} {fv:Value} (h:eN B d w s) (hd:w.heap[d]? =some (.cells #[.pointer (some ⟨g,0,none⟩),fv] 41 (0,0))) (hB:B≤b) (ht:aJ w' b (Tw B w) g t') (hs:aB (Tw B w) w w') (hn: ∀i (h:i < t'.sites.length),t'.sites[i].stamp≤((s.n+1:Nat):Int)):eN B d w' (Go.Proofs.YtajgndoiddmbmaaGreatDoor.bump { s with fQ:=some t' })∧aM KT w w'∧Below B w w':=by
 obtain⟨tv,fv',us,h1,h2,h3,h4⟩:=h.blk;rw[h1] at hd;simp only[Option.some.injEq,Obj.cells.injEq,Array.mk.injEq,List.cons.injEq,and_true] at hd;obtain⟨rfl,rfl⟩:=hd;have hk:=hs.kt;refine⟨⟨h.ge,h.l5,⟨_,fv',us,hk.blk _ _ _ h1 (by decide),h2.map fun _ _ hf=>hf.tk hk (by decide) (by decide),hk.owns h3 (by decide),⟨g,b,_,rfl,hB,ht⟩⟩,fun t0 e i hi=> ?_⟩,hk,hs.aW (Nat.le_trans h.ge (Nat.le_of_lt h.lt))⟩;have e2:some t'=some t0:=e;injection e2 with e2
 subst e2;exact hn i hi
abbrev kU:=Except Int ByteArray
def IX:kU→Ending
 | .ok x=> .returned (.string x)
 | .error e=>bG e
def dA (B d:Nat) (w:World) (r:kU×bn) (e:Ending) (w':World):Prop:=e=IX r.1∧eN B d w' (bump r.2)∧aM KD w w'∧Below B w w'
theorem dA.look {B d:Nat} {w w':World} {s:bn} {r:kU} (h:eN B d w s) (hb:Below w.heap.size w w'):dA B d w (r,s) (IX r) w':=⟨rfl,h.bump.below hb,aM.of_below hb,hb.mono (Nat.le_trans h.ge (Nat.le_of_lt h.lt))⟩
def mY (s:bn):Prop:=s.n < 1000000
def acY (B d:Nat) (w0:World) (F:Nat) (caps:Array Value) (f:bn→kU×bn):Prop:= ∀(w:World) (s:bn),Below w0.heap.size w0 w→Gd B w→eN B d w s→mY s→Calls Tryz.prog F caps w (dA B d w (f s))
inductive gA where
 | bad (e:Int)
 | act (f:bn→kU×bn) (k:Nat)
def Ent (F:Nat):Prop:= ∀(args:Array Value) (w:World),(callFunc F args).run Tryz.prog w= .ok (.enter F args) w
def fk (B d g:Nat) (v:Value) (all:List ByteArray) (w:World) (tup:Value→Value) (r:gA) (e:Ending) (w':World):Prop:=
 Kp g bL bL w w'∧match r with
  | .bad E=>e=bG E
  | .act f k=>(∃F caps,e= .returned (tup (.func (.func F) #[] caps))∧Ent F∧acY B d w' F caps f)∧Wd w' g v all k
theorem Mn (p:Nat→Bool): ∀k:Nat,0≤cnt p k∧cnt p k≤k
 | 0=>⟨Int.le_refl _,Int.le_refl _⟩
 | k+1=>by
  have h:=Mn p k;unfold cnt;split <;> omega
theorem J6 (p:Nat→Nat→Bool): ∀k:Nat,0≤cntT p k∧cntT p k≤32*k
 | 0=>⟨Int.le_refl _,Int.le_refl _⟩
 | k+1=>by
  have h:=J6 p k;have h2:=Mn (p k) 32;unfold cntT;omega
theorem J7 (p:Nat→Nat→Bool):0≤nI p∧nI p < 10000000000:=by
 have h:=J6 p 16;unfold nI;omega
theorem Ce {w:World} {g:Nat} {l:List Int} (h:w.heap[g]? =some (Obj.cells (l.map fun n=>Value.int .i64 n).toArray 3 (0,0))) (hl:l.length≤1000):l9 w (.slice (some ⟨g,0,none⟩) l.length l.length) l:=
 ⟨_,_,rfl,Nat.le_refl _,by omega,fun h=>by simp at h, .inr ⟨g,0,rfl,ai h,fun j x hj=>by
  rw[Nat.zero_add];exact aD (j:=j) h (by rw[List.getElem?_toArray];exact hj)⟩⟩
theorem Uq (B g:Nat) (p:iT) (u:Value) (w:World) (hg:w.heap[g]? =some (.cells #[u] 89 (0,0))) (hu:FV w u p) (hG:Gd B w):
  Calls Tryz.prog 47 #[.pointer (some ⟨g,0,none⟩)] w fun e w'=>e= .returned (.string (jf [nI p]))∧Below w.heap.size w w':=by
 have c0:=cq 0 hg rfl;have hgl:=ai hg;have HC:=jD (Z0 u p w hu);obtain⟨a,n,c,rfl⟩:=hu.shape;have HR:=jD (J7 p);have HG:=jD hG;generalize nI p=x at*;clear hg hu hG;go_enter Tryz.func47,Tryz.ntmps47;go_wp2_with fail
 (with_reducible refine(HC.o).mono ?_);rintro e w1 ⟨rfl,hb⟩;have HB:=jD hb;have dL:=jD (HG.o.below hb);clear hb HC HG;go_wp2_with fail
 (with_reducible refine(kS w1).mono ?_);rintro e w2 ⟨rfl,rfl⟩;have HT:=jD (E8 B (.slice (some ⟨w2.heap.size,0,none⟩) 1 1) [x] (w2.alloc (.cells #[.int .i64 x] 3)) (dL.o.below (aG _)) (Ce (l:=[x]) (au _ _ _ _ rfl) (show 1≤1000 by decide)) (by simpa using HR.o) (show 1≤100 by decide));go_wp2_with fail
 (with_reducible refine(HT.o).mono ?_);rintro e w3 ⟨rfl,hb3⟩;have eH:=jD (aj HB.o (aj (aG _) hb3));clear hb3 HT HB;go_wp2;go_ret;exact⟨rfl,eH.o⟩
def Ic (p q:iT):Bool:=l6 fun k n=>p k n==q k n
theorem ZX (va vb:Value) (p q:iT) (w:World) (ha:FV w va p) (hb:FV w vb q):
  Calls Tryz.prog 89 #[va,vb] w fun e w'=>e= .returned (.tuple #[.bool (Ic p q), .int .i64 0])∧Below w.heap.size w w':=by
 obtain⟨f,f1,f2,f3⟩:=ha;obtain ⟨g,g1,g2,g3⟩:=hb;have h0:dI f g=0:=by simp[dI,f2,g2]
 refine(WR va vb f g w f1 g1).mono ?_;rintro e w' ⟨rfl,hb⟩;exact⟨gZ (by simp only[Ax,if_pos h0];exact wB fun k n hk hn=>by rw[f3 k n hk hn,g3 k n hk hn];cases p k n <;> cases q k n <;> rfl) h0,hb⟩
def qK:ByteArray:=⟨#[119,105,116,104,105,110]⟩
def CE:ByteArray:=⟨#[115,97,109,101]⟩
def tY (wd:ByteArray) (p q:iT):Bool:=if wd=qK then l6 (fun k n=> !p k n || q k n) else Ic p q
theorem Ya {s:ByteArray} {L:List UInt8} (h:s=⟨L.toArray⟩):(s.toList==L)=true:=by
 subst h;rw [Lib.toList_data];simp
theorem qz {s:ByteArray} {L:List UInt8} (h:s≠⟨L.toArray⟩):(s.toList==L)=false:=by
 rw[beq_eq_false_iff_ne];intro e;exact h (toList_inj (by rw[e,Lib.toList_data]))
theorem ZW (d:Nat) (wd:ByteArray) (va vb:Value) (p q:iT) (w:World) (ha:FV w va p) (hb:FV w vb q):
  Calls Tryz.prog 51 #[.pointer (some ⟨d,0,none⟩), .string wd,va,vb] w fun e w'=>e= .returned (.string (kL (tY wd p q)))∧Below w.heap.size w w':=by
 have HW:=jD (Wt va vb p q w ha hb);have HS:=jD (ZX va vb p q w ha hb);obtain⟨a1,n1,c1,rfl⟩:=ha.shape;obtain⟨a2,n2,c2,rfl⟩:=hb.shape;clear ha hb;by_cases hw:wd=qK
 ·have q1:=Ya (L:=[119,105,116,104,105,110]) hw;have HT:=jD (show tY wd p q=l6 (fun k n=> !p k n || q k n) by unfold tY;rw [if_pos hw]);rw[HT.o];generalize (l6 fun k n=> !p k n || q k n)=r at*;clear hw HS;go_enter Tryz.func51,Tryz.ntmps51;go_wp2_with fail
  (with_reducible refine(HW.o).mono ?_);rintro e w1 ⟨rfl,hb⟩;have HB:=jD hb;clear hb HW;go_wp2_with fail
  (with_reducible refine(Hw r w1).mono ?_);rintro e w2 ⟨rfl,rfl⟩;go_wp2;go_ret;exact⟨rfl,HB.o⟩
 ·have q1:=qz (L:=[119,105,116,104,105,110]) hw;have HT:=jD (show tY wd p q=Ic p q by unfold tY;rw [if_neg hw]);rw[HT.o];generalize Ic p q=r at*;clear hw HW;go_enter Tryz.func51,Tryz.ntmps51;go_wp2_with fail
  (with_reducible refine(HS.o).mono ?_);rintro e w1 ⟨rfl,hb⟩;have HB:=jD hb;clear hb HS;go_wp2_with fail
  (with_reducible refine(Hw r w1).mono ?_);rintro e w2 ⟨rfl,rfl⟩;go_wp2;go_ret;exact⟨rfl,HB.o⟩
theorem Ml (d g0 g1 g2 g3:Nat) (wd:ByteArray) (va vb:Value) (p q:iT) (w:World) (h0:w.heap[g0]? =some (.cells #[.pointer (some ⟨d,0,none⟩)] 37 (0,0))) (h1:w.heap[g1]? =some (.cells #[.string wd] 9 (0,0))) (h2:w.heap[g2]? =some (.cells #[va] 89 (0,0))) (h3:w.heap[g3]? =some (.cells #[vb] 89 (0,0))) (ha:FV w va p) (hb:FV w vb q):
  Calls Tryz.prog 50 #[.pointer (some ⟨g0,0,none⟩), .pointer (some ⟨g1,0,none⟩), .pointer (some ⟨g2,0,none⟩), .pointer (some ⟨g3,0,none⟩)] w fun e w'=>e= .returned (.string (kL (tY wd p q)))∧Below w.heap.size w w':=by
 have HT:=jD (ZW d wd va vb p q w ha hb);have c0:=cq 0 h0 rfl;have c1:=cq 0 h1 rfl;have c2:=cq 0 h2 rfl;have c3:=cq 0 h3 rfl;have l0:=ai h0;have l1:=ai h1;have l2:=ai h2;have l3:=ai h3;obtain⟨a1,n1,k1,rfl⟩:=ha.shape;obtain⟨a2,n2,k2,rfl⟩:=hb.shape;generalize kL (tY wd p q)=r at*;clear ha hb h0 h1 h2 h3;go_enter Tryz.func50,Tryz.ntmps50;go_wp2_with fail
 (with_reducible refine(HT.o).mono ?_);rintro e w1 ⟨rfl,hb⟩;have HB:=jD hb;clear hb HT;go_wp2;go_ret;exact⟨rfl,HB.o⟩
theorem XQ (g0 g1:Nat) (va:Value) (p:iT) (t n:Int) (w:World) (h0:w.heap[g0]? =some (.cells #[va] 89 (0,0))) (h1:w.heap[g1]? =some (.cells #[.int .i64 t, .int .i64 n] 96 (0,0))) (ha:FV w va p):
  Calls Tryz.prog 53 #[.pointer (some ⟨g0,0,none⟩), .pointer (some ⟨g1,0,none⟩)] w fun e w'=>e=IX (if eP t n then .ok (kL (Mr p t n)) else .error 1)∧Below w.heap.size w w':=by
 have HH:=jD (afk va p t n w ha);have c0:=cq 0 h0 rfl;have c1:=cq 0 h1 rfl;have c2:=cq 1 h1 rfl;have l0:=ai h0;have l1:=ai h1;obtain⟨a1,n1,k1,rfl⟩:=ha.shape;clear ha h0 h1;generalize Mr p t n=r at*;cases hp:eP t n with
 | true=>
  rw[hp] at HH;simp only[if_true] at HH ⊢;clear hp;go_enter Tryz.func53,Tryz.ntmps53;go_wp2_with fail
  (with_reducible refine(HH.o).mono ?_);rintro e w1 ⟨rfl,hb⟩;have HB:=jD hb;clear hb HH;go_wp2_with fail
  (with_reducible refine(Hw r w1).mono ?_);rintro e w2 ⟨rfl,rfl⟩;go_wp2;go_ret;exact⟨rfl,HB.o⟩
 | false=>
  rw[hp] at HH;simp only[Bool.false_eq_true,if_false] at HH ⊢;clear hp;go_enter Tryz.func53,Tryz.ntmps53;go_wp2_with fail
  (with_reducible refine(HH.o).mono ?_);rintro e w1 ⟨rfl,hb⟩;have HB:=jD hb;clear hb HH;go_wp2_with fail
  (with_reducible refine(U0 r 1 (by decide) w1).mono ?_);rintro e w2 ⟨rfl,rfl⟩;unfold bG;go_wp2;exact⟨rfl,rfl,HB.o⟩
theorem Kp.tk {T:Nat→Bool} {w w':World} {g:Nat} {cs:Array Value} (hk:Kp g bL bL w w') (hg:w.heap[g]? =some (.cells cs 72 (0,0))) (hT:T 72=false):aM T w w':=aM.of_block hk.size (fun k h1 h2=>hk.keep k h1 h2 (by simp[Value.ownBlock])) hg hT
def KW (t:Nat):Bool:=t != 72
theorem FO.kw {w w':World} {base:Nat} {v:Value} {p:iT} (h:FO w base v p) (hk:aM KW w w'):FO w' base v p:=h.tk hk (by decide) (by decide)
theorem FO.iL {w w':World} {base:Nat} {v:Value} {p:iT} (h:FO w base v p) (hb:Below w.heap.size w w'):FO w' base v p:=h.tk (T:=KW) (aM.of_below hb) (by decide) (by decide)
def pFil (l:List ByteArray) (k:Nat) (c:iT→gA):gA:=match kR l k with
 | none=> .bad (filE l k)
 | some p=>c p
def pNum (l:List ByteArray) (k:Nat) (c:Nat→gA):gA:=match iX l k with
 | none=> .bad 9
 | some n=>c n
def pTxt (l:List ByteArray) (k:Nat) (c:ByteArray→gA):gA:=match l[k]? with
 | none=> .bad 9
 | some s=>c s
theorem gf {l:List ByteArray} {k n:Nat} (h:iX l k=some n):k < l.length:=by
 unfold iX at h;by_cases hk:k < l.length
 ·exact hk
 ·rw[List.getElem?_eq_none (by omega)] at h;cases h
theorem pH {l:List ByteArray} {k:Nat} {p:iT} (h:kR l k=some p):k < l.length:=by
 unfold kR at h;by_cases hk:k < l.length
 ·exact hk
 ·rw[List.getElem?_eq_none (by omega)] at h;cases h
def iY (l:List ByteArray):gA:=pFil l 1 fun p=> .act (fun s=>(.ok (jf [nI p]),s)) 2
def j3 (l:List ByteArray):gA:=pFil l 1 fun p=>pFil l 2 fun q=> .act (fun s=>(.ok (kL (tY qK p q)),s)) 3
def nZ (l:List ByteArray):gA:=pFil l 1 fun p=>pFil l 2 fun q=> .act (fun s=>(.ok (kL (tY CE p q)),s)) 3
def nJ (l:List ByteArray):gA:=pFil l 1 fun p=>pNum l 2 fun t=>pNum l 3 fun n=> .act (fun s=>(if eP (t:Nat) (n:Nat) then .ok (kL (Mr p (t:Nat) (n:Nat))) else .error 1,s)) 4
theorem Oo (B d g:Nat) (v:Value) (all:List ByteArray) (w:World) (h:Wd w g v all 1) (hG:Gd B w) (hB:B≤g) (hl:1≤all.length) (hsz: ∀s∈all,s.size≤65536):
  Calls Tryz.prog 28 #[.pointer (some ⟨d,0,none⟩), .string ⟨#[99,111,117,110,116]⟩, .pointer (some ⟨g,0,none⟩)] w (fk B d g v all w (fun u=> .tuple #[u, .bool true]) (iY all)):=by
 have pz: ∀(fn:Fn) (first cap:Array Value) (w:World),(Instr.makeFunc fn first cap).run Tryz.prog w= .ok (.func fn first cap) w:=fun _ _ _ _=>rfl;obtain⟨W,hW⟩: ∃W,W=(w.alloc (.cells #[.pointer (some ⟨d,0,none⟩)] 37)).alloc (.cells #[.string ⟨#[99,111,117,110,116]⟩] 9):=⟨_,rfl⟩
 have hbW:Below w.heap.size w W:=by rw[hW];exact (aG _).alloc (by simp) _
 have aZ:=jD (show W.heap[w.heap.size]? =some (.cells #[.pointer (some ⟨d,0,none⟩)] 37 (0,0)) by rw[hW];exact aO _ (au _ _ _ _ rfl));have dZ:=jD (show W.heap[w.heap.size+1]? =some (.cells #[.string ⟨#[99,111,117,110,116]⟩] 9 (0,0)) by rw[hW];exact au _ _ _ _ (by simp));have aH:=jD (h.below hbW);have HG:=jD (hG.below hbW);have HK:=jD (Kp.of_below (R:=g) (v:=bL) hbW);have dY:=jD hsz;have dF:=jD hl;have c4:W.cell? ⟨w.heap.size+1,0,none⟩=some (.string ⟨#[99,111,117,110,116]⟩):=cq 0 dZ.o rfl;have hl4:w.heap.size+1 < W.heap.size:=ai dZ.o;rw[hW] at c4 hl4;clear h hbW hG hl;go_enter Tryz.func28,Tryz.ntmps28;go_wp2_with fail
 rw[←hW];clear c4 hl4 hW;have HN:=jD (sy B g v all 1 W aH.o HG.o hB dF.o dY.o);cases hx:kR all 1 with
 | none=>
  rw[hx] at HN;have cr:=jD hx;clear hx;go_wp2_with fail
  (with_reducible refine(HN.o).mono ?_);rintro e wn ⟨hkp,he⟩;obtain rfl:e=bG (filE all 1):=he;have dh:=jD (HK.o.trans hkp);clear hkp HN;unfold bG;go_wp2;refine⟨rfl, ?_⟩;rw[show iY all= .bad (filE all 1) by simp only[iY,pFil,cr.o]];exact⟨dh.o,rfl⟩
 | some p1=>
  rw[hx] at HN;have cr:=jD hx;have fe:=jD (show 2≤all.length from pH hx);clear hx;go_wp2_with fail
  (with_reducible refine(HN.o).mono ?_);rintro e w1 ⟨hkp,⟨u1,rfl,hf⟩,hwd⟩;have gF:=jD hf;obtain⟨uV,uT,uU,hu1⟩:=FO.shape hf;subst hu1;have htk:=Kp.tk (T:=KW) hkp aH.o.blk (by decide);have dL:=jD (HG.o.kp hkp hB (ai aH.o.blk));have dQ:=jD (HK.o.trans hkp);replace aZ:=jD (htk.blk _ _ _ aZ.o (by decide));replace dZ:=jD (htk.blk _ _ _ dZ.o (by decide));have dW:=jD hwd;clear hkp htk hwd HN HG HK aH hf;have HG:=dL;have HK:=dQ;have aH:=dW;clear dL dQ dW;obtain⟨x1,hx1⟩: ∃x,x=(w1).alloc (.cells #[.slice uV uT uU] 89):=⟨_,rfl⟩
  have dM:Below w1.heap.size w1 x1:=by rw[hx1];exact aG _
  have mb:=jD (show x1.heap[w1.heap.size]? =some (.cells #[.slice uV uT uU] 89 (0,0)) by rw[hx1];exact au _ _ _ _ (by simp));replace aZ:=jD (ag dM aZ.o);replace dZ:=jD (ag dM dZ.o);replace gF:=jD (FO.iL gF.o dM);replace aH:=jD (aH.o.below dM);replace HG:=jD (HG.o.below dM);replace HK:=jD (HK.o.trans (Kp.of_below (R:=g) (v:=bL) dM));go_wp2;try rw[←hx1]
  go_ret2;try rw[←hx1]
  rw[show iY all= .act (fun s=>(.ok (jf [nI p1]),s)) 2 by simp only[iY,pFil,cr.o]];refine⟨HK.o,⟨_,_,rfl,Go.Proofs.enters_of Tryz.func47 (by kernel_rfl) rfl, ?_⟩,aH.o⟩;intro w9 s9 dw mA j0 jk;refine(Uq B _ p1 _ w9 (ag dw mb.o) (FV.below gF.o.fv dw) mA).mono ?_;rintro e w8 ⟨rfl,mz⟩;exact dA.look j0 mz
theorem LD (B d g:Nat) (v:Value) (all:List ByteArray) (w:World) (h:Wd w g v all 1) (hG:Gd B w) (hB:B≤g) (hl:1≤all.length) (hsz: ∀s∈all,s.size≤65536):
  Calls Tryz.prog 28 #[.pointer (some ⟨d,0,none⟩), .string ⟨#[119,105,116,104,105,110]⟩, .pointer (some ⟨g,0,none⟩)] w (fk B d g v all w (fun u=> .tuple #[u, .bool true]) (j3 all)):=by
 have pz: ∀(fn:Fn) (first cap:Array Value) (w:World),(Instr.makeFunc fn first cap).run Tryz.prog w= .ok (.func fn first cap) w:=fun _ _ _ _=>rfl;obtain⟨W,hW⟩: ∃W,W=(w.alloc (.cells #[.pointer (some ⟨d,0,none⟩)] 37)).alloc (.cells #[.string ⟨#[119,105,116,104,105,110]⟩] 9):=⟨_,rfl⟩
 have hbW:Below w.heap.size w W:=by rw[hW];exact (aG _).alloc (by simp) _
 have aZ:=jD (show W.heap[w.heap.size]? =some (.cells #[.pointer (some ⟨d,0,none⟩)] 37 (0,0)) by rw[hW];exact aO _ (au _ _ _ _ rfl));have dZ:=jD (show W.heap[w.heap.size+1]? =some (.cells #[.string ⟨#[119,105,116,104,105,110]⟩] 9 (0,0)) by rw[hW];exact au _ _ _ _ (by simp));have aH:=jD (h.below hbW);have HG:=jD (hG.below hbW);have HK:=jD (Kp.of_below (R:=g) (v:=bL) hbW);have dY:=jD hsz;have dF:=jD hl;have c4:W.cell? ⟨w.heap.size+1,0,none⟩=some (.string ⟨#[119,105,116,104,105,110]⟩):=cq 0 dZ.o rfl;have hl4:w.heap.size+1 < W.heap.size:=ai dZ.o;rw[hW] at c4 hl4;clear h hbW hG hl;go_enter Tryz.func28,Tryz.ntmps28;go_wp2_with fail
 rw[←hW];clear c4 hl4 hW;have HN:=jD (sy B g v all 1 W aH.o HG.o hB dF.o dY.o);cases hx:kR all 1 with
 | none=>
  rw[hx] at HN;have cr:=jD hx;clear hx;go_wp2_with fail
  (with_reducible refine(HN.o).mono ?_);rintro e wn ⟨hkp,he⟩;obtain rfl:e=bG (filE all 1):=he;have dh:=jD (HK.o.trans hkp);clear hkp HN;unfold bG;go_wp2;refine⟨rfl, ?_⟩;rw[show j3 all= .bad (filE all 1) by simp only[j3,pFil,cr.o]];exact⟨dh.o,rfl⟩
 | some p1=>
  rw[hx] at HN;have cr:=jD hx;have fe:=jD (show 2≤all.length from pH hx);clear hx;go_wp2_with fail
  (with_reducible refine(HN.o).mono ?_);rintro e w1 ⟨hkp,⟨u1,rfl,hf⟩,hwd⟩;have gF:=jD hf;obtain⟨uV,uT,uU,hu1⟩:=FO.shape hf;subst hu1;have htk:=Kp.tk (T:=KW) hkp aH.o.blk (by decide);have dL:=jD (HG.o.kp hkp hB (ai aH.o.blk));have dQ:=jD (HK.o.trans hkp);replace aZ:=jD (htk.blk _ _ _ aZ.o (by decide));replace dZ:=jD (htk.blk _ _ _ dZ.o (by decide));have dW:=jD hwd;clear hkp htk hwd HN HG HK aH hf;have HG:=dL;have HK:=dQ;have aH:=dW;clear dL dQ dW;obtain⟨x1,hx1⟩: ∃x,x=(w1).alloc (.cells #[.slice uV uT uU] 89):=⟨_,rfl⟩
  have dM:Below w1.heap.size w1 x1:=by rw[hx1];exact aG _
  have mb:=jD (show x1.heap[w1.heap.size]? =some (.cells #[.slice uV uT uU] 89 (0,0)) by rw[hx1];exact au _ _ _ _ (by simp));replace aZ:=jD (ag dM aZ.o);replace dZ:=jD (ag dM dZ.o);replace gF:=jD (FO.iL gF.o dM);replace aH:=jD (aH.o.below dM);replace HG:=jD (HG.o.below dM);replace HK:=jD (HK.o.trans (Kp.of_below (R:=g) (v:=bL) dM));go_wp2_with fail
  rw[←hx1];clear hx1 dM;have HN:=jD (sy B g v all 2 x1 aH.o HG.o hB fe.o dY.o);cases hx:kR all 2 with
  | none=>
   rw[hx] at HN;have gQ:=jD hx;clear hx;go_wp2_with fail
   (with_reducible refine(HN.o).mono ?_);rintro e wn ⟨hkp,he⟩;obtain rfl:e=bG (filE all 2):=he;have dh:=jD (HK.o.trans hkp);clear hkp HN;unfold bG;go_wp2;refine⟨rfl, ?_⟩;rw[show j3 all= .bad (filE all 2) by simp only[j3,pFil,pFil,cr.o,gQ.o]];exact⟨dh.o,rfl⟩
  | some p2=>
   rw[hx] at HN;have gQ:=jD hx;have mH:=jD (show 3≤all.length from pH hx);clear hx;go_wp2_with fail
   (with_reducible refine(HN.o).mono ?_);rintro e w2 ⟨hkp,⟨u2,rfl,hf⟩,hwd⟩;have oh:=jD hf;obtain⟨FD,Fz,FC,hu2⟩:=FO.shape hf;subst hu2;have htk:=Kp.tk (T:=KW) hkp aH.o.blk (by decide);have HG2:=jD (HG.o.kp hkp hB (ai aH.o.blk));have cS:=jD (HK.o.trans hkp);replace aZ:=jD (htk.blk _ _ _ aZ.o (by decide));replace dZ:=jD (htk.blk _ _ _ dZ.o (by decide));replace mb:=jD (htk.blk _ _ _ mb.o (by decide));replace gF:=jD (FO.kw gF.o htk);have iM:=jD hwd;clear hkp htk hwd HN HG HK aH hf;have HG:=HG2;have HK:=cS;have aH:=iM;clear HG2 cS iM;obtain⟨x2,hx2⟩: ∃x,x=(w2).alloc (.cells #[.slice FD Fz FC] 89):=⟨_,rfl⟩
   have gU:Below w2.heap.size w2 x2:=by rw[hx2];exact aG _
   have UQ:=jD (show x2.heap[w2.heap.size]? =some (.cells #[.slice FD Fz FC] 89 (0,0)) by rw[hx2];exact au _ _ _ _ (by simp));replace aZ:=jD (ag gU aZ.o);replace dZ:=jD (ag gU dZ.o);replace mb:=jD (ag gU mb.o);replace gF:=jD (FO.iL gF.o gU);replace oh:=jD (FO.iL oh.o gU);replace aH:=jD (aH.o.below gU);replace HG:=jD (HG.o.below gU);replace HK:=jD (HK.o.trans (Kp.of_below (R:=g) (v:=bL) gU));go_wp2;try rw[←hx2]
   go_ret2;try rw[←hx2]
   rw[show j3 all= .act (fun s=>(.ok (kL (tY qK p1 p2)),s)) 3 by simp only[j3,pFil,pFil,cr.o,gQ.o]];refine⟨HK.o,⟨_,_,rfl,Go.Proofs.enters_of Tryz.func50 (by kernel_rfl) rfl, ?_⟩,aH.o⟩;intro w9 s9 dw mA j0 jk;refine(Ml d _ _ _ _ _ _ _ p1 p2 w9 (ag dw aZ.o) (ag dw dZ.o) (ag dw mb.o) (ag dw UQ.o) (FV.below gF.o.fv dw) (FV.below oh.o.fv dw)).mono ?_;rintro e w8 ⟨rfl,mz⟩;exact dA.look j0 mz
theorem QE (B d g:Nat) (v:Value) (all:List ByteArray) (w:World) (h:Wd w g v all 1) (hG:Gd B w) (hB:B≤g) (hl:1≤all.length) (hsz: ∀s∈all,s.size≤65536):
  Calls Tryz.prog 28 #[.pointer (some ⟨d,0,none⟩), .string ⟨#[115,97,109,101]⟩, .pointer (some ⟨g,0,none⟩)] w (fk B d g v all w (fun u=> .tuple #[u, .bool true]) (nZ all)):=by
 have pz: ∀(fn:Fn) (first cap:Array Value) (w:World),(Instr.makeFunc fn first cap).run Tryz.prog w= .ok (.func fn first cap) w:=fun _ _ _ _=>rfl;obtain⟨W,hW⟩: ∃W,W=(w.alloc (.cells #[.pointer (some ⟨d,0,none⟩)] 37)).alloc (.cells #[.string ⟨#[115,97,109,101]⟩] 9):=⟨_,rfl⟩
 have hbW:Below w.heap.size w W:=by rw[hW];exact (aG _).alloc (by simp) _
 have aZ:=jD (show W.heap[w.heap.size]? =some (.cells #[.pointer (some ⟨d,0,none⟩)] 37 (0,0)) by rw[hW];exact aO _ (au _ _ _ _ rfl));have dZ:=jD (show W.heap[w.heap.size+1]? =some (.cells #[.string ⟨#[115,97,109,101]⟩] 9 (0,0)) by rw[hW];exact au _ _ _ _ (by simp));have aH:=jD (h.below hbW);have HG:=jD (hG.below hbW);have HK:=jD (Kp.of_below (R:=g) (v:=bL) hbW);have dY:=jD hsz;have dF:=jD hl;have c4:W.cell? ⟨w.heap.size+1,0,none⟩=some (.string ⟨#[115,97,109,101]⟩):=cq 0 dZ.o rfl;have hl4:w.heap.size+1 < W.heap.size:=ai dZ.o;rw[hW] at c4 hl4;clear h hbW hG hl;go_enter Tryz.func28,Tryz.ntmps28;go_wp2_with fail
 rw[←hW];clear c4 hl4 hW;have HN:=jD (sy B g v all 1 W aH.o HG.o hB dF.o dY.o);cases hx:kR all 1 with
 | none=>
  rw[hx] at HN;have cr:=jD hx;clear hx;go_wp2_with fail
  (with_reducible refine(HN.o).mono ?_);rintro e wn ⟨hkp,he⟩;obtain rfl:e=bG (filE all 1):=he;have dh:=jD (HK.o.trans hkp);clear hkp HN;unfold bG;go_wp2;refine⟨rfl, ?_⟩;rw[show nZ all= .bad (filE all 1) by simp only[nZ,pFil,cr.o]];exact⟨dh.o,rfl⟩
 | some p1=>
  rw[hx] at HN;have cr:=jD hx;have fe:=jD (show 2≤all.length from pH hx);clear hx;go_wp2_with fail
  (with_reducible refine(HN.o).mono ?_);rintro e w1 ⟨hkp,⟨u1,rfl,hf⟩,hwd⟩;have gF:=jD hf;obtain⟨uV,uT,uU,hu1⟩:=FO.shape hf;subst hu1;have htk:=Kp.tk (T:=KW) hkp aH.o.blk (by decide);have dL:=jD (HG.o.kp hkp hB (ai aH.o.blk));have dQ:=jD (HK.o.trans hkp);replace aZ:=jD (htk.blk _ _ _ aZ.o (by decide));replace dZ:=jD (htk.blk _ _ _ dZ.o (by decide));have dW:=jD hwd;clear hkp htk hwd HN HG HK aH hf;have HG:=dL;have HK:=dQ;have aH:=dW;clear dL dQ dW;obtain⟨x1,hx1⟩: ∃x,x=(w1).alloc (.cells #[.slice uV uT uU] 89):=⟨_,rfl⟩
  have dM:Below w1.heap.size w1 x1:=by rw[hx1];exact aG _
  have mb:=jD (show x1.heap[w1.heap.size]? =some (.cells #[.slice uV uT uU] 89 (0,0)) by rw[hx1];exact au _ _ _ _ (by simp));replace aZ:=jD (ag dM aZ.o);replace dZ:=jD (ag dM dZ.o);replace gF:=jD (FO.iL gF.o dM);replace aH:=jD (aH.o.below dM);replace HG:=jD (HG.o.below dM);replace HK:=jD (HK.o.trans (Kp.of_below (R:=g) (v:=bL) dM));go_wp2_with fail
  rw[←hx1];clear hx1 dM;have HN:=jD (sy B g v all 2 x1 aH.o HG.o hB fe.o dY.o);cases hx:kR all 2 with
  | none=>
   rw[hx] at HN;have gQ:=jD hx;clear hx;go_wp2_with fail
   (with_reducible refine(HN.o).mono ?_);rintro e wn ⟨hkp,he⟩;obtain rfl:e=bG (filE all 2):=he;have dh:=jD (HK.o.trans hkp);clear hkp HN;unfold bG;go_wp2;refine⟨rfl, ?_⟩;rw[show nZ all= .bad (filE all 2) by simp only[nZ,pFil,pFil,cr.o,gQ.o]];exact⟨dh.o,rfl⟩
  | some p2=>
   rw[hx] at HN;have gQ:=jD hx;have mH:=jD (show 3≤all.length from pH hx);clear hx;go_wp2_with fail
   (with_reducible refine(HN.o).mono ?_);rintro e w2 ⟨hkp,⟨u2,rfl,hf⟩,hwd⟩;have oh:=jD hf;obtain⟨FD,Fz,FC,hu2⟩:=FO.shape hf;subst hu2;have htk:=Kp.tk (T:=KW) hkp aH.o.blk (by decide);have HG2:=jD (HG.o.kp hkp hB (ai aH.o.blk));have cS:=jD (HK.o.trans hkp);replace aZ:=jD (htk.blk _ _ _ aZ.o (by decide));replace dZ:=jD (htk.blk _ _ _ dZ.o (by decide));replace mb:=jD (htk.blk _ _ _ mb.o (by decide));replace gF:=jD (FO.kw gF.o htk);have iM:=jD hwd;clear hkp htk hwd HN HG HK aH hf;have HG:=HG2;have HK:=cS;have aH:=iM;clear HG2 cS iM;obtain⟨x2,hx2⟩: ∃x,x=(w2).alloc (.cells #[.slice FD Fz FC] 89):=⟨_,rfl⟩
   have gU:Below w2.heap.size w2 x2:=by rw[hx2];exact aG _
   have UQ:=jD (show x2.heap[w2.heap.size]? =some (.cells #[.slice FD Fz FC] 89 (0,0)) by rw[hx2];exact au _ _ _ _ (by simp));replace aZ:=jD (ag gU aZ.o);replace dZ:=jD (ag gU dZ.o);replace mb:=jD (ag gU mb.o);replace gF:=jD (FO.iL gF.o gU);replace oh:=jD (FO.iL oh.o gU);replace aH:=jD (aH.o.below gU);replace HG:=jD (HG.o.below gU);replace HK:=jD (HK.o.trans (Kp.of_below (R:=g) (v:=bL) gU));go_wp2;try rw[←hx2]
   go_ret2;try rw[←hx2]
   rw[show nZ all= .act (fun s=>(.ok (kL (tY CE p1 p2)),s)) 3 by simp only[nZ,pFil,pFil,cr.o,gQ.o]];refine⟨HK.o,⟨_,_,rfl,Go.Proofs.enters_of Tryz.func50 (by kernel_rfl) rfl, ?_⟩,aH.o⟩;intro w9 s9 dw mA j0 jk;refine(Ml d _ _ _ _ _ _ _ p1 p2 w9 (ag dw aZ.o) (ag dw dZ.o) (ag dw mb.o) (ag dw UQ.o) (FV.below gF.o.fv dw) (FV.below oh.o.fv dw)).mono ?_;rintro e w8 ⟨rfl,mz⟩;exact dA.look j0 mz
theorem Ur (B d g:Nat) (v:Value) (all:List ByteArray) (w:World) (h:Wd w g v all 1) (hG:Gd B w) (hB:B≤g) (hl:1≤all.length) (hsz: ∀s∈all,s.size≤65536):
  Calls Tryz.prog 28 #[.pointer (some ⟨d,0,none⟩), .string ⟨#[104,97,115]⟩, .pointer (some ⟨g,0,none⟩)] w (fk B d g v all w (fun u=> .tuple #[u, .bool true]) (nJ all)):=by
 have pz: ∀(fn:Fn) (first cap:Array Value) (w:World),(Instr.makeFunc fn first cap).run Tryz.prog w= .ok (.func fn first cap) w:=fun _ _ _ _=>rfl;obtain⟨W,hW⟩: ∃W,W=(w.alloc (.cells #[.pointer (some ⟨d,0,none⟩)] 37)).alloc (.cells #[.string ⟨#[104,97,115]⟩] 9):=⟨_,rfl⟩
 have hbW:Below w.heap.size w W:=by rw[hW];exact (aG _).alloc (by simp) _
 have aZ:=jD (show W.heap[w.heap.size]? =some (.cells #[.pointer (some ⟨d,0,none⟩)] 37 (0,0)) by rw[hW];exact aO _ (au _ _ _ _ rfl));have dZ:=jD (show W.heap[w.heap.size+1]? =some (.cells #[.string ⟨#[104,97,115]⟩] 9 (0,0)) by rw[hW];exact au _ _ _ _ (by simp));have aH:=jD (h.below hbW);have HG:=jD (hG.below hbW);have HK:=jD (Kp.of_below (R:=g) (v:=bL) hbW);have dY:=jD hsz;have dF:=jD hl;have c4:W.cell? ⟨w.heap.size+1,0,none⟩=some (.string ⟨#[104,97,115]⟩):=cq 0 dZ.o rfl;have hl4:w.heap.size+1 < W.heap.size:=ai dZ.o;rw[hW] at c4 hl4;clear h hbW hG hl;go_enter Tryz.func28,Tryz.ntmps28;go_wp2_with fail
 rw[←hW];clear c4 hl4 hW;have HN:=jD (sy B g v all 1 W aH.o HG.o hB dF.o dY.o);cases hx:kR all 1 with
 | none=>
  rw[hx] at HN;have cr:=jD hx;clear hx;go_wp2_with fail
  (with_reducible refine(HN.o).mono ?_);rintro e wn ⟨hkp,he⟩;obtain rfl:e=bG (filE all 1):=he;have dh:=jD (HK.o.trans hkp);clear hkp HN;unfold bG;go_wp2;refine⟨rfl, ?_⟩;rw[show nJ all= .bad (filE all 1) by simp only[nJ,pFil,cr.o]];exact⟨dh.o,rfl⟩
 | some p1=>
  rw[hx] at HN;have cr:=jD hx;have fe:=jD (show 2≤all.length from pH hx);clear hx;go_wp2_with fail
  (with_reducible refine(HN.o).mono ?_);rintro e w1 ⟨hkp,⟨u1,rfl,hf⟩,hwd⟩;have gF:=jD hf;obtain⟨uV,uT,uU,hu1⟩:=FO.shape hf;subst hu1;have htk:=Kp.tk (T:=KW) hkp aH.o.blk (by decide);have dL:=jD (HG.o.kp hkp hB (ai aH.o.blk));have dQ:=jD (HK.o.trans hkp);replace aZ:=jD (htk.blk _ _ _ aZ.o (by decide));replace dZ:=jD (htk.blk _ _ _ dZ.o (by decide));have dW:=jD hwd;clear hkp htk hwd HN HG HK aH hf;have HG:=dL;have HK:=dQ;have aH:=dW;clear dL dQ dW;have HN:=jD (iI B g v all 2 w1 aH.o HG.o hB fe.o dY.o);cases hx:iX all 2 with
  | none=>
   rw[hx] at HN;have gQ:=jD hx;clear hx;go_wp2_with fail
   (with_reducible refine(HN.o).mono ?_);rintro e wn ⟨hkp,he⟩;obtain rfl:e=bG (9):=he;have dh:=jD (HK.o.trans hkp);clear hkp HN;unfold bG;go_wp2;refine⟨rfl, ?_⟩;rw[show nJ all= .bad (9) by simp only[nJ,pFil,pNum,cr.o,gQ.o]];exact⟨dh.o,rfl⟩
  | some n2=>
   rw[hx] at HN;have gQ:=jD hx;have mH:=jD (show 3≤all.length from gf hx);clear hx;go_wp2_with fail
   (with_reducible refine(HN.o).mono ?_);rintro e w2 ⟨hkp,⟨u2,rfl,hu⟩,hwd⟩;subst hu;have htk:=Kp.tk (T:=KW) hkp aH.o.blk (by decide);have HG2:=jD (HG.o.kp hkp hB (ai aH.o.blk));have cS:=jD (HK.o.trans hkp);replace aZ:=jD (htk.blk _ _ _ aZ.o (by decide));replace dZ:=jD (htk.blk _ _ _ dZ.o (by decide));replace gF:=jD (FO.kw gF.o htk);have iM:=jD hwd;clear hkp htk hwd HN HG HK aH;have HG:=HG2;have HK:=cS;have aH:=iM;clear HG2 cS iM;have HN:=jD (iI B g v all 3 w2 aH.o HG.o hB mH.o dY.o);cases hx:iX all 3 with
   | none=>
    rw[hx] at HN;have sG:=jD hx;clear hx;go_wp2_with fail
    (with_reducible refine(HN.o).mono ?_);rintro e wn ⟨hkp,he⟩;obtain rfl:e=bG (9):=he;have dh:=jD (HK.o.trans hkp);clear hkp HN;unfold bG;go_wp2;refine⟨rfl, ?_⟩;rw[show nJ all= .bad (9) by simp only[nJ,pFil,pNum,pNum,cr.o,gQ.o,sG.o]];exact⟨dh.o,rfl⟩
   | some n3=>
    rw[hx] at HN;have sG:=jD hx;have Bp:=jD (show 4≤all.length from gf hx);clear hx;go_wp2_with fail
    (with_reducible refine(HN.o).mono ?_);rintro e w3 ⟨hkp,⟨u3,rfl,hu⟩,hwd⟩;subst hu;have htk:=Kp.tk (T:=KW) hkp aH.o.blk (by decide);have kZ:=jD (HG.o.kp hkp hB (ai aH.o.blk));have kX:=jD (HK.o.trans hkp);replace aZ:=jD (htk.blk _ _ _ aZ.o (by decide));replace dZ:=jD (htk.blk _ _ _ dZ.o (by decide));replace gF:=jD (FO.kw gF.o htk);have sW:=jD hwd;clear hkp htk hwd HN HG HK aH;have HG:=kZ;have HK:=kX;have aH:=sW;clear kZ kX sW;obtain⟨x3,hx3⟩: ∃x,x=((w3).alloc (.cells #[.slice uV uT uU] 89)).alloc (.cells #[.int .i64 (n2:Nat), .int .i64 (n3:Nat)] 96):=⟨_,rfl⟩
    have EP:Below w3.heap.size w3 x3:=by rw[hx3];exact (aG _).alloc (by simp) _
    have mb:=jD (show x3.heap[w3.heap.size]? =some (.cells #[.slice uV uT uU] 89 (0,0)) by rw[hx3];exact aO _ (au _ _ _ _ (by simp)));have Eg:=jD (show x3.heap[w3.heap.size+1]? =some (.cells #[.int .i64 (n2:Nat), .int .i64 (n3:Nat)] 96 (0,0)) by rw[hx3];exact au _ _ _ _ (by simp));replace aZ:=jD (ag EP aZ.o);replace dZ:=jD (ag EP dZ.o);replace gF:=jD (FO.iL gF.o EP);replace aH:=jD (aH.o.below EP);replace HG:=jD (HG.o.below EP);replace HK:=jD (HK.o.trans (Kp.of_below (R:=g) (v:=bL) EP));go_wp2;try rw[←hx3]
    go_ret2;try rw[←hx3]
    rw[show nJ all= .act (fun s=>(if eP (n2:Nat) (n3:Nat) then .ok (kL (Mr p1 (n2:Nat) (n3:Nat))) else .error 1,s)) 4 by simp only[nJ,pFil,pNum,pNum,cr.o,gQ.o,sG.o]];refine⟨HK.o,⟨_,_,rfl,Go.Proofs.enters_of Tryz.func53 (by kernel_rfl) rfl, ?_⟩,aH.o⟩;intro w9 s9 dw mA j0 jk;refine(XQ _ _ _ p1 _ _ w9 (ag dw mb.o) (ag dw Eg.o) (FV.below gF.o.fv dw)).mono ?_;rintro e w8 ⟨rfl,mz⟩;exact dA.look j0 mz
def jU (l:List ByteArray):gA:=pTxt l 1 fun s=>if readE s=0 then .act (fun st=>(.ok (A6 (jI (ey s))),st)) 2 else .bad (readE s)
theorem PA {s:ByteArray} (h:readE s=0):nQ (ey s)=0:=(pU h).1
theorem Om (B d g:Nat) (v:Value) (all:List ByteArray) (w:World) (h:Wd w g v all 1) (hG:Gd B w) (hB:B≤g) (hl:1≤all.length) (hsz: ∀s∈all,s.size≤65536):
  Calls Tryz.prog 28 #[.pointer (some ⟨d,0,none⟩), .string ⟨#[115,104,111,119]⟩, .pointer (some ⟨g,0,none⟩)] w (fk B d g v all w (fun u=> .tuple #[u, .bool true]) (jU all)):=by
 by_cases hk:1 < all.length
 ·by_cases hr:readE all[1]=0
  ·have HS:=jD (show jU all= .act (fun st=>(.ok (A6 (jI (ey all[1]))),st)) 2 by unfold jU pTxt;rw [List.getElem?_eq_getElem hk];simp only;rw [if_pos hr]);refine(QD d g v all 1 w h hk (Gl.up hG.gl hB) hr).mono ?_;rintro e w' ⟨BN,u,rfl,hbn,hnd,hwd,hkp,hle⟩;rw[HS.o];refine⟨hkp,⟨_,_,rfl,Go.Proofs.enters_of Tryz.func44 (by kernel_rfl) rfl, ?_⟩,hwd⟩;intro w9 s9 dw mA j0 jk;refine(XE BN (ey all[1]) u w9 (ag dw hbn) (aF.below hnd dw) (PA hr)).mono ?_;rintro e w8 ⟨rfl,mz⟩;exact dA.look j0 mz
  ·have HS:=jD (show jU all= .bad (readE all[1]) by unfold jU pTxt;rw [List.getElem?_eq_getElem hk];simp only;rw [if_neg hr]);have qu:=jD (fun (W:World) (hW:Wd W g v all 1)=>wQ g v all 1 W hW hk);have ym:=hsz _ (List.getElem_mem hk);rw[HS.o];generalize all[1]=s at*;have pz: ∀(fn:Fn) (first cap:Array Value) (w:World),(Instr.makeFunc fn first cap).run Tryz.prog w= .ok (.func fn first cap) w:=fun _ _ _ _=>rfl;obtain⟨W,hW⟩: ∃W,W=(w.alloc (.cells #[.pointer (some ⟨d,0,none⟩)] 37)).alloc (.cells #[.string ⟨#[115,104,111,119]⟩] 9):=⟨_,rfl⟩
   have hbW:Below w.heap.size w W:=by rw[hW];exact (aG _).alloc (by simp) _
   have p9:W.heap[w.heap.size+1]? =some (.cells #[.string ⟨#[115,104,111,119]⟩] 9 (0,0)):=by rw[hW];exact au _ _ _ _ (by simp)
   have aH:=jD (h.below hbW);have HG:=jD (hG.below hbW);have HK:=jD (Kp.of_below (R:=g) (v:=bL) hbW);have c4:W.cell? ⟨w.heap.size+1,0,none⟩=some (.string ⟨#[115,104,111,119]⟩):=cq 0 p9 rfl;have hl4:w.heap.size+1 < W.heap.size:=ai p9;rw[hW] at c4 hl4;have HR:=jD hr;have HN:=jD (qu.o W aH.o);clear h hbW hG hl p9 hr qu;go_enter Tryz.func28,Tryz.ntmps28;go_wp2_with fail
   rw[←hW];clear c4 hl4 hW;(with_reducible refine(HN.o).mono ?_);rintro e w1 ⟨rfl,hwd,hkp⟩;have dQ:=jD (HK.o.trans hkp);have A9:=HG.o.kp hkp hB (ai aH.o.blk);have Rs:=jD (IY s w1 A9.glw (by omega));clear hwd hkp HN A9 HG HK aH;go_wp2_with fail
   (with_reducible refine(Rs.o).mono ?_);rintro e w2 ⟨u,rfl,hnd,hb2⟩;have cS:=jD (dQ.o.trans (Kp.of_below (R:=g) (v:=bL) hb2));obtain⟨ua,uc,Jp⟩:=aF.shape hnd;subst Jp;obtain⟨w3,hw3⟩: ∃x,x=w2.alloc (.cells #[.slice ua (ey s).length uc] 23):=⟨_,rfl⟩
   have kX:=jD (cS.o.trans (Kp.of_below (R:=g) (v:=bL) (show Below w2.heap.size w2 w3 by rw[hw3];exact aG _)));clear hnd hb2 Rs dQ;go_wp2_with fail
   rw[←hw3];clear hw3;(with_reducible refine(qZ (readE s) HR.o w3).mono ?_);rintro e w4 ⟨rfl,rfl⟩;unfold bG;go_wp2;refine⟨rfl, ?_⟩;exact⟨kX.o,rfl⟩
 ·obtain hk1:all.length=1:=by omega
  have HS:=jD (show jU all= .bad 9 by unfold jU pTxt;rw [List.getElem?_eq_none (by omega)]);rw[HS.o];have pz: ∀(fn:Fn) (first cap:Array Value) (w:World),(Instr.makeFunc fn first cap).run Tryz.prog w= .ok (.func fn first cap) w:=fun _ _ _ _=>rfl;obtain⟨W,hW⟩: ∃W,W=(w.alloc (.cells #[.pointer (some ⟨d,0,none⟩)] 37)).alloc (.cells #[.string ⟨#[115,104,111,119]⟩] 9):=⟨_,rfl⟩
  have hbW:Below w.heap.size w W:=by rw[hW];exact (aG _).alloc (by simp) _
  have p9:W.heap[w.heap.size+1]? =some (.cells #[.string ⟨#[115,104,111,119]⟩] 9 (0,0)):=by rw[hW];exact au _ _ _ _ (by simp)
  have aH:=jD (show Wd W g v all all.length by rw[hk1];exact h.below hbW);have HK:=jD (Kp.of_below (R:=g) (v:=bL) hbW);have c4:W.cell? ⟨w.heap.size+1,0,none⟩=some (.string ⟨#[115,104,111,119]⟩):=cq 0 p9 rfl;have hl4:w.heap.size+1 < W.heap.size:=ai p9;rw[hW] at c4 hl4;clear h hbW hG hl p9 hk hsz HS;have HN:=jD (AO g v all W aH.o);go_enter Tryz.func28,Tryz.ntmps28;go_wp2_with fail
  rw[←hW];clear c4 hl4 hW;(with_reducible refine(HN.o).mono ?_);rintro e w1 ⟨rfl,hkp⟩;have dQ:=jD (HK.o.trans hkp);clear hkp;unfold bG;go_wp2;refine⟨rfl, ?_⟩;exact⟨dQ.o,rfl⟩
def rD:ByteArray:=⟨#[115,104,111,119]⟩
def jV:ByteArray:=⟨#[99,111,117,110,116]⟩
def Sh:ByteArray:=⟨#[104,97,115]⟩
theorem QF (_B d g:Nat) (wd:ByteArray) (w:World) (h1:wd≠rD) (h2:wd≠jV) (h3:wd≠qK) (h4:wd≠CE) (h5:wd≠Sh):
  Calls Tryz.prog 28 #[.pointer (some ⟨d,0,none⟩), .string wd, .pointer (some ⟨g,0,none⟩)] w fun e w'=>(∃u,e= .returned (.tuple #[u, .bool false]))∧Below w.heap.size w w':=by
 have q1:=qz (L:=[115,104,111,119]) h1;have q2:=qz (L:=[99,111,117,110,116]) h2;have q3:=qz (L:=[119,105,116,104,105,110]) h3;have q4:=qz (L:=[115,97,109,101]) h4;have q5:=qz (L:=[104,97,115]) h5;clear h1 h2 h3 h4 h5;obtain⟨W,hW⟩: ∃W,W=(w.alloc (.cells #[.pointer (some ⟨d,0,none⟩)] 37)).alloc (.cells #[.string wd] 9):=⟨_,rfl⟩
 have hbW:Below w.heap.size w W:=by rw[hW];exact (aG _).alloc (by simp) _
 have p9:W.heap[w.heap.size+1]? =some (.cells #[.string wd] 9 (0,0)):=by rw[hW];exact au _ _ _ _ (by simp)
 have c4:W.cell? ⟨w.heap.size+1,0,none⟩=some (.string wd):=cq 0 p9 rfl;have hl4:w.heap.size+1 < W.heap.size:=ai p9;have HB:=jD hbW;rw[hW] at c4 hl4;clear p9 hbW;go_enter Tryz.func28,Tryz.ntmps28;go_wp2;go_ret2;rw[←hW];exact⟨⟨_,rfl⟩,HB.o⟩
def jl (l:List ByteArray):Option gA:=
 let wd:=l.headD emp
 if wd=rD then some (jU l) else if wd=jV then some (iY l) else if wd=qK then some (j3 l) else if wd=CE then some (nZ l) else if wd=Sh then some (nJ l) else none
theorem ZZ (B d g:Nat) (v:Value) (wd:ByteArray) (tl:List ByteArray) (w:World) (h:Wd w g v (wd::tl) 1) (hG:Gd B w) (hB:B≤g) (hsz: ∀s∈wd::tl,s.size≤65536):
  Calls Tryz.prog 28 #[.pointer (some ⟨d,0,none⟩), .string wd, .pointer (some ⟨g,0,none⟩)] w (fun e w'=>match jl (wd::tl) with
   | some r=>fk B d g v (wd::tl) w (fun u=> .tuple #[u, .bool true]) r e w'
   | none=>(∃u,e= .returned (.tuple #[u, .bool false]))∧Below w.heap.size w w'):=by
 have hl:1≤(wd::tl).length:=by simp
 have hh:(wd::tl).headD emp=wd:=rfl
 by_cases h1:wd=rD
 ·rw[show jl (wd::tl)=some (jU (wd::tl)) by simp only[jl,hh];rw [if_pos h1]]
  have:=Om B d g v (wd::tl) w h hG hB hl hsz
  subst h1;exact this
 by_cases h2:wd=jV
 ·rw[show jl (wd::tl)=some (iY (wd::tl)) by simp only[jl,hh];rw [if_neg h1,if_pos h2]]
  have:=Oo B d g v (wd::tl) w h hG hB hl hsz
  subst h2;exact this
 by_cases h3:wd=qK
 ·rw[show jl (wd::tl)=some (j3 (wd::tl)) by simp only[jl,hh];rw [if_neg h1,if_neg h2,if_pos h3]]
  have:=LD B d g v (wd::tl) w h hG hB hl hsz
  subst h3;exact this
 by_cases h4:wd=CE
 ·rw[show jl (wd::tl)=some (nZ (wd::tl)) by simp only[jl,hh];rw [if_neg h1,if_neg h2,if_neg h3,if_pos h4]]
  have:=QE B d g v (wd::tl) w h hG hB hl hsz
  subst h4;exact this
 by_cases h5:wd=Sh
 ·rw[show jl (wd::tl)=some (nJ (wd::tl)) by simp only[jl,hh];rw [if_neg h1,if_neg h2,if_neg h3,if_neg h4,if_pos h5]]
  have:=Ur B d g v (wd::tl) w h hG hB hl hsz
  subst h5;exact this
 rw[show jl (wd::tl)=none by simp only[jl,hh];rw [if_neg h1,if_neg h2,if_neg h3,if_neg h4,if_neg h5]]
 exact QF B d g wd w h1 h2 h3 h4 h5
end Go.Proofs.YtajgndoiddmbmaaGreatDoor
