/- Towards what desk.Run answers. -/
import Derived.Test.YtajgndoiddmbmaaGreatDoorDesk15
namespace Go.Proofs.YtajgndoiddmbmaaGreatDoor
set_option maxRecDepth 100000
set_option maxHeartbeats 40000000
open Go.RowKit
structure Kh (s:bn):Prop where
 site: ∀t,s.fQ=some t→ ∀i (h:i < t.sites.length),dV t.sites[i]
 way: ∀t,s.fQ=some t→t.way.length≤60
theorem eN.SC {B d:Nat} {w:World} {s:bn} (h:eN B d w s):Kh s:=by
 obtain⟨tv,fv,us, -, -, -,h4⟩:=h.blk;refine⟨fun t ht i hi=> ?_,fun t ht=> ?_⟩
 ·rw[ht] at h4;obtain⟨g,b,T, -, -,h5⟩:=h4;obtain⟨sv,wv,gs,css,V⟩:=h5.at_;exact(V.sites.each i (by have:=V.sites.len;omega) hi).ok
 ·rw[ht] at h4;obtain⟨g,b,T, -, -,h5⟩:=h4;exact h5.ok.lw
def mL (a:ByteArray):Prop:=(10:UInt8)∉a.data.toList
theorem jC {a b:ByteArray} (h:mL a) (k:mL b):mL (a++b):=by
 unfold mL;rw[jG,List.mem_append];exact fun e=>e.elim h k
theorem pW.nl {a:ByteArray} (h:pW a):mL a:=fun e=>(h _ e).1 rfl
theorem ny {l:List UInt8} (h:(10:UInt8)∉l):mL ⟨l.toArray⟩:=h
def CZ:List UInt8:=[111,107]
def erL:List UInt8:=[101,114,114,111,114,32]
def Looks (a:ByteArray):Prop:=mL a∧(CZ <+: a.data.toList∨erL <+: a.data.toList)
def abv (a:ByteArray):Prop:=a.size≤100000∧mL a∧CZ <+: a.data.toList
def iW:kU→Prop
 | .ok x=>abv x
 | .error e=>Rg e
theorem wG {n:Int} (h:0≤n):pW (jw n):=by
 have e:jw n=ia n.toNat:=by
  unfold jw ia Lib.itoa;rw[if_neg (by omega)]
 rw[e];exact AG _
theorem Dp {a b:ByteArray} (h:mL a∧CZ <+: a.data.toList) (k:mL b):mL (a++b)∧CZ <+: (a++b).data.toList:=by
 refine⟨jC h.1 k, ?_⟩;rw[jG];exact h.2.trans (List.prefix_append _ _)
theorem NI:mL ⟨#[111,107]⟩∧CZ <+: (⟨#[111,107]⟩:ByteArray).data.toList:=⟨ny (l:=[111,107]) (by decide),List.prefix_refl _⟩
theorem qR:iW (.ok ⟨#[111,107]⟩):=⟨by decide,NI⟩
theorem zx {l:List Int} (h: ∀n∈l,0≤n∧n < 10000000000) (hl:l.length≤100):iW (.ok (jf l)):=by
 have h1:=FK h;refine⟨by omega, ?_⟩;have key: ∀(l:List Int) (o:ByteArray),(∀n∈l,0≤n∧n < 10000000000)→mL o∧CZ <+: o.data.toList→mL (l.foldl (fun o n=>o++(⟨#[32]⟩++jw n)) o)∧CZ <+: (l.foldl (fun o n=>o++(⟨#[32]⟩++jw n)) o).data.toList:=by
  intro l;induction l with
  | nil=>intro o _ h;exact h
  | cons n l ih=>
   intro o hn ho;rw[List.foldl_cons];exact ih _ (fun m hm=>hn m (List.mem_cons_of_mem _ hm)) (Dp ho (jC (ny (l:=[32]) (by decide)) (wG (hn n (List.mem_cons_self ..)).1).nl))
 exact key l _ h NI
theorem xL (b:Bool):iW (.ok (kL b)):=by
 cases b
 ·exact⟨by decide,ny (l:=[111,107,32,110,111]) (by decide),⟨[32,110,111],rfl⟩⟩
 ·exact⟨by decide,ny (l:=[111,107,32,121,101,115]) (by decide),⟨[32,121,101,115],rfl⟩⟩
theorem Qk {s:ByteArray} (h:readE s=0):iW (.ok (A6 (jI (ey s)))):=by
 obtain⟨h1,h2⟩:=pU h;have e:jI (ey s)=s:=by unfold jI;rw [if_pos h1];exact h2
 have h3:=CV h;rw[e];refine⟨?_,jC (ny (l:=[111,107,32]) (by decide)) (Nw h).nl, ?_⟩
 ·unfold A6;rw[ByteArray.size_append];show 3+s.size≤_;omega
 ·unfold A6;rw[jG];exact ⟨[32]++s.data.toList,rfl⟩
theorem Dn {L:List aA} (h:nK L):iW (.ok (kO L)):=by
 refine⟨Nat.le_trans (A3 h.ok) (by have:=h.len;omega), ?_⟩;have key: ∀(l:List aA) (o:ByteArray),(∀v∈l,dz v)→mL o∧CZ <+: o.data.toList→mL (l.foldl (fun o v=>o++tW v) o)∧CZ <+: (l.foldl (fun o v=>o++tW v) o).data.toList:=by
  intro l;induction l with
  | nil=>intro o _ h;exact h
  | cons v l ih=>
   intro o hn ho;rw[List.foldl_cons];have hv:=hn v (List.mem_cons_self ..);refine ih _ (fun m hm=>hn m (List.mem_cons_of_mem _ hm)) (Dp ho ?_);obtain⟨d1,d2,d3,d4⟩:=BI hv;have hid:mL v.id:=by
    have h1:=hv.id;unfold gI at h1;rw[Bool.and_eq_true] at h1;intro h2;exact absurd (List.all_eq_true.1 h1.2 10 h2) (by decide)
   have c:mL ⟨#[58]⟩:=ny (l:=[58]) (by decide);unfold tW;exact jC (jC (jC (jC (jC (jC (jC (ny (l:=[32]) (by decide)) hid) c) (wG d1).nl) c) (wG d2).nl) c) (wG d3).nl
 exact key L _ h.ok NI
def AskGood:gA→Prop
 | .bad e=>Rg e
 | .act f _=>(∀s,Kh s→iW (f s).1)∧ ∀s,(f s).2.n=s.n
theorem lC {l:List ByteArray} {k:Nat} {c:iT→gA} (h: ∀p,AskGood (c p)):AskGood (pFil l k c):=by
 unfold pFil;split
 ·exact Yr _ _
 ·exact h _
theorem ei {l:List ByteArray} {k:Nat} {c:Nat→gA} (h: ∀n,AskGood (c n)):AskGood (pNum l k c):=by
 unfold pNum;split
 ·exact CR
 ·exact h _
theorem F4 {l:List ByteArray} {k:Nat} {c:ByteArray→gA} (h: ∀n,AskGood (c n)):AskGood (pTxt l k c):=by
 unfold pTxt;split
 ·exact CR
 ·exact h _
theorem qT {e:Int} {x:ByteArray} (h:iW (.ok x)) (he:Rg e):iW (if e=0 then .ok x else .error e):=by
 split
 ·exact h
 ·exact he
theorem SY (f:aK→kU×aK) (s:bn):(onTown f s).2.n=s.n:=by
 unfold onTown;split <;> rfl
theorem js {f:aK→kU×aK} (h: ∀t,(∀i (h:i < t.sites.length),dV t.sites[i])→t.way.length≤60→iW (f t).1):(∀s,Kh s→iW (onTown f s).1)∧ ∀s,(onTown f s).2.n=s.n:=by
 refine⟨?_,SY f⟩;intro s hs;unfold onTown;cases ht:s.fQ with
 | none=>exact IW
 | some t=>exact h t (hs.site t ht) (hs.way t ht)
theorem Tb {t:aK} (h: ∀i (h:i < t.sites.length),dV t.sites[i]) (i:Nat) (id:ByteArray) (a n bd:Int): ∀x∈[(uh t i id a n bd).1,(uh t i id a n bd).2],0≤x∧x < 10000000000:=by
 unfold uh;split
 ·rename_i hi;have h1:=(h i hi).me;have h2:=(h i hi).made;unfold vh;split
  ·simp;omega
  ·simp
 ·simp
theorem Q6 {l:List ByteArray} {r:gA} (h:jl l=some r):AskGood r:=by
 unfold jl at h;simp only at h;split at h
 ·injection h with h;subst h
  refine F4 fun s=> ?_;split
  ·rename_i hz;exact⟨fun _ _=>Qk hz,fun _=>rfl⟩
  ·exact LU _
 split at h
 ·injection h with h;subst h
  exact lC fun p=>⟨fun _ _=>zx (by simpa using J7 p) (show 1≤100 by decide),fun _=>rfl⟩
 split at h
 ·injection h with h;subst h
  exact lC fun p=>lC fun q=>⟨fun _ _=>xL _,fun _=>rfl⟩
 split at h
 ·injection h with h;subst h
  exact lC fun p=>lC fun q=>⟨fun _ _=>xL _,fun _=>rfl⟩
 split at h
 ·injection h with h;subst h
  refine lC fun p=>ei fun a=>ei fun n=>⟨fun s _=> ?_,fun _=>rfl⟩
  show iW (if _ then _ else _);split
  ·exact xL _
  ·exact yh
 ·cases h
theorem Ui (l:List ByteArray):AskGood (kF l):=by
 unfold kF;simp only;split
 ·refine lC fun p=>⟨fun s _=> ?_,fun s=> ?_⟩
  ·unfold pR;split
   ·exact rg5
   ·split
    ·exact qR
    ·exact yQ
  ·unfold pR;split
   ·rfl
   ·split <;> rfl
 split
 ·refine⟨fun s _=> ?_,fun s=> ?_⟩
  ·unfold pP;split
   ·exact rg5
   ·exact qR
  ·unfold pP;split <;> rfl
 split
 ·exact ei fun i=>F4 fun id=>ei fun a=>ei fun n=>ei fun bd=>js fun t h _=>qT (zx (Tb h _ _ _ _ _) (show 2≤100 by decide)) (abX _ _ _ _ _ _)
 split
 ·exact ei fun i=>lC fun p=>js fun t _ _=>qT qR (U9 _ _)
 split
 ·exact ei fun i=>ei fun k=>js fun t _ _=>qT qR (abV _ _ _)
 split
 ·exact ei fun k=>js fun t _ _=>qT qR (ab1 _ _)
 split
 ·exact ei fun k=>js fun t _ _=>qT qR (W5 _ _)
 split
 ·exact js fun t _ h=>zx (by simp;omega) (show 1≤100 by decide)
 split
 ·refine ei fun i=>js fun t h _=>qT ?_ (U9 _ _);unfold CL;split
  ·rename_i hi;exact Dn (h i hi).L
  ·exact Dn ⟨by simp,by simp,by simp,by simp⟩
 split
 ·exact ei fun i=>ei fun a=>ei fun n=>ei fun z=>ei fun c=>js fun t _ _=>qT (xL _) (ab0 _ _ _ _ _ _)
 ·exact CR
def lineW (l:List ByteArray):gA:=match jl l with
 | some r=>r
 | none=>kF l
theorem xD (l:List ByteArray):AskGood (lineW l):=by
 unfold lineW;split
 ·rename_i h;exact Q6 h
 ·exact Ui l
def qW (e:Int):ByteArray:=⟨#[101,114,114,111,114,32]⟩++jw e
def aeQ:kU→ByteArray
 | .ok x=>x
 | .error e=>qW e
def dX (s:bn) (l:List ByteArray):kU×bn:=match lineW l with
 | .bad e=>(.error e,s)
 | .act f k=>if k=l.length then f s else(.error 9,s)
def A2 (s:bn) (l:List ByteArray):ByteArray:=aeQ (dX s l).1
def N2 (s:bn) (l:List ByteArray):bn:=bump (dX s l).2
def yN:bn:=⟨[],none,0⟩
theorem NM {s:bn} (h:Kh s) (l:List ByteArray):iW (dX s l).1:=by
 unfold dX;have hg:=xD l;split
 ·rename_i e he;rw[he] at hg;exact hg
 ·rename_i f k hf;rw[hf] at hg;split
  ·exact hg.1 s h
  ·exact CR
theorem Xq (s:bn) (l:List ByteArray):(dX s l).2.n=s.n:=by
 unfold dX;have hg:=xD l;split
 ·rfl
 ·rename_i f k hf;rw[hf] at hg;split
  ·exact hg.2 s
  ·rfl
theorem Qt {e:Int} (h:Rg e):(qW e).size≤100000∧Looks (qW e):=by
 have h1:=kj h.1 (by have:=h.2;omega);refine⟨?_,jC (ny (l:=[101,114,114,111,114,32]) (by decide)) (wG h.1).nl, .inr ?_⟩
 ·unfold qW;rw[ByteArray.size_append];show 6+_≤_;omega
 ·unfold qW;rw[jG];exact List.prefix_append _ _
theorem K7 {s:bn} (h:Kh s) (l:List ByteArray):(A2 s l).size≤100000∧Looks (A2 s l):=by
 unfold A2;have hg:=NM h l;cases hr:(dX s l).1 with
 | ok x=>rw [hr] at hg;exact ⟨hg.1,hg.2.1, .inl hg.2.2⟩
 | error e=>rw [hr] at hg;exact Qt hg
def KX (t:Nat):Bool:=t != 72&&t != 9
theorem bz.kx {w w':World} {b g:Nat} {s:aL} (h:bz w b g s) (hk:aM KX w w'):bz w' b g s:=by
 obtain⟨f,l,p,h1,h2,h3,h4⟩:=h.cells;exact⟨h.ok,h.ge,f,l,p,hk.blk _ _ _ h1 (by decide),h2.tk hk (by decide) (by decide),h3.tk hk (by decide) (by decide) (by decide),h4.tk hk (by decide) (by decide) (by decide) (by decide) (by decide)⟩
theorem fO.kx {w w':World} {b:Nat} {l:iy} {c:List Value} (h:fO w b l c) (hk:aM KX w w'):fO w' b l c:=by
 cases l with
 | ask t a=>
  obtain⟨q,h1,f,p,h2,h3,h4⟩:=h;exact⟨q,h1,f,p,hk.blk _ _ _ h2 (by decide),h3.tk hk (by decide) (by decide),h4.tk hk (by decide) (by decide) (by decide) (by decide) (by decide)⟩
 | sA t bt=>
  obtain⟨q,h1,v,g,p,h2,h3⟩:=h;exact⟨q,h1,v,g,p,hk.blk _ _ _ h2 (by decide),h3.mK.tk hk (by decide) (by decide) (by decide),h3.gone.tk hk (by decide) (by decide) (by decide),h3.parts.tk hk (by decide) (by decide) (by decide) (by decide) (by decide)⟩
theorem aJ.kx {w w':World} {b:Nat} {T:Nat→Prop} {g:Nat} {t:aK} (h:aJ w b T g t) (hk:aM KX w w'):aJ w' b T g t:=by
 obtain⟨sv,wv,gs,css,V⟩:=h.at_;exact⟨h.ok,h.ge,sv,wv,gs,css,hk.blk _ _ _ V.blk (by decide),hk.owns V.qL (by decide),⟨V.sites.len,V.sites.nd,fun i h1 h2=>(V.sites.each i h1 h2).kx hk⟩,V.gT,⟨V.lets.len,fun i h1 h2=>(V.lets.each i h1 h2).kx hk⟩,hk.owns V.oV (by decide),V.wT⟩
theorem xU.kx {B:Nat} {w w':World} {tv:Value} : ∀ {o:Option aK},xU B w tv o→aM KX w w'→xU B w' tv o
 | none,h,_=>h
 | some _,⟨g,b,T,h1,h2,h3⟩,hk=>⟨g,b,T,h1,h2,h3.kx hk⟩
theorem eN.kx {B d:Nat} {w w':World} {s:bn} (h:eN B d w s) (hk:aM KX w w'):eN B d w' s:=by
 obtain⟨tv,fv,us,h1,h2,h3,h4⟩:=h.blk;exact⟨h.ge,h.l5,⟨tv,fv,us,hk.blk _ _ _ h1 (by decide),h2.map fun _ _ hf=>hf.tk hk (by decide) (by decide),hk.owns h3 (by decide),h4.kx hk⟩,h.st⟩
theorem Kp.kx {w w':World} {g:Nat} {cs:Array Value} {t:TypeId} (hk:Kp g bL bL w w') (hg:w.heap[g]? =some (.cells cs t (0,0))) (hT:KX t=false):aM KX w w':=aM.of_block hk.size (fun k h1 h2=>hk.keep k h1 h2 (by simp[Value.ownBlock])) hg hT
structure Mv (B N:Nat) (w w':World):Prop where
 aW:Below B w w'
 blk: ∀(k:Nat) (cs:Array Value) (t:TypeId),k < N→w.heap[k]? =some (Obj.cells cs t (0,0))→VU t=true→w'.heap[k]? =some (Obj.cells cs t (0,0))
theorem Mv.sk {B:Nat} {w w':World} (h:Mv B w.heap.size w w'):SK w w':=⟨h.aW.size,fun k cs t hk ht=>h.blk k cs t (ai hk) hk ht⟩
theorem Mv.trans {B N:Nat} {a b c:World} (h:Mv B N a b) (k:Mv B N b c):Mv B N a c:=⟨h.aW.trans k.aW,fun j cs t h1 h2 h3=>k.blk j cs t h1 (h.blk j cs t h1 h2 h3) h3⟩
theorem Mv.below {B N:Nat} {w w':World} (h:Below w.heap.size w w') (hB:B≤w.heap.size):Mv B N w w':=⟨h.mono hB,fun _ _ _ _ hk _=>ag h hk⟩
theorem Mv.kp {B N g:Nat} {w w':World} (h:Kp g bL bL w w') (hB:B≤g) (hN:N≤g) (hg:g < w.heap.size):Mv B N w w':=by
 refine⟨h.toBelow (fun k h=>by simp[Value.ownBlock] at h) hB hg,fun k cs t h1 h2 _=> ?_⟩;rw[h.keep k (ai h2) (by omega) (by simp[Value.ownBlock])];exact h2
theorem Mv.tk {B N:Nat} {w w':World} (h:aM KD w w') (hb:Below B w w'):Mv B N w w':=⟨hb,fun k cs t _ h2 h3=>h.blk k cs t h2 (by
 unfold VU at h3;simp only[Bool.or_eq_true,beq_iff_eq] at h3;rcases h3 with(rfl | rfl) | rfl <;> decide)⟩
theorem Mk (g:Nat) (v:Value) (all:List ByteArray) (k:Nat) (w:World) (h:Wd w g v all k) (hk:k≠all.length):
  Calls Tryz.prog 30 #[.pointer (some ⟨g,0,none⟩)] w fun e w'=>e=bG 9∧Below w.heap.size w w':=by
 obtain⟨a,cap,rfl⟩: ∃a cap,v= .slice a all.length cap:=by
  obtain⟨a,c,hv⟩:=ay h.row;exact ⟨a,c,hv⟩
 have hl:=h.len;have c0:w.cell? ⟨g,0,none⟩=some (.slice a all.length cap):=cq 0 h.blk rfl;have c1:w.cell? ⟨g,1,none⟩=some (.int .i64 (k:Nat)):=cq 1 h.blk rfl;have hgl:=ai h.blk;have hd:((k:Int) != (all.length:Int))=true:=by rw[bne_iff_ne];omega
 have hd2:decide ((k:Int)=(all.length:Int))=false:=by rw[decide_eq_false_iff_not];omega
 clear h;go_enter Tryz.func30,Tryz.ntmps30;go_wp2_with fail
 go_quiet (fail);go_wp2_with fail
 refine(mB 9 _).mono ?_;rintro e w2 ⟨rfl,rfl⟩;unfold bG;go_wp2;exact⟨rfl,rfl,below_drewN (br) _⟩
theorem rq (B0 B:Nat) (x0:Value) (e0:Int) (hr:Rg e0) (older:List PanicEntry) (w:World) (hG:Gd B0 w) (h0:w.heap[B]? =some (Obj.cells #[x0] 9 (0,0))):
  CallsD Tryz.prog 26 #[.pointer (some ⟨B,0,none⟩)] (.panicking ({ v:= .iface 67 (.agg #[.int .i64 e0]),recovered:=false } ::older)) w fun e u' w'=>
   e= .returned (.tuple #[])∧u'= .panicking ({ v:= .iface 67 (.agg #[.int .i64 e0]),recovered:=true } ::older)∧w'.heap[B]? =some (Obj.cells #[.string (qW e0)] 9 (0,0))∧Kp B bL bL w w':=by
 have HIT:=jD (wK e0 (by have:=hr.1;omega) (by have:=hr.2;omega) B0 (w.alloc (.cells #[.int .i64 e0] 67)) (hG.below (aG _)));have hi9:=kj hr.1 (by have:=hr.2;omega);rw[show(⟨(Lib.itoa e0).toArray⟩:ByteArray)=jw e0 from rfl] at HIT;have MN:=jD (show qW e0=⟨#[101,114,114,111,114,32]⟩++jw e0 from rfl);generalize jw e0=ie at*;clear hr;refine callsD_of_wpS Tryz.func26 rfl fun c₀ cs hu=> ?_;apply wpS_seq;apply wpS_region;simp[wpOpsS,go_sem,recoverD,hu,Tryz.ntmps26,Exit.thenS];apply wpS_seq;apply wpS_region;simp[wpOpsS,go_sem,Exit.thenS,Array.replicate];refine wpS_cond (t:=true) (by simp[Act.eval]) ?_;simp only[if_true];refine wpS_of_wp ?_;have hl0:=ai h0;have hta: ∀w:World,(Instr.typeAssert (.iface 67 (.agg #[.int .i64 e0])) 20 67 true).run Tryz.prog w= .ok (.tuple #[.agg #[.int .i64 e0], .bool true]) w:=fun _=>by kernel_rfl
 have HW:=jD h0;clear h0 hG;go_wp2_with fail
 (with_reducible refine(HIT.o).mono ?_);rintro e w2 ⟨rfl,hb2⟩;have cw:=jD (aj (aG _) hb2);have h2:=ag cw.o HW.o;have hx0:=cq 0 h2 rfl;have hz0:=fq 0 h2;have hl2:=ai h2;have HF:=jD (show(w2.setCell ⟨B,0,none⟩ (.string (qW e0))).heap[B]? =some (Obj.cells #[.string (qW e0)] 9 (0,0))∧Kp B bL bL w (w2.setCell ⟨B,0,none⟩ (.string (qW e0))) from⟨by rw[ax h2];rfl,(Kp.of_below cw.o).trans (Kp.step B 0 bL _ _)⟩);rw[MN.o] at HF;clear hb2 HIT h2;go_wp2;cases c₀
 simp_all only[bodyPostS];exact⟨trivial,_,rfl,_,results_none rfl _ _ _,rfl,rfl,by rw[MN.o];exact HF.o.1,HF.o.2⟩
def jy (B d:Nat) (w:World) (s:bn) (l:List ByteArray) (e:Ending) (w':World):Prop:=e= .returned (.string (A2 s l))∧eN B d w' (N2 s l)∧SK w w'∧Below B w w'
theorem jy.err {B d B9:Nat} {w wp wz:World} {s s':bn} {l:List ByteArray} {E:Int} (hR:dX s l=(.error E,s')) (hA:eN B d wp (Go.Proofs.YtajgndoiddmbmaaGreatDoor.bump s')) (hm:Mv B w.heap.size w wp) (hB:B≤B9) (hN:w.heap.size≤B9) (hres:wp.heap[B9]? =some (Obj.cells #[.string ⟨#[]⟩] 9 (0,0))) (hk:Kp B9 bL bL wp wz):jy B d w s l (.returned (.string (qW E))) wz:=by
 refine⟨?_, ?_,(hm.trans (Mv.kp hk hB hN (ai hres))).sk,(hm.trans (Mv.kp hk hB hN (ai hres))).aW⟩
 ·unfold A2;rw [hR];rfl
 ·unfold N2;rw [hR];exact hA.kx (Kp.kx hk hres (by decide))
theorem jy.ok {B d B9:Nat} {w wp:World} {s s':bn} {l:List ByteArray} {x:ByteArray} (hR:dX s l=(.ok x,s')) (hA:eN B d wp (Go.Proofs.YtajgndoiddmbmaaGreatDoor.bump s')) (hm:Mv B w.heap.size w wp) (hB:B≤B9) (hN:w.heap.size≤B9) (hres:wp.heap[B9]? =some (Obj.cells #[.string ⟨#[]⟩] 9 (0,0))):jy B d w s l (.returned (.string x)) (wp.setCell ⟨B9,0,none⟩ (.string x)):=by
 have hk:Kp B9 bL bL wp (wp.setCell ⟨B9,0,none⟩ (.string x)):=Kp.step B9 0 bL _ _;refine⟨?_, ?_,(hm.trans (Mv.kp hk hB hN (ai hres))).sk,(hm.trans (Mv.kp hk hB hN (ai hres))).aW⟩
 ·unfold A2;rw [hR];rfl
 ·unfold N2;rw [hR];exact hA.kx (Kp.kx hk hres (by decide))
theorem QG (B d:Nat) (s:bn) (wd:ByteArray) (tl:List ByteArray) (v:Value) (w:World) (hll:(wd::tl).length≤100000) (hsz: ∀x∈wd::tl,x.size≤65536) (hrow:w.ownsRow 0 9 1 v (wd::tl).length ((wd::tl).map Value.string)) (hA:eN B d w s) (hgd:mY s) (hG:Gd B w):
  Calls Tryz.prog 15 #[.pointer (some ⟨d,0,none⟩),v] w (jy B d w s (wd::tl)):=by
 have pz: ∀(fn:Fn) (first cap:Array Value) (w:World),(Instr.makeFunc fn first cap).run Tryz.prog w= .ok (.func fn first cap) w:=fun _ _ _ _=>rfl;obtain⟨q,cap,rfl,hcap,hq, -,hc⟩:=tV hrow rfl (k:=0) (by simp);have hc0:w.cell? ⟨q,0,none⟩=some (.string wd):=hc;obtain⟨B9,Qi⟩: ∃B9,B9=w.heap.size:=⟨_,rfl⟩
 have KE:=jD (xD (wd::tl));have HSO:=jD hA.SC;have hBw:=hG.le;have wk:B≤B9+1:=by omega
 have vC:B≤B9:=by omega
 have tj:w.heap.size≤B9:=by omega
 obtain⟨W,hW⟩: ∃W,W=(w.alloc (.cells #[.string ⟨#[]⟩] 9)).alloc (.cells #[.slice (some ⟨q,0,none⟩) (wd::tl).length cap, .int .i64 1] 72):=⟨_,rfl⟩
 have hb1:Below w.heap.size w (w.alloc (.cells #[.string ⟨#[]⟩] 9)):=aG _;have hbW:Below w.heap.size w W:=by rw[hW];exact hb1.alloc (by simp) _
 have hg:W.heap[B9+1]? =some (.cells #[.slice (some ⟨q,0,none⟩) (wd::tl).length cap, .int .i64 1] 72 (0,0)):=by rw[hW,Qi];exact au _ _ _ _ (by simp)
 have hres:W.heap[B9]? =some (.cells #[.string ⟨#[]⟩] 9 (0,0)):=by rw[hW,Qi];exact aO _ (au _ _ _ _ rfl)
 have aH:=jD (show Wd W (B9+1) (.slice (some ⟨q,0,none⟩) (wd::tl).length cap) (wd::tl) 1 from⟨hg,aI hrow hbW,by omega⟩);have HG:=jD (hG.below hbW);have Hj:=jD (hA.below hbW);have MJ:=jD (show Mv B w.heap.size w W from Mv.below hbW hBw);have ot:=jD hres;have pL:=jD hgd;have HA:=jD (ZZ B d (B9+1) _ wd tl W aH.o HG.o wk hsz);have RU:=jD (fun (w1:World) (hb:Below W.heap.size W w1)=>acr B d (B9+1) _ wd tl w1 (aH.o.below hb) (HG.o.below hb) wk hsz);have HQC:=jD (show W.cell? ⟨q,0,none⟩=some (.string wd) from(World.cell?_of_block (hbW.block _ hq)).trans hc0);have Mc:=HQC.o;have mo:q < W.heap.size:=Nat.lt_of_lt_of_le hq hbW.size;have HQS:=jD mo;rw[hW] at Mc mo;have hn0:0 < (wd::tl).length:=by simp
 obtain⟨n,hn⟩: ∃n,n=(wd::tl).length:=⟨_,rfl⟩
 obtain⟨l,hl⟩: ∃l,l=wd::tl:=⟨_,rfl⟩
 rw[←hl] at hn aH HA RU KE hW hn0 Mc mo ⊢;rw[←hn] at aH HA RU hW hn0 Mc mo ⊢;have HN:=jD hn;have RF:=jD hl;have hni:(0:Int) < (n:Int):=by omega
 clear hrow hA hgd hG hb1 hbW hg hres hc hc0 hsz hll hn hl hcap;go_enter_defers Tryz.func15,Tryz.ntmps15;go_wp2_with fail
 rw[←hW,←Qi];have dZ:=jD Qi;clear hW Mc mo hq Qi;cases Mb:jl l with
 | some r=>
  rw[Mb] at HA;have pJ:=jD (show lineW l=r by unfold lineW;rw [Mb]);clear Mb RU;(with_reducible refine(HA.o).mono ?_);intro e w1 hp;clear HA;cases r with
  | bad E=>
   obtain⟨hkp,he⟩:=hp;obtain rfl:e=bG E:=he;have sJ:=jD (show dX s l=(.error E,s) by unfold dX;rw [pJ.o]);have Aj:=jD (show Rg E by have h9:=KE.o;rw [pJ.o] at h9;exact h9);have wW:=jD ((Hj.o.kx (Kp.kx hkp aH.o.blk (by decide))).bump);have wU:=jD (MJ.o.trans (Mv.kp hkp wk (Nat.le_succ_of_le tj) (ai aH.o.blk)));have mE:=jD (show w1.heap[B9]? =some (.cells #[.string ⟨#[]⟩] 9 (0,0)) by
    rw[hkp.keep B9 (ai ot.o) (by omega) (by simp[Value.ownBlock])];exact ot.o)
   have Ag:=jD (HG.o.kp hkp wk (ai aH.o.blk));clear hkp;unfold bG;go_wp2;refine leaves_cons (f:=26) (args:= #[.pointer (some ⟨B9,0,none⟩)]) (by simp) (by simp[go_sem]) ?_;refine(rq B B9 _ _ Aj.o [] _ Ag.o mE.o).mono ?_;rintro e u' wz ⟨rfl,rfl,jZ,nC⟩;have y0:=cq 0 jZ rfl;have gV:=jD (jy.err sJ.o wW.o wU.o vC tj mE.o nC);clear jZ nC;simp[Leaves,settle,results,Tryz.results15,go_sem,y0];exact gV.o
  | act f k=>
   obtain⟨hkp,⟨F,caps,rfl,hen,Jz⟩,hwd⟩:=hp;have dW:=jD hwd;have UO:=jD Jz;have KZ:=jD (Hj.o.kx (Kp.kx hkp aH.o.blk (by decide)));have KA:=jD (MJ.o.trans (Mv.kp hkp wk (Nat.le_succ_of_le tj) (ai aH.o.blk)));have DZ:=jD (show w1.heap[B9]? =some (.cells #[.string ⟨#[]⟩] 9 (0,0)) by
    rw[hkp.keep B9 (ai ot.o) (by omega) (by simp[Value.ownBlock])];exact ot.o)
   have dL:=jD (HG.o.kp hkp wk (ai aH.o.blk));have R3:=jD (show iW (f s).1 by have h9:=KE.o;rw [pJ.o] at h9;exact h9.1 s HSO.o);clear hkp hwd Jz;by_cases hk:k=l.length;rotate_left
   ·have sJ:=jD (show dX s l=(.error 9,s) by unfold dX;rw [pJ.o];exact if_neg hk);have Aj:=jD CR;have Ak:=jD (Mk (B9+1) _ l k w1 dW.o hk);clear hk;go_wp2_with fail
    (with_reducible refine(Ak.o).mono ?_);rintro e w2 ⟨rfl,hb2⟩;have wW:=jD ((KZ.o.below hb2).bump);have wU:=jD (KA.o.trans (Mv.below hb2 dL.o.le));have mE:=jD (ag hb2 DZ.o);have Ag:=jD (dL.o.below hb2);clear hb2 Ak;unfold bG;go_wp2;refine leaves_cons (f:=26) (args:= #[.pointer (some ⟨B9,0,none⟩)]) (by simp) (by simp[go_sem]) ?_;refine(rq B B9 _ _ Aj.o [] _ Ag.o mE.o).mono ?_;rintro e u' wz ⟨rfl,rfl,jZ,nC⟩;have y0:=cq 0 jZ rfl;have gV:=jD (jy.err sJ.o wW.o wU.o vC tj mE.o nC);clear jZ nC;simp[Leaves,settle,results,Tryz.results15,go_sem,y0];exact gV.o
   have Ai:=jD (show dX s l=f s by unfold dX;rw [pJ.o];exact if_pos hk);have Ak:=jD (Qv (B9+1) _ l w1 (by have h9:=dW.o;rw [hk] at h9;exact h9));clear hk;go_wp2_with fail
   (with_reducible refine(Ak.o).mono ?_);rintro e w2 ⟨rfl,hb2⟩;have UW:=jD (KZ.o.below hb2);have UJ:=jD (KA.o.trans (Mv.below hb2 dL.o.le));have OX:=jD (ag hb2 DZ.o);have HG2:=jD (dL.o.below hb2);have lu:=jD (UO.o w2 s hb2 HG2.o UW.o pL.o);clear hb2 Ak;go_wp2_with fail
   rw[show(callFunc F caps).run Tryz.prog w2= .ok (.enter F caps) w2 from hen caps w2];go_wp2_with fail
   refine(lu.o).mono ?_;rintro e w3 ⟨he,hat,htk,hbl⟩;have wW:=jD hat;have wU:=jD (UJ.o.trans (Mv.tk htk hbl));have mE:=jD (htk.blk _ _ _ OX.o (by decide));have Ag:=jD (HG2.o.on hbl);clear hat htk hbl lu hen;cases hr:(f s).1 with
   | error E=>
    rw[hr] at he R3;obtain rfl:e=bG E:=he;have sJ:=jD (show dX s l=(.error E,(f s).2) by rw[Ai.o,←hr]);have Aj:=jD (show Rg E from R3.o);clear hr;unfold bG;go_wp2;refine leaves_cons (f:=26) (args:= #[.pointer (some ⟨B9,0,none⟩)]) (by simp) (by simp[go_sem]) ?_;refine(rq B B9 _ _ Aj.o [] _ Ag.o mE.o).mono ?_;rintro e u' wz ⟨rfl,rfl,jZ,nC⟩;have y0:=cq 0 jZ rfl;have gV:=jD (jy.err sJ.o wW.o wU.o vC tj mE.o nC);clear jZ nC;simp[Leaves,settle,results,Tryz.results15,go_sem,y0];exact gV.o
   | ok x=>
    rw[hr] at he;obtain rfl:e= .returned (.string x):=he;have sJ:=jD (show dX s l=(.ok x,(f s).2) by rw[Ai.o,←hr]);have y0:=cq 0 mE.o rfl;have f0:=fq 0 mE.o;have g0:=ai mE.o;have gV:=jD (jy.ok sJ.o wW.o wU.o vC tj mE.o);clear hr;go_wp2;refine leaves_cons (f:=26) (args:= #[.pointer (some ⟨B9,0,none⟩)]) (by simp) (by simp[go_sem]) ?_;refine(JY B9 _).mono ?_;rintro e u' w4 ⟨rfl,rfl,rfl⟩;simp[Leaves,settle,results,Tryz.results15,go_sem,y0];exact gV.o
 | none=>
  rw[Mb] at HA;have pJ:=jD (show lineW l=kF l by unfold lineW;rw [Mb]);clear Mb;(with_reducible refine(HA.o).mono ?_);rintro e w0 ⟨⟨u,rfl⟩,hb0⟩;have HD:=jD (RU.o w0 hb0);replace Hj:=jD (Hj.o.below hb0);replace MJ:=jD (MJ.o.trans (Mv.below hb0 HG.o.le));replace ot:=jD (ag hb0 ot.o);replace HG:=jD (HG.o.below hb0);replace aH:=jD (aH.o.below hb0);have Mc:=ah hb0 HQC.o;have mo:=Nat.lt_of_lt_of_le HQS.o hb0.size;clear hb0 HA RU;generalize kF l=r at HD pJ;go_wp2_with fail
  (with_reducible refine(HD.o).mono ?_);intro e w1 hp;clear HD Mc mo;cases r with
  | bad E=>
   obtain⟨hkp,he⟩:=hp;obtain rfl:e=bG E:=he;have sJ:=jD (show dX s l=(.error E,s) by unfold dX;rw [pJ.o]);have Aj:=jD (show Rg E by have h9:=KE.o;rw [pJ.o] at h9;exact h9);have wW:=jD ((Hj.o.kx (Kp.kx hkp aH.o.blk (by decide))).bump);have wU:=jD (MJ.o.trans (Mv.kp hkp wk (Nat.le_succ_of_le tj) (ai aH.o.blk)));have mE:=jD (show w1.heap[B9]? =some (.cells #[.string ⟨#[]⟩] 9 (0,0)) by
    rw[hkp.keep B9 (ai ot.o) (by omega) (by simp[Value.ownBlock])];exact ot.o)
   have Ag:=jD (HG.o.kp hkp wk (ai aH.o.blk));clear hkp;unfold bG;go_wp2;refine leaves_cons (f:=26) (args:= #[.pointer (some ⟨B9,0,none⟩)]) (by simp) (by simp[go_sem]) ?_;refine(rq B B9 _ _ Aj.o [] _ Ag.o mE.o).mono ?_;rintro e u' wz ⟨rfl,rfl,jZ,nC⟩;have y0:=cq 0 jZ rfl;have gV:=jD (jy.err sJ.o wW.o wU.o vC tj mE.o nC);clear jZ nC;simp[Leaves,settle,results,Tryz.results15,go_sem,y0];exact gV.o
  | act f k=>
   obtain⟨hkp,⟨F,caps,rfl,hen,Jz⟩,hwd⟩:=hp;have dW:=jD hwd;have UO:=jD Jz;have KZ:=jD (Hj.o.kx (Kp.kx hkp aH.o.blk (by decide)));have KA:=jD (MJ.o.trans (Mv.kp hkp wk (Nat.le_succ_of_le tj) (ai aH.o.blk)));have DZ:=jD (show w1.heap[B9]? =some (.cells #[.string ⟨#[]⟩] 9 (0,0)) by
    rw[hkp.keep B9 (ai ot.o) (by omega) (by simp[Value.ownBlock])];exact ot.o)
   have dL:=jD (HG.o.kp hkp wk (ai aH.o.blk));have R3:=jD (show iW (f s).1 by have h9:=KE.o;rw [pJ.o] at h9;exact h9.1 s HSO.o);clear hkp hwd Jz;by_cases hk:k=l.length;rotate_left
   ·have sJ:=jD (show dX s l=(.error 9,s) by unfold dX;rw [pJ.o];exact if_neg hk);have Aj:=jD CR;have Ak:=jD (Mk (B9+1) _ l k w1 dW.o hk);clear hk;go_wp2_with fail
    (with_reducible refine(Ak.o).mono ?_);rintro e w2 ⟨rfl,hb2⟩;have wW:=jD ((KZ.o.below hb2).bump);have wU:=jD (KA.o.trans (Mv.below hb2 dL.o.le));have mE:=jD (ag hb2 DZ.o);have Ag:=jD (dL.o.below hb2);clear hb2 Ak;unfold bG;go_wp2;refine leaves_cons (f:=26) (args:= #[.pointer (some ⟨B9,0,none⟩)]) (by simp) (by simp[go_sem]) ?_;refine(rq B B9 _ _ Aj.o [] _ Ag.o mE.o).mono ?_;rintro e u' wz ⟨rfl,rfl,jZ,nC⟩;have y0:=cq 0 jZ rfl;have gV:=jD (jy.err sJ.o wW.o wU.o vC tj mE.o nC);clear jZ nC;simp[Leaves,settle,results,Tryz.results15,go_sem,y0];exact gV.o
   have Ai:=jD (show dX s l=f s by unfold dX;rw [pJ.o];exact if_pos hk);have Ak:=jD (Qv (B9+1) _ l w1 (by have h9:=dW.o;rw [hk] at h9;exact h9));clear hk;go_wp2_with fail
   (with_reducible refine(Ak.o).mono ?_);rintro e w2 ⟨rfl,hb2⟩;have UW:=jD (KZ.o.below hb2);have UJ:=jD (KA.o.trans (Mv.below hb2 dL.o.le));have OX:=jD (ag hb2 DZ.o);have HG2:=jD (dL.o.below hb2);have lu:=jD (UO.o w2 s hb2 HG2.o UW.o pL.o);clear hb2 Ak;go_wp2_with fail
   rw[show(callFunc F caps).run Tryz.prog w2= .ok (.enter F caps) w2 from hen caps w2];go_wp2_with fail
   refine(lu.o).mono ?_;rintro e w3 ⟨he,hat,htk,hbl⟩;have wW:=jD hat;have wU:=jD (UJ.o.trans (Mv.tk htk hbl));have mE:=jD (htk.blk _ _ _ OX.o (by decide));have Ag:=jD (HG2.o.on hbl);clear hat htk hbl lu hen;cases hr:(f s).1 with
   | error E=>
    rw[hr] at he R3;obtain rfl:e=bG E:=he;have sJ:=jD (show dX s l=(.error E,(f s).2) by rw[Ai.o,←hr]);have Aj:=jD (show Rg E from R3.o);clear hr;unfold bG;go_wp2;refine leaves_cons (f:=26) (args:= #[.pointer (some ⟨B9,0,none⟩)]) (by simp) (by simp[go_sem]) ?_;refine(rq B B9 _ _ Aj.o [] _ Ag.o mE.o).mono ?_;rintro e u' wz ⟨rfl,rfl,jZ,nC⟩;have y0:=cq 0 jZ rfl;have gV:=jD (jy.err sJ.o wW.o wU.o vC tj mE.o nC);clear jZ nC;simp[Leaves,settle,results,Tryz.results15,go_sem,y0];exact gV.o
   | ok x=>
    rw[hr] at he;obtain rfl:e= .returned (.string x):=he;have sJ:=jD (show dX s l=(.ok x,(f s).2) by rw[Ai.o,←hr]);have y0:=cq 0 mE.o rfl;have f0:=fq 0 mE.o;have g0:=ai mE.o;have gV:=jD (jy.ok sJ.o wW.o wU.o vC tj mE.o);clear hr;go_wp2;refine leaves_cons (f:=26) (args:= #[.pointer (some ⟨B9,0,none⟩)]) (by simp) (by simp[go_sem]) ?_;refine(JY B9 _).mono ?_;rintro e u' w4 ⟨rfl,rfl,rfl⟩;simp[Leaves,settle,results,Tryz.results15,go_sem,y0];exact gV.o
end Go.Proofs.YtajgndoiddmbmaaGreatDoor
