/- A site: what it holds, and where it lies in memory. No walk here. What the statements on dropping want of shelves as lists. No program in sight. What a site does, as functions on what it holds. No program in sight. What a site's own part is. -/
import Derived.Test.YtgkgdedhicnohaaGreatMPart8
import Derived.Test.YtgkgdedhicnohaaGreatMPartA
import Derived.Test.YtgkgdedhicnohaaGreatMRoom
import Derived.Test.YtgkgdedhicnohaaGreatWireKeep
import Derived.Test.YtgkgdedhicnohaaGreatMRev
namespace Go.Proofs.YtgkgdedhicnohaaGreat
set_option maxRecDepth 100000
set_option maxHeartbeats 40000000
open Go.RowKit
def dataT (t:Nat):Bool:=t==3 || t==41 || t==124 || t==119 || t==75 || t==105 || t==101
theorem dataT_int:dataT 3=true:=by decide
theorem dataT_dot:dataT 41=true:=by decide
theorem dataT_box:dataT 124=true:=by decide
theorem dataT_span:dataT 119=true:=by decide
theorem dataT_ver:dataT 75=true:=by decide
theorem dataT_part:dataT 105=true:=by decide
theorem dataT_gone:dataT 101=true:=by decide
theorem TKeep.trans {T:Nat→Bool} {a b c:World} (h:TKeep T a b) (k:TKeep T b c):TKeep T a c:=⟨Nat.le_trans h.size k.size,fun j cs t h1 h2=>k.blk j cs t (h.blk j cs t h1 h2) h2⟩
structure Stp (G:Nat→Prop) (w w':World):Prop where
 sp:Sp G w w'
 tk:TKeep dataT w w'
theorem Stp.size {G:Nat→Prop} {w w':World} (h:Stp G w w'):w.heap.size≤w'.heap.size:=h.sp.size
theorem Stp.of_below {G:Nat→Prop} {w w':World} (h:Below w.heap.size w w'):Stp G w w':=⟨Sp.of_below h,TKeep.of_below h⟩
theorem Stp.refl (G:Nat→Prop) (w:World):Stp G w w:=⟨Sp.refl _ _,TKeep.refl _ _⟩
theorem Stp.mono {G H:Nat→Prop} {w w':World} (h:Stp G w w') (hGH: ∀k,G k→H k):Stp H w w':=⟨h.sp.mono hGH,h.tk⟩
theorem Stp.trans {G:Nat→Prop} {a b c:World} (h:Stp G a b) (k:Stp G b c):Stp G a c:=⟨h.sp.trans k.sp,h.tk.trans k.tk⟩
theorem Stp.below {G:Nat→Prop} {a b c:World} (h:Stp G a b) (k:Below b.heap.size b c):Stp G a c:=h.trans (Stp.of_below k)
theorem Stp.drew {G:Nat→Prop} {a b:World} (h:Stp G a b):Stp G a b.drew:=h.below ((Below.refl _ _).drew)
theorem Stp.block {G:Nat→Prop} {w w':World} {g:Nat} {o:Obj} (h:Stp G w w') (hg:w.heap[g]? =some o) (hS: ¬G g):w'.heap[g]? =some o:=h.sp.block hg hS
theorem Stp.set {w:World} {g j:Nat} {v:Value} {cs:Array Value} {t:TypeId} (hg:w.heap[g]? =some (Obj.cells cs t (0,0))) (ht:dataT t=false):Stp (fun q=>q=g) w (w.setCell ⟨g,j,none⟩ v):=by
 refine⟨?_,TKeep.of_set hg ht⟩
 refine⟨rfl,rfl,rfl,by simp,fun k _ hk=>heap_set_other hk,fun k cs' e' hc=> ?_⟩
 by_cases hk:k=g
 ·subst hk
  rw[hg] at hc
  simp only[Option.some.injEq,Obj.cells.injEq,and_true] at hc
  obtain⟨rfl,rfl⟩:=hc
  exact⟨_,heap_set_same hg,by simp⟩
 ·exact⟨cs',(heap_set_other hk).trans hc,rfl⟩
theorem FOwn.stp {G:Nat→Prop} {w w':World} {base:Nat} {v:Value} {l:Bxs} (h:FOwn w base v l) (hs:Stp G w w'):FOwn w' base v l:=h.tk hs.tk dataT_box dataT_span
theorem FO.stp {G:Nat→Prop} {w w':World} {base:Nat} {v:Value} {p:Nat→Nat→Bool} (h:FO w base v p) (hs:Stp G w w'):FO w' base v p:=by
 obtain⟨l,h1,h2,h3⟩:=h;exact ⟨l,FOwn.stp h1 hs,h2,h3⟩
theorem VOwn.stp {G:Nat→Prop} {w w':World} {base:Nat} {v:Value} {l:List Ver} (h:VOwn w base v l) (hs:Stp G w w'):VOwn w' base v l:=h.tk hs.tk dataT_int dataT_dot dataT_ver
theorem GOwn.stp {G:Nat→Prop} {w w':World} {base:Nat} {v:Value} {l:List Gn} (h:GOwn w base v l) (hs:Stp G w w'):GOwn w' base v l:=h.tk hs.tk dataT_int dataT_dot dataT_gone
theorem POwnA.tk {T:Nat→Bool} {w w':World} {base:Nat} {v:Value} {l:List Pt} (h:POwnA w base v l) (hk:TKeep T w w') (h1:T 3=true) (h2:T 41=true) (h3:T 124=true) (h4:T 119=true) (h5:T 105=true):POwnA w' base v l:=by
 obtain⟨css,Ss,h⟩:=h
 refine⟨css,Ss,h.lc,h.ls,hk.owns h.row h5,fun i a b c=>(h.each i a b c).map (fun _ hq=>hq) (fun e size n y xs he hr=>hk.owns hr ?_),h.apart,fun i hi q hq=>Nat.lt_of_lt_of_le (h.low i hi q hq) hk.size⟩
 rcases he with rfl | rfl | rfl | rfl <;> assumption
theorem PtsOwnA.stp {G:Nat→Prop} {w w':World} {base:Nat} {v:Value} {S:List SP} (h:PtsOwnA w base v S) (hs:Stp G w w'):PtsOwnA w' base v S:=by
 obtain⟨l,h1,h2⟩:=h;exact ⟨l,h1.tk hs.tk dataT_int dataT_dot dataT_box dataT_span dataT_part,h2⟩
theorem PtsOwnA.sem {w:World} {base:Nat} {v:Value} {S:List SP} (h:PtsOwnA w base v S) (hl:S.length≤1000):PtsSem w v S:=by
 obtain⟨l,h1,h2,rfl⟩:=h
 exact⟨l,h1.at_ (fun p hp=>(h2 p hp).1) (by simpa using hl),fun p hp=>(h2 p hp).1,rfl⟩
structure SiteS where
 me:Int
 made:Int
 stamp:Int
 P:Nat→Nat→Bool
 L:List Ver
 S:List SP
def everP (t n:Nat):Bool:=decide (t < 16)&&decide (n < 32)
def ownVec (me made:Int):List Int:=if made=0 then [] else List.replicate me.toNat 0++[made]
def ownSP (s:SiteS):SP:=⟨everP,⟨ownVec s.me s.made,[]⟩⟩
def knownS (s:SiteS):List SP:=fewS (ownSP s::s.S)
structure SiteOk (s:SiteS):Prop where
 me:0≤s.me∧s.me < 5
 made:0≤s.made∧s.made≤1000
 stamp:0≤s.stamp∧s.stamp≤1000000
 L:ShOk s.L
 S: ∀x∈s.S,SPOk x
 len:s.S.length≤29
def siteC (s:SiteS) (f l p:Value):Array Value:= #[.int .i64 s.me, .int .i64 s.made, .int .i64 s.stamp,f,l,p]
structure SiteAt (w:World) (b g:Nat) (s:SiteS):Prop where
 ok:SiteOk s
 ge:b≤g
 cells: ∃f l p,w.heap[g]? =some (.cells (siteC s f l p) 128 (0,0))∧FO w b f s.P∧VOwn w b l s.L∧PtsOwnA w b p s.S
theorem SiteAt.stp {G:Nat→Prop} {w w':World} {b g:Nat} {s:SiteS} (h:SiteAt w b g s) (hs:Stp G w w') (hG: ¬G g):SiteAt w' b g s:=by
 obtain⟨f,l,p,h1,h2,h3,h4⟩:=h.cells
 exact⟨h.ok,h.ge,f,l,p,hs.block h1 hG,h2.stp hs,h3.stp hs,h4.stp hs⟩
theorem SiteAt.below {w w':World} {b g:Nat} {s:SiteS} (h:SiteAt w b g s) (hb:Below w.heap.size w w'):SiteAt w' b g s:=h.stp (G:=fun _=>False) (Stp.of_below hb) fun h=>h
theorem SiteAt.lt {w:World} {b g:Nat} {s:SiteS} (h:SiteAt w b g s):g < w.heap.size:=by
 obtain⟨f,l,p,h1, -⟩:=h.cells;exact hlt_of h1
theorem FO.shape0 {w:World} {base:Nat} {v:Value} {p:Nat→Nat→Bool} (h:FO w base v p): ∃a n c,v= .slice a n c:=by
 obtain⟨l,⟨us, -,h1, -⟩, -⟩:=h
 obtain⟨a,c,hv⟩:=owns_slice h1
 exact⟨a,_,c,hv⟩
theorem drop_zero {l:List Ver} {id:ByteArray} {k:Kn} (h:ShOk l) (hid:idOk id=true) (hk:knChk k=0):dropE l id k=0:=by
 unfold dropE;rw [if_neg (by rw[shelfChk_zero.2 h];decide),if_neg (by rw[hid];decide),hk]
theorem everP_rng:PRng everP:=fun t n h=>by
 unfold everP
 by_cases h1:t < 16
 ·rw[decide_eq_false (fun h2=>h ⟨h1,h2⟩),Bool.and_false]
 ·rw[decide_eq_false h1,Bool.false_and]
theorem everP_in {t n:Nat} (ht:t < 16) (hn:n < 32):everP t n=true:=by unfold everP;rw [decide_eq_true ht,decide_eq_true hn];rfl
theorem ownVec_ok {me made:Int} (hm:0≤me∧me < 5) (hd:0≤made∧made≤1000):KnOk ⟨ownVec me made,[]⟩:=by
 refine⟨?_, ?_, ?_,by simp,by simp⟩
 ·show(ownVec me made).length≤5
  unfold ownVec;split
  ·simp
  ·simp;omega
 ·intro n hn
  have hn:n∈ownVec me made:=hn
  unfold ownVec at hn
  split at hn
  ·simp at hn
  ·rw[List.mem_append,List.mem_singleton] at hn
   rcases hn with hn | rfl
   ·have:=List.eq_of_mem_replicate hn;omega
   ·exact hd
 ·show(ownVec me made).getLast? ≠some 0
  unfold ownVec;split
  ·simp
  ·rename_i h;simp [h]
theorem SiteOk.own {s:SiteS} (h:SiteOk s):SPOk (ownSP s):=⟨everP_rng,ownVec_ok h.me h.made,by simp[ownSP]⟩
theorem SiteOk.all {s:SiteS} (h:SiteOk s): ∀x∈ownSP s::s.S,SPOk x:=fun x hx=>(List.mem_cons.1 hx).elim (fun e=>e ▸ h.own) (h.S x)
theorem SiteOk.known {s:SiteS} (h:SiteOk s): ∀x∈knownS s,SPOk x:=few_ok h.all
theorem SiteOk.klen {s:SiteS} (h:SiteOk s):(knownS s).length≤30:=by
 have:=few_len (ownSP s::s.S)
 have h2:=h.len
 rw[List.length_cons] at this
 unfold knownS;omega
def inP (p:Nat→Nat→Bool) (v:Ver):Bool:=p v.tg.toNat v.nm.toNat
def knV (S:List SP) (v:Ver):Bool:=knowsS S v.tg.toNat v.nm.toNat v.ds v.dc
def madeV (s:SiteS) (id:ByteArray) (t n bd:Int):Ver:=⟨id,s.me,s.made+1,t,n,bd,pastF s.L id⟩
def madeB (t n bd:Int):Bool:=(!ptOk t n || decide (bd < 0)) || decide (1000000 < bd)
def madeE (s:SiteS) (id:ByteArray) (t n bd:Int):Int:=
 if idOk id=false then 3 else if madeB t n bd=true then 1 else if s.made=1000 then 2 else if pastE s.L id≠0 then pastE s.L id else putE s.L (madeV s id t n bd)
def madeS (s:SiteS) (id:ByteArray) (t n bd:Int):SiteS:=if madeE s id t n bd=0 then { s with L:=putL s.L (madeV s id t n bd),made:=s.made+1 } else s
theorem madeE_zero {s:SiteS} {id:ByteArray} {t n bd:Int} :madeE s id t n bd=0↔idOk id=true∧madeB t n bd=false∧s.made≠1000∧pastE s.L id=0∧putE s.L (madeV s id t n bd)=0:=by
 unfold madeE
 cases h1:idOk id
 ·simp
 ·cases h2:madeB t n bd
  ·by_cases h3:s.made=1000
   ·simp[h3]
   ·by_cases h4:pastE s.L id=0
    ·simp[h3,h4]
    ·simp[h3,h4]
  ·simp
theorem madeS_ok {s:SiteS} (h:SiteOk s) (id:ByteArray) (t n bd:Int):SiteOk (madeS s id t n bd):=by
 unfold madeS
 split
 ·rename_i he
  obtain⟨h1,h2,h3,h4,h5⟩:=madeE_zero.1 he
  obtain⟨k1,k2,k3⟩:=putE_zero.1 h5
  exact⟨h.me,⟨by have:=h.made.1;show 0≤s.made+1;omega,by have:=h.made.2;show s.made+1≤1000;omega⟩,h.stamp,put_ok k1 k2 k3,h.S,h.len⟩
 ·exact h
theorem narrow_len (l:List SP) (q:Nat→Nat→Bool):(narrowS l q).length≤l.length:=by
 unfold narrowS
 exact Nat.le_trans (few_len _) (by rw[List.length_map];exact Nat.le_refl _)
theorem narrow_ok' {l:List SP} {q:Nat→Nat→Bool} (h: ∀x∈l,SPOk x): ∀x∈narrowS l q,SPOk x:=few_ok (narrow_ok h)
def giveV (L:List Ver) (p:Nat→Nat→Bool) (A:List SP):List Ver:=L.filter fun v=>inP p v&& !knV A v
def giveG (L:List Ver) (p:Nat→Nat→Bool):List Gn:=(L.filter fun v=> !inP p v).map fun v=>⟨v.id,v.past⟩
def giveS (s:SiteS) (p:Nat→Nat→Bool):List SP:=narrowS (knownS s) p
structure BtS where
 site:Int
 stamp:Int
 V:List Ver
 G:List Gn
 S:List SP
structure BtSOk (b:BtS):Prop where
 site:0≤b.site∧b.site < 5
 stamp:0≤b.stamp∧b.stamp≤1000000
 lv:b.V.length≤60
 lg:b.G.length≤60
 V: ∀v∈b.V,VerOk v
 G: ∀g∈b.G,goneChk g=0
 S: ∀x∈b.S,SPOk x
 ls:b.S.length≤30
structure BtOwn (w:World) (base:Nat) (vv gv pv:Value) (b:BtS):Prop where
 vers:VOwn w base vv b.V
 gone:GOwn w base gv b.G
 parts:PtsOwnA w base pv b.S
theorem BtOwn.stp {G:Nat→Prop} {w w':World} {base:Nat} {vv gv pv:Value} {b:BtS} (h:BtOwn w base vv gv pv b) (hs:Stp G w w'):BtOwn w' base vv gv pv b:=⟨h.vers.stp hs,h.gone.stp hs,h.parts.stp hs⟩
theorem BtOwn.below {w w':World} {base:Nat} {vv gv pv:Value} {b:BtS} (h:BtOwn w base vv gv pv b) (hb:Below w.heap.size w w'):BtOwn w' base vv gv pv b:=h.stp (G:=fun _=>False) (Stp.of_below hb)
theorem BtOwn.mono {w:World} {base base':Nat} {vv gv pv:Value} {b:BtS} (h:BtOwn w base vv gv pv b) (hb:base'≤base):BtOwn w base' vv gv pv b:=⟨h.vers.mono hb,h.gone.mono hb,h.parts.mono hb⟩
def giveB (s:SiteS) (site stamp:Int) (p:Nat→Nat→Bool) (A:List SP):BtS:=⟨site,stamp,giveV s.L p A,giveG s.L p,giveS s p⟩
theorem VerOk.gone {v:Ver} (h:VerOk v):goneChk ⟨v.id,v.past⟩=0:=by
 unfold goneChk
 rw[if_neg (by rw[h.id];decide)]
 exact knChk_zero.2 ⟨h.past,h.len⟩
theorem giveB_ok {s:SiteS} (h:SiteOk s) {site stamp:Int} (h1:0≤site∧site < 5) (h2:0≤stamp∧stamp≤1000000) (p:Nat→Nat→Bool) (A:List SP):BtSOk (giveB s site stamp p A):=by
 refine⟨h1,h2,Nat.le_trans (List.length_filter_le _ _) h.L.len, ?_,fun v hv=>h.L.ok v (List.mem_filter.1 hv).1,fun g hg=> ?_,narrow_ok' h.known,Nat.le_trans (narrow_len _ _) h.klen⟩
 ·show(giveG s.L p).length≤60
  unfold giveG;rw [List.length_map];exact Nat.le_trans (List.length_filter_le _ _) h.L.len
 ·obtain⟨v,hv,rfl⟩:=List.mem_map.1 hg
  exact(h.L.ok v (List.mem_filter.1 hv).1).gone
def putsE:List Ver→List Ver→Int
 | _,[]=>0
 | L,v::V=>if putE L v≠0 then putE L v else putsE (putL L v) V
def dropsL (L:List Ver) (G:List Gn):List Ver:=G.foldl (fun l g=>dropL l g.id g.past) L
def tookE (s:SiteS) (b:BtS):Int:=
 if b.site≠s.me then 1 else if b.stamp≠s.stamp then 6 else if putsE s.L b.V≠0 then putsE s.L b.V else if 30≤(fewS (s.S++b.S)).length then 2 else 0
def tookS (s:SiteS) (b:BtS):SiteS:=if tookE s b=0 then { s with L:=dropsL (laidOn s.L b.V) b.G,S:=fewS (s.S++b.S) } else s
theorem putsE_append: ∀(L V:List Ver) (v:Ver),putsE L (V++[v])=if putsE L V≠0 then putsE L V else putE (laidOn L V) v
 | L,[],v=>by
  show putsE L [v]=if (0:Int)≠0 then 0 else putE L v
  rw[if_neg (by decide)]
  unfold putsE putsE
  by_cases h:putE L v≠0
  ·rw[if_pos h]
  ·rw[if_neg h];omega
 | L,u::V,v=>by
  show putsE L (u::(V++[v]))=_
  unfold putsE
  by_cases h:putE L u≠0
  ·rw[if_pos h,if_pos h,if_pos h]
  ·rw[if_neg h,if_neg h,putsE_append];rfl
theorem laidOn_ok {L V:List Ver} (hL:ShOk L) (h:putsE L V=0):ShOk (laidOn L V):=by
 induction V generalizing L with
 | nil=>exact hL
 | cons v V ih=>
  unfold putsE at h
  by_cases h1:putE L v≠0
  ·rw[if_pos h1] at h;exact absurd h h1
  ·rw[if_neg h1] at h
   have h1:putE L v=0:=by simpa using h1
   obtain⟨k1,k2,k3⟩:=putE_zero.1 h1
   exact ih (put_ok k1 k2 k3) h
theorem dropsL_ok {L:List Ver} (hL:ShOk L): ∀G,ShOk (dropsL L G):=by
 intro G
 induction G generalizing L with
 | nil=>exact hL
 | cons g G ih=>exact ih (hL.filter _)
theorem tookE_zero {s:SiteS} {b:BtS} :tookE s b=0↔b.site=s.me∧b.stamp=s.stamp∧putsE s.L b.V=0∧(fewS (s.S++b.S)).length≤29:=by
 unfold tookE
 by_cases h1:b.site=s.me
 ·by_cases h2:b.stamp=s.stamp
  ·by_cases h3:putsE s.L b.V=0
   ·by_cases h4:30≤(fewS (s.S++b.S)).length
    ·simp[h1,h2,h3,h4];omega
    ·simp[h1,h2,h3,h4];omega
   ·simp[h1,h2,h3]
  ·simp[h1,h2]
 ·simp[h1]
theorem tookS_ok {s:SiteS} (h:SiteOk s) {b:BtS} (hb:BtSOk b):SiteOk (tookS s b):=by
 unfold tookS
 split
 ·rename_i he
  obtain⟨h1,h2,h3,h4⟩:=tookE_zero.1 he
  exact⟨h.me,h.made,h.stamp,dropsL_ok (laidOn_ok h.L h3) _,few_ok fun x hx=>(List.mem_append.1 hx).elim (h.S x) (hb.S x),h4⟩
 ·exact h
def everyB:Bxs:=[⟨0,0,[(0,32)]⟩]
theorem ownRow (m:Nat) (made:Int):(List.replicate (m+1) (Value.int .i64 0)).toArray.setIfInBounds m (.int .i64 made)=(intsC (List.replicate m 0++[made])).toArray:=by
 apply Array.toList_inj.1
 simp only[Array.toList_setIfInBounds]
 rw[List.replicate_succ']
 simp[intsC]
theorem own_blk {w:World} {base g n:Nat} {l:List Int} (hg:w.heap[g]? =some (Obj.cells (intsC l).toArray 3 (0,0))) (hl:l.length=n) (hb:base≤g) (hn:n≤1000):w.ownsRow base 3 1 (.slice (some ⟨g,0,none⟩) n n) l.length (intsC l):=by
 subst hl
 exact⟨by simp[intsC], .inr ⟨g,_,_,rfl,hb,hg,Nat.le_refl _,by unfold maxLen;omega,by simp[intsC],by simp[intsC,List.take_of_length_le]⟩⟩
def OwnPost (w:World) (me made:Int) (e:Ending) (w':World):Prop:=
 ∃f u,e= .returned (.agg #[f,u, .slice none 0 0])∧FOwn w' w.heap.size f everyB∧w'.ownsRow w.heap.size 3 1 u (ownVec me made).length (intsC (ownVec me made))∧Below w.heap.size w w'
theorem own_c0 (g m:Nat) (made stamp:Int) (f l p:Value) (w:World) (hm:m < 5) (hmade:0≤made∧made≤1000) (hb:w.heap[g]? =some (.cells #[.int .i64 (m:Int), .int .i64 made, .int .i64 stamp,f,l,p] 128 (0,0))):
  Calls Tryz.prog 131 #[.pointer (some ⟨g,0,none⟩)] w (OwnPost w (m:Int) made):=by
 obtain⟨W,hW⟩: ∃W,W=w.alloc (.cells #[.slice none 0 0, .slice none 0 0, .slice none 0 0] 105):=⟨_,rfl⟩
 have hbW:Below w.heap.size w W:=by rw[hW];exact bal _
 have hgl:=hlt_of hb
 have hb1:=below_keep hbW hb
 have hr1:W.heap[w.heap.size]? =some (Obj.cells #[.slice none 0 0, .slice none 0 0, .slice none 0 0] 105 (0,0)):=by rw[hW];exact alloc_new _ _ _ _ rfl
 obtain⟨w2,hmk,hown,hbm⟩:=mk_slice (P:=Tryz.prog) W 35 3 (.int .i64 0) 1 8 Tryz.underlying35 IcTy.info (m+1) (by omega) (by unfold maxLen;omega)
 rw[madeCells_one _ rfl] at hown
 have hG:=own_full hown (by omega)
 have hb2:=below_keep hbm hb1
 have hr2:=below_keep hbm hr1
 have hWs:W.heap.size=w.heap.size+1:=by rw[hW,World.size_alloc]
 rw[hWs] at hG hmk
 have HG:=jD hG
 have HB:=jD hb2
 have HR:=jD hr2
 have HBL:=jD (bstep hbW hbm)
 push_cast at hmk
 have c0:=cell_of_block (j:=0) hb rfl
 clear hown hG hb hb1 hb2 hr1 hr2 hbm hbW hWs
 subst hW
 go_enter Tryz.func131,Tryz.ntmps131
 go_wp2
 clear hmk c0
 have k0:=cell_of_block (j:=0) HB.out rfl
 have k1:=cell_of_block (j:=1) HB.out rfl
 have z:=cell_of_block (j:=m) (v:= .int .i64 0) HG.out (by simp)
 have zf:=free_of_block (j:=m) HG.out
 have hl:=hlt_of HG.out
 have hi:(m:Int) < (m:Int)+1:=by omega
 go_region
 obtain⟨w3,hw3⟩: ∃w3,w3=w2.setCell ⟨w.heap.size+1,m,none⟩ (.int .i64 made):=⟨_,rfl⟩
 rw[←hw3]
 have hG3:w3.heap[w.heap.size+1]? =some (Obj.cells (intsC (List.replicate m 0++[made])).toArray 3 (0,0)):=by
  rw[hw3,heap_set_same HG.out]
  congr 2
  exact ownRow m made
 have hB3:w3.heap[g]? =some (Obj.cells #[.int .i64 (m:Int), .int .i64 made, .int .i64 stamp,f,l,p] 128 (0,0)):=by rw[hw3,heap_set_other (by omega)];exact HB.out
 have hR3:w3.heap[w.heap.size]? =some (Obj.cells #[.slice none 0 0, .slice none 0 0, .slice none 0 0] 105 (0,0)):=by rw[hw3,heap_set_other (by omega)];exact HR.out
 have HBL3:=jD (show Below w.heap.size w w3 by rw[hw3];exact HBL.out.setCell (p:=⟨w.heap.size+1,m,none⟩) (by simp) _)
 have HG3:=jD hG3
 have HR3:=jD hR3
 clear hw3 HG HR HB HBL k0 k1 z zf hl hi hR3
 have k1:=cell_of_block (j:=1) hB3 rfl
 have hl:=hlt_of hG3
 clear hG3 hB3
 by_cases h0:made=0
 ·subst h0
  have k1:w3.cell? ⟨g,1,none⟩=some (.int .i64 0):=k1
  go_wp2_with fail
  (with_reducible refine(everyX _).mono ?_)
  rintro e w5 ⟨b1,b2,rfl,hb1,hb2,hne,e1,e2,hb5⟩
  have hs3:w3.drew.heap.size=w3.heap.size:=rfl
  rw[hs3] at hb1 hb2 hb5
  have HR5:=jD (below_keep (w:=w3.drew) hb5 HR3.out)
  have HG5:=jD (below_keep (w:=w3.drew) hb5 HG3.out)
  have HE1:=jD e1
  have HE2:=jD e2
  have HB5:=jD (bstep HBL3.out.drew hb5)
  have H12:=jD (show w.heap.size+1 < b1∧w.heap.size+1 < b2 by omega)
  have q0:=cell_of_block (j:=0) HR5.out rfl
  have q1:=cell_of_block (j:=1) HR5.out rfl
  have q2:=cell_of_block (j:=2) HR5.out rfl
  have f0:=free_of_block (j:=0) HR5.out
  have f1:=free_of_block (j:=1) HR5.out
  have f2:=free_of_block (j:=2) HR5.out
  have hl5:=hlt_of HR5.out
  clear e1 e2 hb5 hb1 hb2 hne HG3 HR3 HBL3 k1 hl hs3
  go_wp2
  refine bodyPost_ret (v:= .agg #[.slice (some ⟨b2,0,none⟩) 1 1, .slice none 0 0, .slice none 0 0]) (by simp[results,Tryz.results131,go_sem, *]) rfl ?_
  have h12:=H12.out
  exact⟨_,_,rfl,boxOwn (base:=w.heap.size) (g:=b1) (h:=b2) (s:=(0,32)) (by omega) (by omega) (by simp only[heap_set_other (show b1≠w.heap.size by omega)];exact HE1.out) (by simp only[heap_set_other (show b2≠w.heap.size by omega)];exact HE2.out),by unfold ownVec;rw [if_pos rfl];exact World.ownsRow_nil _ _ _ _,
   ((HB5.out.setCell (p:=⟨w.heap.size,0,none⟩) (by simp) _).setCell (p:=⟨w.heap.size,1,none⟩) (by simp) _).setCell (p:=⟨w.heap.size,2,none⟩) (by simp) _⟩
 ·have k1:w3.cell? ⟨g,1,none⟩=some (.int .i64 made):=k1
  have hd:decide (made=0)=false:=by simpa using h0
  go_wp2_with fail
  (with_reducible refine(everyX _).mono ?_)
  rintro e w5 ⟨b1,b2,rfl,hb1,hb2,hne,e1,e2,hb5⟩
  have hs3:w3.drew.heap.size=w3.heap.size:=rfl
  rw[hs3] at hb1 hb2 hb5
  have HR5:=jD (below_keep (w:=w3.drew) hb5 HR3.out)
  have HG5:=jD (below_keep (w:=w3.drew) hb5 HG3.out)
  have HE1:=jD e1
  have HE2:=jD e2
  have HB5:=jD (bstep HBL3.out.drew hb5)
  have H12:=jD (show w.heap.size+1 < b1∧w.heap.size+1 < b2 by omega)
  have q0:=cell_of_block (j:=0) HR5.out rfl
  have q1:=cell_of_block (j:=1) HR5.out rfl
  have q2:=cell_of_block (j:=2) HR5.out rfl
  have f0:=free_of_block (j:=0) HR5.out
  have f1:=free_of_block (j:=1) HR5.out
  have f2:=free_of_block (j:=2) HR5.out
  have hl5:=hlt_of HR5.out
  clear e1 e2 hb5 hb1 hb2 hne HG3 HR3 HBL3 k1 hl hs3
  go_wp2
  refine bodyPost_ret (v:= .agg #[.slice (some ⟨b2,0,none⟩) 1 1, .slice (some ⟨w.heap.size+1,0,none⟩) (m+1) (m+1), .slice none 0 0]) (by simp[results,Tryz.results131,go_sem, *]) rfl ?_
  have h12:=H12.out
  exact⟨_,_,rfl,boxOwn (base:=w.heap.size) (g:=b1) (h:=b2) (s:=(0,32)) (by omega) (by omega) (by simp only[heap_set_other (show b1≠w.heap.size by omega)];exact HE1.out) (by simp only[heap_set_other (show b2≠w.heap.size by omega)];exact HE2.out),by
    unfold ownVec;rw [if_neg h0,Int.toNat_natCast]
    refine own_blk ?_ (by simp) (by simp) (by omega)
    simp only[heap_set_other (show w.heap.size+1≠w.heap.size by omega)]
    have:=HG5.out
    simpa using this,
   ((HB5.out.setCell (p:=⟨w.heap.size,0,none⟩) (by simp) _).setCell (p:=⟨w.heap.size,1,none⟩) (by simp) _).setCell (p:=⟨w.heap.size,2,none⟩) (by simp) _⟩
theorem own_c (g:Nat) (s:SiteS) (f l p:Value) (w:World) (hok:SiteOk s) (hb:w.heap[g]? =some (.cells (siteC s f l p) 128 (0,0))):
  Calls Tryz.prog 131 #[.pointer (some ⟨g,0,none⟩)] w (OwnPost w s.me s.made):=by
 obtain⟨m,hm⟩:=Int.eq_ofNat_of_zero_le hok.me.1
 have h5:=hok.me.2
 unfold siteC at hb
 rw[hm] at hb h5 ⊢
 exact own_c0 g m s.made s.stamp f l p w (by omega) hok.made hb
def ownPt (s:SiteS):Pt:=⟨everyB,⟨ownVec s.me s.made,[]⟩⟩
theorem every_all:ptsOf everyB=everP:=by
 refine(ptsOf_rng _).ext everP_rng fun t n ht hn=> ?_
 rw[ptsOf_in ht hn,everP_in ht hn]
 simp[everyB,inF,all_pts t ht,inB];omega
theorem ownPt_sem (s:SiteS):sem (ownPt s)=ownSP s:=by
 unfold sem ownPt ownSP
 simp only[every_all]
theorem ownPt_ok {s:SiteS} (h:SiteOk s):PtOk (ownPt s):=⟨show fChk everyB=0 by decide,knChk_zero.2 ⟨ownVec_ok h.me h.made,by simp[ownPt]⟩⟩
end Go.Proofs.YtgkgdedhicnohaaGreat
