/- What Get and Past answer of a shelf that was laid of told versions. No program in sight. Histories of versions that sites made, and what a shelf holds after some were taken. No program in sight. What the laws on sites call: siteBegun, two, synced, wanted. A site that makes versions, one by one. No program in sight. A site makes some versions (reedkeep.makes). Written by a small program (gen/site10.py). What the laws on sites want: sites asking each other. No walk here. One who follows a site that only makes; one who asks for the first time. No program in sight. -/
import Derived.Test.YtgkgdedhicnohaaGreatMSiteC
namespace Go.Proofs.YtgkgdedhicnohaaGreat
set_option maxRecDepth 100000
set_option maxHeartbeats 40000000
open Go.RowKit
theorem mem_get {X:List Ver} {i:ByteArray} {v:Ver} :v∈getL X i↔v∈X∧v.id=i:=by
 unfold getL;rw [List.mem_filter,decide_eq_true_eq]
structure Hx (U:List Ver):Prop where
 ok: ∀v∈U,VerOk v
 inj: ∀v∈U,∀w∈U,v.ds=w.ds→v.dc=w.dc→v=w
 src: ∀a∈U,∀s c:Int,0≤s→s < 5→1≤c→c≤1000→knIn a.past s c=true→ ∃b∈U,b.id=a.id∧b.ds=s∧b.dc=c
 closed: ∀a∈U,∀b∈U,knIn a.past b.ds b.dc=true→ ∀s c:Int,0≤s→s < 5→1≤c→c≤1000→knIn b.past s c=true→knIn a.past s c=true
theorem Hx.nil:Hx []:=⟨by simp,by simp,by simp,by simp⟩
theorem Hx.uni {U:List Ver} (h:Hx U) (hl:U.length≤60):Uni U where
 ok:=h.ok
 len:=hl
 key:=fun v hv w hw hk=>h.inj v hv w hw hk.2.1 hk.2.2
 trans:=fun a ha b hb c hc h1 h2=>by
  simp only[verOver,Bool.and_eq_true,decide_eq_true_eq] at h1 h2 ⊢
  have hr:=dot_rng (h.ok c hc).dot
  exact⟨h1.1.trans h2.1,h.closed a ha b hb h1.2 c.ds c.dc hr.1 hr.2.1 hr.2.2.1 hr.2.2.2 h2.2⟩
theorem Hx.past_src {U:List Ver} (h:Hx U) {i:ByteArray} {C:List Ver} (hC: ∀w∈C,w∈U∧w.id=i) {s c:Int} (h0:0≤s) (h5:s < 5) (h1:1≤c) (h1000:c≤1000) (hp:pastP C s c=true): ∃b∈U,b.id=i∧b.ds=s∧b.dc=c:=by
 obtain⟨w,hw,hk⟩:=pastP_iff.1 hp
 obtain⟨hw1,hw2⟩:=hC w hw
 rcases hk with hk | hk
 ·obtain⟨b,hb,h6,h7⟩:=h.src w hw1 s c h0 h5 h1 h1000 hk
  exact⟨b,hb,h6.trans hw2,h7⟩
 ·exact⟨w,hw1,hw2,hk⟩
theorem Hx.past_few {U:List Ver} (h:Hx U) {i:ByteArray} {C:List Ver} (hC: ∀w∈C,w∈U∧w.id=i):(formK (pastP C)).more.length≤U.length:=
 more_few _ fun s c h0 h5 h1 h1000 hp=>by
  obtain⟨b,hb, -,h6⟩:=h.past_src hC h0 h5 h1 h1000 hp
  exact⟨b,hb,h6⟩
theorem Hx.snoc {U:List Ver} (h:Hx U) {v:Ver} (hid:idOk v.id=true) (hdot:dotOk (v.ds,v.dc)=true) (hpt:ptOk v.tg v.nm=true) (hbd:0≤v.bd∧v.bd≤1000000)
  (hfresh: ∀w∈U,w.ds=v.ds→w.dc < v.dc) (hl:U.length≤60)
  {C:List Ver} (hC: ∀w∈C,w∈U∧w.id=v.id) (hv:v.past=formK (pastP C)):Hx (U++[v]):=by
 have hin: ∀s c:Int,0≤s→s < 5→1≤c→c≤1000→knIn v.past s c=pastP C s c:=fun s c h0 h5 h1 h1000=>by
  rw[hv,formK_in _ s c h0 h5 h1 h1000]
 have hno: ∀a∈U,¬(a.ds=v.ds∧a.dc=v.dc):=fun a ha hk=>by have:=hfresh a ha hk.1;omega
 have hr:=dot_rng hdot
 have hout:knIn v.past v.ds v.dc=false:=by
  cases hk:knIn v.past v.ds v.dc
  ·rfl
  ·exfalso
   rw[hin _ _ hr.1 hr.2.1 hr.2.2.1 hr.2.2.2] at hk
   obtain⟨b,hb, -,h6⟩:=h.past_src hC hr.1 hr.2.1 hr.2.2.1 hr.2.2.2 hk
   exact hno b hb h6
 have hmem: ∀x,x∈U++[v]↔x∈U∨x=v:=fun x=>by simp
 refine⟨?_, ?_, ?_, ?_⟩
 ·intro x hx
  rcases(hmem x).1 hx with hx | rfl
  ·exact h.ok x hx
  ·exact⟨hid,hdot,hpt,hbd,by rw[hv];exact formK_ok _,by rw[hv];exact Nat.le_trans (h.past_few hC) hl,hout⟩
 ·intro x hx y hy h1 h2
  rcases(hmem x).1 hx with hx | rfl
  ·rcases(hmem y).1 hy with hy | rfl
   ·exact h.inj x hx y hy h1 h2
   ·exact absurd ⟨h1,h2⟩ (hno x ‹x∈U›)
  ·rcases(hmem y).1 hy with hy | rfl
   ·exact absurd ⟨h1.symm,h2.symm⟩ (hno y hy)
   ·rfl
 ·intro a ha s c h0 h5 h1 h1000 hk
  rcases(hmem a).1 ha with ha | rfl
  ·obtain⟨b,hb,h6⟩:=h.src a ha s c h0 h5 h1 h1000 hk
   exact⟨b,(hmem b).2 (.inl hb),h6⟩
  ·rw[hin s c h0 h5 h1 h1000] at hk
   obtain⟨b,hb,h6⟩:=h.past_src hC h0 h5 h1 h1000 hk
   exact⟨b,(hmem b).2 (.inl hb),h6⟩
 ·intro a ha b hb hk s c h0 h5 h1 h1000 hbk
  rcases(hmem b).1 hb with hb | rfl
  ·have hrb:=dot_rng (h.ok b hb).dot
   rcases(hmem a).1 ha with ha | rfl
   ·exact h.closed a ha b hb hk s c h0 h5 h1 h1000 hbk
   ·rw[hin _ _ hrb.1 hrb.2.1 hrb.2.2.1 hrb.2.2.2] at hk
    rw[hin s c h0 h5 h1 h1000]
    obtain⟨w,hw,hk2⟩:=pastP_iff.1 hk
    refine pastP_iff.2 ⟨w,hw, .inl ?_⟩
    rcases hk2 with hk2 | hk2
    ·exact h.closed w (hC w hw).1 b ‹b∈U› hk2 s c h0 h5 h1 h1000 hbk
    ·rw[h.inj w (hC w hw).1 b ‹b∈U› hk2.1 hk2.2];exact hbk
  ·exfalso
   rcases(hmem a).1 ha with ha | rfl
   ·obtain⟨b,hb, -,h6⟩:=h.src a ha _ _ hr.1 hr.2.1 hr.2.2.1 hr.2.2.2 hk
    exact hno b hb h6
   ·rw[hout] at hk;exact absurd hk (by decide)
theorem rep_self {U L:List Ver} (hL:ShOk L) (h: ∀x∈L,x∈U):Rep U L L:=⟨h,hL.ord,fun x=>⟨fun hx=>⟨hx,fun b hb=>hL.free x hx b hb⟩,fun h=>h.1⟩⟩
theorem rep_on {U:List Ver} (hU:Uni U): ∀(V l L:List Ver),Rep U l L→(∀x∈V,x∈U)→Rep U (l++V) (laidOn L V)∧putsE L V=0
 | [],l,L,h,_=>by rw[List.append_nil];exact ⟨h,rfl⟩
 | v::V,l,L,h,hV=>by
  have h1:=h.put hU (hV v (by simp))
  have h2:=putE_rep hU h (hV v (by simp))
  obtain⟨k1,k2⟩:=rep_on hU V _ _ h1 fun x hx=>hV x (by simp[hx])
  refine⟨?_, ?_⟩
  ·rw[List.append_assoc,List.singleton_append] at k1
   exact k1
  ·unfold putsE;rw [if_neg (by omega)];exact k2
theorem drops_mem {W:List Ver} : ∀ {L:List Ver} {x:Ver},x∈dropsL L (W.map fun v=>⟨v.id,v.past⟩)↔x∈L∧ ∀b∈W,verOver b x=false:=by
 induction W with
 | nil=>intro L x;simp [dropsL]
 | cons b W ih=>
  intro L x
  show x∈dropsL (dropL L b.id b.past) (W.map fun v=>⟨v.id,v.past⟩)↔_
  rw[ih]
  unfold dropL
  rw[List.mem_filter]
  have e:underB b.id b.past x=verOver b x:=by
   unfold underB verOver
   congr 1
   rw[decide_eq_decide];exact ⟨fun h=>h.symm,fun h=>h.symm⟩
  rw[e]
  constructor
  ·rintro⟨⟨h1,h2⟩,h3⟩
   refine⟨h1,fun c hc=> ?_⟩
   rcases List.mem_cons.1 hc with rfl | hc
   ·simpa using h2
   ·exact h3 c hc
  ·rintro⟨h1,h2⟩
   exact⟨⟨h1,by rw[h2 b (by simp)];rfl⟩,fun c hc=>h2 c (by simp[hc])⟩
structure Taken (L V W R:List Ver):Prop where
 ok:ShOk R
 mem: ∀x,x∈R↔(x∈L∨x∈V)∧(∀b∈L,verOver b x=false)∧(∀b∈V,verOver b x=false)∧ ∀b∈W,verOver b x=false
theorem taken {U L V W:List Ver} (hU:Uni U) (hL:ShOk L) (hLU: ∀x∈L,x∈U) (hV: ∀x∈V,x∈U):putsE L V=0∧Taken L V W (dropsL (laidOn L V) (W.map fun v=>⟨v.id,v.past⟩)):=by
 obtain⟨h1,h2⟩:=rep_on hU V L L (rep_self hL hLU) hV
 refine⟨h2,dropsL_ok (h1.ok hU) _,fun x=> ?_⟩
 rw[drops_mem,h1.mem,List.mem_append]
 constructor
 ·rintro⟨⟨h3,h4⟩,h5⟩
  exact⟨h3,fun b hb=>h4 b (List.mem_append_left _ hb),fun b hb=>h4 b (List.mem_append_right _ hb),h5⟩
 ·rintro⟨h3,h4,h5,h6⟩
  exact⟨⟨h3,fun b hb=>(List.mem_append.1 hb).elim (h4 b) (h5 b)⟩,h6⟩
structure Made (U:List Ver) (s:SiteS):Prop where
 hx:Hx U
 sub: ∀x∈s.L,x∈U
 low: ∀w∈U,w.ds=s.me→w.dc≤s.made
theorem madeV_hx {U:List Ver} {s:SiteS} (h:Made U s) (hs:SiteOk s) (hl:U.length≤60) (hm:s.made < 1000) {id:ByteArray} (hid:idOk id=true) {t n bd:Int} (hb:madeB t n bd=false):Hx (U++[madeV s id t n bd]):=by
 simp only[madeB,Bool.or_eq_false_iff,Bool.not_eq_false',decide_eq_false_iff_not] at hb
 refine h.hx.snoc hid ?_ hb.1.1 (by show 0≤bd∧bd≤1000000;omega) (fun w hw e=>by have:=h.low w hw e;show w.dc < s.made+1;omega) hl (C:=getL s.L id) (fun w hw=>⟨h.sub w (mem_get.1 hw).1,(mem_get.1 hw).2⟩) rfl
 show dotOk (s.me,s.made+1)=true
 have:=hs.me
 have:=hs.made
 exact dotOk_iff.2 ⟨by simp only;omega,by simp only;omega,by simp only;omega⟩
theorem madeE_ok {U:List Ver} {s:SiteS} (h:Made U s) (hs:SiteOk s) (hl:U.length < 60) (hm:s.made < 1000) {id:ByteArray} (hid:idOk id=true) {t n bd:Int} (hb:madeB t n bd=false):madeE s id t n bd=0:=by
 have hx:=madeV_hx h hs (by omega) hm hid hb
 have hu:=hx.uni (by rw[List.length_append,List.length_singleton];omega)
 refine madeE_zero.2 ⟨hid,hb,by omega, ?_, ?_⟩
 ·unfold pastE
  rw[if_neg (by rw[shelfChk_zero.2 hs.L];decide)]
  unfold kE pastF
  have:=h.hx.past_few (i:=id) (C:=getL s.L id) fun w hw=>⟨h.sub w (mem_get.1 hw).1,(mem_get.1 hw).2⟩
  rw[if_neg (by omega)]
 ·exact putE_rep hu (rep_self hs.L fun x hx=>List.mem_append_left _ (h.sub x hx)) (by simp)
theorem made_mem {U:List Ver} {s:SiteS} (h:Made U s) (hs:SiteOk s) (hl:U.length≤60) (hm:s.made < 1000) {id:ByteArray} (hid:idOk id=true) {t n bd:Int} (hb:madeB t n bd=false) (x:Ver):
  x∈putL s.L (madeV s id t n bd)↔x=madeV s id t n bd∨x∈s.L∧x.id≠id:=by
 have hx:=madeV_hx h hs hl hm hid hb
 have hv:=hx.ok _ (List.mem_append_right _ (List.mem_singleton.2 rfl))
 have h1: ∀w∈s.L,verCmp w (madeV s id t n bd)≠0:=fun w hw e=>by
  obtain⟨-,e2,e3⟩:=(vcmp_zero _ _).1 e
  have:=h.low w (h.sub w hw) e2
  have e3:w.dc=s.made+1:=e3
  omega
 have h2: ∀w∈s.L,verOver w (madeV s id t n bd)=false:=fun w hw=>by
  cases ho:verOver w (madeV s id t n bd)
  ·rfl
  ·exfalso
   simp only[verOver,Bool.and_eq_true,decide_eq_true_eq] at ho
   have hr:=dot_rng hv.dot
   obtain⟨b,hbU, -,e2,e3⟩:=h.hx.src w (h.sub w hw) _ _ hr.1 hr.2.1 hr.2.2.1 hr.2.2.2 ho.2
   have:=h.low b hbU e2
   have e3:b.dc=s.made+1:=e3
   omega
 rw[put_mem hv h1 h2]
 refine or_congr Iff.rfl (and_congr_right fun hxl=> ?_)
 have hr:=dot_rng (h.hx.ok x (h.sub x hxl)).dot
 unfold verOver
 by_cases e:x.id=id
 ·have e2:(madeV s id t n bd).id=x.id:=e.symm
  have e3:knIn (madeV s id t n bd).past x.ds x.dc=true:=by
   show knIn (pastF s.L id) x.ds x.dc=true
   unfold pastF
   rw[formK_in _ _ _ hr.1 hr.2.1 hr.2.2.1 hr.2.2.2]
   exact pastP_iff.2 ⟨x,mem_get.2 ⟨hxl,e⟩, .inr ⟨rfl,rfl⟩⟩
  rw[decide_eq_true e2,e3];simp [e]
 ·have e2: ¬(madeV s id t n bd).id=x.id:=fun h=>e h.symm
  rw[decide_eq_false e2];simp [e]
theorem giveB_congr {r:SiteS} (h:SiteOk r) {st sm:Int} {p q:Nat→Nat→Bool} {A:List SP} (hpq: ∀t n,t < 16→n < 32→p t n=q t n):giveB r st sm p A=giveB r st sm q A:=by
 have hin: ∀v∈r.L,inP p v=inP q v:=fun v hv=>by
  obtain⟨h1,h2,h3,h4⟩:=pt_rng (h.L.ok v hv).pt
  exact hpq _ _ (by omega) (by omega)
 unfold giveB
 congr 1
 ·unfold giveV
  exact List.filter_congr fun v hv=>by rw[hin v hv]
 ·unfold giveG
  congr 1
  exact List.filter_congr fun v hv=>by rw[hin v hv]
 ·exact narrow_congr h.known hpq
theorem EveryPost.own {w w':World} {e:Ending} (h:EveryPost w e w'): ∃v,e= .returned v∧FOwn w' w.heap.size v everyB∧Below w.heap.size w w':=by
 obtain⟨g,h',rfl,h1,h2,h3,h4,h5,h6⟩:=h
 exact⟨_,rfl,boxOwn (s:=(0,32)) h1 h2 h4 h5,h6⟩
theorem everyS (w:World):Calls Tryz.prog 15 #[] w fun e w'=> ∃v,e= .returned v∧FOwn w' w.heap.size v everyB∧Below w.heap.size w w':=
 (everyX w).mono fun _ _ h=>EveryPost.own h
theorem gone_bd {g:Gn} (h:goneChk g=0):g.past.vec.length≤5∧g.past.more.length≤60:=by
 unfold goneChk at h
 cases hi:idOk g.id
 ·rw[if_pos hi] at h;exact absurd h (by decide)
 ·rw[if_neg (by rw[hi];decide)] at h
  exact⟨(knChk_zero.1 h).1.len,(knChk_zero.1 h).2⟩
theorem every_chk:fChk everyB=0:=by decide
theorem over_made {U:List Ver} {s:SiteS} (h:Made U s) {id:ByteArray} {t n bd:Int} {x:Ver} (hx:x∈s.L):verOver (madeV s id t n bd) x=decide (x.id=id):=by
 have hr:=dot_rng (h.hx.ok x (h.sub x hx)).dot
 unfold verOver
 by_cases e:x.id=id
 ·have e2:(madeV s id t n bd).id=x.id:=e.symm
  have e3:knIn (madeV s id t n bd).past x.ds x.dc=true:=by
   show knIn (pastF s.L id) x.ds x.dc=true
   unfold pastF
   rw[formK_in _ _ _ hr.1 hr.2.1 hr.2.2.1 hr.2.2.2]
   exact pastP_iff.2 ⟨x,mem_get.2 ⟨hx,e⟩, .inr ⟨rfl,rfl⟩⟩
  rw[decide_eq_true e2,e3,decide_eq_true e];rfl
 ·have e2: ¬(madeV s id t n bd).id=x.id:=fun h=>e h.symm
  rw[decide_eq_false e2,decide_eq_false e];rfl
def sidA (k:Nat):ByteArray:=if k=0 then⟨#[97]⟩ else if k=1 then⟨#[98]⟩ else if k=2 then⟨#[99]⟩ else⟨#[100]⟩
theorem sidA_ok (k:Nat):idOk (sidA k)=true:=by
 unfold sidA
 split
 ·decide
 ·split
  ·decide
  ·split <;> decide
theorem madeB_ok {t n bd:Nat} (ht:t < 16) (hn:n < 32) (hb:bd≤1000000):madeB (t:Int) (n:Int) (bd:Int)=false:=by
 have h1:ptOk (t:Int) (n:Int)=true:=by
  simp only[ptOk,tagsB,Bool.and_eq_true,decide_eq_true_eq];omega
 unfold madeB
 rw[h1,Bool.or_eq_false_iff,Bool.or_eq_false_iff,decide_eq_false_iff_not,decide_eq_false_iff_not]
 exact⟨⟨rfl,by omega⟩,by omega⟩
def StrRow (w:World) (lo n:Nat) (cs:Array Value) (v:Value):Prop:= ∃q,v= .slice (some ⟨q,0,none⟩) n n∧w.heap[q]? =some (Obj.cells cs 9 (0,0))∧lo≤q
theorem StrRow.below {w w':World} {lo n:Nat} {cs:Array Value} {v:Value} (h:StrRow w lo n cs v) (hb:Below w.heap.size w w'):StrRow w' lo n cs v:=by
 obtain⟨q,h1,h2,h3⟩:=h;exact ⟨q,h1,below_keep hb h2,h3⟩
def StrPt (w:World) (lo k:Nat) (cs:Array Value) (v:Value):Prop:= ∃q,v= .pointer (some ⟨q,k,none⟩)∧w.heap[q]? =some (Obj.cells cs 9 (0,0))∧lo≤q
theorem StrPt.below {w w':World} {lo k:Nat} {cs:Array Value} {v:Value} (h:StrPt w lo k cs v) (hb:Below w.heap.size w w'):StrPt w' lo k cs v:=by
 obtain⟨q,h1,h2,h3⟩:=h;exact ⟨q,h1,below_keep hb h2,h3⟩
def DotNew (w:World) (lo:Nat) (v:Value):Prop:= ∃q,v= .pointer (some ⟨q,0,none⟩)∧w.heap[q]? =some (Obj.cells #[.int .i64 0, .int .i64 0] 41 (0,0))∧lo≤q
theorem DotNew.below {w w':World} {lo:Nat} {v:Value} (h:DotNew w lo v) (hb:Below w.heap.size w w'):DotNew w' lo v:=by
 obtain⟨q,h1,h2,h3⟩:=h;exact ⟨q,h1,below_keep hb h2,h3⟩
theorem DotNew.stp {w w':World} {lo g:Nat} {v:Value} (h:DotNew w lo v) (hs:Stp (fun q=>q=g) w w') (hg:g < lo):DotNew w' lo v:=by
 obtain⟨q,h1,h2,h3⟩:=h;exact ⟨q,h1,hs.block h2 (by omega),h3⟩
def DotIs (w:World) (lo:Nat) (x y:Int) (v:Value):Prop:= ∃q,v= .pointer (some ⟨q,0,none⟩)∧w.heap[q]? =some (Obj.cells #[.int .i64 x, .int .i64 y] 41 (0,0))∧lo≤q
theorem DotIs.below {w w':World} {lo:Nat} {x y:Int} {v:Value} (h:DotIs w lo x y v) (hb:Below w.heap.size w w'):DotIs w' lo x y v:=by
 obtain⟨q,h1,h2,h3⟩:=h;exact ⟨q,h1,below_keep hb h2,h3⟩
theorem names3 {k:Nat} (h:k < 3):(#[.string { data:= #[97] }, .string { data:= #[98] }, .string { data:= #[99] }]:Array Value)[k]? =some (.string (sidA k)):=by
 obtain rfl | rfl | rfl:k=0∨k=1∨k=2:=by omega
 all_goals rfl
theorem three_ints {w:World} {v:Value} {l:List Int} (h:IsAt w v l) (h3:3≤l.length): ∃cb coff cc,v= .slice (some ⟨cb,coff,none⟩) l.length cc∧cb < w.heap.size∧ ∃x0 x1 x2,w.cell? ⟨cb,coff,none⟩=some (.int .i64 x0)∧w.cell? ⟨cb,coff+1,none⟩=some (.int .i64 x1)∧w.cell? ⟨cb,coff+2,none⟩=some (.int .i64 x2)∧l[0]? =some x0∧l[1]? =some x1∧l[2]? =some x2:=by
 obtain⟨a,c,rfl, -, -, -,hl⟩:=h.open_
 rcases hl with hn | ⟨b,off,rfl,hb,hc⟩
 ·rw[hn] at h3;simp at h3
 ·exact⟨b,off,c,rfl,hb,l[0],l[1],l[2],(by have:=hc 0 (by omega);rwa [Nat.add_zero] at this),hc 1 (by omega),hc 2 (by omega),by simp,by simp,by simp⟩
theorem SiteAt.mono {w:World} {b b' g:Nat} {s:SiteS} (h:SiteAt w b g s) (hb:b'≤b):SiteAt w b' g s:=by
 obtain⟨f,l,p,h1,h2,h3,h4⟩:=h.cells
 exact⟨h.ok,Nat.le_trans hb h.ge,f,l,p,h1,FO.mono h2 hb,VOwn.mono h3 hb,PtsOwnA.mono h4 hb⟩
theorem knV_eq {s:SiteS} (hs:SiteOk s) {v:Ver} (hv:VerOk v):knV (knownS s) v=((decide (v.ds=s.me)&&decide (v.dc≤s.made)) || knV s.S v):=by
 obtain⟨p1,p2,p3,p4⟩:=pt_rng hv.pt
 obtain⟨d1,d2,d3,d4⟩:=dot_rng hv.dot
 exact knows_known hs (by omega) (by omega) d1 d2 d3 d4
end Go.Proofs.YtgkgdedhicnohaaGreat
