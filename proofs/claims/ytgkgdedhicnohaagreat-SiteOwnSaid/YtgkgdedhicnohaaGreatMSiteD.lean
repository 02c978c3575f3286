/- What Get and Past answer of a shelf that was laid of told versions. No program in sight. Histories of versions that sites made, and what a shelf holds after some were taken. No program in sight. What the laws on sites call: siteBegun, two, synced, wanted. A site that makes versions, one by one. No program in sight. A site makes some versions (reedkeep.makes). Written by a small program (gen/site10.py). What the laws on sites want: sites asking each other. No walk here. -/
import Derived.Test.YtgkgdedhicnohaaGreatMSiteC
namespace Go.Proofs.YtgkgdedhicnohaaGreat
set_option maxRecDepth 100000
set_option maxHeartbeats 40000000
open Go.RowKit
theorem mem_get {X:List Ver} {i:ByteArray} {v:Ver} :v∈getL X i↔v∈X∧v.id=i:=by
 unfold getL;rw [List.mem_filter,decide_eq_true_eq]
structure Hx (U:List Ver):Prop where
 ok: ∀v∈U,VerOk v
 inj: ∀v∈U,∀w∈U,v.ds=w.ds→v.dc=w.dc→v=w
 src: ∀a∈U,∀s c:Int,0≤s→s < 5→1≤c→c≤1000→knIn a.past s c=true→ ∃b∈U,b.id=a.id∧b.ds=s∧b.dc=c
 closed: ∀a∈U,∀b∈U,knIn a.past b.ds b.dc=true→ ∀s c:Int,0≤s→s < 5→1≤c→c≤1000→knIn b.past s c=true→knIn a.past s c=true
theorem Hx.nil:Hx []:=⟨by simp,by simp,by simp,by simp⟩
theorem Hx.uni {U:List Ver} (h:Hx U) (hl:U.length≤60):Uni U where
 ok:=h.ok
 len:=hl
 key:=fun v hv w hw hk=>h.inj v hv w hw hk.2.1 hk.2.2
 trans:=fun a ha b hb c hc h1 h2=>by
  simp only[verOver,Bool.and_eq_true,decide_eq_true_eq] at h1 h2 ⊢
  have hr:=dot_rng (h.ok c hc).dot
  exact⟨h1.1.trans h2.1,h.closed a ha b hb h1.2 c.ds c.dc hr.1 hr.2.1 hr.2.2.1 hr.2.2.2 h2.2⟩
theorem Hx.past_src {U:List Ver} (h:Hx U) {i:ByteArray} {C:List Ver} (hC: ∀w∈C,w∈U∧w.id=i) {s c:Int} (h0:0≤s) (h5:s < 5) (h1:1≤c) (h1000:c≤1000) (hp:pastP C s c=true): ∃b∈U,b.id=i∧b.ds=s∧b.dc=c:=by
 obtain⟨w,hw,hk⟩:=pastP_iff.1 hp
 obtain⟨hw1,hw2⟩:=hC w hw
 rcases hk with hk | hk
 ·obtain⟨b,hb,h6,h7⟩:=h.src w hw1 s c h0 h5 h1 h1000 hk
  exact⟨b,hb,h6.trans hw2,h7⟩
 ·exact⟨w,hw1,hw2,hk⟩
theorem Hx.past_few {U:List Ver} (h:Hx U) {i:ByteArray} {C:List Ver} (hC: ∀w∈C,w∈U∧w.id=i):(formK (pastP C)).more.length≤U.length:=
 more_few _ fun s c h0 h5 h1 h1000 hp=>by
  obtain⟨b,hb, -,h6⟩:=h.past_src hC h0 h5 h1 h1000 hp
  exact⟨b,hb,h6⟩
theorem Hx.snoc {U:List Ver} (h:Hx U) {v:Ver} (hid:idOk v.id=true) (hdot:dotOk (v.ds,v.dc)=true) (hpt:ptOk v.tg v.nm=true) (hbd:0≤v.bd∧v.bd≤1000000)
  (hfresh: ∀w∈U,w.ds=v.ds→w.dc < v.dc) (hl:U.length≤60)
  {C:List Ver} (hC: ∀w∈C,w∈U∧w.id=v.id) (hv:v.past=formK (pastP C)):Hx (U++[v]):=by
 have hin: ∀s c:Int,0≤s→s < 5→1≤c→c≤1000→knIn v.past s c=pastP C s c:=fun s c h0 h5 h1 h1000=>by
  rw[hv,formK_in _ s c h0 h5 h1 h1000]
 have hno: ∀a∈U,¬(a.ds=v.ds∧a.dc=v.dc):=fun a ha hk=>by have:=hfresh a ha hk.1;omega
 have hr:=dot_rng hdot
 have hout:knIn v.past v.ds v.dc=false:=by
  cases hk:knIn v.past v.ds v.dc
  ·rfl
  ·exfalso
   rw[hin _ _ hr.1 hr.2.1 hr.2.2.1 hr.2.2.2] at hk
   obtain⟨b,hb, -,h6⟩:=h.past_src hC hr.1 hr.2.1 hr.2.2.1 hr.2.2.2 hk
   exact hno b hb h6
 have hmem: ∀x,x∈U++[v]↔x∈U∨x=v:=fun x=>by simp
 refine⟨?_, ?_, ?_, ?_⟩
 ·intro x hx
  rcases(hmem x).1 hx with hx | rfl
  ·exact h.ok x hx
  ·exact⟨hid,hdot,hpt,hbd,by rw[hv];exact formK_ok _,by rw[hv];exact Nat.le_trans (h.past_few hC) hl,hout⟩
 ·intro x hx y hy h1 h2
  rcases(hmem x).1 hx with hx | rfl
  ·rcases(hmem y).1 hy with hy | rfl
   ·exact h.inj x hx y hy h1 h2
   ·exact absurd ⟨h1,h2⟩ (hno x ‹x∈U›)
  ·rcases(hmem y).1 hy with hy | rfl
   ·exact absurd ⟨h1.symm,h2.symm⟩ (hno y hy)
   ·rfl
 ·intro a ha s c h0 h5 h1 h1000 hk
  rcases(hmem a).1 ha with ha | rfl
  ·obtain⟨b,hb,h6⟩:=h.src a ha s c h0 h5 h1 h1000 hk
   exact⟨b,(hmem b).2 (.inl hb),h6⟩
  ·rw[hin s c h0 h5 h1 h1000] at hk
   obtain⟨b,hb,h6⟩:=h.past_src hC h0 h5 h1 h1000 hk
   exact⟨b,(hmem b).2 (.inl hb),h6⟩
 ·intro a ha b hb hk s c h0 h5 h1 h1000 hbk
  rcases(hmem b).1 hb with hb | rfl
  ·have hrb:=dot_rng (h.ok b hb).dot
   rcases(hmem a).1 ha with ha | rfl
   ·exact h.closed a ha b hb hk s c h0 h5 h1 h1000 hbk
   ·rw[hin _ _ hrb.1 hrb.2.1 hrb.2.2.1 hrb.2.2.2] at hk
    rw[hin s c h0 h5 h1 h1000]
    obtain⟨w,hw,hk2⟩:=pastP_iff.1 hk
    refine pastP_iff.2 ⟨w,hw, .inl ?_⟩
    rcases hk2 with hk2 | hk2
    ·exact h.closed w (hC w hw).1 b ‹b∈U› hk2 s c h0 h5 h1 h1000 hbk
    ·rw[h.inj w (hC w hw).1 b ‹b∈U› hk2.1 hk2.2];exact hbk
  ·exfalso
   rcases(hmem a).1 ha with ha | rfl
   ·obtain⟨b,hb, -,h6⟩:=h.src a ha _ _ hr.1 hr.2.1 hr.2.2.1 hr.2.2.2 hk
    exact hno b hb h6
   ·rw[hout] at hk;exact absurd hk (by decide)
theorem rep_self {U L:List Ver} (hL:ShOk L) (h: ∀x∈L,x∈U):Rep U L L:=⟨h,hL.ord,fun x=>⟨fun hx=>⟨hx,fun b hb=>hL.free x hx b hb⟩,fun h=>h.1⟩⟩
theorem rep_on {U:List Ver} (hU:Uni U): ∀(V l L:List Ver),Rep U l L→(∀x∈V,x∈U)→Rep U (l++V) (laidOn L V)∧putsE L V=0
 | [],l,L,h,_=>by rw[List.append_nil];exact ⟨h,rfl⟩
 | v::V,l,L,h,hV=>by
  have h1:=h.put hU (hV v (by simp))
  have h2:=putE_rep hU h (hV v (by simp))
  obtain⟨k1,k2⟩:=rep_on hU V _ _ h1 fun x hx=>hV x (by simp[hx])
  refine⟨?_, ?_⟩
  ·rw[List.append_assoc,List.singleton_append] at k1
   exact k1
  ·unfold putsE;rw [if_neg (by omega)];exact k2
theorem drops_mem {W:List Ver} : ∀ {L:List Ver} {x:Ver},x∈dropsL L (W.map fun v=>⟨v.id,v.past⟩)↔x∈L∧ ∀b∈W,verOver b x=false:=by
 induction W with
 | nil=>intro L x;simp [dropsL]
 | cons b W ih=>
  intro L x
  show x∈dropsL (dropL L b.id b.past) (W.map fun v=>⟨v.id,v.past⟩)↔_
  rw[ih]
  unfold dropL
  rw[List.mem_filter]
  have e:underB b.id b.past x=verOver b x:=by
   unfold underB verOver
   congr 1
   rw[decide_eq_decide];exact ⟨fun h=>h.symm,fun h=>h.symm⟩
  rw[e]
  constructor
  ·rintro⟨⟨h1,h2⟩,h3⟩
   refine⟨h1,fun c hc=> ?_⟩
   rcases List.mem_cons.1 hc with rfl | hc
   ·simpa using h2
   ·exact h3 c hc
  ·rintro⟨h1,h2⟩
   exact⟨⟨h1,by rw[h2 b (by simp)];rfl⟩,fun c hc=>h2 c (by simp[hc])⟩
structure Taken (L V W R:List Ver):Prop where
 ok:ShOk R
 mem: ∀x,x∈R↔(x∈L∨x∈V)∧(∀b∈L,verOver b x=false)∧(∀b∈V,verOver b x=false)∧ ∀b∈W,verOver b x=false
theorem taken {U L V W:List Ver} (hU:Uni U) (hL:ShOk L) (hLU: ∀x∈L,x∈U) (hV: ∀x∈V,x∈U):putsE L V=0∧Taken L V W (dropsL (laidOn L V) (W.map fun v=>⟨v.id,v.past⟩)):=by
 obtain⟨h1,h2⟩:=rep_on hU V L L (rep_self hL hLU) hV
 refine⟨h2,dropsL_ok (h1.ok hU) _,fun x=> ?_⟩
 rw[drops_mem,h1.mem,List.mem_append]
 constructor
 ·rintro⟨⟨h3,h4⟩,h5⟩
  exact⟨h3,fun b hb=>h4 b (List.mem_append_left _ hb),fun b hb=>h4 b (List.mem_append_right _ hb),h5⟩
 ·rintro⟨h3,h4,h5,h6⟩
  exact⟨⟨h3,fun b hb=>(List.mem_append.1 hb).elim (h4 b) (h5 b)⟩,h6⟩
structure Made (U:List Ver) (s:SiteS):Prop where
 hx:Hx U
 sub: ∀x∈s.L,x∈U
 low: ∀w∈U,w.ds=s.me→w.dc≤s.made
theorem madeV_hx {U:List Ver} {s:SiteS} (h:Made U s) (hs:SiteOk s) (hl:U.length≤60) (hm:s.made < 1000) {id:ByteArray} (hid:idOk id=true) {t n bd:Int} (hb:madeB t n bd=false):Hx (U++[madeV s id t n bd]):=by
 simp only[madeB,Bool.or_eq_false_iff,Bool.not_eq_false',decide_eq_false_iff_not] at hb
 refine h.hx.snoc hid ?_ hb.1.1 (by show 0≤bd∧bd≤1000000;omega) (fun w hw e=>by have:=h.low w hw e;show w.dc < s.made+1;omega) hl (C:=getL s.L id) (fun w hw=>⟨h.sub w (mem_get.1 hw).1,(mem_get.1 hw).2⟩) rfl
 show dotOk (s.me,s.made+1)=true
 have:=hs.me
 have:=hs.made
 exact dotOk_iff.2 ⟨by simp only;omega,by simp only;omega,by simp only;omega⟩
theorem madeE_ok {U:List Ver} {s:SiteS} (h:Made U s) (hs:SiteOk s) (hl:U.length < 60) (hm:s.made < 1000) {id:ByteArray} (hid:idOk id=true) {t n bd:Int} (hb:madeB t n bd=false):madeE s id t n bd=0:=by
 have hx:=madeV_hx h hs (by omega) hm hid hb
 have hu:=hx.uni (by rw[List.length_append,List.length_singleton];omega)
 refine madeE_zero.2 ⟨hid,hb,by omega, ?_, ?_⟩
 ·unfold pastE
  rw[if_neg (by rw[shelfChk_zero.2 hs.L];decide)]
  unfold kE pastF
  have:=h.hx.past_few (i:=id) (C:=getL s.L id) fun w hw=>⟨h.sub w (mem_get.1 hw).1,(mem_get.1 hw).2⟩
  rw[if_neg (by omega)]
 ·exact putE_rep hu (rep_self hs.L fun x hx=>List.mem_append_left _ (h.sub x hx)) (by simp)
theorem made_mem {U:List Ver} {s:SiteS} (h:Made U s) (hs:SiteOk s) (hl:U.length≤60) (hm:s.made < 1000) {id:ByteArray} (hid:idOk id=true) {t n bd:Int} (hb:madeB t n bd=false) (x:Ver):
  x∈putL s.L (madeV s id t n bd)↔x=madeV s id t n bd∨x∈s.L∧x.id≠id:=by
 have hx:=madeV_hx h hs hl hm hid hb
 have hv:=hx.ok _ (List.mem_append_right _ (List.mem_singleton.2 rfl))
 have h1: ∀w∈s.L,verCmp w (madeV s id t n bd)≠0:=fun w hw e=>by
  obtain⟨-,e2,e3⟩:=(vcmp_zero _ _).1 e
  have:=h.low w (h.sub w hw) e2
  have e3:w.dc=s.made+1:=e3
  omega
 have h2: ∀w∈s.L,verOver w (madeV s id t n bd)=false:=fun w hw=>by
  cases ho:verOver w (madeV s id t n bd)
  ·rfl
  ·exfalso
   simp only[verOver,Bool.and_eq_true,decide_eq_true_eq] at ho
   have hr:=dot_rng hv.dot
   obtain⟨b,hbU, -,e2,e3⟩:=h.hx.src w (h.sub w hw) _ _ hr.1 hr.2.1 hr.2.2.1 hr.2.2.2 ho.2
   have:=h.low b hbU e2
   have e3:b.dc=s.made+1:=e3
   omega
 rw[put_mem hv h1 h2]
 refine or_congr Iff.rfl (and_congr_right fun hxl=> ?_)
 have hr:=dot_rng (h.hx.ok x (h.sub x hxl)).dot
 unfold verOver
 by_cases e:x.id=id
 ·have e2:(madeV s id t n bd).id=x.id:=e.symm
  have e3:knIn (madeV s id t n bd).past x.ds x.dc=true:=by
   show knIn (pastF s.L id) x.ds x.dc=true
   unfold pastF
   rw[formK_in _ _ _ hr.1 hr.2.1 hr.2.2.1 hr.2.2.2]
   exact pastP_iff.2 ⟨x,mem_get.2 ⟨hxl,e⟩, .inr ⟨rfl,rfl⟩⟩
  rw[decide_eq_true e2,e3];simp [e]
 ·have e2: ¬(madeV s id t n bd).id=x.id:=fun h=>e h.symm
  rw[decide_eq_false e2];simp [e]
theorem giveB_congr {r:SiteS} (h:SiteOk r) {st sm:Int} {p q:Nat→Nat→Bool} {A:List SP} (hpq: ∀t n,t < 16→n < 32→p t n=q t n):giveB r st sm p A=giveB r st sm q A:=by
 have hin: ∀v∈r.L,inP p v=inP q v:=fun v hv=>by
  obtain⟨h1,h2,h3,h4⟩:=pt_rng (h.L.ok v hv).pt
  exact hpq _ _ (by omega) (by omega)
 unfold giveB
 congr 1
 ·unfold giveV
  exact List.filter_congr fun v hv=>by rw[hin v hv]
 ·unfold giveG
  congr 1
  exact List.filter_congr fun v hv=>by rw[hin v hv]
 ·exact narrow_congr h.known hpq
def syncB (s r:SiteS):BtS:=giveB r s.me s.stamp s.P (knownS s)
theorem syncB_ok {s r:SiteS} (hs:SiteOk s) (hr:SiteOk r):BtSOk (syncB s r):=giveB_ok hr hs.me hs.stamp _ _
theorem EveryPost.own {w w':World} {e:Ending} (h:EveryPost w e w'): ∃v,e= .returned v∧FOwn w' w.heap.size v everyB∧Below w.heap.size w w':=by
 obtain⟨g,h',rfl,h1,h2,h3,h4,h5,h6⟩:=h
 exact⟨_,rfl,boxOwn (s:=(0,32)) h1 h2 h4 h5,h6⟩
theorem everyS (w:World):Calls Tryz.prog 15 #[] w fun e w'=> ∃v,e= .returned v∧FOwn w' w.heap.size v everyB∧Below w.heap.size w w':=
 (everyX w).mono fun _ _ h=>EveryPost.own h
theorem gone_bd {g:Gn} (h:goneChk g=0):g.past.vec.length≤5∧g.past.more.length≤60:=by
 unfold goneChk at h
 cases hi:idOk g.id
 ·rw[if_pos hi] at h;exact absurd h (by decide)
 ·rw[if_neg (by rw[hi];decide)] at h
  exact⟨(knChk_zero.1 h).1.len,(knChk_zero.1 h).2⟩
theorem every_chk:fChk everyB=0:=by decide
theorem siteBegun_c (w:World):Calls Tryz.prog 37 #[] w fun e w'=>e= .returned (.bool true)∧Below w.heap.size w w':=by
 have HE:=jD (everyS w)
 go_enter Tryz.func37,Tryz.ntmps37
 go_wp2_with fail
 (with_reducible refine(HE.out).mono ?_)
 rintro e w1 ⟨ev,rfl,he,hb1⟩
 have HN:=jD (snew_c 2 ev everyB w1 ⟨by decide,by decide⟩ (he.at_ok every_chk) every_chk)
 have HB1:=jD hb1
 obtain⟨ea,ec,hev⟩:=(he.at_ok every_chk).shape
 subst hev
 clear he hb1 HE
 go_wp2_with fail
 (with_reducible refine(HN.out).mono ?_)
 rintro e w2 ⟨g,rfl,hs,hb2⟩
 have HS:=jD hs
 have HL:=jD ((Lw.refl w).below (bstep HB1.out hb2))
 have HG:=jD (show w.heap.size≤g from Nat.le_trans HB1.out.size hs.ge)
 have hM:Made [] (newS 2 (ptsOf everyB)):=⟨Hx.nil,by simp[newS],by simp⟩
 have hz:madeE (newS 2 (ptsOf everyB)) ⟨#[97]⟩ 0 0 7=0:=madeE_ok hM hs.ok (by decide) (by decide) (by decide) (by decide)
 have HZ:=jD hz
 have HK:=jD (show(madeS (newS 2 (ptsOf everyB)) ⟨#[97]⟩ 0 0 7).L.length=1 by
  have e:(madeS (newS 2 (ptsOf everyB)) ⟨#[97]⟩ 0 0 7).L=putL [] (madeV (newS 2 (ptsOf everyB)) ⟨#[97]⟩ 0 0 7):=by unfold madeS;rw [if_pos hz];rfl
  rw[e]
  have hv:=(madeV_hx hM hs.ok (by decide) (by decide) (id:=⟨#[97]⟩) (t:=0) (n:=0) (bd:=7) (by decide) (by decide)).ok _ (List.mem_append_right _ (List.mem_singleton.2 rfl))
  unfold putL putB insL
  simp[over_self hv])
 have HM:=jD (smake_c g w1.heap.size (newS 2 (ptsOf everyB)) ⟨#[97]⟩ 0 0 7 w2 hs)
 clear hs hb2 HN HB1 hM hz
 go_wp2_with fail
 (with_reducible refine(HM.out).mono ?_)
 rintro e w3 ⟨he,hs,hp⟩
 rw[if_pos HZ.out,if_pos HZ.out,HZ.out] at he
 have he:e= .returned (.tuple #[.agg #[.int .i64 2, .int .i64 1], .int .i64 0]):=he
 subst he
 have HS3:=jD hs
 have HL3:=jD (HL.out.one hp HG.out)
 clear hs hp HM HL HS
 have HB4:=jD (bal (W:=w3) (.cells #[.int .i64 2, .int .i64 1] 41))
 have HSH:=jD (sshelf_c g w1.heap.size _ _ (HS3.out.below HB4.out))
 rw[HK.out] at HSH
 go_wp2_with fail
 (with_reducible refine(HSH.out).mono ?_)
 rintro e w4 ⟨a,c,rfl, -,hb4⟩
 have HL4:=jD (HL3.out.below (bstep HB4.out hb4))
 clear hb4 HSH HB4 HL3
 go_wp2
 go_ret
 exact⟨rfl,HL4.out.toBelow⟩
theorem stwo_c (fv gv:Value) (F G:Bxs) (w:World) (hF:BxsAt w fv F) (hG:BxsAt w gv G) (hcF:fChk F=0) (hcG:fChk G=0):
  Calls Tryz.prog 39 #[fv,gv] w fun e w'=> ∃a b:Nat,e= .returned (.tuple #[.pointer (some ⟨a,0,none⟩), .pointer (some ⟨b,0,none⟩), .bool true])∧SiteAt w' w.heap.size a (newS 0 (ptsOf F))∧SiteAt w' w.heap.size b (newS 1 (ptsOf G))∧a < b∧Below w.heap.size w w':=by
 obtain⟨fa,fc,rfl⟩:=hF.shape
 obtain⟨ga,gc,rfl⟩:=hG.shape
 have HN:=jD (snew_c 0 _ F w ⟨by decide,by decide⟩ hF hcF)
 have HG:=jD hG
 have HC:=jD hcG
 clear hF hG hcF hcG
 go_enter Tryz.func39,Tryz.ntmps39
 go_wp2_with fail
 (with_reducible refine(HN.out).mono ?_)
 rintro e w1 ⟨a,rfl,hs,hb1⟩
 have HS:=jD hs
 have HB1:=jD hb1
 have HM:=jD (snew_c 1 _ G w1 ⟨by decide,by decide⟩ (HG.out.below hb1) HC.out)
 clear hs hb1 HN
 go_wp2_with fail
 (with_reducible refine(HM.out).mono ?_)
 rintro e w2 ⟨b,rfl,hs,hb2⟩
 have HS2:=jD hs
 have HB2:=jD hb2
 clear hs hb2 HM
 go_wp2
 refine bodyPost_ret (v:= .tuple #[.pointer (some ⟨a,0,none⟩), .pointer (some ⟨b,0,none⟩), .bool true]) (by simp[results,Tryz.results39,go_sem, *]) rfl ?_
 have h1:=HS.out.lt
 have h2:=HS2.out.ge
 obtain⟨f,l,p,k1,k2,k3,k4⟩:=HS2.out.cells
 exact⟨_,_,rfl,HS.out.below HB2.out,⟨HS2.out.ok,Nat.le_trans HB1.out.size HS2.out.ge,f,l,p,k1,FO.mono k2 HB1.out.size,VOwn.mono k3 HB1.out.size,PtsOwnA.mono k4 HB1.out.size⟩,by omega,bstep HB1.out HB2.out⟩
theorem made_under {U:List Ver} {s:SiteS} (h:Made U s) (hs:SiteOk s) (hm:s.made < 1000) {id:ByteArray} {t n bd:Int} : ∀w∈U,verOver w (madeV s id t n bd)=false:=fun w hw=>by
 cases ho:verOver w (madeV s id t n bd)
 ·rfl
 ·exfalso
  simp only[verOver,Bool.and_eq_true,decide_eq_true_eq] at ho
  have hme:=hs.me
  have hmd:=hs.made
  have ho2:knIn w.past s.me (s.made+1)=true:=ho.2
  obtain⟨b,hbU, -,e2,e3⟩:=h.hx.src w hw s.me (s.made+1) hme.1 hme.2 (by omega) (by omega) ho2
  have:=h.low b hbU e2
  omega
theorem over_made {U:List Ver} {s:SiteS} (h:Made U s) {id:ByteArray} {t n bd:Int} {x:Ver} (hx:x∈s.L):verOver (madeV s id t n bd) x=decide (x.id=id):=by
 have hr:=dot_rng (h.hx.ok x (h.sub x hx)).dot
 unfold verOver
 by_cases e:x.id=id
 ·have e2:(madeV s id t n bd).id=x.id:=e.symm
  have e3:knIn (madeV s id t n bd).past x.ds x.dc=true:=by
   show knIn (pastF s.L id) x.ds x.dc=true
   unfold pastF
   rw[formK_in _ _ _ hr.1 hr.2.1 hr.2.2.1 hr.2.2.2]
   exact pastP_iff.2 ⟨x,mem_get.2 ⟨hx,e⟩, .inr ⟨rfl,rfl⟩⟩
  rw[decide_eq_true e2,e3,decide_eq_true e];rfl
 ·have e2: ¬(madeV s id t n bd).id=x.id:=fun h=>e h.symm
  rw[decide_eq_false e2,decide_eq_false e];rfl
structure Grow (U:List Ver) (s:SiteS) (U':List Ver) (s':SiteS) (k:Nat):Prop where
 made:Made U' s'
 me:s'.me=s.me
 P:s'.P=s.P
 S:s'.S=s.S
 stamp:s'.stamp=s.stamp
 new: ∃N,U'=U++N∧N.length≤k∧s'.made=s.made+N.length∧(∀x∈N,x.ds=s.me∧s.made < x.dc∧x.dc≤s'.made)∧(∀x,x∈s'.L↔(x∈s.L∨x∈N)∧ ∀b∈N,verOver b x=false)
 one:(∀x∈s.L,∀y∈s.L,x.id=y.id→x=y)→ ∀x∈s'.L,∀y∈s'.L,x.id=y.id→x=y
theorem Grow.refl {U:List Ver} {s:SiteS} (h:Made U s):Grow U s U s 0:=
 ⟨h,rfl,rfl,rfl,rfl,⟨[],by simp,by simp,by simp,by simp,by simp⟩,fun h=>h⟩
theorem Grow.up {U U':List Ver} {s s':SiteS} {k k':Nat} (h:Grow U s U' s' k) (hk:k≤k'):Grow U s U' s' k':=by
 obtain⟨N,h1,h2,h3⟩:=h.new
 exact⟨h.made,h.me,h.P,h.S,h.stamp,⟨N,h1,by omega,h3⟩,h.one⟩
theorem Grow.len {U U':List Ver} {s s':SiteS} {k:Nat} (h:Grow U s U' s' k):U'.length≤U.length+k∧s.made≤s'.made∧s'.made≤s.made+k:=by
 obtain⟨N,h1,h2,h3, -⟩:=h.new
 rw[h1,List.length_append];omega
theorem Grow.step {U U':List Ver} {s s':SiteS} {k:Nat} (h:Grow U s U' s' k) (hs:SiteOk s') (hl:U'.length < 60) (hm:s'.made < 1000) {id:ByteArray} (hid:idOk id=true) {t n bd:Int} (hb:madeB t n bd=false):
  madeE s' id t n bd=0∧Grow U s (U'++[madeV s' id t n bd]) (madeS s' id t n bd) (k+1):=by
 have he:=madeE_ok h.made hs hl hm hid hb
 have hx:=madeV_hx h.made hs (by omega) hm hid hb
 have eS:madeS s' id t n bd= { s' with L:=putL s'.L (madeV s' id t n bd),made:=s'.made+1 } :=by unfold madeS;rw [if_pos he]
 have hmem:=made_mem h.made hs (by omega) hm hid hb
 have hv:=hx.ok _ (List.mem_append_right _ (List.mem_singleton.2 rfl))
 obtain⟨N,h1,h2,h3,h4,h5⟩:=h.new
 have hme:(madeV s' id t n bd).ds=s.me:=h.me
 have hdc:(madeV s' id t n bd).dc=s'.made+1:=rfl
 refine⟨he, ?_⟩
 rw[eS]
 refine⟨⟨hx,fun x hx2=> ?_,fun w hw e=> ?_⟩,h.me,h.P,h.S,h.stamp,⟨N++[madeV s' id t n bd],by rw[h1,List.append_assoc],by rw[List.length_append,List.length_singleton];omega, ?_,fun x hx2=> ?_,fun x=> ?_⟩,fun h1=> ?_⟩
 ·rcases(hmem x).1 hx2 with rfl | ⟨h6, -⟩
  ·simp
  ·exact List.mem_append_left _ (h.made.sub x h6)
 ·show w.dc≤s'.made+1
  rcases List.mem_append.1 hw with hw | hw
  ·have:=h.made.low w hw e;omega
  ·rw[List.mem_singleton] at hw;rw [hw,hdc];omega
 ·show s'.made+1=s.made+((N++[madeV s' id t n bd]).length:Nat)
  rw[List.length_append,List.length_singleton];omega
 ·show x.ds=s.me∧s.made < x.dc∧x.dc≤s'.made+1
  rcases List.mem_append.1 hx2 with hx2 | hx2
  ·have:=h4 x hx2;omega
  ·rw[List.mem_singleton] at hx2;rw [hx2,hdc];exact ⟨hme,by omega,by omega⟩
 ·show x∈putL s'.L (madeV s' id t n bd)↔_
  rw[hmem]
  constructor
  ·rintro(rfl | ⟨h6,h7⟩)
   ·refine⟨.inr (by simp),fun b hb=> ?_⟩
    rcases List.mem_append.1 hb with hb | hb
    ·exact made_under h.made hs hm b (by rw[h1];exact List.mem_append_right _ hb)
    ·rw[List.mem_singleton] at hb;rw [hb];exact over_self hv
   ·obtain⟨h8,h9⟩:=(h5 x).1 h6
    refine⟨h8.imp (fun h=>h) fun h=>List.mem_append_left _ h,fun b hb=> ?_⟩
    rcases List.mem_append.1 hb with hb | hb
    ·exact h9 b hb
    ·rw[List.mem_singleton] at hb;rw [hb,over_made h.made h6,decide_eq_false h7]
  ·rintro⟨h6,h7⟩
   by_cases e:x=madeV s' id t n bd
   ·exact .inl e
   ·have h8:x∈s'.L:=(h5 x).2 ⟨h6.imp (fun h=>h) fun h=>by
     rcases List.mem_append.1 h with h | h
     ·exact h
     ·rw[List.mem_singleton] at h;exact absurd h e,fun b hb=>h7 b (List.mem_append_left _ hb)⟩
    refine .inr ⟨h8,fun e2=> ?_⟩
    have:=h7 (madeV s' id t n bd) (by simp)
    rw[over_made h.made h8,decide_eq_true e2] at this
    exact absurd this (by decide)
 ·have h1:=h.one h1
  intro x hx2 y hy e
  have hx2:x∈putL s'.L (madeV s' id t n bd):=hx2
  have hy:y∈putL s'.L (madeV s' id t n bd):=hy
  rcases(hmem x).1 hx2 with rfl | ⟨h6,h7⟩ <;> rcases(hmem y).1 hy with rfl | ⟨h8,h9⟩
  ·rfl
  ·exact absurd e.symm h9
  ·exact absurd e h7
  ·exact h1 x h6 y h8 e
def sidA (k:Nat):ByteArray:=if k=0 then⟨#[97]⟩ else if k=1 then⟨#[98]⟩ else if k=2 then⟨#[99]⟩ else⟨#[100]⟩
theorem sidA_ok (k:Nat):idOk (sidA k)=true:=by
 unfold sidA
 split
 ·decide
 ·split
  ·decide
  ·split <;> decide
theorem madeB_ok {t n bd:Nat} (ht:t < 16) (hn:n < 32) (hb:bd≤1000000):madeB (t:Int) (n:Int) (bd:Int)=false:=by
 have h1:ptOk (t:Int) (n:Int)=true:=by
  simp only[ptOk,tagsB,Bool.and_eq_true,decide_eq_true_eq];omega
 unfold madeB
 rw[h1,Bool.or_eq_false_iff,Bool.or_eq_false_iff,decide_eq_false_iff_not,decide_eq_false_iff_not]
 exact⟨⟨rfl,by omega⟩,by omega⟩
def StrRow (w:World) (lo n:Nat) (cs:Array Value) (v:Value):Prop:= ∃q,v= .slice (some ⟨q,0,none⟩) n n∧w.heap[q]? =some (Obj.cells cs 9 (0,0))∧lo≤q
theorem StrRow.below {w w':World} {lo n:Nat} {cs:Array Value} {v:Value} (h:StrRow w lo n cs v) (hb:Below w.heap.size w w'):StrRow w' lo n cs v:=by
 obtain⟨q,h1,h2,h3⟩:=h;exact ⟨q,h1,below_keep hb h2,h3⟩
def StrPt (w:World) (lo k:Nat) (cs:Array Value) (v:Value):Prop:= ∃q,v= .pointer (some ⟨q,k,none⟩)∧w.heap[q]? =some (Obj.cells cs 9 (0,0))∧lo≤q
theorem StrPt.below {w w':World} {lo k:Nat} {cs:Array Value} {v:Value} (h:StrPt w lo k cs v) (hb:Below w.heap.size w w'):StrPt w' lo k cs v:=by
 obtain⟨q,h1,h2,h3⟩:=h;exact ⟨q,h1,below_keep hb h2,h3⟩
def DotNew (w:World) (lo:Nat) (v:Value):Prop:= ∃q,v= .pointer (some ⟨q,0,none⟩)∧w.heap[q]? =some (Obj.cells #[.int .i64 0, .int .i64 0] 41 (0,0))∧lo≤q
theorem DotNew.below {w w':World} {lo:Nat} {v:Value} (h:DotNew w lo v) (hb:Below w.heap.size w w'):DotNew w' lo v:=by
 obtain⟨q,h1,h2,h3⟩:=h;exact ⟨q,h1,below_keep hb h2,h3⟩
theorem DotNew.stp {w w':World} {lo g:Nat} {v:Value} (h:DotNew w lo v) (hs:Stp (fun q=>q=g) w w') (hg:g < lo):DotNew w' lo v:=by
 obtain⟨q,h1,h2,h3⟩:=h;exact ⟨q,h1,hs.block h2 (by omega),h3⟩
def DotIs (w:World) (lo:Nat) (x y:Int) (v:Value):Prop:= ∃q,v= .pointer (some ⟨q,0,none⟩)∧w.heap[q]? =some (Obj.cells #[.int .i64 x, .int .i64 y] 41 (0,0))∧lo≤q
theorem DotIs.below {w w':World} {lo:Nat} {x y:Int} {v:Value} (h:DotIs w lo x y v) (hb:Below w.heap.size w w'):DotIs w' lo x y v:=by
 obtain⟨q,h1,h2,h3⟩:=h;exact ⟨q,h1,below_keep hb h2,h3⟩
theorem names4 {k:Nat} (h:k < 4):(#[.string { data:= #[97] }, .string { data:= #[98] }, .string { data:= #[99] }, .string { data:= #[100] }]:Array Value)[k]? =some (.string (sidA k)):=by
 obtain rfl | rfl | rfl | rfl:k=0∨k=1∨k=2∨k=3:=by omega
 all_goals rfl
theorem three_ints {w:World} {v:Value} {l:List Int} (h:IsAt w v l) (h3:3≤l.length): ∃cb coff cc,v= .slice (some ⟨cb,coff,none⟩) l.length cc∧cb < w.heap.size∧ ∃x0 x1 x2,w.cell? ⟨cb,coff,none⟩=some (.int .i64 x0)∧w.cell? ⟨cb,coff+1,none⟩=some (.int .i64 x1)∧w.cell? ⟨cb,coff+2,none⟩=some (.int .i64 x2)∧l[0]? =some x0∧l[1]? =some x1∧l[2]? =some x2:=by
 obtain⟨a,c,rfl, -, -, -,hl⟩:=h.open_
 rcases hl with hn | ⟨b,off,rfl,hb,hc⟩
 ·rw[hn] at h3;simp at h3
 ·exact⟨b,off,c,rfl,hb,l[0],l[1],l[2],(by have:=hc 0 (by omega);rwa [Nat.add_zero] at this),hc 1 (by omega),hc 2 (by omega),by simp,by simp,by simp⟩
def MakesPost (U:List Ver) (s:SiteS) (b g:Nat) (wz:World) (e:Ending) (w':World):Prop:= ∃U' s',e= .returned (.bool true)∧Grow U s U' s' 12∧SiteAt w' b g s'∧Stp (fun q=>q=g) wz w'
theorem smakes_c (g b:Nat) (s:SiteS) (U:List Ver) (lv:Value) (l:List (List Int)) (wz:World) (h:SiteAt wz b g s) (hM:Made U s) (hU:U.length≤47) (hm:s.made≤900) (hl: ∀w',Stp (fun q=>q=g) wz w'→RowAt vecE w' lv l):
  Calls Tryz.prog 40 #[.pointer (some ⟨g,0,none⟩),lv] wz (MakesPost U s b g wz):=by
 have hl0:=hl wz (Stp.refl _ _)
 have hll:=hl0.len
 obtain⟨la,lc,rfl,hcap, -, -, -⟩:=hl0.open_
 obtain⟨n,hn⟩: ∃n:Nat,n=min l.length 12:=⟨_,rfl⟩
 have hn1:n≤l.length:=by omega
 have hn2:n≤12:=by omega
 have hn3:n≤lc:=by omega
 have hmin:min (l.length:Int) 12=(n:Int):=by omega
 have HL:=jD (fun w' (hs:Stp (fun q=>q=g) wz w')=>RowAt.take (hl w' hs) n hn1)
 have HS0:=jD h
 have HM0:=jD (Grow.refl hM)
 have HGL:=jD h.lt
 clear h hM hl hl0 hn
 go_enter Tryz.func40,Tryz.ntmps40
 go_wp2
 go_loopw [15] (fun i wr=> ∃k:Nat,k≤n∧i= .int .i64 k∧ ∃U' s',Grow U s U' s' k∧SiteAt wr b g s'∧Stp (fun q=>q=g) wz wr) (fun i _=>n - (intOf i).toNat)
 case atStart=>exact ⟨0,Nat.zero_le _,rfl,U,s,HM0.out,HS0.out,Stp.refl _ _⟩
 case round=>
  obtain⟨k,hk,rfl,U',s',hgr,hsa,hst⟩:=hrel
  by_cases hlt:k < n
  rotate_left
  ·obtain rfl:k=n:=by omega
   have hkb:decide ((k:Int) < (k:Int))=false:=by simp
   go_wp2
   go_ret
   exact⟨_,_,rfl,hgr.up hn2,hsa,hst⟩
  have hkb:decide ((k:Int) < (n:Int))=true:=by simp;omega
  have HLr:=jD (HL.out wr hst)
  obtain⟨a',cap',ha', -, -, -,hvl2⟩:=HLr.out.open_
  simp only[Value.slice.injEq] at ha'
  obtain⟨hla, -,hlc⟩:=ha'
  have hltk:k < (l.take n).length:=by rw[List.length_take];omega
  rcases hvl2 with hnil | ⟨b7,off,ha7,hb,hc⟩
  ·rw[hnil] at hltk;simp at hltk
  rw[ha7] at hla
  subst hla
  obtain⟨c,⟨u,rfl,hu⟩,hcc⟩:=hc k hltk
  have c1:wr.cell? ⟨b7,off+k,none⟩=some u:=by have:=hcc 0 u rfl;simpa [vecE] using this
  generalize (l.take n)[k]=cs at*
  have HSA:=jD hsa
  have HGR:=jD hgr
  have HST:=jD hst
  obtain⟨ua,uc,hus⟩:=hu.shape
  subst hus
  have HU:=jD hu
  clear hc hcc hsa hgr hst hu HLr ha7 hlc
  by_cases h3:cs.length < 3
  ·have hd:decide ((cs.length:Int) < 3)=true:=by simp;omega
   go_wp2
   go_roundw
   case rel=>exact ⟨k+1,by omega,by go_num,U',s',HGR.out.up (by omega),HSA.out,HST.out⟩
   case measure=>simp [intOf] <;> omega
  have hd:decide ((cs.length:Int) < 3)=false:=by simp;omega
  obtain⟨cb,coff,cc,hcs,hcb,x0,x1,x2,q0,q1,q2, -⟩:=three_ints HU.out (by omega)
  simp only[Value.slice.injEq,true_and] at hcs
  obtain⟨rfl,rfl⟩:=hcs
  obtain⟨k0,hk0⟩: ∃k0,k0=wiN x0 4:=⟨_,rfl⟩
  obtain⟨k1,hk1⟩: ∃k1,k1=wiN x1 16:=⟨_,rfl⟩
  obtain⟨k2,hk2⟩: ∃k2,k2=wiN x2 32:=⟨_,rfl⟩
  obtain⟨k3,hk3⟩: ∃k3,k3=wiN x2 1000:=⟨_,rfl⟩
  have hk04:k0 < 4:=by rw[hk0];exact wiN_lt x0 4 (by decide)
  have hk116:k1 < 16:=by rw[hk1];exact wiN_lt x1 16 (by decide)
  have hk232:k2 < 32:=by rw[hk2];exact wiN_lt x2 32 (by decide)
  have hk31:k3 < 1000:=by rw[hk3];exact wiN_lt x2 1000 (by decide)
  have HW0:=jD (fun (y:World)=>wiN_c x0 4 y (by decide) (by decide))
  have HW1:=jD (fun (y:World)=>wiN_c x1 16 y (by decide) (by decide))
  have HW2:=jD (fun (y:World)=>wiN_c x2 32 y (by decide) (by decide))
  have HW3:=jD (fun (y:World)=>wiN_c x2 1000 y (by decide) (by decide))
  rw[←hk0] at HW0
  rw[←hk1] at HW1
  rw[←hk2] at HW2
  rw[←hk3] at HW3
  have HK0:=jD hk04
  have HNM:=jD (names4 hk04)
  have HX0:=jD q0
  have HX1:=jD q1
  have HX2:=jD q2
  have hgl:=HGR.out.len
  obtain⟨hez,hstep⟩:=HGR.out.step HSA.out.ok (by omega) (by omega) (sidA_ok k0) (madeB_ok hk116 hk232 (show k3≤1000000 by omega))
  obtain⟨d0,hd0⟩: ∃d0,d0=s'.me:=⟨_,rfl⟩
  obtain⟨d1,hd1⟩: ∃d1,d1=s'.made+1:=⟨_,rfl⟩
  obtain⟨s9,hs9⟩: ∃s9,s9=madeS s' (sidA k0) k1 k2 k3:=⟨_,rfl⟩
  have HMK:=jD (fun (wx:World) (hx:SiteAt wx b g s')=>show Calls Tryz.prog 17 #[.pointer (some ⟨g,0,none⟩), .string (sidA k0), .agg #[.int .i64 (k1:Nat), .int .i64 (k2:Nat)], .int .i64 (k3:Nat)] wx fun e w'=>e= .returned (.tuple #[.agg #[.int .i64 d0, .int .i64 d1], .int .i64 0])∧SiteAt w' b g s9∧Stp (fun q=>q=g) wx w' from
   (smake_c g b s' (sidA k0) k1 k2 k3 wx hx).mono fun e w' hh=>by
    obtain⟨h1,h2,h3⟩:=hh
    rw[if_pos hez,if_pos hez,hez,←hd0,←hd1] at h1
    rw[←hs9] at h2
    exact⟨h1,h2,h3⟩)
  rw[←hs9] at hstep
  have HSTEP:=jD hstep
  have HS:=jD HSA.out
  have HLT:=jD HSA.out.lt
  clear hez hstep hd0 hd1 hs9 hk0 hk1 hk2 hk3 q0 q1 q2 hk04 hk116 hk232 hk31 hgl HSA HGR HU
  go_wp2_with fail
  refine Cl2.region0 50 rfl [21,26] (fun w=>Below wr.heap.size wr w) (fun jq=>match jq with | 1=>[21,26] | 6=>[21,26] | 25=>[26] | _=>[]) (fun jq v ww=>match jq with | 0=>v= .pointer (some ⟨g,0,none⟩) | 1=>StrRow ww wr.heap.size 4 #[.string { data:= #[97] }, .string { data:= #[98] }, .string { data:= #[99] }, .string { data:= #[100] }] v | 2=>v= .slice (some ⟨cb,coff,none⟩) cs.length uc | 3=>v= .pointer (some ⟨cb,coff,none⟩) | 4=>v= .int .i64 x0 | 5=>v= .int .i64 (k0:Nat) | 6=>StrPt ww wr.heap.size k0 #[.string { data:= #[97] }, .string { data:= #[98] }, .string { data:= #[99] }, .string { data:= #[100] }] v | 7=>v= .string (sidA k0) | 8=>v= .slice (some ⟨cb,coff,none⟩) cs.length uc | 9=>v= .pointer (some ⟨cb,coff+1,none⟩) | 10=>v= .int .i64 x1 | 11=>v= .int .i64 (k1:Nat) | 12=>v= .slice (some ⟨cb,coff,none⟩) cs.length uc | 13=>v= .pointer (some ⟨cb,coff+2,none⟩) | 14=>v= .int .i64 x2 | 15=>v= .int .i64 (k2:Nat) | 16=>v= .agg #[.int .i64 (k1:Nat), .int .i64 (k2:Nat)] | 17=>v= .slice (some ⟨cb,coff,none⟩) cs.length uc | 18=>v= .pointer (some ⟨cb,coff+2,none⟩) | 19=>v= .int .i64 x2 | 20=>v= .int .i64 (k3:Nat) | 21=>SiteAt ww b g s9∧v= .tuple #[.agg #[.int .i64 d0, .int .i64 d1], .int .i64 0] | 22=>v= .tuple #[.agg #[.int .i64 d0, .int .i64 d1], .int .i64 0] | 23=>v= .agg #[.int .i64 d0, .int .i64 d1] | 24=>v= .int .i64 0 | 25=>DotNew ww wr.heap.size v | 26=>DotIs ww wr.heap.size d0 d1 v | 27=>v= .int .i64 0 | _=>True) (fun ww=>Stp (fun qq=>qq=g) wr ww) (fun jq ww ww'=>(jq≠21→jq≠26→Below ww.heap.size ww ww')∧(jq=21→Stp (fun qq=>qq=g) ww ww')∧(jq=26→DotSet wr.heap.size ww ww')) Tryz.mixed (by decide+kernel) (Stp.refl _ _).drew ((Below.refl _ _).drew) ?_ (fun q w w' hk h hR=>bstep h (hR.1 (by intro e;subst e;exact absurd hk (by decide)) (by intro e;subst e;exact absurd hk (by decide)))) ?_ ?_
  ·intro q r v w w' hne hk hlt h hR
   match r,hk,hlt,h,hne with
   | 0,_,_,h,_=>exact h
   | 1,hk,hlt,h,hne=>
    exact h.below (hR.1 (by intro e;subst e;first | exact absurd hlt (by decide+kernel) | exact absurd rfl hne | simp at hk) (by intro e;subst e;first | exact absurd hlt (by decide+kernel) | exact absurd rfl hne | simp at hk))
   | 2,_,_,h,_=>exact h
   | 3,_,_,h,_=>exact h
   | 4,_,_,h,_=>exact h
   | 5,_,_,h,_=>exact h
   | 6,hk,hlt,h,hne=>
    exact h.below (hR.1 (by intro e;subst e;first | exact absurd hlt (by decide+kernel) | exact absurd rfl hne | simp at hk) (by intro e;subst e;first | exact absurd hlt (by decide+kernel) | exact absurd rfl hne | simp at hk))
   | 7,_,_,h,_=>exact h
   | 8,_,_,h,_=>exact h
   | 9,_,_,h,_=>exact h
   | 10,_,_,h,_=>exact h
   | 11,_,_,h,_=>exact h
   | 12,_,_,h,_=>exact h
   | 13,_,_,h,_=>exact h
   | 14,_,_,h,_=>exact h
   | 15,_,_,h,_=>exact h
   | 16,_,_,h,_=>exact h
   | 17,_,_,h,_=>exact h
   | 18,_,_,h,_=>exact h
   | 19,_,_,h,_=>exact h
   | 20,_,_,h,_=>exact h
   | 21,hk,hlt,h,hne=>
    by_cases e:q=26
    ·exact⟨h.1.dot (hR.2.2 e) (by exact HLT.out),h.2⟩
    ·exact⟨h.1.below (hR.1 (by exact hne) e),h.2⟩
   | 22,_,_,h,_=>exact h
   | 23,_,_,h,_=>exact h
   | 24,_,_,h,_=>exact h
   | 25,hk,hlt,h,hne=>
    by_cases e:q=21
    ·exact h.stp (hR.2.1 e) (by exact HLT.out)
    ·exact h.below (hR.1 e (by simpa using hk))
   | 26,hk,hlt,h,hne=>
    exact h.below (hR.1 (by intro e;subst e;first | exact absurd hlt (by decide+kernel) | exact absurd rfl hne | simp at hk) (by intro e;subst e;first | exact absurd hlt (by decide+kernel) | exact absurd rfl hne | simp at hk))
   | 27,_,_,h,_=>exact h
   | _+28,_,_,_,_=>trivial
  ·refine⟨?_, ?_, ?_, ?_, ?_, ?_, ?_, ?_, ?_, ?_, ?_, ?_, ?_, ?_, ?_, ?_, ?_, ?_, ?_, ?_, ?_, ?_, ?_, ?_, ?_, ?_, ?_, ?_,trivial⟩
   ·intro x wx hG
    have f0:=hG.o 0
    replace hG:=hG.good
    go_wp2
    exact⟨_,rfl,rfl,hG,⟨fun _ _=>Below.refl _ _,fun h=>zd h,fun h=>zd h⟩⟩
   ·intro x wx hG
    have hp:=hG.p
    replace hG:=hG.good
    go_wp2
    exact⟨_,rfl,⟨_,rfl,alloc_new _ _ _ _ rfl,hp.size⟩,hG.below (bal _),⟨fun _ _=>bal _,fun h=>zd h,fun h=>zd h⟩⟩
   ·intro x wx hG
    have f6:=hG.o 6
    replace hG:=hG.good
    go_wp2
    exact⟨_,rfl,rfl,hG,⟨fun _ _=>Below.refl _ _,fun h=>zd h,fun h=>zd h⟩⟩
   ·intro x wx hG
    have g2:(x.tmps.getD 25 undef)= .slice (some ⟨cb,coff,none⟩) cs.length uc:=hG.c 2 _ rfl
    have g2b:=gd g2
    replace hG:=hG.good
    go_wp2
    exact⟨_,rfl,rfl,hG,⟨fun _ _=>Below.refl _ _,fun h=>zd h,fun h=>zd h⟩⟩
   ·intro x wx hG
    have g3:(x.tmps.getD 26 undef)= .pointer (some ⟨cb,coff,none⟩):=hG.c 3 _ rfl
    have g3b:=gd g3
    have hp:=hG.p
    replace hG:=hG.good
    have c_HX0:=ckeep hp HX0.out
    go_wp2
    exact⟨_,rfl,rfl,hG,⟨fun _ _=>Below.refl _ _,fun h=>zd h,fun h=>zd h⟩⟩
   ·intro x wx hG
    have g4:(x.tmps.getD 27 undef)= .int .i64 x0:=hG.c 4 _ rfl
    have g4b:=gd g4
    replace hG:=hG.good
    go_wp2_with fail
    (with_reducible refine(HW0.out wx).mono ?_)
    rintro e wq ⟨rfl,hb⟩
    have HBB:=jD hb
    clear hb
    go_wp2
    exact⟨_,rfl,rfl,hG.below HBB.out,⟨fun _ _=>HBB.out,fun h=>zd h,fun h=>zd h⟩⟩
   ·intro x wx hG
    have g1:StrRow wx wr.heap.size 4 #[.string { data:= #[97] }, .string { data:= #[98] }, .string { data:= #[99] }, .string { data:= #[100] }] (x.tmps.getD 24 undef):=hG.c 1 _ rfl
    have g5:(x.tmps.getD 28 undef)= .int .i64 (k0:Nat):=hG.c 5 _ rfl
    have g5b:=gd g5
    replace hG:=hG.good
    obtain⟨q,hv,hq,hlo⟩:=g1
    have hvb:=hv
    rw[Array.getD_eq_getD_getElem?] at hvb
    have hk0:=HK0.out
    have hk1:(k0:Int) < 4:=by omega
    have HQ:=jD (And.intro hq hlo)
    clear hq hlo
    go_wp2
    exact⟨_,rfl,⟨q,by simp,HQ.out.1,HQ.out.2⟩,hG,⟨fun _ _=>Below.refl _ _,fun h=>zd h,fun h=>zd h⟩⟩
   ·intro x wx hG
    have g6:StrPt wx wr.heap.size k0 #[.string { data:= #[97] }, .string { data:= #[98] }, .string { data:= #[99] }, .string { data:= #[100] }] (x.tmps.getD 29 undef):=hG.c 6 _ rfl
    replace hG:=hG.good
    obtain⟨q,hv,hq,hlo⟩:=g6
    have hvb:=hv
    rw[Array.getD_eq_getD_getElem?] at hvb
    have hcq:=cell_of_block (j:=k0) hq HNM.out
    clear hq hlo
    go_wp2
    exact⟨_,rfl,rfl,hG,⟨fun _ _=>Below.refl _ _,fun h=>zd h,fun h=>zd h⟩⟩
   ·intro x wx hG
    have f6:=hG.o 6
    replace hG:=hG.good
    go_wp2
    exact⟨_,rfl,rfl,hG,⟨fun _ _=>Below.refl _ _,fun h=>zd h,fun h=>zd h⟩⟩
   ·intro x wx hG
    have g8:(x.tmps.getD 31 undef)= .slice (some ⟨cb,coff,none⟩) cs.length uc:=hG.c 8 _ rfl
    have g8b:=gd g8
    replace hG:=hG.good
    go_wp2
    exact⟨_,rfl,rfl,hG,⟨fun _ _=>Below.refl _ _,fun h=>zd h,fun h=>zd h⟩⟩
   ·intro x wx hG
    have g9:(x.tmps.getD 32 undef)= .pointer (some ⟨cb,coff+1,none⟩):=hG.c 9 _ rfl
    have g9b:=gd g9
    have hp:=hG.p
    replace hG:=hG.good
    have c_HX1:=ckeep hp HX1.out
    go_wp2
    exact⟨_,rfl,rfl,hG,⟨fun _ _=>Below.refl _ _,fun h=>zd h,fun h=>zd h⟩⟩
   ·intro x wx hG
    have g10:(x.tmps.getD 33 undef)= .int .i64 x1:=hG.c 10 _ rfl
    have g10b:=gd g10
    replace hG:=hG.good
    go_wp2_with fail
    (with_reducible refine(HW1.out wx).mono ?_)
    rintro e wq ⟨rfl,hb⟩
    have HBB:=jD hb
    clear hb
    go_wp2
    exact⟨_,rfl,rfl,hG.below HBB.out,⟨fun _ _=>HBB.out,fun h=>zd h,fun h=>zd h⟩⟩
   ·intro x wx hG
    have f6:=hG.o 6
    replace hG:=hG.good
    go_wp2
    exact⟨_,rfl,rfl,hG,⟨fun _ _=>Below.refl _ _,fun h=>zd h,fun h=>zd h⟩⟩
   ·intro x wx hG
    have g12:(x.tmps.getD 35 undef)= .slice (some ⟨cb,coff,none⟩) cs.length uc:=hG.c 12 _ rfl
    have g12b:=gd g12
    replace hG:=hG.good
    go_wp2
    exact⟨_,rfl,rfl,hG,⟨fun _ _=>Below.refl _ _,fun h=>zd h,fun h=>zd h⟩⟩
   ·intro x wx hG
    have g13:(x.tmps.getD 36 undef)= .pointer (some ⟨cb,coff+2,none⟩):=hG.c 13 _ rfl
    have g13b:=gd g13
    have hp:=hG.p
    replace hG:=hG.good
    have c_HX2:=ckeep hp HX2.out
    go_wp2
    exact⟨_,rfl,rfl,hG,⟨fun _ _=>Below.refl _ _,fun h=>zd h,fun h=>zd h⟩⟩
   ·intro x wx hG
    have g14:(x.tmps.getD 37 undef)= .int .i64 x2:=hG.c 14 _ rfl
    have g14b:=gd g14
    replace hG:=hG.good
    go_wp2_with fail
    (with_reducible refine(HW2.out wx).mono ?_)
    rintro e wq ⟨rfl,hb⟩
    have HBB:=jD hb
    clear hb
    go_wp2
    exact⟨_,rfl,rfl,hG.below HBB.out,⟨fun _ _=>HBB.out,fun h=>zd h,fun h=>zd h⟩⟩
   ·intro x wx hG
    have g11:(x.tmps.getD 34 undef)= .int .i64 (k1:Nat):=hG.c 11 _ rfl
    have g11b:=gd g11
    have g15:(x.tmps.getD 38 undef)= .int .i64 (k2:Nat):=hG.c 15 _ rfl
    have g15b:=gd g15
    replace hG:=hG.good
    go_wp2
    exact⟨_,rfl,rfl,hG,⟨fun _ _=>Below.refl _ _,fun h=>zd h,fun h=>zd h⟩⟩
   ·intro x wx hG
    have f6:=hG.o 6
    replace hG:=hG.good
    go_wp2
    exact⟨_,rfl,rfl,hG,⟨fun _ _=>Below.refl _ _,fun h=>zd h,fun h=>zd h⟩⟩
   ·intro x wx hG
    have g17:(x.tmps.getD 40 undef)= .slice (some ⟨cb,coff,none⟩) cs.length uc:=hG.c 17 _ rfl
    have g17b:=gd g17
    replace hG:=hG.good
    go_wp2
    exact⟨_,rfl,rfl,hG,⟨fun _ _=>Below.refl _ _,fun h=>zd h,fun h=>zd h⟩⟩
   ·intro x wx hG
    have g18:(x.tmps.getD 41 undef)= .pointer (some ⟨cb,coff+2,none⟩):=hG.c 18 _ rfl
    have g18b:=gd g18
    have hp:=hG.p
    replace hG:=hG.good
    have c_HX2:=ckeep hp HX2.out
    go_wp2
    exact⟨_,rfl,rfl,hG,⟨fun _ _=>Below.refl _ _,fun h=>zd h,fun h=>zd h⟩⟩
   ·intro x wx hG
    have g19:(x.tmps.getD 42 undef)= .int .i64 x2:=hG.c 19 _ rfl
    have g19b:=gd g19
    replace hG:=hG.good
    go_wp2_with fail
    (with_reducible refine(HW3.out wx).mono ?_)
    rintro e wq ⟨rfl,hb⟩
    have HBB:=jD hb
    clear hb
    go_wp2
    exact⟨_,rfl,rfl,hG.below HBB.out,⟨fun _ _=>HBB.out,fun h=>zd h,fun h=>zd h⟩⟩
   ·intro x wx hG
    have g0:(x.tmps.getD 23 undef)= .pointer (some ⟨g,0,none⟩):=hG.c 0 _ rfl
    have g0b:=gd g0
    have g7:(x.tmps.getD 30 undef)= .string (sidA k0):=hG.c 7 _ rfl
    have g7b:=gd g7
    have g16:(x.tmps.getD 39 undef)= .agg #[.int .i64 (k1:Nat), .int .i64 (k2:Nat)]:=hG.c 16 _ rfl
    have g16b:=gd g16
    have g20:(x.tmps.getD 43 undef)= .int .i64 (k3:Nat):=hG.c 20 _ rfl
    have g20b:=gd g20
    have hp:=hG.p
    replace hG:=hG.good
    have HN:=jD (HMK.out wx (HS.out.below hp))
    go_wp2_with fail
    (with_reducible refine(HN.out).mono ?_)
    rintro e wq ⟨rfl,h1,h2⟩
    have H1:=jD h1
    have H2:=jD h2
    clear h1 h2 HN
    go_wp2
    exact⟨_,rfl,⟨H1.out,rfl⟩,hG.trans H2.out,⟨fun h _=>absurd rfl h,fun _=>H2.out,fun h=>zd h⟩⟩
   ·intro x wx hG
    have g21:SiteAt wx b g s9∧(x.tmps.getD 44 undef)= .tuple #[.agg #[.int .i64 d0, .int .i64 d1], .int .i64 0]:=hG.c 21 _ rfl
    replace hG:=hG.good
    have g21v:=g21.2
    have g21vb:=g21v
    rw[Array.getD_eq_getD_getElem?] at g21vb
    go_wp2
    exact⟨_,rfl,rfl,hG,⟨fun _ _=>Below.refl _ _,fun h=>zd h,fun h=>zd h⟩⟩
   ·intro x wx hG
    have g22:(x.tmps.getD 22 undef)= .tuple #[.agg #[.int .i64 d0, .int .i64 d1], .int .i64 0]:=hG.c 22 _ rfl
    have g22b:=gd g22
    replace hG:=hG.good
    go_wp2
    exact⟨_,rfl,rfl,hG,⟨fun _ _=>Below.refl _ _,fun h=>zd h,fun h=>zd h⟩⟩
   ·intro x wx hG
    have g22:(x.tmps.getD 22 undef)= .tuple #[.agg #[.int .i64 d0, .int .i64 d1], .int .i64 0]:=hG.c 22 _ rfl
    have g22b:=gd g22
    replace hG:=hG.good
    go_wp2
    exact⟨_,rfl,rfl,hG,⟨fun _ _=>Below.refl _ _,fun h=>zd h,fun h=>zd h⟩⟩
   ·intro x wx hG
    replace hG:=hG.good
    go_wp2
    exact⟨_,rfl,⟨_,rfl,alloc_new _ _ _ _ rfl,hG.size⟩,hG.below (bal _),⟨fun _ _=>bal _,fun h=>zd h,fun h=>zd h⟩⟩
   ·intro x wx hG
    have g25:DotNew wx wr.heap.size (x.tmps.getD 7 undef):=hG.c 25 _ rfl
    have g23:(x.tmps.getD 45 undef)= .agg #[.int .i64 d0, .int .i64 d1]:=hG.c 23 _ rfl
    have g23b:=gd g23
    replace hG:=hG.good
    obtain⟨q,hv,hq,hlo⟩:=g25
    have HV:=jD hv
    have hvb:=hv
    rw[Array.getD_eq_getD_getElem?] at hvb
    have gxb:=g23
    rw[Array.getD_eq_getD_getElem?] at gxb
    have r0:=cell_of_block (j:=0) hq rfl
    have r1:=cell_of_block (j:=1) hq rfl
    have q0:=free_of_block (j:=0) hq
    have q1:=free_of_block (j:=1) hq
    have hRl:=hlt_of hq
    have HQ:=jD hq
    have HLO:=jD hlo
    clear hq hlo
    go_wp2
    exact⟨undef,rfl,⟨q,Eq.trans (by kernel_rfl) HV.out,by rw[heap_set_same (heap_set_same HQ.out)];rfl,HLO.out⟩,DotSet.stp hG ⟨q,_,_,HLO.out,HQ.out,rfl⟩,⟨fun _ h=>absurd rfl h,fun h=>zd h,fun _=>⟨q,_,_,HLO.out,HQ.out,rfl⟩⟩⟩
   ·intro x wx hG
    have g24:(x.tmps.getD 46 undef)= .int .i64 0:=hG.c 24 _ rfl
    have g24b:=gd g24
    replace hG:=hG.good
    go_wp2
    exact⟨_,rfl,rfl,hG,⟨fun _ _=>Below.refl _ _,fun h=>zd h,fun h=>zd h⟩⟩
  ·intro vals w9 hg hF
   obtain⟨g0,g1,g2,g3,g4,g5,g6,g7,g8,g9,g10,g11,g12,g13,g14,g15,g16,g17,g18,g19,g20,g21,g22,g23,g24,g25,g26,g27, -⟩:=hF
   have e0:=gq (vals 0) g0
   have e2:=gq (vals 2) g2
   have e3:=gq (vals 3) g3
   have e4:=gq (vals 4) g4
   have e5:=gq (vals 5) g5
   have e7:=gq (vals 7) g7
   have e8:=gq (vals 8) g8
   have e9:=gq (vals 9) g9
   have e10:=gq (vals 10) g10
   have e11:=gq (vals 11) g11
   have e12:=gq (vals 12) g12
   have e13:=gq (vals 13) g13
   have e14:=gq (vals 14) g14
   have e15:=gq (vals 15) g15
   have e16:=gq (vals 16) g16
   have e17:=gq (vals 17) g17
   have e18:=gq (vals 18) g18
   have e19:=gq (vals 19) g19
   have e20:=gq (vals 20) g20
   replace g21:SiteAt w9 b g s9∧(vals 21)= .tuple #[.agg #[.int .i64 d0, .int .i64 d1], .int .i64 0]:=g21 rfl
   have e22:=gq (vals 22) g22
   have e23:=gq (vals 23) g23
   have e24:=gq (vals 24) g24
   have g26:=g26 rfl
   have e27:=gq (vals 27) g27
   simp only[Cl2.puts,e0,e2,e3,e4,e5,e7,e8,e9,e10,e11,e12,e13,e14,e15,e16,e17,e18,e19,e20,e22,e23,e24,e27]
   clear e0 e2 e3 e4 e5 e7 e8 e9 e10 e11 e12 e13 e14 e15 e16 e17 e18 e19 e20 e22 e23 e24 e27 g0 g1 g2 g3 g4 g5 g6 g7 g8 g9 g10 g11 g12 g13 g14 g15 g16 g17 g18 g19 g20 g22 g23 g24 g25 g27
   go_simp
   generalize vals 21=mk9 at*
   have HSA:=jD g21.1
   have HST2:=jD (HST.out.trans hg)
   clear g21 hg c1
   generalize vals 1=j1 at*
   generalize vals 6=j6 at*
   generalize vals 25=j9 at*
   go_wp2
   go_roundw
   case rel=>exact ⟨k+1,by omega,by go_num,_,s9,HSTEP.out,HSA.out,HST2.out⟩
   case measure=>simp [intOf] <;> omega
theorem SiteAt.mono {w:World} {b b' g:Nat} {s:SiteS} (h:SiteAt w b g s) (hb:b'≤b):SiteAt w b' g s:=by
 obtain⟨f,l,p,h1,h2,h3,h4⟩:=h.cells
 exact⟨h.ok,Nat.le_trans hb h.ge,f,l,p,h1,FO.mono h2 hb,VOwn.mono h3 hb,PtsOwnA.mono h4 hb⟩
theorem made_new (U:List Ver) (me:Int) (p:Nat→Nat→Bool) (h:Hx U) (hl: ∀w∈U,w.ds≠me):Made U (newS me p):=⟨h,by simp[newS],fun w hw e=>absurd e (hl w hw)⟩
structure Synced (s r s':SiteS):Prop where
 e:tookE s (syncB s r)=0
 eq:s'=tookS s (syncB s r)
 me:s'.me=s.me
 made:s'.made=s.made
 stamp:s'.stamp=s.stamp
 P:s'.P=s.P
 S:s'.S=fewS (s.S++giveS r s.P)
 L:Taken s.L (giveV r.L s.P (knownS s)) (r.L.filter fun v=> !inP s.P v) s'.L
theorem sync_took {U:List Ver} {s r:SiteS} (hU:Uni U) (hs:SiteOk s) (_hr:SiteOk r) (hsU: ∀x∈s.L,x∈U) (hrU: ∀x∈r.L,x∈U) (hl:s.S.length+r.S.length≤28):Synced s r (tookS s (syncB s r)):=by
 have hlen:(fewS (s.S++(syncB s r).S)).length≤29:=by
  have h1:=few_len (s.S++(syncB s r).S)
  have h2:(syncB s r).S.length≤(knownS r).length:=narrow_len _ _
  have h3:(knownS r).length≤(ownSP r::r.S).length:=few_len _
  rw[List.length_cons] at h3
  rw[List.length_append] at h1
  omega
 have hV: ∀x∈(syncB s r).V,x∈U:=fun x hx=>hrU x (List.mem_filter.1 hx).1
 obtain⟨h1,h2⟩:=taken (W:=r.L.filter fun v=> !inP s.P v) hU hs.L hsU hV
 have he:tookE s (syncB s r)=0:=tookE_zero.2 ⟨rfl,rfl,h1,hlen⟩
 have eS:tookS s (syncB s r)= { s with L:=dropsL (laidOn s.L (syncB s r).V) (syncB s r).G,S:=fewS (s.S++(syncB s r).S) } :=by unfold tookS;rw [if_pos he]
 exact⟨he,rfl,by rw[eS],by rw[eS],by rw[eS],by rw[eS],by rw[eS];rfl,by rw[eS];exact h2⟩
theorem Grow.sub_of {U U':List Ver} {s s':SiteS} {k:Nat} (h:Grow U s U' s' k): ∀x∈U,x∈U':=fun x hx=>by
 obtain⟨N,h1, -⟩:=h.new
 rw[h1];exact List.mem_append_left _ hx
theorem made_other {s s':SiteS} {U:List Ver} {k:Nat} (h:Grow [] s U s' k) (me:Int) (p:Nat→Nat→Bool) (hne:s.me≠me):Made U (newS me p):=by
 refine made_new U me p h.made.hx fun w hw e=> ?_
 obtain⟨N,h1, -, -,h4, -⟩:=h.new
 rw[h1,List.nil_append] at hw
 exact hne ((h4 w hw).1.symm.trans e)
theorem take_bt {wz:World} {b g:Nat} {s:SiteS} {bt:BtS} {base vc gc pc:Nat} {va ga pa:Option Addr} (h:SiteAt wz b g s) (hbt:BtSOk bt) (ho:BtOwn wz base (.slice va bt.V.length vc) (.slice ga bt.G.length gc) (.slice pa bt.S.length pc) bt):
  Calls Tryz.prog 23 #[.pointer (some ⟨g,0,none⟩), .agg #[.int .i64 bt.site, .int .i64 bt.stamp, .slice va bt.V.length vc, .slice ga bt.G.length gc, .slice pa bt.S.length pc]] wz (TakePost wz b g s bt):=by
 obtain⟨PP,hP1,hP2,hP3⟩:=ho.parts
 have hPl:PP.length≤30:=by have:=hbt.ls;rw [←hP3,List.length_map] at this;exact this
 exact stake_c g b s bt PP _ _ _ wz h hbt (ho.vers.at_ (shok_bd hbt.V) (by have:=hbt.lv;omega)) (GOwn.at_ ho.gone (fun z hz=>gone_bd (hbt.G z hz)) (by have:=hbt.lg;omega)) (hP1.at_ (fun z hz=>(hP2 z hz).1) (by omega)) (fun z hz=>(hP2 z hz).1) hP3
end Go.Proofs.YtgkgdedhicnohaaGreat
