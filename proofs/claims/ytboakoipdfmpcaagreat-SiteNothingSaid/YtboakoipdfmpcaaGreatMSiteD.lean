/- What Get and Past answer of a shelf that was laid of told versions. No program in sight. Histories of versions that sites made, and what a shelf holds after some were taken. No program in sight. What the laws on sites call: siteBegun, two, synced, wanted. A site that makes versions, one by one. No program in sight. A site makes some versions (reedkeep.makes). Written by a small program (gen/site10.py). What the laws on sites want: sites asking each other. No walk here. What reedkeep.wanted does. One who follows a site that only makes; one who asks for the first time. No program in sight. -/
import Derived.Test.YtboakoipdfmpcaaGreatMSiteA
import Derived.Test.YtboakoipdfmpcaaGreatMShelf18
import Derived.Test.YtboakoipdfmpcaaGreatMShelfP
import Derived.Test.YtboakoipdfmpcaaGreatMSiteC
import Derived.Test.YtboakoipdfmpcaaGreatMClaims
import Derived.Test.YtboakoipdfmpcaaGreatMDots
namespace Go.Proofs.YtboakoipdfmpcaaGreat
open Go.RowKit
structure GetOk (X : List Ver) (i : ByteArray) : Prop where
  ge0 : getL X i = [] → getE X i = 4
  ge1 : getL X i ≠ [] → getE X i = 0
  gr : getR X i = getL X i
  pe : pastE X i = 0
  ko : KnOk (pastF X i)
  kl : (pastF X i).more.length ≤ 20
  nil : getL X i = [] → pastF X i = ⟨[], []⟩
  has : ∀ v ∈ getL X i, knHas (pastF X i) v.ds v.dc = true ∧ knHasE (pastF X i) v.ds v.dc = 0 ∧ knWithinB v.past (pastF X i) = true ∧ knTwo v.past (pastF X i) = 0 ∧ v.id = i
  sub : ∀ v ∈ getL X i, v ∈ X
theorem mem_get {X : List Ver} {i : ByteArray} {v : Ver} : v ∈ getL X i ↔ v ∈ X ∧ v.id = i := by
  unfold getL; rw [List.mem_filter, decide_eq_true_eq]
theorem get_ok {U X : List Ver} (hU : TInv U) (hl : U.length ≤ 20) (hX : ∀ x ∈ X, x ∈ U) (hs : ShOk X) (i : ByteArray) : GetOk X i := by
  have hC : ∀ w ∈ getL X i, w ∈ U ∧ w.id = i := fun w hw => ⟨hX w (mem_get.1 hw).1, (mem_get.1 hw).2⟩
  have hm : (pastF X i).more.length ≤ U.length := past_few hU hC (P := pastP (getL X i)) fun _ _ _ _ _ _ => rfl
  have h0 : shelfChk X = 0 := shelfChk_zero.2 hs
  have hko : KnOk (pastF X i) := formK_ok _
  have hkz : knChk (pastF X i) = 0 := knChk_zero.2 ⟨hko, by omega⟩
  have hg0 : getL X i = [] → getE X i = 4 := fun h => by unfold getE; rw [if_neg (by omega), h]; rfl
  have hg1 : getL X i ≠ [] → getE X i = 0 := fun h => by unfold getE; rw [if_neg (by omega), if_neg (fun e => h (List.length_eq_zero_iff.1 e))]
  refine ⟨hg0, hg1, ?_, ?_, hko, by omega, ?_, ?_, fun v hv => (mem_get.1 hv).1⟩
  · by_cases h : getL X i = []
    · rw [getR_bad (by rw [hg0 h]; decide), h]
    · exact getR_ok (hg1 h)
  · unfold pastE; rw [if_neg (by omega)]; unfold kE; rw [if_neg (by omega)]
  · intro h
    unfold pastF; rw [h]
    refine (formK_uniq (k := ⟨[], []⟩) ⟨by simp, by simp, by simp, by simp, by simp⟩ fun s c _ _ h1 _ => ?_).symm
    have e1 : knIn ⟨[], []⟩ s c = false := by
      unfold knIn vecAt
      simp only [List.not_mem_nil, decide_false, Bool.or_false]
      simp; omega
    have e2 : pastP [] s c = false := rfl
    rw [e1, e2]
  · intro v hv
    have hv2 := mem_get.1 hv
    have hok := hs.ok v hv2.1
    obtain ⟨d0, d5, d1, d1000⟩ := dot_rng hok.dot
    have hin : knIn (pastF X i) v.ds v.dc = true := by
      unfold pastF
      rw [formK_in _ _ _ d0 d5 d1 d1000]
      exact pastP_iff.2 ⟨v, hv, .inr ⟨rfl, rfl⟩⟩
    have hvc : knChk v.past = 0 := knChk_zero.2 ⟨hok.past, hok.len⟩
    have htwo : knTwo v.past (pastF X i) = 0 := knTwo_zero.2 ⟨hvc, hkz⟩
    refine ⟨by unfold knHas; rw [if_pos hkz, if_pos hok.dot, hin], by unfold knHasE; rw [if_pos hkz, if_pos hok.dot], ?_, htwo, hv2.2⟩
    unfold knWithinB knWithin
    rw [if_pos htwo, decide_eq_true_eq]
    refine (formK_uniq hko fun s c h0 h5 h1 h1000 => ?_).symm
    have hi : knIn v.past s c = true → knIn (pastF X i) s c = true := fun h => by
      unfold pastF
      rw [formK_in _ _ _ h0 h5 h1 h1000]
      exact pastP_iff.2 ⟨v, hv, .inl h⟩
    unfold orK
    cases h : knIn v.past s c
    · rfl
    · rw [hi h]; rfl
end Go.Proofs.YtboakoipdfmpcaaGreat
namespace Go.Proofs.YtboakoipdfmpcaaGreat
open Go.RowKit
/-- Versions that were made, each over some that were made ahead of it, and over what those are over. -/
structure Hx (U : List Ver) : Prop where
  ok : ∀ v ∈ U, VerOk v
  inj : ∀ v ∈ U, ∀ w ∈ U, v.ds = w.ds → v.dc = w.dc → v = w
  src : ∀ a ∈ U, ∀ s c : Int, 0 ≤ s → s < 5 → 1 ≤ c → c ≤ 1000 → knIn a.past s c = true → ∃ b ∈ U, b.id = a.id ∧ b.ds = s ∧ b.dc = c
  closed : ∀ a ∈ U, ∀ b ∈ U, knIn a.past b.ds b.dc = true → ∀ s c : Int, 0 ≤ s → s < 5 → 1 ≤ c → c ≤ 1000 → knIn b.past s c = true → knIn a.past s c = true
theorem Hx.nil : Hx [] := ⟨by simp, by simp, by simp, by simp⟩
theorem Hx.uni {U : List Ver} (h : Hx U) (hl : U.length ≤ 60) : Uni U where
  ok := h.ok
  len := hl
  key := fun v hv w hw hk => h.inj v hv w hw hk.2.1 hk.2.2
  trans := fun a ha b hb c hc h1 h2 => by
    simp only [verOver, Bool.and_eq_true, decide_eq_true_eq] at h1 h2 ⊢
    have hr := dot_rng (h.ok c hc).dot
    exact ⟨h1.1.trans h2.1, h.closed a ha b hb h1.2 c.ds c.dc hr.1 hr.2.1 hr.2.2.1 hr.2.2.2 h2.2⟩
theorem Hx.past_src {U : List Ver} (h : Hx U) {i : ByteArray} {C : List Ver} (hC : ∀ w ∈ C, w ∈ U ∧ w.id = i) {s c : Int} (h0 : 0 ≤ s) (h5 : s < 5) (h1 : 1 ≤ c) (h1000 : c ≤ 1000) (hp : pastP C s c = true) : ∃ b ∈ U, b.id = i ∧ b.ds = s ∧ b.dc = c := by
  obtain ⟨w, hw, hk⟩ := pastP_iff.1 hp
  obtain ⟨hw1, hw2⟩ := hC w hw
  rcases hk with hk | hk
  · obtain ⟨b, hb, h6, h7⟩ := h.src w hw1 s c h0 h5 h1 h1000 hk
    exact ⟨b, hb, h6.trans hw2, h7⟩
  · exact ⟨w, hw1, hw2, hk⟩
theorem Hx.past_few {U : List Ver} (h : Hx U) {i : ByteArray} {C : List Ver} (hC : ∀ w ∈ C, w ∈ U ∧ w.id = i) : (formK (pastP C)).more.length ≤ U.length :=
  more_few _ fun s c h0 h5 h1 h1000 hp => by
    obtain ⟨b, hb, -, h6⟩ := h.past_src hC h0 h5 h1 h1000 hp
    exact ⟨b, hb, h6⟩
theorem Hx.snoc {U : List Ver} (h : Hx U) {v : Ver} (hid : idOk v.id = true) (hdot : dotOk (v.ds, v.dc) = true) (hpt : ptOk v.tg v.nm = true) (hbd : 0 ≤ v.bd ∧ v.bd ≤ 1000000)
    (hfresh : ∀ w ∈ U, w.ds = v.ds → w.dc < v.dc) (hl : U.length ≤ 60)
    {C : List Ver} (hC : ∀ w ∈ C, w ∈ U ∧ w.id = v.id) (hv : v.past = formK (pastP C)) : Hx (U ++ [v]) := by
  have hin : ∀ s c : Int, 0 ≤ s → s < 5 → 1 ≤ c → c ≤ 1000 → knIn v.past s c = pastP C s c := fun s c h0 h5 h1 h1000 => by
    rw [hv, formK_in _ s c h0 h5 h1 h1000]
  have hno : ∀ a ∈ U, ¬ (a.ds = v.ds ∧ a.dc = v.dc) := fun a ha hk => by have := hfresh a ha hk.1; omega
  have hr := dot_rng hdot
  have hout : knIn v.past v.ds v.dc = false := by
    cases hk : knIn v.past v.ds v.dc
    · rfl
    · exfalso
      rw [hin _ _ hr.1 hr.2.1 hr.2.2.1 hr.2.2.2] at hk
      obtain ⟨b, hb, -, h6⟩ := h.past_src hC hr.1 hr.2.1 hr.2.2.1 hr.2.2.2 hk
      exact hno b hb h6
  have hmem : ∀ x, x ∈ U ++ [v] ↔ x ∈ U ∨ x = v := fun x => by simp
  refine ⟨?_, ?_, ?_, ?_⟩
  · intro x hx
    rcases (hmem x).1 hx with hx | rfl
    · exact h.ok x hx
    · exact ⟨hid, hdot, hpt, hbd, by rw [hv]; exact formK_ok _, by rw [hv]; exact Nat.le_trans (h.past_few hC) hl, hout⟩
  · intro x hx y hy h1 h2
    rcases (hmem x).1 hx with hx | rfl
    · rcases (hmem y).1 hy with hy | rfl
      · exact h.inj x hx y hy h1 h2
      · exact absurd ⟨h1, h2⟩ (hno x ‹x ∈ U›)
    · rcases (hmem y).1 hy with hy | rfl
      · exact absurd ⟨h1.symm, h2.symm⟩ (hno y hy)
      · rfl
  · intro a ha s c h0 h5 h1 h1000 hk
    rcases (hmem a).1 ha with ha | rfl
    · obtain ⟨b, hb, h6⟩ := h.src a ha s c h0 h5 h1 h1000 hk
      exact ⟨b, (hmem b).2 (.inl hb), h6⟩
    · rw [hin s c h0 h5 h1 h1000] at hk
      obtain ⟨b, hb, h6⟩ := h.past_src hC h0 h5 h1 h1000 hk
      exact ⟨b, (hmem b).2 (.inl hb), h6⟩
  · intro a ha b hb hk s c h0 h5 h1 h1000 hbk
    rcases (hmem b).1 hb with hb | rfl
    · have hrb := dot_rng (h.ok b hb).dot
      rcases (hmem a).1 ha with ha | rfl
      · exact h.closed a ha b hb hk s c h0 h5 h1 h1000 hbk
      · rw [hin _ _ hrb.1 hrb.2.1 hrb.2.2.1 hrb.2.2.2] at hk
        rw [hin s c h0 h5 h1 h1000]
        obtain ⟨w, hw, hk2⟩ := pastP_iff.1 hk
        refine pastP_iff.2 ⟨w, hw, .inl ?_⟩
        rcases hk2 with hk2 | hk2
        · exact h.closed w (hC w hw).1 b ‹b ∈ U› hk2 s c h0 h5 h1 h1000 hbk
        · rw [h.inj w (hC w hw).1 b ‹b ∈ U› hk2.1 hk2.2]; exact hbk
    · exfalso
      rcases (hmem a).1 ha with ha | rfl
      · obtain ⟨b, hb, -, h6⟩ := h.src a ha _ _ hr.1 hr.2.1 hr.2.2.1 hr.2.2.2 hk
        exact hno b hb h6
      · rw [hout] at hk; exact absurd hk (by decide)
theorem Hx.sub {U T : List Ver} (h : Hx U) (hT : ∀ x ∈ T, x ∈ U) (hc : ∀ a ∈ T, ∀ b ∈ U, b.id = a.id → knIn a.past b.ds b.dc = true → b ∈ T) : Hx T :=
  ⟨fun v hv => h.ok v (hT v hv), fun v hv w hw => h.inj v (hT v hv) w (hT w hw), fun a ha s c h0 h5 h1 h2 hk => by
    obtain ⟨b, hb, e1, e2, e3⟩ := h.src a (hT a ha) s c h0 h5 h1 h2 hk
    exact ⟨b, hc a ha b hb e1 (by rw [e2, e3]; exact hk), e1, e2, e3⟩, fun a ha b hb => h.closed a (hT a ha) b (hT b hb)⟩
/-- A shelf that may be stands for itself. -/
theorem rep_self {U L : List Ver} (hL : ShOk L) (h : ∀ x ∈ L, x ∈ U) : Rep U L L := ⟨h, hL.ord, fun x => ⟨fun hx => ⟨hx, fun b hb => hL.free x hx b hb⟩, fun h => h.1⟩⟩
theorem rep_on {U : List Ver} (hU : Uni U) : ∀ (V l L : List Ver), Rep U l L → (∀ x ∈ V, x ∈ U) → Rep U (l ++ V) (laidOn L V) ∧ putsE L V = 0
  | [], l, L, h, _ => by rw [List.append_nil]; exact ⟨h, rfl⟩
  | v :: V, l, L, h, hV => by
    have h1 := h.put hU (hV v (by simp))
    have h2 := putE_rep hU h (hV v (by simp))
    obtain ⟨k1, k2⟩ := rep_on hU V _ _ h1 fun x hx => hV x (by simp [hx])
    refine ⟨?_, ?_⟩
    · rw [List.append_assoc, List.singleton_append] at k1
      exact k1
    · unfold putsE; rw [if_neg (by omega)]; exact k2
theorem drops_mem {W : List Ver} : ∀ {L : List Ver} {x : Ver}, x ∈ dropsL L (W.map fun v => ⟨v.id, v.past⟩) ↔ x ∈ L ∧ ∀ b ∈ W, verOver b x = false := by
  induction W with
  | nil => intro L x; simp [dropsL]
  | cons b W ih =>
    intro L x
    show x ∈ dropsL (dropL L b.id b.past) (W.map fun v => ⟨v.id, v.past⟩) ↔ _
    rw [ih]
    unfold dropL
    rw [List.mem_filter]
    have e : underB b.id b.past x = verOver b x := by
      unfold underB verOver
      congr 1
      rw [decide_eq_decide]; exact ⟨fun h => h.symm, fun h => h.symm⟩
    rw [e]
    constructor
    · rintro ⟨⟨h1, h2⟩, h3⟩
      refine ⟨h1, fun c hc => ?_⟩
      rcases List.mem_cons.1 hc with rfl | hc
      · simpa using h2
      · exact h3 c hc
    · rintro ⟨h1, h2⟩
      exact ⟨⟨h1, by rw [h2 b (by simp)]; rfl⟩, fun c hc => h2 c (by simp [hc])⟩
/-- What is on a shelf when V was put and what is under W was dropped. -/
structure Taken (L V W R : List Ver) : Prop where
  ok : ShOk R
  mem : ∀ x, x ∈ R ↔ (x ∈ L ∨ x ∈ V) ∧ (∀ b ∈ L, verOver b x = false) ∧ (∀ b ∈ V, verOver b x = false) ∧ ∀ b ∈ W, verOver b x = false
theorem taken {U L V W : List Ver} (hU : Uni U) (hL : ShOk L) (hLU : ∀ x ∈ L, x ∈ U) (hV : ∀ x ∈ V, x ∈ U) : putsE L V = 0 ∧ Taken L V W (dropsL (laidOn L V) (W.map fun v => ⟨v.id, v.past⟩)) := by
  obtain ⟨h1, h2⟩ := rep_on hU V L L (rep_self hL hLU) hV
  refine ⟨h2, dropsL_ok (h1.ok hU) _, fun x => ?_⟩
  rw [drops_mem, h1.mem, List.mem_append]
  constructor
  · rintro ⟨⟨h3, h4⟩, h5⟩
    exact ⟨h3, fun b hb => h4 b (List.mem_append_left _ hb), fun b hb => h4 b (List.mem_append_right _ hb), h5⟩
  · rintro ⟨h3, h4, h5, h6⟩
    exact ⟨⟨h3, fun b hb => (List.mem_append.1 hb).elim (h4 b) (h5 b)⟩, h6⟩
theorem Taken.uniq {R R' : List Ver} (h : ShOk R) (h' : ShOk R') (he : ∀ x, x ∈ R ↔ x ∈ R') : R = R' := vsorted_ext h.ord h'.ord he
/-- Taken twice is taken once. -/
theorem Taken.twice {U L V W R R' : List Ver} (hU : Uni U) (hLU : ∀ x ∈ L, x ∈ U) (hL : ShOk L) (hV : ∀ x ∈ V, x ∈ U) (hW : ∀ x ∈ W, x ∈ U) (h : Taken L V W R) (h' : Taken R V W R') : R' = R := by
  refine vsorted_ext h'.ok.ord h.ok.ord fun x => ?_
  rw [h'.mem]
  constructor
  · rintro ⟨h1, h2, h3, h4⟩
    rcases h1 with h1 | h1
    · exact h1
    · refine (h.mem x).2 ⟨.inr h1, fun b hb => ?_, h3, h4⟩
      cases ho : verOver b x
      · rfl
      · exfalso
        have hbR : b ∉ R := fun hb => by rw [h2 b hb] at ho; exact absurd ho (by decide)
        rw [h.mem] at hbR
        have key : (∀ c ∈ V, verOver c b = false) ∧ ∀ c ∈ W, verOver c b = false := by
          refine ⟨fun c hc => ?_, fun c hc => ?_⟩
          · cases hcb : verOver c b
            · rfl
            · have := hU.trans c (hV c hc) b (hLU b hb) x (hV x h1) hcb ho
              rw [h3 c hc] at this; exact absurd this (by decide)
          · cases hcb : verOver c b
            · rfl
            · have := hU.trans c (hW c hc) b (hLU b hb) x (hV x h1) hcb ho
              rw [h4 c hc] at this; exact absurd this (by decide)
        exact hbR ⟨.inl hb, fun c hc => hL.free b hb c hc, key.1, key.2⟩
  · intro h1
    have h2 := (h.mem x).1 h1
    exact ⟨.inl h1, fun b hb => h.ok.free x h1 b hb, h2.2.2⟩
/-- What a site makes is new, and over all that it has of this thing. -/
structure Made (U : List Ver) (s : SiteS) : Prop where
  hx : Hx U
  sub : ∀ x ∈ s.L, x ∈ U
  low : ∀ w ∈ U, w.ds = s.me → w.dc ≤ s.made
theorem madeV_hx {U : List Ver} {s : SiteS} (h : Made U s) (hs : SiteOk s) (hl : U.length ≤ 60) (hm : s.made < 1000) {id : ByteArray} (hid : idOk id = true) {t n bd : Int} (hb : madeB t n bd = false) : Hx (U ++ [madeV s id t n bd]) := by
  simp only [madeB, Bool.or_eq_false_iff, Bool.not_eq_false', decide_eq_false_iff_not] at hb
  refine h.hx.snoc hid ?_ hb.1.1 (by show 0 ≤ bd ∧ bd ≤ 1000000; omega) (fun w hw e => by have := h.low w hw e; show w.dc < s.made + 1; omega) hl (C := getL s.L id) (fun w hw => ⟨h.sub w (mem_get.1 hw).1, (mem_get.1 hw).2⟩) rfl
  show dotOk (s.me, s.made + 1) = true
  have := hs.me
  have := hs.made
  exact dotOk_iff.2 ⟨by simp only; omega, by simp only; omega, by simp only; omega⟩
theorem madeE_ok {U : List Ver} {s : SiteS} (h : Made U s) (hs : SiteOk s) (hl : U.length < 60) (hm : s.made < 1000) {id : ByteArray} (hid : idOk id = true) {t n bd : Int} (hb : madeB t n bd = false) : madeE s id t n bd = 0 := by
  have hx := madeV_hx h hs (by omega) hm hid hb
  have hu := hx.uni (by rw [List.length_append, List.length_singleton]; omega)
  refine madeE_zero.2 ⟨hid, hb, by omega, ?_, ?_⟩
  · unfold pastE
    rw [if_neg (by rw [shelfChk_zero.2 hs.L]; decide)]
    unfold kE pastF
    have := h.hx.past_few (i := id) (C := getL s.L id) fun w hw => ⟨h.sub w (mem_get.1 hw).1, (mem_get.1 hw).2⟩
    rw [if_neg (by omega)]
  · exact putE_rep hu (rep_self hs.L fun x hx => List.mem_append_left _ (h.sub x hx)) (by simp)
/-- Is nothing of what is known over it, and is it not yet there: so it is put. -/
theorem made_mem {U : List Ver} {s : SiteS} (h : Made U s) (hs : SiteOk s) (hl : U.length ≤ 60) (hm : s.made < 1000) {id : ByteArray} (hid : idOk id = true) {t n bd : Int} (hb : madeB t n bd = false) (x : Ver) :
    x ∈ putL s.L (madeV s id t n bd) ↔ x = madeV s id t n bd ∨ x ∈ s.L ∧ x.id ≠ id := by
  have hx := madeV_hx h hs hl hm hid hb
  have hv := hx.ok _ (List.mem_append_right _ (List.mem_singleton.2 rfl))
  have h1 : ∀ w ∈ s.L, verCmp w (madeV s id t n bd) ≠ 0 := fun w hw e => by
    obtain ⟨-, e2, e3⟩ := (vcmp_zero _ _).1 e
    have := h.low w (h.sub w hw) e2
    have e3 : w.dc = s.made + 1 := e3
    omega
  have h2 : ∀ w ∈ s.L, verOver w (madeV s id t n bd) = false := fun w hw => by
    cases ho : verOver w (madeV s id t n bd)
    · rfl
    · exfalso
      simp only [verOver, Bool.and_eq_true, decide_eq_true_eq] at ho
      have hr := dot_rng hv.dot
      obtain ⟨b, hbU, -, e2, e3⟩ := h.hx.src w (h.sub w hw) _ _ hr.1 hr.2.1 hr.2.2.1 hr.2.2.2 ho.2
      have := h.low b hbU e2
      have e3 : b.dc = s.made + 1 := e3
      omega
  rw [put_mem hv h1 h2]
  refine or_congr Iff.rfl (and_congr_right fun hxl => ?_)
  have hr := dot_rng (h.hx.ok x (h.sub x hxl)).dot
  unfold verOver
  by_cases e : x.id = id
  · have e2 : (madeV s id t n bd).id = x.id := e.symm
    have e3 : knIn (madeV s id t n bd).past x.ds x.dc = true := by
      show knIn (pastF s.L id) x.ds x.dc = true
      unfold pastF
      rw [formK_in _ _ _ hr.1 hr.2.1 hr.2.2.1 hr.2.2.2]
      exact pastP_iff.2 ⟨x, mem_get.2 ⟨hxl, e⟩, .inr ⟨rfl, rfl⟩⟩
    rw [decide_eq_true e2, e3]; simp [e]
  · have e2 : ¬ (madeV s id t n bd).id = x.id := fun h => e h.symm
    rw [decide_eq_false e2]; simp [e]
end Go.Proofs.YtboakoipdfmpcaaGreat
namespace Go.Proofs.YtboakoipdfmpcaaGreat
open Go.RowKit
theorem giveB_congr {r : SiteS} (h : SiteOk r) {st sm : Int} {p q : Nat → Nat → Bool} {A : List SP} (hpq : ∀ t n, t < 16 → n < 32 → p t n = q t n) : giveB r st sm p A = giveB r st sm q A := by
  have hin : ∀ v ∈ r.L, inP p v = inP q v := fun v hv => by
    obtain ⟨h1, h2, h3, h4⟩ := pt_rng (h.L.ok v hv).pt
    exact hpq _ _ (by omega) (by omega)
  unfold giveB
  congr 1
  · unfold giveV
    exact List.filter_congr fun v hv => by rw [hin v hv]
  · unfold giveG
    congr 1
    exact List.filter_congr fun v hv => by rw [hin v hv]
  · exact narrow_congr h.known hpq
def syncB (s r : SiteS) : BtS := giveB r s.me s.stamp s.P (knownS s)
theorem syncB_ok {s r : SiteS} (hs : SiteOk s) (hr : SiteOk r) : BtSOk (syncB s r) := giveB_ok hr hs.me hs.stamp _ _
theorem EveryPost.own {w w' : World} {e : Ending} (h : EveryPost w e w') : ∃ v, e = .returned v ∧ FOwn w' w.heap.size v everyB ∧ Below w.heap.size w w' := by
  obtain ⟨g, h', rfl, h1, h2, h3, h4, h5, h6⟩ := h
  exact ⟨_, rfl, boxOwn (s := (0, 32)) h1 h2 h4 h5, h6⟩
set_option maxRecDepth 100000 in
theorem everyS (w : World) : Calls Tryz.prog 29 #[] w fun e w' => ∃ v, e = .returned v ∧ FOwn w' w.heap.size v everyB ∧ Below w.heap.size w w' :=
  (everyX w).mono fun _ _ h => EveryPost.own h
theorem gone_bd {g : Gn} (h : goneChk g = 0) : g.past.vec.length ≤ 5 ∧ g.past.more.length ≤ 60 := by
  unfold goneChk at h
  cases hi : idOk g.id
  · rw [if_pos hi] at h; exact absurd h (by decide)
  · rw [if_neg (by rw [hi]; decide)] at h
    exact ⟨(knChk_zero.1 h).1.len, (knChk_zero.1 h).2⟩
theorem every_chk : fChk everyB = 0 := by decide
set_option maxRecDepth 100000 in
set_option maxHeartbeats 4000000 in
theorem siteBegun_c (w : World) : Calls Tryz.prog 51 #[] w fun e w' => e = .returned (.bool true) ∧ Below w.heap.size w w' := by
  have HE := Lib.hid (everyS w)
  go_enter Tryz.func51, Tryz.ntmps51
  go_wp2_with fail
  (with_reducible refine (HE.out).mono ?_)
  rintro e w1 ⟨ev, rfl, he, hb1⟩
  have HN := Lib.hid (snew_c 2 ev everyB w1 ⟨by decide, by decide⟩ (he.at_ok every_chk) every_chk)
  have HB1 := Lib.hid hb1
  obtain ⟨ea, ec, hev⟩ := (he.at_ok every_chk).shape
  subst hev
  clear he hb1 HE
  go_wp2_with fail
  (with_reducible refine (HN.out).mono ?_)
  rintro e w2 ⟨g, rfl, hs, hb2⟩
  have HS := Lib.hid hs
  have HL := Lib.hid ((Lw.refl w).below (bstep HB1.out hb2))
  have HG := Lib.hid (show w.heap.size ≤ g from Nat.le_trans HB1.out.size hs.ge)
  have hM : Made [] (newS 2 (ptsOf everyB)) := ⟨Hx.nil, by simp [newS], by simp⟩
  have hz : madeE (newS 2 (ptsOf everyB)) ⟨#[97]⟩ 0 0 7 = 0 := madeE_ok hM hs.ok (by decide) (by decide) (by decide) (by decide)
  have HZ := Lib.hid hz
  have HK := Lib.hid (show (madeS (newS 2 (ptsOf everyB)) ⟨#[97]⟩ 0 0 7).L.length = 1 by
    have e : (madeS (newS 2 (ptsOf everyB)) ⟨#[97]⟩ 0 0 7).L = putL [] (madeV (newS 2 (ptsOf everyB)) ⟨#[97]⟩ 0 0 7) := by unfold madeS; rw [if_pos hz]; rfl
    rw [e]
    have hv := (madeV_hx hM hs.ok (by decide) (by decide) (id := ⟨#[97]⟩) (t := 0) (n := 0) (bd := 7) (by decide) (by decide)).ok _ (List.mem_append_right _ (List.mem_singleton.2 rfl))
    unfold putL putB insL
    simp [over_self hv])
  have HM := Lib.hid (smake_c g w1.heap.size (newS 2 (ptsOf everyB)) ⟨#[97]⟩ 0 0 7 w2 hs)
  clear hs hb2 HN HB1 hM hz
  go_wp2_with fail
  (with_reducible refine (HM.out).mono ?_)
  rintro e w3 ⟨he, hs, hp⟩
  rw [if_pos HZ.out, if_pos HZ.out, HZ.out] at he
  have he : e = .returned (.tuple #[.agg #[.int .i64 2, .int .i64 1], .int .i64 0]) := he
  subst he
  have HS3 := Lib.hid hs
  have HL3 := Lib.hid (HL.out.one hp HG.out)
  clear hs hp HM HL HS
  have HB4 := Lib.hid (bal (W := w3) (.cells #[.int .i64 2, .int .i64 1] 41))
  have HSH := Lib.hid (sshelf_c g w1.heap.size _ _ (HS3.out.below HB4.out))
  rw [HK.out] at HSH
  go_wp2_with fail
  (with_reducible refine (HSH.out).mono ?_)
  rintro e w4 ⟨a, c, rfl, -, hb4⟩
  have HL4 := Lib.hid (HL3.out.below (bstep HB4.out hb4))
  clear hb4 HSH HB4 HL3
  go_wp2
  go_ret
  exact ⟨rfl, HL4.out.toBelow⟩
set_option maxRecDepth 100000 in
set_option maxHeartbeats 4000000 in
theorem stwo_c (fv gv : Value) (F G : Bxs) (w : World) (hF : BxsAt w fv F) (hG : BxsAt w gv G) (hcF : fChk F = 0) (hcG : fChk G = 0) :
    Calls Tryz.prog 56 #[fv, gv] w fun e w' => ∃ a b : Nat, e = .returned (.tuple #[.pointer (some ⟨a, 0, none⟩), .pointer (some ⟨b, 0, none⟩), .bool true]) ∧ SiteAt w' w.heap.size a (newS 0 (ptsOf F)) ∧ SiteAt w' w.heap.size b (newS 1 (ptsOf G)) ∧ a < b ∧ Below w.heap.size w w' := by
  obtain ⟨fa, fc, rfl⟩ := hF.shape
  obtain ⟨ga, gc, rfl⟩ := hG.shape
  have HN := Lib.hid (snew_c 0 _ F w ⟨by decide, by decide⟩ hF hcF)
  have HG := Lib.hid hG
  have HC := Lib.hid hcG
  clear hF hG hcF hcG
  go_enter Tryz.func56, Tryz.ntmps56
  go_wp2_with fail
  (with_reducible refine (HN.out).mono ?_)
  rintro e w1 ⟨a, rfl, hs, hb1⟩
  have HS := Lib.hid hs
  have HB1 := Lib.hid hb1
  have HM := Lib.hid (snew_c 1 _ G w1 ⟨by decide, by decide⟩ (HG.out.below hb1) HC.out)
  clear hs hb1 HN
  go_wp2_with fail
  (with_reducible refine (HM.out).mono ?_)
  rintro e w2 ⟨b, rfl, hs, hb2⟩
  have HS2 := Lib.hid hs
  have HB2 := Lib.hid hb2
  clear hs hb2 HM
  go_wp2
  refine bodyPost_ret (v := .tuple #[.pointer (some ⟨a, 0, none⟩), .pointer (some ⟨b, 0, none⟩), .bool true]) (by simp [results, Tryz.results56, go_sem, *]) rfl ?_
  have h1 := HS.out.lt
  have h2 := HS2.out.ge
  obtain ⟨f, l, p, k1, k2, k3, k4⟩ := HS2.out.cells
  exact ⟨_, _, rfl, HS.out.below HB2.out, ⟨HS2.out.ok, Nat.le_trans HB1.out.size HS2.out.ge, f, l, p, k1, FO.mono k2 HB1.out.size, VOwn.mono k3 HB1.out.size, PtsOwnA.mono k4 HB1.out.size⟩, by omega, bstep HB1.out HB2.out⟩
def SyncPost (wz : World) (b ga gb : Nat) (s r : SiteS) (e : Ending) (w' : World) : Prop := e = .returned (.bool (decide (tookE s (syncB s r) = 0))) ∧ SiteAt w' b ga (tookS s (syncB s r)) ∧ SiteAt w' b gb r ∧ Stp (fun q => q = ga) wz w'
set_option maxRecDepth 100000 in
set_option maxHeartbeats 4000000 in
theorem synced_c (ga gb b : Nat) (s r : SiteS) (wz : World) (hs : SiteAt wz b ga s) (hr : SiteAt wz b gb r) (hne : ga ≠ gb) :
    Calls Tryz.prog 59 #[.pointer (some ⟨ga, 0, none⟩), .pointer (some ⟨gb, 0, none⟩)] wz (SyncPost wz b ga gb s r) := by
  have HS := Lib.hid hs
  have HR := Lib.hid hr
  have HA := Lib.hid (ask_c ga b s wz hs)
  have HBO := Lib.hid (syncB_ok hs.ok hr.ok)
  clear hs hr
  go_enter Tryz.func59, Tryz.ntmps59
  go_wp2_with fail
  (with_reducible refine (HA.out).mono ?_)
  rintro e w1 ⟨f, p, rfl, hf, hp, hb1⟩
  obtain ⟨l, hl1, hl2, hl3⟩ := hf
  obtain ⟨A, hA1, hA2, hA3⟩ := hp
  have hA30 : A.length ≤ 30 := by have := HS.out.ok.klen; rw [← hA3, List.length_map] at this; exact this
  have HGV := Lib.hid (sgive_c gb b r s.me s.stamp f p l A w1 (HR.out.below hb1) HS.out.ok.me HS.out.ok.stamp.1 (FOwn.at_ok hl1 hl2) hl2 (hA1.at_ (fun z hz => (hA2 z hz).1) (by omega)) (ptsChk_zero.2 ⟨hA30, fun z hz => (hA2 z hz).1⟩))
  have HEQ := Lib.hid (show giveB r s.me s.stamp (ptsOf l) (A.map sem) = syncB s r by
    unfold syncB; rw [hA3]
    exact giveB_congr HR.out.ok fun t n ht hn => by rw [ptsOf_in ht hn]; exact hl3 t n ht hn)
  obtain ⟨fa, fc, hfv⟩ := (FOwn.at_ok hl1 hl2).shape
  subst hfv
  obtain ⟨pa, pc, hpv⟩ := hA1.shape
  subst hpv
  have HB1 := Lib.hid hb1
  clear hl1 hl2 hl3 hA1 hA2 hA3 hb1 HA
  go_wp2_with fail
  (with_reducible refine (HGV.out).mono ?_)
  rintro e w2 ⟨vv, gv, pv, rfl, hbt, hb2⟩
  rw [HEQ.out] at hbt
  obtain ⟨va, vc, hvv⟩ := hbt.vers.shape
  obtain ⟨g7a, g7c, hgv⟩ := GOwn.shape hbt.gone
  obtain ⟨p7a, p7c, hpv⟩ := hbt.parts.shape
  subst hvv hgv hpv
  obtain ⟨BX, hBX⟩ : ∃ BX, BX = w2.heap.size := ⟨_, rfl⟩
  obtain ⟨w3, hw3⟩ : ∃ w3, w3 = w2.alloc (.cells #[.int .i64 s.me, .int .i64 s.stamp, .slice va (syncB s r).V.length vc, .slice g7a (syncB s r).G.length g7c, .slice p7a (syncB s r).S.length p7c] 52) := ⟨_, rfl⟩
  have hb3 : Below w2.heap.size w2 w3 := by rw [hw3]; exact bal _
  have HK := Lib.hid (show w3.heap[BX]? = some (Obj.cells #[.int .i64 s.me, .int .i64 s.stamp, .slice va (syncB s r).V.length vc, .slice g7a (syncB s r).G.length g7c, .slice p7a (syncB s r).S.length p7c] 52 (0, 0)) by rw [hw3]; exact alloc_new _ _ _ _ hBX)
  have HB3 := Lib.hid (bstep (bstep HB1.out hb2) hb3)
  have hbt3 := hbt.below hb3
  have hbo := HBO.out
  obtain ⟨P, hP1, hP2, hP3⟩ := hbt3.parts
  have hbd : ∀ z ∈ (syncB s r).G, z.past.vec.length ≤ 5 ∧ z.past.more.length ≤ 60 := fun z hz => gone_bd (hbo.G z hz)
  have hPl : P.length ≤ 30 := by have := hbo.ls; rw [← hP3, List.length_map] at this; exact this
  have HT := Lib.hid (stake_c ga b s (syncB s r) P _ _ _ w3 (HS.out.below HB3.out) hbo (hbt3.vers.at_ (shok_bd hbo.V) (by have := hbo.lv; omega)) (GOwn.at_ hbt3.gone hbd (by have := hbo.lg; omega)) (hP1.at_ (fun z hz => (hP2 z hz).1) (by omega)) (fun z hz => (hP2 z hz).1) hP3)
  have k0 := cell_of_block (j := 0) HK.out rfl
  have k1 := cell_of_block (j := 1) HK.out rfl
  have k2 := cell_of_block (j := 2) HK.out rfl
  have k3 := cell_of_block (j := 3) HK.out rfl
  have k4 := cell_of_block (j := 4) HK.out rfl
  have kl := hlt_of HK.out
  rw [hw3, hBX] at k0 k1 k2 k3 k4 kl
  clear hbt hbt3 hb2 hb3 hP1 hP2 hP3 HGV HEQ hbo hbd
  have e1 : (syncB s r).site = s.me := rfl
  have e2 : (syncB s r).stamp = s.stamp := rfl
  rw [e1, e2] at HT
  clear e1 e2
  go_wp2_with fail
  rw [← hw3]
  clear hw3 hBX k0 k1 k2 k3 k4 kl
  (with_reducible refine (HT.out).mono ?_)
  rintro e w4 ⟨rfl, hs, hp⟩
  have HS4 := Lib.hid hs
  have HP4 := Lib.hid ((Stp.of_below HB3.out).trans hp)
  clear hs hp HT HB3 HB1
  have HR4 := Lib.hid (HR.out.stp HP4.out fun h => hne h.symm)
  generalize hq : tookE s (syncB s r) = q at *
  have HQ := Lib.hid hq
  clear hq
  by_cases h0 : q = 0
  · subst h0
    go_wp2
    go_ret
    exact ⟨by rw [HQ.out]; rfl, HS4.out, HR4.out, HP4.out⟩
  · have hd : decide (q = 0) = false := by simpa using h0
    go_wp2
    go_ret
    exact ⟨by rw [HQ.out]; rfl, HS4.out, HR4.out, HP4.out⟩
end Go.Proofs.YtboakoipdfmpcaaGreat
namespace Go.Proofs.YtboakoipdfmpcaaGreat
open Go.RowKit
theorem made_under {U : List Ver} {s : SiteS} (h : Made U s) (hs : SiteOk s) (hm : s.made < 1000) {id : ByteArray} {t n bd : Int} : ∀ w ∈ U, verOver w (madeV s id t n bd) = false := fun w hw => by
  cases ho : verOver w (madeV s id t n bd)
  · rfl
  · exfalso
    simp only [verOver, Bool.and_eq_true, decide_eq_true_eq] at ho
    have hme := hs.me
    have hmd := hs.made
    have ho2 : knIn w.past s.me (s.made + 1) = true := ho.2
    obtain ⟨b, hbU, -, e2, e3⟩ := h.hx.src w hw s.me (s.made + 1) hme.1 hme.2 (by omega) (by omega) ho2
    have := h.low b hbU e2
    omega
theorem over_made {U : List Ver} {s : SiteS} (h : Made U s) {id : ByteArray} {t n bd : Int} {x : Ver} (hx : x ∈ s.L) : verOver (madeV s id t n bd) x = decide (x.id = id) := by
  have hr := dot_rng (h.hx.ok x (h.sub x hx)).dot
  unfold verOver
  by_cases e : x.id = id
  · have e2 : (madeV s id t n bd).id = x.id := e.symm
    have e3 : knIn (madeV s id t n bd).past x.ds x.dc = true := by
      show knIn (pastF s.L id) x.ds x.dc = true
      unfold pastF
      rw [formK_in _ _ _ hr.1 hr.2.1 hr.2.2.1 hr.2.2.2]
      exact pastP_iff.2 ⟨x, mem_get.2 ⟨hx, e⟩, .inr ⟨rfl, rfl⟩⟩
    rw [decide_eq_true e2, e3, decide_eq_true e]; rfl
  · have e2 : ¬ (madeV s id t n bd).id = x.id := fun h => e h.symm
    rw [decide_eq_false e2, decide_eq_false e]; rfl
structure Grow (U : List Ver) (s : SiteS) (U' : List Ver) (s' : SiteS) (k : Nat) : Prop where
  made : Made U' s'
  me : s'.me = s.me
  P : s'.P = s.P
  S : s'.S = s.S
  stamp : s'.stamp = s.stamp
  new : ∃ N, U' = U ++ N ∧ N.length ≤ k ∧ s'.made = s.made + N.length ∧ (∀ x ∈ N, x.ds = s.me ∧ s.made < x.dc ∧ x.dc ≤ s'.made) ∧ (∀ x, x ∈ s'.L ↔ (x ∈ s.L ∨ x ∈ N) ∧ ∀ b ∈ N, verOver b x = false)
  one : (∀ x ∈ s.L, ∀ y ∈ s.L, x.id = y.id → x = y) → ∀ x ∈ s'.L, ∀ y ∈ s'.L, x.id = y.id → x = y
theorem Grow.refl {U : List Ver} {s : SiteS} (h : Made U s) : Grow U s U s 0 :=
  ⟨h, rfl, rfl, rfl, rfl, ⟨[], by simp, by simp, by simp, by simp, by simp⟩, fun h => h⟩
theorem Grow.up {U U' : List Ver} {s s' : SiteS} {k k' : Nat} (h : Grow U s U' s' k) (hk : k ≤ k') : Grow U s U' s' k' := by
  obtain ⟨N, h1, h2, h3⟩ := h.new
  exact ⟨h.made, h.me, h.P, h.S, h.stamp, ⟨N, h1, by omega, h3⟩, h.one⟩
theorem Grow.len {U U' : List Ver} {s s' : SiteS} {k : Nat} (h : Grow U s U' s' k) : U'.length ≤ U.length + k ∧ s.made ≤ s'.made ∧ s'.made ≤ s.made + k := by
  obtain ⟨N, h1, h2, h3, -⟩ := h.new
  rw [h1, List.length_append]; omega
theorem Grow.step {U U' : List Ver} {s s' : SiteS} {k : Nat} (h : Grow U s U' s' k) (hs : SiteOk s') (hl : U'.length < 60) (hm : s'.made < 1000) {id : ByteArray} (hid : idOk id = true) {t n bd : Int} (hb : madeB t n bd = false) :
    madeE s' id t n bd = 0 ∧ Grow U s (U' ++ [madeV s' id t n bd]) (madeS s' id t n bd) (k + 1) := by
  have he := madeE_ok h.made hs hl hm hid hb
  have hx := madeV_hx h.made hs (by omega) hm hid hb
  have eS : madeS s' id t n bd = { s' with L := putL s'.L (madeV s' id t n bd), made := s'.made + 1 } := by unfold madeS; rw [if_pos he]
  have hmem := made_mem h.made hs (by omega) hm hid hb
  have hv := hx.ok _ (List.mem_append_right _ (List.mem_singleton.2 rfl))
  obtain ⟨N, h1, h2, h3, h4, h5⟩ := h.new
  have hme : (madeV s' id t n bd).ds = s.me := h.me
  have hdc : (madeV s' id t n bd).dc = s'.made + 1 := rfl
  refine ⟨he, ?_⟩
  rw [eS]
  refine ⟨⟨hx, fun x hx2 => ?_, fun w hw e => ?_⟩, h.me, h.P, h.S, h.stamp, ⟨N ++ [madeV s' id t n bd], by rw [h1, List.append_assoc], by rw [List.length_append, List.length_singleton]; omega, ?_, fun x hx2 => ?_, fun x => ?_⟩, fun h1 => ?_⟩
  · rcases (hmem x).1 hx2 with rfl | ⟨h6, -⟩
    · simp
    · exact List.mem_append_left _ (h.made.sub x h6)
  · show w.dc ≤ s'.made + 1
    rcases List.mem_append.1 hw with hw | hw
    · have := h.made.low w hw e; omega
    · rw [List.mem_singleton] at hw; rw [hw, hdc]; omega
  · show s'.made + 1 = s.made + ((N ++ [madeV s' id t n bd]).length : Nat)
    rw [List.length_append, List.length_singleton]; omega
  · show x.ds = s.me ∧ s.made < x.dc ∧ x.dc ≤ s'.made + 1
    rcases List.mem_append.1 hx2 with hx2 | hx2
    · have := h4 x hx2; omega
    · rw [List.mem_singleton] at hx2; rw [hx2, hdc]; exact ⟨hme, by omega, by omega⟩
  · show x ∈ putL s'.L (madeV s' id t n bd) ↔ _
    rw [hmem]
    constructor
    · rintro (rfl | ⟨h6, h7⟩)
      · refine ⟨.inr (by simp), fun b hb => ?_⟩
        rcases List.mem_append.1 hb with hb | hb
        · exact made_under h.made hs hm b (by rw [h1]; exact List.mem_append_right _ hb)
        · rw [List.mem_singleton] at hb; rw [hb]; exact over_self hv
      · obtain ⟨h8, h9⟩ := (h5 x).1 h6
        refine ⟨h8.imp (fun h => h) fun h => List.mem_append_left _ h, fun b hb => ?_⟩
        rcases List.mem_append.1 hb with hb | hb
        · exact h9 b hb
        · rw [List.mem_singleton] at hb; rw [hb, over_made h.made h6, decide_eq_false h7]
    · rintro ⟨h6, h7⟩
      by_cases e : x = madeV s' id t n bd
      · exact .inl e
      · have h8 : x ∈ s'.L := (h5 x).2 ⟨h6.imp (fun h => h) fun h => by
          rcases List.mem_append.1 h with h | h
          · exact h
          · rw [List.mem_singleton] at h; exact absurd h e, fun b hb => h7 b (List.mem_append_left _ hb)⟩
        refine .inr ⟨h8, fun e2 => ?_⟩
        have := h7 (madeV s' id t n bd) (by simp)
        rw [over_made h.made h8, decide_eq_true e2] at this
        exact absurd this (by decide)
  · have h1 := h.one h1
    intro x hx2 y hy e
    have hx2 : x ∈ putL s'.L (madeV s' id t n bd) := hx2
    have hy : y ∈ putL s'.L (madeV s' id t n bd) := hy
    rcases (hmem x).1 hx2 with rfl | ⟨h6, h7⟩ <;> rcases (hmem y).1 hy with rfl | ⟨h8, h9⟩
    · rfl
    · exact absurd e.symm h9
    · exact absurd e h7
    · exact h1 x h6 y h8 e
def sidA (k : Nat) : ByteArray := if k = 0 then ⟨#[97]⟩ else if k = 1 then ⟨#[98]⟩ else if k = 2 then ⟨#[99]⟩ else ⟨#[100]⟩
theorem sidA_ok (k : Nat) : idOk (sidA k) = true := by
  unfold sidA
  split
  · decide
  · split
    · decide
    · split <;> decide
theorem madeB_ok {t n bd : Nat} (ht : t < 16) (hn : n < 32) (hb : bd ≤ 1000000) : madeB (t : Int) (n : Int) (bd : Int) = false := by
  have h1 : ptOk (t : Int) (n : Int) = true := by
    simp only [ptOk, tagsB, Bool.and_eq_true, decide_eq_true_eq]; omega
  unfold madeB
  rw [h1, Bool.or_eq_false_iff, Bool.or_eq_false_iff, decide_eq_false_iff_not, decide_eq_false_iff_not]
  exact ⟨⟨rfl, by omega⟩, by omega⟩
end Go.Proofs.YtboakoipdfmpcaaGreat
namespace Go.Proofs.YtboakoipdfmpcaaGreat
open Go.RowKit
/-- Names in a row of their own. -/
def StrRow (w : World) (lo n : Nat) (cs : Array Value) (v : Value) : Prop := ∃ q, v = .slice (some ⟨q, 0, none⟩) n n ∧ w.heap[q]? = some (Obj.cells cs 9 (0, 0)) ∧ lo ≤ q
theorem StrRow.below {w w' : World} {lo n : Nat} {cs : Array Value} {v : Value} (h : StrRow w lo n cs v) (hb : Below w.heap.size w w') : StrRow w' lo n cs v := by
  obtain ⟨q, h1, h2, h3⟩ := h; exact ⟨q, h1, below_keep hb h2, h3⟩
def StrPt (w : World) (lo k : Nat) (cs : Array Value) (v : Value) : Prop := ∃ q, v = .pointer (some ⟨q, k, none⟩) ∧ w.heap[q]? = some (Obj.cells cs 9 (0, 0)) ∧ lo ≤ q
theorem StrPt.below {w w' : World} {lo k : Nat} {cs : Array Value} {v : Value} (h : StrPt w lo k cs v) (hb : Below w.heap.size w w') : StrPt w' lo k cs v := by
  obtain ⟨q, h1, h2, h3⟩ := h; exact ⟨q, h1, below_keep hb h2, h3⟩
def DotNew (w : World) (lo : Nat) (v : Value) : Prop := ∃ q, v = .pointer (some ⟨q, 0, none⟩) ∧ w.heap[q]? = some (Obj.cells #[.int .i64 0, .int .i64 0] 41 (0, 0)) ∧ lo ≤ q
theorem DotNew.below {w w' : World} {lo : Nat} {v : Value} (h : DotNew w lo v) (hb : Below w.heap.size w w') : DotNew w' lo v := by
  obtain ⟨q, h1, h2, h3⟩ := h; exact ⟨q, h1, below_keep hb h2, h3⟩
theorem DotNew.stp {w w' : World} {lo g : Nat} {v : Value} (h : DotNew w lo v) (hs : Stp (fun q => q = g) w w') (hg : g < lo) : DotNew w' lo v := by
  obtain ⟨q, h1, h2, h3⟩ := h; exact ⟨q, h1, hs.block h2 (by omega), h3⟩
def DotIs (w : World) (lo : Nat) (x y : Int) (v : Value) : Prop := ∃ q, v = .pointer (some ⟨q, 0, none⟩) ∧ w.heap[q]? = some (Obj.cells #[.int .i64 x, .int .i64 y] 41 (0, 0)) ∧ lo ≤ q
theorem DotIs.below {w w' : World} {lo : Nat} {x y : Int} {v : Value} (h : DotIs w lo x y v) (hb : Below w.heap.size w w') : DotIs w' lo x y v := by
  obtain ⟨q, h1, h2, h3⟩ := h; exact ⟨q, h1, below_keep hb h2, h3⟩
theorem names4 {k : Nat} (h : k < 4) : (#[.string { data := #[97] }, .string { data := #[98] }, .string { data := #[99] }, .string { data := #[100] }] : Array Value)[k]? = some (.string (sidA k)) := by
  obtain rfl | rfl | rfl | rfl : k = 0 ∨ k = 1 ∨ k = 2 ∨ k = 3 := by omega
  all_goals rfl
theorem names3 {k : Nat} (h : k < 3) : (#[.string { data := #[97] }, .string { data := #[98] }, .string { data := #[99] }] : Array Value)[k]? = some (.string (sidA k)) := by
  obtain rfl | rfl | rfl : k = 0 ∨ k = 1 ∨ k = 2 := by omega
  all_goals rfl
theorem names2 {k : Nat} (h : k < 2) : (#[.string { data := #[97] }, .string { data := #[98] }] : Array Value)[k]? = some (.string (sidA k)) := by
  obtain rfl | rfl : k = 0 ∨ k = 1 := by omega
  all_goals rfl
/-- The first three of a row of integers. -/
theorem three_ints {w : World} {v : Value} {l : List Int} (h : IsAt w v l) (h3 : 3 ≤ l.length) : ∃ cb coff cc, v = .slice (some ⟨cb, coff, none⟩) l.length cc ∧ cb < w.heap.size ∧ ∃ x0 x1 x2, w.cell? ⟨cb, coff, none⟩ = some (.int .i64 x0) ∧ w.cell? ⟨cb, coff + 1, none⟩ = some (.int .i64 x1) ∧ w.cell? ⟨cb, coff + 2, none⟩ = some (.int .i64 x2) ∧ l[0]? = some x0 ∧ l[1]? = some x1 ∧ l[2]? = some x2 := by
  obtain ⟨a, c, rfl, -, -, -, hl⟩ := h.open_
  rcases hl with hn | ⟨b, off, rfl, hb, hc⟩
  · rw [hn] at h3; simp at h3
  · exact ⟨b, off, c, rfl, hb, l[0], l[1], l[2], (by have := hc 0 (by omega); rwa [Nat.add_zero] at this), hc 1 (by omega), hc 2 (by omega), by simp, by simp, by simp⟩
def MakesPost (U : List Ver) (s : SiteS) (b g : Nat) (wz : World) (e : Ending) (w' : World) : Prop := ∃ U' s', e = .returned (.bool true) ∧ Grow U s U' s' 12 ∧ SiteAt w' b g s' ∧ Stp (fun q => q = g) wz w'
set_option maxRecDepth 100000 in
set_option maxHeartbeats 8000000 in
theorem smakes_c (g b : Nat) (s : SiteS) (U : List Ver) (lv : Value) (l : List (List Int)) (wz : World) (h : SiteAt wz b g s) (hM : Made U s) (hU : U.length ≤ 47) (hm : s.made ≤ 900) (hl : ∀ w', Stp (fun q => q = g) wz w' → RowAt vecE w' lv l) :
    Calls Tryz.prog 57 #[.pointer (some ⟨g, 0, none⟩), lv] wz (MakesPost U s b g wz) := by
  have hl0 := hl wz (Stp.refl _ _)
  have hll := hl0.len
  obtain ⟨la, lc, rfl, hcap, -, -, -⟩ := hl0.open_
  obtain ⟨n, hn⟩ : ∃ n : Nat, n = min l.length 12 := ⟨_, rfl⟩
  have hn1 : n ≤ l.length := by omega
  have hn2 : n ≤ 12 := by omega
  have hn3 : n ≤ lc := by omega
  have hmin : min (l.length : Int) 12 = (n : Int) := by omega
  have HL := Lib.hid (fun w' (hs : Stp (fun q => q = g) wz w') => RowAt.take (hl w' hs) n hn1)
  have HS0 := Lib.hid h
  have HM0 := Lib.hid (Grow.refl hM)
  have HGL := Lib.hid h.lt
  clear h hM hl hl0 hn
  go_enter Tryz.func57, Tryz.ntmps57
  go_wp2
  go_loopw [15] (fun i wr => ∃ k : Nat, k ≤ n ∧ i = .int .i64 k ∧ ∃ U' s', Grow U s U' s' k ∧ SiteAt wr b g s' ∧ Stp (fun q => q = g) wz wr) (fun i _ => n - (intOf i).toNat)
  case atStart => exact ⟨0, Nat.zero_le _, rfl, U, s, HM0.out, HS0.out, Stp.refl _ _⟩
  case round =>
    obtain ⟨k, hk, rfl, U', s', hgr, hsa, hst⟩ := hrel
    by_cases hlt : k < n
    rotate_left
    · obtain rfl : k = n := by omega
      have hkb : decide ((k : Int) < (k : Int)) = false := by simp
      go_wp2
      go_ret
      exact ⟨_, _, rfl, hgr.up hn2, hsa, hst⟩
    have hkb : decide ((k : Int) < (n : Int)) = true := by simp; omega
    have HLr := Lib.hid (HL.out wr hst)
    obtain ⟨a', cap', ha', -, -, -, hvl2⟩ := HLr.out.open_
    simp only [Value.slice.injEq] at ha'
    obtain ⟨hla, -, hlc⟩ := ha'
    have hltk : k < (l.take n).length := by rw [List.length_take]; omega
    rcases hvl2 with hnil | ⟨b7, off, ha7, hb, hc⟩
    · rw [hnil] at hltk; simp at hltk
    rw [ha7] at hla
    subst hla
    obtain ⟨c, ⟨u, rfl, hu⟩, hcc⟩ := hc k hltk
    have c1 : wr.cell? ⟨b7, off + k, none⟩ = some u := by have := hcc 0 u rfl; simpa [vecE] using this
    generalize (l.take n)[k] = cs at *
    have HSA := Lib.hid hsa
    have HGR := Lib.hid hgr
    have HST := Lib.hid hst
    obtain ⟨ua, uc, hus⟩ := hu.shape
    subst hus
    have HU := Lib.hid hu
    clear hc hcc hsa hgr hst hu HLr ha7 hlc
    by_cases h3 : cs.length < 3
    · have hd : decide ((cs.length : Int) < 3) = true := by simp; omega
      go_wp2
      go_roundw
      case rel => exact ⟨k + 1, by omega, by go_num, U', s', HGR.out.up (by omega), HSA.out, HST.out⟩
      case measure => simp [intOf] <;> omega
    have hd : decide ((cs.length : Int) < 3) = false := by simp; omega
    obtain ⟨cb, coff, cc, hcs, hcb, x0, x1, x2, q0, q1, q2, -⟩ := three_ints HU.out (by omega)
    simp only [Value.slice.injEq, true_and] at hcs
    obtain ⟨rfl, rfl⟩ := hcs
    obtain ⟨k0, hk0⟩ : ∃ k0, k0 = wiN x0 4 := ⟨_, rfl⟩
    obtain ⟨k1, hk1⟩ : ∃ k1, k1 = wiN x1 16 := ⟨_, rfl⟩
    obtain ⟨k2, hk2⟩ : ∃ k2, k2 = wiN x2 32 := ⟨_, rfl⟩
    obtain ⟨k3, hk3⟩ : ∃ k3, k3 = wiN x2 1000 := ⟨_, rfl⟩
    have hk04 : k0 < 4 := by rw [hk0]; exact wiN_lt x0 4 (by decide)
    have hk116 : k1 < 16 := by rw [hk1]; exact wiN_lt x1 16 (by decide)
    have hk232 : k2 < 32 := by rw [hk2]; exact wiN_lt x2 32 (by decide)
    have hk31 : k3 < 1000 := by rw [hk3]; exact wiN_lt x2 1000 (by decide)
    have HW0 := Lib.hid (fun (y : World) => wiN_c x0 4 y (by decide) (by decide))
    have HW1 := Lib.hid (fun (y : World) => wiN_c x1 16 y (by decide) (by decide))
    have HW2 := Lib.hid (fun (y : World) => wiN_c x2 32 y (by decide) (by decide))
    have HW3 := Lib.hid (fun (y : World) => wiN_c x2 1000 y (by decide) (by decide))
    rw [← hk0] at HW0
    rw [← hk1] at HW1
    rw [← hk2] at HW2
    rw [← hk3] at HW3
    have HK0 := Lib.hid hk04
    have HNM := Lib.hid (names4 hk04)
    have HX0 := Lib.hid q0
    have HX1 := Lib.hid q1
    have HX2 := Lib.hid q2
    have hgl := HGR.out.len
    obtain ⟨hez, hstep⟩ := HGR.out.step HSA.out.ok (by omega) (by omega) (sidA_ok k0) (madeB_ok hk116 hk232 (show k3 ≤ 1000000 by omega))
    obtain ⟨d0, hd0⟩ : ∃ d0, d0 = s'.me := ⟨_, rfl⟩
    obtain ⟨d1, hd1⟩ : ∃ d1, d1 = s'.made + 1 := ⟨_, rfl⟩
    obtain ⟨s9, hs9⟩ : ∃ s9, s9 = madeS s' (sidA k0) k1 k2 k3 := ⟨_, rfl⟩
    have HMK := Lib.hid (fun (wx : World) (hx : SiteAt wx b g s') => show Calls Tryz.prog 31 #[.pointer (some ⟨g, 0, none⟩), .string (sidA k0), .agg #[.int .i64 (k1 : Nat), .int .i64 (k2 : Nat)], .int .i64 (k3 : Nat)] wx fun e w' => e = .returned (.tuple #[.agg #[.int .i64 d0, .int .i64 d1], .int .i64 0]) ∧ SiteAt w' b g s9 ∧ Stp (fun q => q = g) wx w' from
      (smake_c g b s' (sidA k0) k1 k2 k3 wx hx).mono fun e w' hh => by
        obtain ⟨h1, h2, h3⟩ := hh
        rw [if_pos hez, if_pos hez, hez, ← hd0, ← hd1] at h1
        rw [← hs9] at h2
        exact ⟨h1, h2, h3⟩)
    rw [← hs9] at hstep
    have HSTEP := Lib.hid hstep
    have HS := Lib.hid HSA.out
    have HLT := Lib.hid HSA.out.lt
    clear hez hstep hd0 hd1 hs9 hk0 hk1 hk2 hk3 q0 q1 q2 hk04 hk116 hk232 hk31 hgl HSA HGR HU
    go_wp2_with fail
    refine Cl2.region0 50 rfl [21, 26] (fun w => Below wr.heap.size wr w) (fun jq => match jq with | 1 => [21, 26] | 6 => [21, 26] | 25 => [26] | _ => []) (fun jq v ww => match jq with | 0 => v = .pointer (some ⟨g, 0, none⟩) | 1 => StrRow ww wr.heap.size 4 #[.string { data := #[97] }, .string { data := #[98] }, .string { data := #[99] }, .string { data := #[100] }] v | 2 => v = .slice (some ⟨cb, coff, none⟩) cs.length uc | 3 => v = .pointer (some ⟨cb, coff, none⟩) | 4 => v = .int .i64 x0 | 5 => v = .int .i64 (k0 : Nat) | 6 => StrPt ww wr.heap.size k0 #[.string { data := #[97] }, .string { data := #[98] }, .string { data := #[99] }, .string { data := #[100] }] v | 7 => v = .string (sidA k0) | 8 => v = .slice (some ⟨cb, coff, none⟩) cs.length uc | 9 => v = .pointer (some ⟨cb, coff + 1, none⟩) | 10 => v = .int .i64 x1 | 11 => v = .int .i64 (k1 : Nat) | 12 => v = .slice (some ⟨cb, coff, none⟩) cs.length uc | 13 => v = .pointer (some ⟨cb, coff + 2, none⟩) | 14 => v = .int .i64 x2 | 15 => v = .int .i64 (k2 : Nat) | 16 => v = .agg #[.int .i64 (k1 : Nat), .int .i64 (k2 : Nat)] | 17 => v = .slice (some ⟨cb, coff, none⟩) cs.length uc | 18 => v = .pointer (some ⟨cb, coff + 2, none⟩) | 19 => v = .int .i64 x2 | 20 => v = .int .i64 (k3 : Nat) | 21 => SiteAt ww b g s9 ∧ v = .tuple #[.agg #[.int .i64 d0, .int .i64 d1], .int .i64 0] | 22 => v = .tuple #[.agg #[.int .i64 d0, .int .i64 d1], .int .i64 0] | 23 => v = .agg #[.int .i64 d0, .int .i64 d1] | 24 => v = .int .i64 0 | 25 => DotNew ww wr.heap.size v | 26 => DotIs ww wr.heap.size d0 d1 v | 27 => v = .int .i64 0 | _ => True) (fun ww => Stp (fun qq => qq = g) wr ww) (fun jq ww ww' => (jq ≠ 21 → jq ≠ 26 → Below ww.heap.size ww ww') ∧ (jq = 21 → Stp (fun qq => qq = g) ww ww') ∧ (jq = 26 → DotSet wr.heap.size ww ww')) Tryz.mixed (by decide +kernel) (Stp.refl _ _).drew ((Below.refl _ _).drew) ?_ (fun q w w' hk h hR => bstep h (hR.1 (by intro e; subst e; exact absurd hk (by decide)) (by intro e; subst e; exact absurd hk (by decide)))) ?_ ?_
    · intro q r v w w' hne hk hlt h hR
      match r, hk, hlt, h, hne with
      | 0, _, _, h, _ => exact h
      | 1, hk, hlt, h, hne =>
        exact h.below (hR.1 (by intro e; subst e; first | exact absurd hlt (by decide +kernel) | exact absurd rfl hne | simp at hk) (by intro e; subst e; first | exact absurd hlt (by decide +kernel) | exact absurd rfl hne | simp at hk))
      | 2, _, _, h, _ => exact h
      | 3, _, _, h, _ => exact h
      | 4, _, _, h, _ => exact h
      | 5, _, _, h, _ => exact h
      | 6, hk, hlt, h, hne =>
        exact h.below (hR.1 (by intro e; subst e; first | exact absurd hlt (by decide +kernel) | exact absurd rfl hne | simp at hk) (by intro e; subst e; first | exact absurd hlt (by decide +kernel) | exact absurd rfl hne | simp at hk))
      | 7, _, _, h, _ => exact h
      | 8, _, _, h, _ => exact h
      | 9, _, _, h, _ => exact h
      | 10, _, _, h, _ => exact h
      | 11, _, _, h, _ => exact h
      | 12, _, _, h, _ => exact h
      | 13, _, _, h, _ => exact h
      | 14, _, _, h, _ => exact h
      | 15, _, _, h, _ => exact h
      | 16, _, _, h, _ => exact h
      | 17, _, _, h, _ => exact h
      | 18, _, _, h, _ => exact h
      | 19, _, _, h, _ => exact h
      | 20, _, _, h, _ => exact h
      | 21, hk, hlt, h, hne =>
        by_cases e : q = 26
        · exact ⟨h.1.dot (hR.2.2 e) (by exact HLT.out), h.2⟩
        · exact ⟨h.1.below (hR.1 (by exact hne) e), h.2⟩
      | 22, _, _, h, _ => exact h
      | 23, _, _, h, _ => exact h
      | 24, _, _, h, _ => exact h
      | 25, hk, hlt, h, hne =>
        by_cases e : q = 21
        · exact h.stp (hR.2.1 e) (by exact HLT.out)
        · exact h.below (hR.1 e (by simpa using hk))
      | 26, hk, hlt, h, hne =>
        exact h.below (hR.1 (by intro e; subst e; first | exact absurd hlt (by decide +kernel) | exact absurd rfl hne | simp at hk) (by intro e; subst e; first | exact absurd hlt (by decide +kernel) | exact absurd rfl hne | simp at hk))
      | 27, _, _, h, _ => exact h
      | _ + 28, _, _, _, _ => trivial
    · refine ⟨?_, ?_, ?_, ?_, ?_, ?_, ?_, ?_, ?_, ?_, ?_, ?_, ?_, ?_, ?_, ?_, ?_, ?_, ?_, ?_, ?_, ?_, ?_, ?_, ?_, ?_, ?_, ?_, trivial⟩
      · intro x wx hG
        have f0 := hG.old 0 (by decide +kernel)
        have hg := hG.good
        clear hG
        go_wp2
        exact ⟨_, rfl, rfl, hg, ⟨fun _ _ => Below.refl _ _, fun h => absurd h (by decide), fun h => absurd h (by decide)⟩⟩
      · intro x wx hG
        have hp := hG.pre (by decide +kernel)
        have hg := hG.good
        clear hG
        go_wp2
        exact ⟨_, rfl, ⟨_, rfl, alloc_new _ _ _ _ rfl, hp.size⟩, hg.below (bal _), ⟨fun _ _ => bal _, fun h => absurd h (by decide), fun h => absurd h (by decide)⟩⟩
      · intro x wx hG
        have f6 := hG.old 6 (by decide +kernel)
        have hg := hG.good
        clear hG
        go_wp2
        exact ⟨_, rfl, rfl, hg, ⟨fun _ _ => Below.refl _ _, fun h => absurd h (by decide), fun h => absurd h (by decide)⟩⟩
      · intro x wx hG
        have g2 : (x.tmps.getD 25 undef) = .slice (some ⟨cb, coff, none⟩) cs.length uc := hG.claims 2 _ rfl (by decide +kernel) (by decide +kernel)
        have g2b := g2
        rw [Array.getD_eq_getD_getElem?] at g2b
        have hg := hG.good
        clear hG
        go_wp2
        exact ⟨_, rfl, rfl, hg, ⟨fun _ _ => Below.refl _ _, fun h => absurd h (by decide), fun h => absurd h (by decide)⟩⟩
      · intro x wx hG
        have g3 : (x.tmps.getD 26 undef) = .pointer (some ⟨cb, coff, none⟩) := hG.claims 3 _ rfl (by decide +kernel) (by decide +kernel)
        have g3b := g3
        rw [Array.getD_eq_getD_getElem?] at g3b
        have hp := hG.pre (by decide +kernel)
        have hg := hG.good
        clear hG
        have c_HX0 := ckeep hp HX0.out
        go_wp2
        exact ⟨_, rfl, rfl, hg, ⟨fun _ _ => Below.refl _ _, fun h => absurd h (by decide), fun h => absurd h (by decide)⟩⟩
      · intro x wx hG
        have g4 : (x.tmps.getD 27 undef) = .int .i64 x0 := hG.claims 4 _ rfl (by decide +kernel) (by decide +kernel)
        have g4b := g4
        rw [Array.getD_eq_getD_getElem?] at g4b
        have hg := hG.good
        clear hG
        go_wp2_with fail
        (with_reducible refine (HW0.out wx).mono ?_)
        rintro e wq ⟨rfl, hb⟩
        have HBB := Lib.hid hb
        clear hb
        go_wp2
        exact ⟨_, rfl, rfl, hg.below HBB.out, ⟨fun _ _ => HBB.out, fun h => absurd h (by decide), fun h => absurd h (by decide)⟩⟩
      · intro x wx hG
        have g1 : StrRow wx wr.heap.size 4 #[.string { data := #[97] }, .string { data := #[98] }, .string { data := #[99] }, .string { data := #[100] }] (x.tmps.getD 24 undef) := hG.claims 1 _ rfl (by decide +kernel) (by decide +kernel)
        have g5 : (x.tmps.getD 28 undef) = .int .i64 (k0 : Nat) := hG.claims 5 _ rfl (by decide +kernel) (by decide +kernel)
        have g5b := g5
        rw [Array.getD_eq_getD_getElem?] at g5b
        have hg := hG.good
        clear hG
        obtain ⟨q, hv, hq, hlo⟩ := g1
        have hvb := hv
        rw [Array.getD_eq_getD_getElem?] at hvb
        have hk0 := HK0.out
        have hk1 : (k0 : Int) < 4 := by omega
        have HQ := Lib.hid (And.intro hq hlo)
        clear hq hlo
        go_wp2
        exact ⟨_, rfl, ⟨q, by simp, HQ.out.1, HQ.out.2⟩, hg, ⟨fun _ _ => Below.refl _ _, fun h => absurd h (by decide), fun h => absurd h (by decide)⟩⟩
      · intro x wx hG
        have g6 : StrPt wx wr.heap.size k0 #[.string { data := #[97] }, .string { data := #[98] }, .string { data := #[99] }, .string { data := #[100] }] (x.tmps.getD 29 undef) := hG.claims 6 _ rfl (by decide +kernel) (by decide +kernel)
        have hg := hG.good
        clear hG
        obtain ⟨q, hv, hq, hlo⟩ := g6
        have hvb := hv
        rw [Array.getD_eq_getD_getElem?] at hvb
        have hcq := cell_of_block (j := k0) hq HNM.out
        clear hq hlo
        go_wp2
        exact ⟨_, rfl, rfl, hg, ⟨fun _ _ => Below.refl _ _, fun h => absurd h (by decide), fun h => absurd h (by decide)⟩⟩
      · intro x wx hG
        have f6 := hG.old 6 (by decide +kernel)
        have hg := hG.good
        clear hG
        go_wp2
        exact ⟨_, rfl, rfl, hg, ⟨fun _ _ => Below.refl _ _, fun h => absurd h (by decide), fun h => absurd h (by decide)⟩⟩
      · intro x wx hG
        have g8 : (x.tmps.getD 31 undef) = .slice (some ⟨cb, coff, none⟩) cs.length uc := hG.claims 8 _ rfl (by decide +kernel) (by decide +kernel)
        have g8b := g8
        rw [Array.getD_eq_getD_getElem?] at g8b
        have hg := hG.good
        clear hG
        go_wp2
        exact ⟨_, rfl, rfl, hg, ⟨fun _ _ => Below.refl _ _, fun h => absurd h (by decide), fun h => absurd h (by decide)⟩⟩
      · intro x wx hG
        have g9 : (x.tmps.getD 32 undef) = .pointer (some ⟨cb, coff + 1, none⟩) := hG.claims 9 _ rfl (by decide +kernel) (by decide +kernel)
        have g9b := g9
        rw [Array.getD_eq_getD_getElem?] at g9b
        have hp := hG.pre (by decide +kernel)
        have hg := hG.good
        clear hG
        have c_HX1 := ckeep hp HX1.out
        go_wp2
        exact ⟨_, rfl, rfl, hg, ⟨fun _ _ => Below.refl _ _, fun h => absurd h (by decide), fun h => absurd h (by decide)⟩⟩
      · intro x wx hG
        have g10 : (x.tmps.getD 33 undef) = .int .i64 x1 := hG.claims 10 _ rfl (by decide +kernel) (by decide +kernel)
        have g10b := g10
        rw [Array.getD_eq_getD_getElem?] at g10b
        have hg := hG.good
        clear hG
        go_wp2_with fail
        (with_reducible refine (HW1.out wx).mono ?_)
        rintro e wq ⟨rfl, hb⟩
        have HBB := Lib.hid hb
        clear hb
        go_wp2
        exact ⟨_, rfl, rfl, hg.below HBB.out, ⟨fun _ _ => HBB.out, fun h => absurd h (by decide), fun h => absurd h (by decide)⟩⟩
      · intro x wx hG
        have f6 := hG.old 6 (by decide +kernel)
        have hg := hG.good
        clear hG
        go_wp2
        exact ⟨_, rfl, rfl, hg, ⟨fun _ _ => Below.refl _ _, fun h => absurd h (by decide), fun h => absurd h (by decide)⟩⟩
      · intro x wx hG
        have g12 : (x.tmps.getD 35 undef) = .slice (some ⟨cb, coff, none⟩) cs.length uc := hG.claims 12 _ rfl (by decide +kernel) (by decide +kernel)
        have g12b := g12
        rw [Array.getD_eq_getD_getElem?] at g12b
        have hg := hG.good
        clear hG
        go_wp2
        exact ⟨_, rfl, rfl, hg, ⟨fun _ _ => Below.refl _ _, fun h => absurd h (by decide), fun h => absurd h (by decide)⟩⟩
      · intro x wx hG
        have g13 : (x.tmps.getD 36 undef) = .pointer (some ⟨cb, coff + 2, none⟩) := hG.claims 13 _ rfl (by decide +kernel) (by decide +kernel)
        have g13b := g13
        rw [Array.getD_eq_getD_getElem?] at g13b
        have hp := hG.pre (by decide +kernel)
        have hg := hG.good
        clear hG
        have c_HX2 := ckeep hp HX2.out
        go_wp2
        exact ⟨_, rfl, rfl, hg, ⟨fun _ _ => Below.refl _ _, fun h => absurd h (by decide), fun h => absurd h (by decide)⟩⟩
      · intro x wx hG
        have g14 : (x.tmps.getD 37 undef) = .int .i64 x2 := hG.claims 14 _ rfl (by decide +kernel) (by decide +kernel)
        have g14b := g14
        rw [Array.getD_eq_getD_getElem?] at g14b
        have hg := hG.good
        clear hG
        go_wp2_with fail
        (with_reducible refine (HW2.out wx).mono ?_)
        rintro e wq ⟨rfl, hb⟩
        have HBB := Lib.hid hb
        clear hb
        go_wp2
        exact ⟨_, rfl, rfl, hg.below HBB.out, ⟨fun _ _ => HBB.out, fun h => absurd h (by decide), fun h => absurd h (by decide)⟩⟩
      · intro x wx hG
        have g11 : (x.tmps.getD 34 undef) = .int .i64 (k1 : Nat) := hG.claims 11 _ rfl (by decide +kernel) (by decide +kernel)
        have g11b := g11
        rw [Array.getD_eq_getD_getElem?] at g11b
        have g15 : (x.tmps.getD 38 undef) = .int .i64 (k2 : Nat) := hG.claims 15 _ rfl (by decide +kernel) (by decide +kernel)
        have g15b := g15
        rw [Array.getD_eq_getD_getElem?] at g15b
        have hg := hG.good
        clear hG
        go_wp2
        exact ⟨_, rfl, rfl, hg, ⟨fun _ _ => Below.refl _ _, fun h => absurd h (by decide), fun h => absurd h (by decide)⟩⟩
      · intro x wx hG
        have f6 := hG.old 6 (by decide +kernel)
        have hg := hG.good
        clear hG
        go_wp2
        exact ⟨_, rfl, rfl, hg, ⟨fun _ _ => Below.refl _ _, fun h => absurd h (by decide), fun h => absurd h (by decide)⟩⟩
      · intro x wx hG
        have g17 : (x.tmps.getD 40 undef) = .slice (some ⟨cb, coff, none⟩) cs.length uc := hG.claims 17 _ rfl (by decide +kernel) (by decide +kernel)
        have g17b := g17
        rw [Array.getD_eq_getD_getElem?] at g17b
        have hg := hG.good
        clear hG
        go_wp2
        exact ⟨_, rfl, rfl, hg, ⟨fun _ _ => Below.refl _ _, fun h => absurd h (by decide), fun h => absurd h (by decide)⟩⟩
      · intro x wx hG
        have g18 : (x.tmps.getD 41 undef) = .pointer (some ⟨cb, coff + 2, none⟩) := hG.claims 18 _ rfl (by decide +kernel) (by decide +kernel)
        have g18b := g18
        rw [Array.getD_eq_getD_getElem?] at g18b
        have hp := hG.pre (by decide +kernel)
        have hg := hG.good
        clear hG
        have c_HX2 := ckeep hp HX2.out
        go_wp2
        exact ⟨_, rfl, rfl, hg, ⟨fun _ _ => Below.refl _ _, fun h => absurd h (by decide), fun h => absurd h (by decide)⟩⟩
      · intro x wx hG
        have g19 : (x.tmps.getD 42 undef) = .int .i64 x2 := hG.claims 19 _ rfl (by decide +kernel) (by decide +kernel)
        have g19b := g19
        rw [Array.getD_eq_getD_getElem?] at g19b
        have hg := hG.good
        clear hG
        go_wp2_with fail
        (with_reducible refine (HW3.out wx).mono ?_)
        rintro e wq ⟨rfl, hb⟩
        have HBB := Lib.hid hb
        clear hb
        go_wp2
        exact ⟨_, rfl, rfl, hg.below HBB.out, ⟨fun _ _ => HBB.out, fun h => absurd h (by decide), fun h => absurd h (by decide)⟩⟩
      · intro x wx hG
        have g0 : (x.tmps.getD 23 undef) = .pointer (some ⟨g, 0, none⟩) := hG.claims 0 _ rfl (by decide +kernel) (by decide +kernel)
        have g0b := g0
        rw [Array.getD_eq_getD_getElem?] at g0b
        have g7 : (x.tmps.getD 30 undef) = .string (sidA k0) := hG.claims 7 _ rfl (by decide +kernel) (by decide +kernel)
        have g7b := g7
        rw [Array.getD_eq_getD_getElem?] at g7b
        have g16 : (x.tmps.getD 39 undef) = .agg #[.int .i64 (k1 : Nat), .int .i64 (k2 : Nat)] := hG.claims 16 _ rfl (by decide +kernel) (by decide +kernel)
        have g16b := g16
        rw [Array.getD_eq_getD_getElem?] at g16b
        have g20 : (x.tmps.getD 43 undef) = .int .i64 (k3 : Nat) := hG.claims 20 _ rfl (by decide +kernel) (by decide +kernel)
        have g20b := g20
        rw [Array.getD_eq_getD_getElem?] at g20b
        have hp := hG.pre (by decide +kernel)
        have hg := hG.good
        clear hG
        have HN := Lib.hid (HMK.out wx (HS.out.below hp))
        go_wp2_with fail
        (with_reducible refine (HN.out).mono ?_)
        rintro e wq ⟨rfl, h1, h2⟩
        have H1 := Lib.hid h1
        have H2 := Lib.hid h2
        clear h1 h2 HN
        go_wp2
        exact ⟨_, rfl, ⟨H1.out, rfl⟩, hg.trans H2.out, ⟨fun h _ => absurd rfl h, fun _ => H2.out, fun h => absurd h (by decide)⟩⟩
      · intro x wx hG
        have g21 : SiteAt wx b g s9 ∧ (x.tmps.getD 44 undef) = .tuple #[.agg #[.int .i64 d0, .int .i64 d1], .int .i64 0] := hG.claims 21 _ rfl (by decide +kernel) (by decide +kernel)
        have hg := hG.good
        clear hG
        have g21v := g21.2
        have g21vb := g21v
        rw [Array.getD_eq_getD_getElem?] at g21vb
        go_wp2
        exact ⟨_, rfl, rfl, hg, ⟨fun _ _ => Below.refl _ _, fun h => absurd h (by decide), fun h => absurd h (by decide)⟩⟩
      · intro x wx hG
        have g22 : (x.tmps.getD 22 undef) = .tuple #[.agg #[.int .i64 d0, .int .i64 d1], .int .i64 0] := hG.claims 22 _ rfl (by decide +kernel) (by decide +kernel)
        have g22b := g22
        rw [Array.getD_eq_getD_getElem?] at g22b
        have hg := hG.good
        clear hG
        go_wp2
        exact ⟨_, rfl, rfl, hg, ⟨fun _ _ => Below.refl _ _, fun h => absurd h (by decide), fun h => absurd h (by decide)⟩⟩
      · intro x wx hG
        have g22 : (x.tmps.getD 22 undef) = .tuple #[.agg #[.int .i64 d0, .int .i64 d1], .int .i64 0] := hG.claims 22 _ rfl (by decide +kernel) (by decide +kernel)
        have g22b := g22
        rw [Array.getD_eq_getD_getElem?] at g22b
        have hg := hG.good
        clear hG
        go_wp2
        exact ⟨_, rfl, rfl, hg, ⟨fun _ _ => Below.refl _ _, fun h => absurd h (by decide), fun h => absurd h (by decide)⟩⟩
      · intro x wx hG
        have hg := hG.good
        clear hG
        go_wp2
        exact ⟨_, rfl, ⟨_, rfl, alloc_new _ _ _ _ rfl, hg.size⟩, hg.below (bal _), ⟨fun _ _ => bal _, fun h => absurd h (by decide), fun h => absurd h (by decide)⟩⟩
      · intro x wx hG
        have g25 : DotNew wx wr.heap.size (x.tmps.getD 7 undef) := hG.claims 25 _ rfl (by decide +kernel) (by decide +kernel)
        have g23 : (x.tmps.getD 45 undef) = .agg #[.int .i64 d0, .int .i64 d1] := hG.claims 23 _ rfl (by decide +kernel) (by decide +kernel)
        have g23b := g23
        rw [Array.getD_eq_getD_getElem?] at g23b
        have hg := hG.good
        clear hG
        obtain ⟨q, hv, hq, hlo⟩ := g25
        have HV := Lib.hid hv
        have hvb := hv
        rw [Array.getD_eq_getD_getElem?] at hvb
        have gxb := g23
        rw [Array.getD_eq_getD_getElem?] at gxb
        have r0 := cell_of_block (j := 0) hq rfl
        have r1 := cell_of_block (j := 1) hq rfl
        have q0 := free_of_block (j := 0) hq
        have q1 := free_of_block (j := 1) hq
        have hRl := hlt_of hq
        have HQ := Lib.hid hq
        have HLO := Lib.hid hlo
        clear hq hlo
        go_wp2
        exact ⟨undef, rfl, ⟨q, Eq.trans (by kernel_rfl) HV.out, by rw [heap_set_same (heap_set_same HQ.out)]; rfl, HLO.out⟩, DotSet.stp hg ⟨q, _, _, HLO.out, HQ.out, rfl⟩, ⟨fun _ h => absurd rfl h, fun h => absurd h (by decide), fun _ => ⟨q, _, _, HLO.out, HQ.out, rfl⟩⟩⟩
      · intro x wx hG
        have g24 : (x.tmps.getD 46 undef) = .int .i64 0 := hG.claims 24 _ rfl (by decide +kernel) (by decide +kernel)
        have g24b := g24
        rw [Array.getD_eq_getD_getElem?] at g24b
        have hg := hG.good
        clear hG
        go_wp2
        exact ⟨_, rfl, rfl, hg, ⟨fun _ _ => Below.refl _ _, fun h => absurd h (by decide), fun h => absurd h (by decide)⟩⟩
    · intro vals w9 hg hF
      obtain ⟨g0, g1, g2, g3, g4, g5, g6, g7, g8, g9, g10, g11, g12, g13, g14, g15, g16, g17, g18, g19, g20, g21, g22, g23, g24, g25, g26, g27, -⟩ := hF
      have e0 : vals 0 = .pointer (some ⟨g, 0, none⟩) := g0 rfl
      have e2 : vals 2 = .slice (some ⟨cb, coff, none⟩) cs.length uc := g2 rfl
      have e3 : vals 3 = .pointer (some ⟨cb, coff, none⟩) := g3 rfl
      have e4 : vals 4 = .int .i64 x0 := g4 rfl
      have e5 : vals 5 = .int .i64 (k0 : Nat) := g5 rfl
      have e7 : vals 7 = .string (sidA k0) := g7 rfl
      have e8 : vals 8 = .slice (some ⟨cb, coff, none⟩) cs.length uc := g8 rfl
      have e9 : vals 9 = .pointer (some ⟨cb, coff + 1, none⟩) := g9 rfl
      have e10 : vals 10 = .int .i64 x1 := g10 rfl
      have e11 : vals 11 = .int .i64 (k1 : Nat) := g11 rfl
      have e12 : vals 12 = .slice (some ⟨cb, coff, none⟩) cs.length uc := g12 rfl
      have e13 : vals 13 = .pointer (some ⟨cb, coff + 2, none⟩) := g13 rfl
      have e14 : vals 14 = .int .i64 x2 := g14 rfl
      have e15 : vals 15 = .int .i64 (k2 : Nat) := g15 rfl
      have e16 : vals 16 = .agg #[.int .i64 (k1 : Nat), .int .i64 (k2 : Nat)] := g16 rfl
      have e17 : vals 17 = .slice (some ⟨cb, coff, none⟩) cs.length uc := g17 rfl
      have e18 : vals 18 = .pointer (some ⟨cb, coff + 2, none⟩) := g18 rfl
      have e19 : vals 19 = .int .i64 x2 := g19 rfl
      have e20 : vals 20 = .int .i64 (k3 : Nat) := g20 rfl
      replace g21 : SiteAt w9 b g s9 ∧ (vals 21) = .tuple #[.agg #[.int .i64 d0, .int .i64 d1], .int .i64 0] := g21 rfl
      have e22 : vals 22 = .tuple #[.agg #[.int .i64 d0, .int .i64 d1], .int .i64 0] := g22 rfl
      have e23 : vals 23 = .agg #[.int .i64 d0, .int .i64 d1] := g23 rfl
      have e24 : vals 24 = .int .i64 0 := g24 rfl
      have g26 := g26 rfl
      have e27 : vals 27 = .int .i64 0 := g27 rfl
      simp only [Cl2.puts, e0, e2, e3, e4, e5, e7, e8, e9, e10, e11, e12, e13, e14, e15, e16, e17, e18, e19, e20, e22, e23, e24, e27]
      clear e0 e2 e3 e4 e5 e7 e8 e9 e10 e11 e12 e13 e14 e15 e16 e17 e18 e19 e20 e22 e23 e24 e27 g0 g1 g2 g3 g4 g5 g6 g7 g8 g9 g10 g11 g12 g13 g14 g15 g16 g17 g18 g19 g20 g22 g23 g24 g25 g27
      go_simp
      generalize vals 21 = mk9 at *
      have HSA := Lib.hid g21.1
      have HST2 := Lib.hid (HST.out.trans hg)
      clear g21 hg c1
      generalize vals 1 = j1 at *
      generalize vals 6 = j6 at *
      generalize vals 25 = j9 at *
      go_wp2
      go_roundw
      case rel => exact ⟨k + 1, by omega, by go_num, _, s9, HSTEP.out, HSA.out, HST2.out⟩
      case measure => simp [intOf] <;> omega
end Go.Proofs.YtboakoipdfmpcaaGreat
namespace Go.Proofs.YtboakoipdfmpcaaGreat
open Go.RowKit
theorem SiteAt.mono {w : World} {b b' g : Nat} {s : SiteS} (h : SiteAt w b g s) (hb : b' ≤ b) : SiteAt w b' g s := by
  obtain ⟨f, l, p, h1, h2, h3, h4⟩ := h.cells
  exact ⟨h.ok, Nat.le_trans hb h.ge, f, l, p, h1, FO.mono h2 hb, VOwn.mono h3 hb, PtsOwnA.mono h4 hb⟩
theorem everP_every : ptsOf everyB = everP := every_all
theorem inP_ever {v : Ver} (h : VerOk v) : inP everP v = true := by
  obtain ⟨h1, h2, h3, h4⟩ := pt_rng h.pt
  exact everP_in (by omega) (by omega)
theorem made_new (U : List Ver) (me : Int) (p : Nat → Nat → Bool) (h : Hx U) (hl : ∀ w ∈ U, w.ds ≠ me) : Made U (newS me p) := ⟨h, by simp [newS], fun w hw e => absurd e (hl w hw)⟩
/-- One asks another one, and takes what is given. -/
structure Synced (s r s' : SiteS) : Prop where
  e : tookE s (syncB s r) = 0
  eq : s' = tookS s (syncB s r)
  me : s'.me = s.me
  made : s'.made = s.made
  stamp : s'.stamp = s.stamp
  P : s'.P = s.P
  S : s'.S = fewS (s.S ++ giveS r s.P)
  L : Taken s.L (giveV r.L s.P (knownS s)) (r.L.filter fun v => !inP s.P v) s'.L
theorem sync_took {U : List Ver} {s r : SiteS} (hU : Uni U) (hs : SiteOk s) (_hr : SiteOk r) (hsU : ∀ x ∈ s.L, x ∈ U) (hrU : ∀ x ∈ r.L, x ∈ U) (hl : s.S.length + r.S.length ≤ 28) : Synced s r (tookS s (syncB s r)) := by
  have hlen : (fewS (s.S ++ (syncB s r).S)).length ≤ 29 := by
    have h1 := few_len (s.S ++ (syncB s r).S)
    have h2 : (syncB s r).S.length ≤ (knownS r).length := narrow_len _ _
    have h3 : (knownS r).length ≤ (ownSP r :: r.S).length := few_len _
    rw [List.length_cons] at h3
    rw [List.length_append] at h1
    omega
  have hV : ∀ x ∈ (syncB s r).V, x ∈ U := fun x hx => hrU x (List.mem_filter.1 hx).1
  obtain ⟨h1, h2⟩ := taken (W := r.L.filter fun v => !inP s.P v) hU hs.L hsU hV
  have he : tookE s (syncB s r) = 0 := tookE_zero.2 ⟨rfl, rfl, h1, hlen⟩
  have eS : tookS s (syncB s r) = { s with L := dropsL (laidOn s.L (syncB s r).V) (syncB s r).G, S := fewS (s.S ++ (syncB s r).S) } := by unfold tookS; rw [if_pos he]
  exact ⟨he, rfl, by rw [eS], by rw [eS], by rw [eS], by rw [eS], by rw [eS]; rfl, by rw [eS]; exact h2⟩
theorem Synced.len {s r s' : SiteS} (h : Synced s r s') : s'.S.length ≤ s.S.length + r.S.length + 1 := by
  rw [h.S]
  have h1 := few_len (s.S ++ giveS r s.P)
  have h2 : (giveS r s.P).length ≤ (knownS r).length := narrow_len _ _
  have h3 : (knownS r).length ≤ (ownSP r :: r.S).length := few_len _
  rw [List.length_cons] at h3
  rw [List.length_append] at h1
  omega
/-- What is known then. -/
theorem Synced.knows {s r s' : SiteS} (h : Synced s r s') (hs : SiteOk s) (hr : SiteOk r) {t n : Nat} {a c : Int} (ht : t < 16) (hn : n < 32) (h0 : 0 ≤ a) (h5 : a < 5) (h1 : 1 ≤ c) (h2 : c ≤ 1000) :
    knowsS s'.S t n a c = (knowsS s.S t n a c || (knowsS (knownS r) t n a c && s.P t n)) := by
  rw [h.S]
  unfold giveS
  rw [few_knows _ t n a c ht hn h0 h5 h1 h2 (fun x hx => (List.mem_append.1 hx).elim (hs.S x) (narrow_ok' hr.known x)), knowsS_append]
  congr 1
  exact narrow_knows hr.known t n a c ht hn h0 h5 h1 h2
theorem Synced.within {U : List Ver} {s r s' : SiteS} (h : Synced s r s') (hsU : ∀ x ∈ s.L, x ∈ U) (hrU : ∀ x ∈ r.L, x ∈ U) : ∀ x ∈ s'.L, x ∈ U := fun x hx => by
  rcases ((h.L.mem x).1 hx).1 with h1 | h1
  · exact hsU x h1
  · exact hrU x (List.mem_filter.1 h1).1
set_option maxRecDepth 100000 in
theorem sync_ok (ga gb b : Nat) (s r : SiteS) (wz : World) (hs : SiteAt wz b ga s) (hr : SiteAt wz b gb r) (hne : ga ≠ gb) (h0 : tookE s (syncB s r) = 0) :
    Calls Tryz.prog 59 #[.pointer (some ⟨ga, 0, none⟩), .pointer (some ⟨gb, 0, none⟩)] wz fun e w' => e = .returned (.bool true) ∧ SiteAt w' b ga (tookS s (syncB s r)) ∧ SiteAt w' b gb r ∧ Stp (fun q => q = ga) wz w' :=
  (synced_c ga gb b s r wz hs hr hne).mono fun e w' h => by
    obtain ⟨h1, h2⟩ := h
    rw [h0] at h1
    exact ⟨h1, h2⟩
theorem Grow.sub_of {U U' : List Ver} {s s' : SiteS} {k : Nat} (h : Grow U s U' s' k) : ∀ x ∈ U, x ∈ U' := fun x hx => by
  obtain ⟨N, h1, -⟩ := h.new
  rw [h1]; exact List.mem_append_left _ hx
/-- A site that has made nothing as yet, beside one that has. -/
theorem made_other {s s' : SiteS} {U : List Ver} {k : Nat} (h : Grow [] s U s' k) (me : Int) (p : Nat → Nat → Bool) (hne : s.me ≠ me) : Made U (newS me p) := by
  refine made_new U me p h.made.hx fun w hw e => ?_
  obtain ⟨N, h1, -, -, h4, -⟩ := h.new
  rw [h1, List.nil_append] at hw
  exact hne ((h4 w hw).1.symm.trans e)
/-- A shelf's row, how long it is. -/
def ShP (n : Nat) (v : Value) : Prop := ∃ a c, v = .slice a n c
set_option maxRecDepth 100000 in
/-- What was given is taken. -/
theorem take_bt {wz : World} {b g : Nat} {s : SiteS} {bt : BtS} {base vc gc pc : Nat} {va ga pa : Option Addr} (h : SiteAt wz b g s) (hbt : BtSOk bt) (ho : BtOwn wz base (.slice va bt.V.length vc) (.slice ga bt.G.length gc) (.slice pa bt.S.length pc) bt) :
    Calls Tryz.prog 37 #[.pointer (some ⟨g, 0, none⟩), .agg #[.int .i64 bt.site, .int .i64 bt.stamp, .slice va bt.V.length vc, .slice ga bt.G.length gc, .slice pa bt.S.length pc]] wz (TakePost wz b g s bt) := by
  obtain ⟨PP, hP1, hP2, hP3⟩ := ho.parts
  have hPl : PP.length ≤ 30 := by have := hbt.ls; rw [← hP3, List.length_map] at this; exact this
  exact stake_c g b s bt PP _ _ _ wz h hbt (ho.vers.at_ (shok_bd hbt.V) (by have := hbt.lv; omega)) (GOwn.at_ ho.gone (fun z hz => gone_bd (hbt.G z hz)) (by have := hbt.lg; omega)) (hP1.at_ (fun z hz => (hP2 z hz).1) (by omega)) (fun z hz => (hP2 z hz).1) hP3
end Go.Proofs.YtboakoipdfmpcaaGreat
namespace Go.Proofs.YtboakoipdfmpcaaGreat
open Go.RowKit
def wantL (L : List Ver) (p : Nat → Nat → Bool) : List Ver := L.filter (inP p)
theorem wantL_snoc (L : List Ver) (v : Ver) (p : Nat → Nat → Bool) : wantL (L ++ [v]) p = if inP p v = true then wantL L p ++ [v] else wantL L p := by
  unfold wantL
  rw [List.filter_append]
  split
  · rename_i h; rw [List.filter_cons_of_pos (by exact h), List.filter_nil]
  · rename_i h; rw [List.filter_cons_of_neg (by exact h), List.filter_nil, List.append_nil]
theorem has_ok {F : Bxs} {v : Ver} (hc : fChk F = 0) (h : VerOk v) : hasB F v.tg v.nm = inP (ptsOf F) v ∧ hasEr F v.tg v.nm = 0 := by
  unfold hasB hasEr
  rw [if_pos hc, if_pos hc, if_pos h.pt, if_pos h.pt]
  exact ⟨inP_of h, rfl⟩
def WantPost (w : World) (L : List Ver) (p : Nat → Nat → Bool) (e : Ending) (w' : World) : Prop := ∃ (a : Option Addr) (c : Nat), e = .returned (.slice a (wantL L p).length c) ∧ RowAt verE w' (.slice a (wantL L p).length c) (wantL L p) ∧ Below w.heap.size w w'
set_option maxRecDepth 100000 in
set_option maxHeartbeats 8000000 in
theorem swanted_c (lv fv : Value) (L : List Ver) (F : Bxs) (w : World) (hL : RowAt verE w lv L) (hok : ∀ v ∈ L, VerOk v) (hl60 : L.length ≤ 60) (hF : BxsAt w fv F) (hc : fChk F = 0) :
    Calls Tryz.prog 65 #[lv, fv] w (WantPost w L (ptsOf F)) := by
  obtain ⟨la, lc, rfl, -, -, -, hvl⟩ := hL.open_
  obtain ⟨fa, fc, rfl⟩ := hF.shape
  have HVL := Lib.hid hvl
  have HOK := Lib.hid hok
  have HF := Lib.hid hF
  have HC := Lib.hid hc
  clear hL hok hF hc hvl
  go_enter Tryz.func65, Tryz.ntmps65
  go_wp2
  go_loopw [12, 5] (fun i ov wr => ∃ k : Nat, k ≤ L.length ∧ i = .int .i64 k ∧ RowOwn verE w wr w.heap.size 75 ov (wantL (L.take k) (ptsOf F)) ∧ Below w.heap.size w wr) (fun i _ _ => L.length - (intOf i).toNat)
  case atStart => exact ⟨0, Nat.zero_le _, rfl, RowOwn.nil _ _ _ _, Below.refl _ _⟩
  case round =>
    obtain ⟨k, hk, rfl, hown, hbl⟩ := hrel
    obtain ⟨oa, oc, hov⟩ := hown.shape
    subst hov
    have HOW := Lib.hid hown
    have HBL := Lib.hid hbl
    by_cases hlt : k < L.length
    rotate_left
    · obtain rfl : k = L.length := by omega
      rw [List.take_length] at HOW
      have hkb : decide ((L.length : Int) < (L.length : Int)) = false := by simp
      have hwl : (wantL L (ptsOf F)).length ≤ L.length := List.length_filter_le _ _
      have HFIN := Lib.hid (HOW.out.at_ (Sub.of_below hbl) (by omega))
      clear hown hbl HOW hwl
      rw [List.take_length]
      go_wp2
      go_ret
      exact ⟨_, _, rfl, HFIN.out, HBL.out⟩
    rcases HVL.out with hnil | ⟨b7, off, rfl, hb, hc⟩
    · rw [hnil] at hlt; simp at hlt
    obtain ⟨c, ⟨u, x, rfl, hk2⟩, hcc⟩ := hc k hlt
    obtain ⟨ua, uc, rfl⟩ := hk2.vec.shape
    obtain ⟨xa, xc, rfl⟩ := hk2.more.shape
    have hcl := fun (i : Nat) (y : Value) (hy : (verC L[k] (.slice ua L[k].past.vec.length uc) (.slice xa L[k].past.more.length xc)).toList[i]? = some y) => row8 (w := wr) (b := b7) (off := off) (i := k) (fun j y hy => (hbl.cell (p := ⟨b7, off + (k * verE.size + j), none⟩) hb).trans (hcc j y hy)) hy
    have c0 := hcl 0 _ rfl
    have c1 := hcl 1 _ rfl
    have c2 := hcl 2 _ rfl
    have c3 := hcl 3 _ rfl
    have c4 := hcl 4 _ rfl
    have c5 := hcl 5 _ rfl
    have c6 := hcl 6 _ rfl
    have c7 := hcl 7 _ rfl
    rw [Nat.add_zero] at c0
    have hltb : decide ((k : Int) < (L.length : Int)) = true := by simp; omega
    have HT := Lib.hid (show wantL (L.take (k + 1)) (ptsOf F) = if inP (ptsOf F) L[k] = true then wantL (L.take k) (ptsOf F) ++ [L[k]] else wantL (L.take k) (ptsOf F) by rw [List.take_succ_eq_append_getElem hlt, wantL_snoc])
    have HWL := Lib.hid (show (wantL (L.take k) (ptsOf F)).length ≤ k by have h1 : (wantL (L.take k) (ptsOf F)).length ≤ (L.take k).length := List.length_filter_le _ _; rw [List.length_take] at h1; omega)
    have HVK := Lib.hid (HOK.out L[k] (List.getElem_mem hlt))
    have HKN := Lib.hid hk2
    clear hc hcc hcl hk2 hown hbl
    generalize L[k] = v1 at *
    generalize wantL (L.take k) (ptsOf F) = LW at *
    obtain ⟨BV, hBV⟩ : ∃ BV, BV = wr.heap.size := ⟨_, rfl⟩
    obtain ⟨W1, hW1⟩ : ∃ W1, W1 = wr.alloc (.cells #[.string v1.id, .int .i64 v1.ds, .int .i64 v1.dc, .int .i64 v1.tg, .int .i64 v1.nm, .int .i64 v1.bd, .slice ua v1.past.vec.length uc, .slice xa v1.past.more.length xc] 75) := ⟨_, rfl⟩
    have hb1 : Below wr.heap.size wr W1 := by rw [hW1]; exact bal _
    have HV1 := Lib.hid (show W1.heap[BV]? = some (Obj.cells #[.string v1.id, .int .i64 v1.ds, .int .i64 v1.dc, .int .i64 v1.tg, .int .i64 v1.nm, .int .i64 v1.bd, .slice ua v1.past.vec.length uc, .slice xa v1.past.more.length xc] 75 (0, 0)) by rw [hW1]; exact alloc_new _ _ _ _ hBV)
    replace HOW := Lib.hid (HOW.out.below hb1)
    replace HBL := Lib.hid (bstep HBL.out hb1)
    clear hb1
    go_wp2_with fail
    rw [← hW1, ← hBV]
    clear hW1 hBV c0 c1 c2 c3 c4 c5 c6 c7
    (with_reducible refine (hasf_c _ F v1.tg v1.nm W1 (HF.out.below HBL.out)).mono ?_)
    rintro e w2 ⟨rfl, hb2⟩
    obtain ⟨hh1, hh2⟩ := has_ok HC.out HVK.out
    rw [hh1, hh2]
    replace HOW := Lib.hid (HOW.out.below hb2)
    replace HBL := Lib.hid (bstep HBL.out hb2)
    replace HV1 := Lib.hid (below_keep hb2 HV1.out)
    clear hb2 hh1 hh2
    cases hin : inP (ptsOf F) v1
    · have HT2 := Lib.hid (show wantL (L.take (k + 1)) (ptsOf F) = LW by rw [HT.out, if_neg (by rw [hin]; decide)])
      clear HT HV1 hin
      go_wp2
      go_roundw
      case rel => exact ⟨k + 1, by omega, by go_num, by rw [HT2.out]; exact HOW.out, HBL.out⟩
      case measure => simp [intOf] <;> omega
    have HT2 := Lib.hid (show wantL (L.take (k + 1)) (ptsOf F) = LW ++ [v1] by rw [HT.out, if_pos hin])
    have e0 := cell_of_block (j := 0) HV1.out rfl
    have e1 := cell_of_block (j := 1) HV1.out rfl
    have e2 := cell_of_block (j := 2) HV1.out rfl
    have e3 := cell_of_block (j := 3) HV1.out rfl
    have e4 := cell_of_block (j := 4) HV1.out rfl
    have e5 := cell_of_block (j := 5) HV1.out rfl
    have e6 := cell_of_block (j := 6) HV1.out rfl
    have e7 := cell_of_block (j := 7) HV1.out rfl
    have e9 := hlt_of HV1.out
    have hbx := bal (W := w2) (.cells #[.string v1.id, .int .i64 v1.ds, .int .i64 v1.dc, .int .i64 v1.tg, .int .i64 v1.nm, .int .i64 v1.bd, .slice ua v1.past.vec.length uc, .slice xa v1.past.more.length xc] 75)
    have HO6 := Lib.hid (HOW.out.below hbx)
    have HB6 := Lib.hid (bstep HBL.out hbx)
    clear HOW HBL HV1 HT hin hbx
    go_wp2_with (at_builtin; apply Classical.byContradiction; intro hcon)
    have ROW := Lib.hid (CellsAt.mk (w := w2.alloc (.cells #[.string v1.id, .int .i64 v1.ds, .int .i64 v1.dc, .int .i64 v1.tg, .int .i64 v1.nm, .int .i64 v1.bd, .slice ua v1.past.vec.length uc, .slice xa v1.past.more.length xc] 75)) (b := w2.heap.size) (off := 0) (n := 1) (cap := 1) (xs := [.string v1.id, .int .i64 v1.ds, .int .i64 v1.dc, .int .i64 v1.tg, .int .i64 v1.nm, .int .i64 v1.bd, .slice ua v1.past.vec.length uc, .slice xa v1.past.more.length xc]) (Nat.le_refl _) (by decide) (by simp) (fun j x hj => by
      rw [Nat.zero_add, World.cell?_alloc_at _ _ _ _ (by simp)]; simpa using hj))
    obtain ⟨css, x1, x2⟩ := HO6.out
    have E1 := Lib.hid x1
    have E2 := Lib.hid x2
    have hsz := HB6.out.size
    clear x1 x2
    refine hcon ?_
    (refine wpList_append_cells2 rfl (.tmp 28) (.tmp 30) 48 rfl w.heap.size 75 _ 8 104 Tryz.underlying48 VTy.info rfl (by decide) (.slice oa LW.length oc) LW.length _ (by simp [go_sem]) E2.out _ 1 _ (by simp [go_sem]) ROW.out rfl (by intro z hz; simp at hz; rcases hz with rfl | rfl | rfl | rfl | rfl | rfl | rfl | rfl <;> rfl) hsz (by unfold maxLen; have := HWL.out; omega) (by have := HWL.out; omega) ?_)
    intro v9 w9 ho hgr
    obtain ⟨qa, qc, hq⟩ := owns_slice ho
    subst hq
    have HB9 := Lib.hid (HB6.out.grown hgr hsz (fun q hq => (E2.out.lt q hq).1))
    have HO9 := Lib.hid (show RowOwn verE w w9 w.heap.size 75 (.slice qa (LW.length + 1) qc) (LW ++ [v1]) from ⟨css ++ [(verC v1 (.slice ua v1.past.vec.length uc) (.slice xa v1.past.more.length xc)).toList], E1.out.append (Els.single ⟨_, _, rfl, HKN.out⟩), by rw [List.length_append, List.flatten_append]; simp only [List.flatten_cons, List.flatten_nil, List.append_nil, List.length_cons, List.length_nil]; exact ho⟩)
    clear ho hgr hcon hsz e0 e1 e2 e3 e4 e5 e6 e7 e9
    go_wp2
    go_roundw
    case rel => exact ⟨k + 1, by omega, by go_num, by rw [HT2.out]; exact HO9.out, HB9.out⟩
    case measure => simp [intOf] <;> omega
end Go.Proofs.YtboakoipdfmpcaaGreat
namespace Go.Proofs.YtboakoipdfmpcaaGreat
open Go.RowKit
/-- A site that only makes. -/
structure Src (U : List Ver) (r : SiteS) : Prop where
  made : Made U r
  ds : ∀ x ∈ U, x.ds = r.me ∧ x.dc ≤ r.made
  max : ∀ x, x ∈ r.L ↔ x ∈ U ∧ ∀ b ∈ U, verOver b x = false
  S : r.S = []
theorem Src.new (me : Int) (p : Nat → Nat → Bool) : Src [] (newS me p) := ⟨made_new [] me p Hx.nil (by simp), by simp, by simp [newS], rfl⟩
theorem Src.grow {U U' : List Ver} {r r' : SiteS} {k : Nat} (h : Src U r) (_hr : SiteOk r') (g : Grow U r U' r' k) : Src U' r' ∧ (∀ x ∈ U', x.dc ≤ r.made → x ∈ U) ∧ ∀ x ∈ U, x ∈ U' := by
  obtain ⟨N, h1, h2, h3, h4, h5⟩ := g.new
  have hlen := g.len
  have hok := g.made.hx.ok
  refine ⟨⟨g.made, fun x hx => ?_, fun x => ?_, by rw [g.S]; exact h.S⟩, fun x hx hc => ?_, g.sub_of⟩
  · rw [h1] at hx
    rcases List.mem_append.1 hx with hx | hx
    · have := h.ds x hx; rw [g.me]; omega
    · have := h4 x hx; rw [g.me]; omega
  · rw [h5, h.max]
    constructor
    · rintro ⟨h6, h7⟩
      refine ⟨by rw [h1]; rcases h6 with h6 | h6; exact List.mem_append_left _ h6.1; exact List.mem_append_right _ h6, fun b hb => ?_⟩
      rw [h1] at hb
      rcases List.mem_append.1 hb with hb | hb
      · rcases h6 with h6 | h6
        · exact h6.2 b hb
        · cases ho : verOver b x
          · rfl
          · exfalso
            simp only [verOver, Bool.and_eq_true, decide_eq_true_eq] at ho
            have hx : x ∈ U' := by rw [h1]; exact List.mem_append_right _ h6
            obtain ⟨d0, d5, d1, d2⟩ := dot_rng (hok x hx).dot
            obtain ⟨c, hc, -, e2, e3⟩ := h.made.hx.src b hb _ _ d0 d5 d1 d2 ho.2
            have := (h.ds c hc).2
            have := (h4 x h6).2.1
            omega
      · exact h7 b hb
    · rintro ⟨h6, h7⟩
      rw [h1] at h6
      refine ⟨?_, fun b hb => h7 b (by rw [h1]; exact List.mem_append_right _ hb)⟩
      rcases List.mem_append.1 h6 with h6 | h6
      · exact .inl ⟨h6, fun b hb => h7 b (by rw [h1]; exact List.mem_append_left _ hb)⟩
      · exact .inr h6
  · rw [h1] at hx
    rcases List.mem_append.1 hx with hx | hx
    · exact hx
    · have := (h4 x hx).2.1; omega
/-- One who has what he wants of what was made up to m, and knows no more. -/
structure Fol (U : List Ver) (m : Int) (s : SiteS) (me : Int) : Prop where
  L : ∀ x, x ∈ s.L ↔ x ∈ U ∧ inP s.P x = true ∧ ∀ b ∈ U, verOver b x = false
  kn : ∀ (t n : Nat) (a c : Int), t < 16 → n < 32 → 0 ≤ a → a < 5 → 1 ≤ c → c ≤ 1000 → knowsS s.S t n a c = true → a = me ∧ c ≤ m
  ne : s.me ≠ me
theorem Fol.new {me me2 : Int} (h : me ≠ me2) (p : Nat → Nat → Bool) : Fol [] 0 (newS me p) me2 := ⟨by simp [newS], fun t n a c _ _ _ _ _ _ hk => by simp [newS, knowsS] at hk, h⟩
theorem knV_eq {s : SiteS} (hs : SiteOk s) {v : Ver} (hv : VerOk v) : knV (knownS s) v = ((decide (v.ds = s.me) && decide (v.dc ≤ s.made)) || knV s.S v) := by
  obtain ⟨p1, p2, p3, p4⟩ := pt_rng hv.pt
  obtain ⟨d1, d2, d3, d4⟩ := dot_rng hv.dot
  exact knows_known hs (by omega) (by omega) d1 d2 d3 d4
theorem Synced.knV {s r s' : SiteS} (h : Synced s r s') (hs : SiteOk s) (hr : SiteOk r) {v : Ver} (hv : VerOk v) : knV s'.S v = (knV s.S v || (knV (knownS r) v && inP s.P v)) := by
  obtain ⟨p1, p2, p3, p4⟩ := pt_rng hv.pt
  obtain ⟨d1, d2, d3, d4⟩ := dot_rng hv.dot
  exact h.knows hs hr (by omega) (by omega) d1 d2 d3 d4
theorem follow {U1 U2 : List Ver} {m : Int} {s r s' : SiteS} (hU : Uni U2) (hsrc : Src U2 r) (hf : Fol U1 m s r.me) (h12 : ∀ x ∈ U1, x ∈ U2) (hlow : ∀ x ∈ U2, x.dc ≤ m → x ∈ U1) (hs : SiteOk s) (hr : SiteOk r) (hm : m ≤ r.made) (h : Synced s r s') :
    s'.L = wantL r.L s.P ∧ Fol U2 r.made s' r.me ∧ ∀ v ∈ U2, inP s.P v = true → knV (knownS s') v = true := by
  have hok := hsrc.made.hx.ok
  have hL : ∀ x, x ∈ s'.L ↔ x ∈ r.L ∧ inP s.P x = true := fun x => by
    rw [h.L.mem]
    constructor
    · rintro ⟨h1, -, h2, h3⟩
      have hxU : x ∈ U2 ∧ inP s.P x = true := by
        rcases h1 with h1 | h1
        · have := (hf.L x).1 h1; exact ⟨h12 x this.1, this.2.1⟩
        · obtain ⟨h4, h5⟩ := List.mem_filter.1 h1
          exact ⟨((hsrc.max x).1 h4).1, (Bool.and_eq_true _ _ ▸ h5).1⟩
      refine ⟨(hsrc.max x).2 ⟨hxU.1, fun b hb => ?_⟩, hxU.2⟩
      cases ho : verOver b x
      · rfl
      · exfalso
        have hrep : Rep U2 U2 r.L := ⟨fun _ h => h, hr.L.ord, hsrc.max⟩
        obtain ⟨c, hc, hcb⟩ := hrep.cover hU hb
        have hcx : verOver c x = true := by
          rcases hcb with rfl | hcb
          · exact ho
          · exact hU.trans c ((hsrc.max c).1 hc).1 b hb x hxU.1 hcb ho
        cases hcp : inP s.P c
        · have := h3 c (List.mem_filter.2 ⟨hc, by rw [hcp]; rfl⟩)
          rw [this] at hcx; exact absurd hcx (by decide)
        · cases hk : Go.Proofs.YtboakoipdfmpcaaGreat.knV (knownS s) c
          · have := h2 c (List.mem_filter.2 ⟨hc, by rw [hcp, hk]; rfl⟩)
            rw [this] at hcx; exact absurd hcx (by decide)
          · have hcU := ((hsrc.max c).1 hc).1
            have hcv := hok c hcU
            rw [knV_eq hs hcv, Bool.or_eq_true] at hk
            have hc1 : c ∈ U1 := by
              rcases hk with hk | hk
              · rw [Bool.and_eq_true, decide_eq_true_eq, decide_eq_true_eq] at hk
                exact absurd (hk.1.symm.trans (hsrc.ds c hcU).1) hf.ne
              · obtain ⟨p1, p2, p3, p4⟩ := pt_rng hcv.pt
                obtain ⟨d1, d2, d3, d4⟩ := dot_rng hcv.dot
                exact hlow c hcU (hf.kn _ _ _ _ (by omega) (by omega) d1 d2 d3 d4 hk).2
            rcases h1 with h1 | h1
            · have := ((hf.L x).1 h1).2.2 c hc1
              rw [this] at hcx; exact absurd hcx (by decide)
            · have := ((hsrc.max x).1 (List.mem_filter.1 h1).1).2 c hcU
              rw [this] at hcx; exact absurd hcx (by decide)
    · rintro ⟨h1, h2⟩
      obtain ⟨h3, h4⟩ := (hsrc.max x).1 h1
      have hxv := hok x h3
      refine ⟨?_, fun b hb => h4 b (h12 b ((hf.L b).1 hb).1), fun b hb => h4 b ((hsrc.max b).1 (List.mem_filter.1 hb).1).1, fun b hb => h4 b ((hsrc.max b).1 (List.mem_filter.1 hb).1).1⟩
      cases hk : Go.Proofs.YtboakoipdfmpcaaGreat.knV (knownS s) x
      · exact .inr (List.mem_filter.2 ⟨h1, by rw [h2, hk]; rfl⟩)
      · rw [knV_eq hs hxv, Bool.or_eq_true] at hk
        rcases hk with hk | hk
        · rw [Bool.and_eq_true, decide_eq_true_eq, decide_eq_true_eq] at hk
          exact absurd (hk.1.symm.trans (hsrc.ds x h3).1) hf.ne
        · obtain ⟨p1, p2, p3, p4⟩ := pt_rng hxv.pt
          obtain ⟨d1, d2, d3, d4⟩ := dot_rng hxv.dot
          have hx1 := hlow x h3 (hf.kn _ _ _ _ (by omega) (by omega) d1 d2 d3 d4 hk).2
          exact .inl ((hf.L x).2 ⟨hx1, h2, fun b hb => h4 b (h12 b hb)⟩)
  refine ⟨vsorted_ext h.L.ok.ord (hr.L.ord.filter _) fun x => by rw [hL]; unfold wantL; rw [List.mem_filter], ⟨fun x => ?_, fun t n a c ht hn h0 h5 h1 h2 hk => ?_, by rw [h.me]; exact hf.ne⟩, fun v hv hin => ?_⟩
  · rw [hL, hsrc.max, h.P]
    exact ⟨fun ⟨⟨a, b⟩, c⟩ => ⟨a, c, b⟩, fun ⟨a, c, b⟩ => ⟨⟨a, b⟩, c⟩⟩
  · rw [h.knows hs hr ht hn h0 h5 h1 h2, Bool.or_eq_true, Bool.and_eq_true] at hk
    rcases hk with hk | ⟨hk, -⟩
    · have := hf.kn t n a c ht hn h0 h5 h1 h2 hk; omega
    · rw [knows_known hr ht hn h0 h5 h1 h2, hsrc.S] at hk
      simpa [knowsS] using hk
  · have hs'v := hok v hv
    have e : Go.Proofs.YtboakoipdfmpcaaGreat.knV s'.S v = true := by
      rw [h.knV hs hr hs'v, hin, Bool.and_true, knV_eq hr hs'v]
      have h1 := hsrc.ds v hv
      rw [decide_eq_true h1.1, decide_eq_true h1.2]; simp
    obtain ⟨p1, p2, p3, p4⟩ := pt_rng hs'v.pt
    obtain ⟨d1, d2, d3, d4⟩ := dot_rng hs'v.dot
    unfold Go.Proofs.YtboakoipdfmpcaaGreat.knV knownS
    have hall : ∀ x ∈ ownSP s' :: s'.S, SPOk x := by
      have hme := h.me
      have hmd := h.made
      intro x hx
      rcases List.mem_cons.1 hx with rfl | hx
      · exact ⟨everP_rng, ownVec_ok (by rw [hme]; exact hs.me) (by rw [hmd]; exact hs.made), by simp [ownSP]⟩
      · rw [h.S] at hx
        exact few_ok (fun y hy => (List.mem_append.1 hy).elim (hs.S y) (narrow_ok' hr.known y)) x hx
    rw [few_knows _ _ _ _ _ (by omega) (by omega) d1 d2 d3 d4 hall]
    unfold knowsS
    rw [List.any_cons, Bool.or_eq_true]
    exact .inr e
/-- One who asks for the first time has all that he wants of the other one's shelf. -/
theorem fresh {me : Int} {p : Nat → Nat → Bool} {r s' : SiteS} (hs : SiteOk (newS me p)) (hr : SiteOk r) (h : Synced (newS me p) r s') : s'.L = wantL r.L p := by
  have hk : ∀ v ∈ r.L, knV (knownS (newS me p)) v = false := fun v hv => by
    have hvv := hr.L.ok v hv
    have := (dot_rng hvv.dot).2.2.1
    rw [knV_eq hs hvv]
    have e : decide (v.dc ≤ (newS me p).made) = false := by rw [decide_eq_false_iff_not]; show ¬ v.dc ≤ 0; omega
    rw [e, Bool.and_false, Bool.false_or]
    rfl
  refine vsorted_ext h.L.ok.ord (hr.L.ord.filter _) fun x => ?_
  rw [h.L.mem]
  unfold wantL
  rw [List.mem_filter]
  constructor
  · rintro ⟨h1, -⟩
    rcases h1 with h1 | h1
    · simp [newS] at h1
    · obtain ⟨h2, h3⟩ := List.mem_filter.1 h1
      exact ⟨h2, (Bool.and_eq_true _ _ ▸ h3).1⟩
  · rintro ⟨h1, h2⟩
    exact ⟨.inr (List.mem_filter.2 ⟨h1, by show (inP p x && !knV (knownS (newS me p)) x) = true; rw [h2, hk x h1]; rfl⟩), fun b hb => by simp [newS] at hb, fun b hb => hr.L.free x h1 b (List.mem_filter.1 hb).1, fun b hb => hr.L.free x h1 b (List.mem_filter.1 hb).1⟩
theorem giveV_nil {L : List Ver} {p : Nat → Nat → Bool} {A : List SP} (h : ∀ v ∈ L, inP p v = true → knV A v = true) : giveV L p A = [] := by
  unfold giveV
  rw [List.filter_eq_nil_iff]
  intro v hv
  cases hp : inP p v
  · simp
  · rw [h v hv hp]; simp
end Go.Proofs.YtboakoipdfmpcaaGreat
