/- One who follows a site that only makes, and wants less in between. No program in sight. -/
import Derived.Test.YtboakoipdfmpcaaGreatMSiteD
namespace Go.Proofs.YtboakoipdfmpcaaGreat
open Go.RowKit
/-- Has what there is at the points q, and knows no more than that. -/
structure FolQ (U : List Ver) (m : Int) (s : SiteS) (me : Int) (q : Nat → Nat → Bool) : Prop where
  L : ∀ x, x ∈ s.L ↔ x ∈ U ∧ inP q x = true ∧ ∀ b ∈ U, verOver b x = false
  kn : ∀ (t n : Nat) (a c : Int), t < 16 → n < 32 → 0 ≤ a → a < 5 → 1 ≤ c → c ≤ 1000 → knowsS s.S t n a c = ((decide (a = me) && decide (c ≤ m)) && q t n)
  ne : s.me ≠ me
  sub : ∀ t n : Nat, t < 16 → n < 32 → q t n = true → s.P t n = true
theorem FolQ.new {me me2 : Int} (h : me ≠ me2) (p : Nat → Nat → Bool) : FolQ [] 0 (newS me p) me2 (fun _ _ => false) := ⟨by simp [newS], fun t n a c _ _ _ _ _ _ => by simp [newS, knowsS], h, fun _ _ _ _ h => absurd h (by decide)⟩
theorem inP_le {p q : Nat → Nat → Bool} (h : ∀ t n : Nat, t < 16 → n < 32 → q t n = true → p t n = true) {v : Ver} (hv : VerOk v) (hi : inP q v = true) : inP p v = true := by
  obtain ⟨p1, p2, p3, p4⟩ := pt_rng hv.pt
  exact h _ _ (by omega) (by omega) hi
theorem FolQ.want {U : List Ver} {m : Int} {s : SiteS} {me : Int} {q : Nat → Nat → Bool} (h : FolQ U m s me q) (hok : SiteOk s) (hU : ∀ x ∈ U, x.ds = me) (p : Nat → Nat → Bool) : FolQ U m (wantS s p) me (fun t n => q t n && p t n) := by
  refine ⟨fun x => ?_, fun t n a c ht hn h0 h5 h1 h2 => ?_, h.ne, fun t n _ _ hh => ?_⟩
  · show x ∈ s.L.filter (keepB s p) ↔ _
    rw [List.mem_filter, h.L]
    constructor
    · rintro ⟨⟨h1, h2, h3⟩, h4⟩
      have h5 : inP p x = true := by
        unfold keepB at h4
        rw [Bool.or_eq_true, decide_eq_true_eq] at h4
        rcases h4 with h4 | h4
        · exact absurd (h4.symm.trans (hU x h1)) h.ne
        · exact h4
      exact ⟨h1, show (inP q x && inP p x) = true by rw [h2, h5]; rfl, h3⟩
    · rintro ⟨h1, h2, h3⟩
      have h2' : (inP q x && inP p x) = true := h2
      rw [Bool.and_eq_true] at h2'
      refine ⟨⟨h1, h2'.1, h3⟩, ?_⟩
      unfold keepB; rw [h2'.2, Bool.or_true]
  · show knowsS (narrowS s.S p) t n a c = _
    rw [narrow_knows hok.S t n a c ht hn h0 h5 h1 h2, h.kn t n a c ht hn h0 h5 h1 h2, Bool.and_assoc]
  · exact (Bool.and_eq_true _ _ ▸ hh).2
theorem followQ {U1 U2 : List Ver} {m : Int} {s r s' : SiteS} {q : Nat → Nat → Bool} (hU : Uni U2) (hsrc : Src U2 r) (hf : FolQ U1 m s r.me q) (h12 : ∀ x ∈ U1, x ∈ U2) (hlow : ∀ x ∈ U2, x.dc ≤ m → x ∈ U1) (hs : SiteOk s) (hr : SiteOk r) (hm : m ≤ r.made) (h : Synced s r s') :
    s'.L = wantL r.L s.P ∧ FolQ U2 r.made s' r.me s.P := by
  have hok := hsrc.made.hx.ok
  have hkn : ∀ c ∈ U2, knV (knownS s) c = true → c ∈ U1 ∧ inP q c = true := fun c hcU hk => by
    have hcv := hok c hcU
    rw [knV_eq hs hcv, Bool.or_eq_true] at hk
    rcases hk with hk | hk
    · rw [Bool.and_eq_true, decide_eq_true_eq, decide_eq_true_eq] at hk
      exact absurd (hk.1.symm.trans (hsrc.ds c hcU).1) hf.ne
    · obtain ⟨p1, p2, p3, p4⟩ := pt_rng hcv.pt
      obtain ⟨d1, d2, d3, d4⟩ := dot_rng hcv.dot
      have hk2 : knowsS s.S c.tg.toNat c.nm.toNat c.ds c.dc = true := hk
      rw [hf.kn _ _ _ _ (by omega) (by omega) d1 d2 d3 d4, Bool.and_eq_true, Bool.and_eq_true, decide_eq_true_eq, decide_eq_true_eq] at hk2
      exact ⟨hlow c hcU hk2.1.2, hk2.2⟩
  have hL : ∀ x, x ∈ s'.L ↔ x ∈ r.L ∧ inP s.P x = true := fun x => by
    rw [h.L.mem]
    constructor
    · rintro ⟨h1, -, h2, h3⟩
      have hxU : x ∈ U2 ∧ inP s.P x = true := by
        rcases h1 with h1 | h1
        · have := (hf.L x).1 h1; exact ⟨h12 x this.1, inP_le hf.sub (hok x (h12 x this.1)) this.2.1⟩
        · obtain ⟨h4, h5⟩ := List.mem_filter.1 h1
          exact ⟨((hsrc.max x).1 h4).1, (Bool.and_eq_true _ _ ▸ h5).1⟩
      refine ⟨(hsrc.max x).2 ⟨hxU.1, fun b hb => ?_⟩, hxU.2⟩
      cases ho : verOver b x
      · rfl
      · exfalso
        have hrep : Rep U2 U2 r.L := ⟨fun _ h => h, hr.L.ord, hsrc.max⟩
        obtain ⟨c, hc, hcb⟩ := hrep.cover hU hb
        have hcx : verOver c x = true := by
          rcases hcb with rfl | hcb
          · exact ho
          · exact hU.trans c ((hsrc.max c).1 hc).1 b hb x hxU.1 hcb ho
        cases hcp : inP s.P c
        · have := h3 c (List.mem_filter.2 ⟨hc, by rw [hcp]; rfl⟩)
          rw [this] at hcx; exact absurd hcx (by decide)
        · cases hk : Go.Proofs.YtboakoipdfmpcaaGreat.knV (knownS s) c
          · have := h2 c (List.mem_filter.2 ⟨hc, by rw [hcp, hk]; rfl⟩)
            rw [this] at hcx; exact absurd hcx (by decide)
          · have hcU := ((hsrc.max c).1 hc).1
            have hc1 := (hkn c hcU hk).1
            rcases h1 with h1 | h1
            · have := ((hf.L x).1 h1).2.2 c hc1
              rw [this] at hcx; exact absurd hcx (by decide)
            · have := ((hsrc.max x).1 (List.mem_filter.1 h1).1).2 c hcU
              rw [this] at hcx; exact absurd hcx (by decide)
    · rintro ⟨h1, h2⟩
      obtain ⟨h3, h4⟩ := (hsrc.max x).1 h1
      have hxv := hok x h3
      refine ⟨?_, fun b hb => h4 b (h12 b ((hf.L b).1 hb).1), fun b hb => h4 b ((hsrc.max b).1 (List.mem_filter.1 hb).1).1, fun b hb => h4 b ((hsrc.max b).1 (List.mem_filter.1 hb).1).1⟩
      cases hk : Go.Proofs.YtboakoipdfmpcaaGreat.knV (knownS s) x
      · exact .inr (List.mem_filter.2 ⟨h1, by rw [h2, hk]; rfl⟩)
      · have hx1 := hkn x h3 hk
        exact .inl ((hf.L x).2 ⟨hx1.1, hx1.2, fun b hb => h4 b (h12 b hb)⟩)
  refine ⟨vsorted_ext h.L.ok.ord (hr.L.ord.filter _) fun x => by rw [hL]; unfold wantL; rw [List.mem_filter], ⟨fun x => ?_, fun t n a c ht hn h0 h5 h1 h2 => ?_, by rw [h.me]; exact hf.ne, fun t n _ _ hh => by rw [h.P]; exact hh⟩⟩
  · rw [hL, hsrc.max]
    exact ⟨fun ⟨⟨a, b⟩, c⟩ => ⟨a, c, b⟩, fun ⟨a, c, b⟩ => ⟨⟨a, b⟩, c⟩⟩
  · rw [h.knows hs hr ht hn h0 h5 h1 h2, hf.kn t n a c ht hn h0 h5 h1 h2, knows_known hr ht hn h0 h5 h1 h2, hsrc.S]
    have e0 : knowsS [] t n a c = false := rfl
    rw [e0, Bool.or_false]
    by_cases ha : a = r.me
    · rw [decide_eq_true ha, Bool.true_and, Bool.true_and]
      by_cases hc : c ≤ m
      · rw [decide_eq_true hc, decide_eq_true (show c ≤ r.made by omega), Bool.true_and, Bool.true_and]
        cases hq : q t n
        · rfl
        · rw [hf.sub t n ht hn hq]; rfl
      · rw [decide_eq_false hc, Bool.false_and, Bool.false_or]
    · rw [decide_eq_false ha]; rfl
end Go.Proofs.YtboakoipdfmpcaaGreat
