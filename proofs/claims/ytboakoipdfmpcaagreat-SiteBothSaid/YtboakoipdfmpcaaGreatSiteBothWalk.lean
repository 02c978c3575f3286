/- What SiteBoth does. Written by a small program (gen/sl.py). -/
import Derived.Test.YtboakoipdfmpcaaGreatMSiteD
import Derived.Test.YtboakoipdfmpcaaGreatMShelf7
namespace Go.Proofs.YtboakoipdfmpcaaGreat
open Go.RowKit
structure BothOk (a1 b1 a2 b2 a3 b3 : SiteS) : Prop where
  e1 : tookE a1 (syncB a1 b1) = 0
  e2 : tookE b1 (syncB b1 a2) = 0
  L : a2.L = b2.L
  two : ∀ id, (getL a2.L id).length ≤ 2
  em : madeE a2 (sidA 0) 0 0 1 = 0
  e3 : tookE b2 (syncB b2 a3) = 0
  L3 : a3.L = b3.L
  one : (getL b3.L (sidA 0)).length = 1
theorem len_one {l : List Ver} (h : l.Pairwise vlt) (he : ∀ x ∈ l, ∀ y ∈ l, x = y) : l.length ≤ 1 := by
  match l, h, he with
  | [], _, _ => simp
  | [a], _, _ => simp
  | a :: b :: _, h, he =>
    exfalso
    have e := he a (by simp) b (by simp)
    have := (List.pairwise_cons.1 h).1 b (by simp)
    rw [e] at this
    exact vlt_irrefl _ this
theorem both_ok {U1 U2 : List Ver} {a1 b1 : SiteS} (ha0 : Grow [] (newS 0 (ptsOf everyB)) U1 a1 12) (hb0 : Grow U1 (newS 1 (ptsOf everyB)) U2 b1 12) (ha : SiteOk a1) (hb : SiteOk b1) :
    BothOk a1 b1 (tookS a1 (syncB a1 b1)) (tookS b1 (syncB b1 (tookS a1 (syncB a1 b1)))) (madeS (tookS a1 (syncB a1 b1)) (sidA 0) 0 0 1)
      (tookS (tookS b1 (syncB b1 (tookS a1 (syncB a1 b1)))) (syncB (tookS b1 (syncB b1 (tookS a1 (syncB a1 b1)))) (madeS (tookS a1 (syncB a1 b1)) (sidA 0) 0 0 1))) := by
  obtain ⟨NA, hA1, hA2, hA3, hA4, -⟩ := ha0.new
  obtain ⟨NB, hB1, hB2, hB3, hB4, hB5⟩ := hb0.new
  rw [List.nil_append] at hA1
  have hame : a1.me = 0 := ha0.me
  have hbme : b1.me = 1 := hb0.me
  have haP : a1.P = everP := by rw [ha0.P]; exact everP_every
  have hbP : b1.P = everP := by rw [hb0.P]; exact everP_every
  have haS : a1.S = [] := ha0.S
  have hbS : b1.S = [] := hb0.S
  have hU1l : U1.length ≤ 12 := by rw [hA1]; omega
  have hU2l : U2.length ≤ 24 := by rw [hB1, List.length_append]; omega
  have hHx := hb0.made.hx
  have hU := hHx.uni (by omega)
  have hok := hHx.ok
  have h12 : ∀ x ∈ U1, x ∈ U2 := hb0.sub_of
  have hAU : ∀ x ∈ a1.L, x ∈ U2 ∧ x.ds = 0 ∧ x.dc ≤ a1.made := fun x hx => by
    have h1 := ha0.made.sub x hx
    have h2 := hA4 x (by rw [← hA1]; exact h1)
    exact ⟨h12 x h1, h2.1, h2.2.2⟩
  have hbl : ∀ x ∈ b1.L, x ∈ NB := fun x hx => by
    have := ((hB5 x).1 hx).1
    rcases this with h | h
    · simp [newS] at h
    · exact h
  have hBU : ∀ x ∈ b1.L, x ∈ U2 ∧ x.ds = 1 ∧ x.dc ≤ b1.made := fun x hx => by
    have h2 := hB4 x (hbl x hx)
    exact ⟨by rw [hB1]; exact List.mem_append_right _ (hbl x hx), h2.1, h2.2.2⟩
  have knA : ∀ x, VerOk x → knV (knownS a1) x = (decide (x.ds = 0) && decide (x.dc ≤ a1.made)) := fun x hx => by
    rw [knV_eq ha hx, hame, haS]; simp [knV, knowsS]
  have knB : ∀ x, VerOk x → knV (knownS b1) x = (decide (x.ds = 1) && decide (x.dc ≤ b1.made)) := fun x hx => by
    rw [knV_eq hb hx, hbme, hbS]; simp [knV, knowsS]
  -- a asks b
  have y1 := sync_took hU ha hb (fun x hx => (hAU x hx).1) (fun x hx => (hBU x hx).1) (by rw [haS, hbS]; decide)
  have oka2 := tookS_ok ha (syncB_ok ha hb)
  generalize ha2 : tookS a1 (syncB a1 b1) = a2 at *
  have m1 : ∀ x, x ∈ a2.L ↔ (x ∈ a1.L ∨ x ∈ b1.L) ∧ (∀ z ∈ a1.L, verOver z x = false) ∧ ∀ z ∈ b1.L, verOver z x = false := fun x => by
    have hV : ∀ z, z ∈ giveV b1.L a1.P (knownS a1) ↔ z ∈ b1.L := fun z => by
      unfold giveV
      rw [List.mem_filter]
      refine ⟨fun h => h.1, fun h => ⟨h, ?_⟩⟩
      have hz := hok z (hBU z h).1
      rw [haP, inP_ever hz, knA z hz, (hBU z h).2.1]; rfl
    have hW : ∀ z, z ∉ b1.L.filter (fun v => !inP a1.P v) := fun z h => by
      obtain ⟨h1, h2⟩ := List.mem_filter.1 h
      rw [haP, inP_ever (hok z (hBU z h1).1)] at h2; exact absurd h2 (by decide)
    rw [y1.L.mem]
    constructor
    · rintro ⟨p1, p2, p3, -⟩
      exact ⟨p1.imp (fun h => h) fun h => (hV x).1 h, p2, fun z hz => p3 z ((hV z).2 hz)⟩
    · rintro ⟨p1, p2, p3⟩
      exact ⟨p1.imp (fun h => h) fun h => (hV x).2 h, p2, fun z hz => p3 z ((hV z).1 hz), fun z hz => absurd hz (hW z)⟩
  have ha2U : ∀ x ∈ a2.L, x ∈ U2 := fun x hx => by
    rcases ((m1 x).1 hx).1 with h | h
    · exact (hAU x h).1
    · exact (hBU x h).1
  have ha2me : a2.me = 0 := y1.me.trans hame
  have ha2md : a2.made = a1.made := y1.made
  have ha2l : a2.S.length ≤ 1 := by have := y1.len; rw [haS, hbS] at this; simpa using this
  -- b asks a
  have y2 := sync_took hU hb oka2 (fun x hx => (hBU x hx).1) ha2U (by rw [hbS]; simp; omega)
  have okb2 := tookS_ok hb (syncB_ok hb oka2)
  generalize hb2 : tookS b1 (syncB b1 a2) = b2 at *
  have m2 : ∀ x, x ∈ b2.L ↔ (x ∈ b1.L ∨ x ∈ a2.L ∧ x.ds ≠ 1) ∧ (∀ z ∈ b1.L, verOver z x = false) ∧ ∀ z ∈ a2.L, z.ds ≠ 1 → verOver z x = false := fun x => by
    have hV : ∀ z, z ∈ giveV a2.L b1.P (knownS b1) ↔ z ∈ a2.L ∧ z.ds ≠ 1 := fun z => by
      unfold giveV
      rw [List.mem_filter]
      refine and_congr_right fun h => ?_
      have hz := hok z (ha2U z h)
      rw [hbP, inP_ever hz, knB z hz, Bool.true_and]
      by_cases e : z.ds = 1
      · have hzb : z ∈ b1.L := by
          rcases ((m1 z).1 h).1 with h1 | h1
          · have := (hAU z h1).2.1; omega
          · exact h1
        rw [decide_eq_true e, decide_eq_true (hBU z hzb).2.2]; simp [e]
      · rw [decide_eq_false e]; simp [e]
    have hW : ∀ z, z ∉ a2.L.filter (fun v => !inP b1.P v) := fun z h => by
      obtain ⟨h1, h2⟩ := List.mem_filter.1 h
      rw [hbP, inP_ever (hok z (ha2U z h1))] at h2; exact absurd h2 (by decide)
    rw [y2.L.mem]
    constructor
    · rintro ⟨p1, p2, p3, -⟩
      exact ⟨p1.imp (fun h => h) fun h => (hV x).1 h, p2, fun z hz h1 => p3 z ((hV z).2 ⟨hz, h1⟩)⟩
    · rintro ⟨p1, p2, p3⟩
      exact ⟨p1.imp (fun h => h) fun h => (hV x).2 h, p2, fun z hz => p3 z ((hV z).1 hz).1 ((hV z).1 hz).2, fun z hz => absurd hz (hW z)⟩
  have hLL : a2.L = b2.L := by
    refine vsorted_ext oka2.L.ord okb2.L.ord fun x => ?_
    rw [m2]
    constructor
    · intro hx
      obtain ⟨p1, p2, p3⟩ := (m1 x).1 hx
      refine ⟨?_, p3, fun z hz _ => oka2.L.free x hx z hz⟩
      rcases p1 with h | h
      · exact .inr ⟨hx, by have := (hAU x h).2.1; omega⟩
      · exact .inl h
    · rintro ⟨p1, p2, p3⟩
      rcases p1 with h | ⟨h, -⟩
      · refine (m1 x).2 ⟨.inr h, fun z hz => ?_, p2⟩
        cases ho : verOver z x
        · rfl
        · exfalso
          by_cases hz2 : z ∈ a2.L
          · have := p3 z hz2 (by have := (hAU z hz).2.1; omega)
            rw [this] at ho; exact absurd ho (by decide)
          · rw [m1] at hz2
            have h3 : ¬ ∀ y ∈ b1.L, verOver y z = false := fun h3 => hz2 ⟨.inl hz, fun y hy => ha.L.free z hz y hy, h3⟩
            obtain ⟨y, hy⟩ := Classical.not_forall.1 h3
            obtain ⟨hy1, hy2⟩ := Classical.not_imp.1 hy
            have hyz : verOver y z = true := by simpa using hy2
            have := hU.trans y (hBU y hy1).1 z (hAU z hz).1 x (hBU x h).1 hyz ho
            rw [p2 y hy1] at this; exact absurd this (by decide)
      · exact h
  -- of each thing two at most
  have hoA := ha0.one (by simp [newS])
  have hoB := hb0.one (by simp [newS])
  have htwo : ∀ id, (getL a2.L id).length ≤ 2 := fun id => by
    have h1 : (getL a1.L id).length ≤ 1 := len_one (ha.L.ord.filter _) fun x hx y hy => hoA x (mem_get.1 hx).1 y (mem_get.1 hy).1 ((mem_get.1 hx).2.trans (mem_get.1 hy).2.symm)
    have h2 : (getL b1.L id).length ≤ 1 := len_one (hb.L.ord.filter _) fun x hx y hy => hoB x (mem_get.1 hx).1 y (mem_get.1 hy).1 ((mem_get.1 hx).2.trans (mem_get.1 hy).2.symm)
    have h3 := nodup_len_of (a := getL a2.L id) (b := getL a1.L id ++ getL b1.L id) (vsorted_nodup (oka2.L.ord.filter _)) fun x hx => by
      obtain ⟨q1, q2⟩ := mem_get.1 hx
      rcases ((m1 x).1 q1).1 with h | h
      · exact List.mem_append_left _ (mem_get.2 ⟨h, q2⟩)
      · exact List.mem_append_right _ (mem_get.2 ⟨h, q2⟩)
    rw [List.length_append] at h3; omega
  -- a makes anew
  have hMade : Made U2 a2 := ⟨hHx, ha2U, fun x hx e => by
    rw [ha2me] at e
    rw [ha2md]
    rw [hB1] at hx
    rcases List.mem_append.1 hx with hx | hx
    · exact ha0.made.low x hx (by rw [hame]; exact e)
    · have h9 : x.ds = 1 := (hB4 x hx).1
      omega⟩
  have hmd := ha0.len.2.2
  have hmd0 : (newS 0 (ptsOf everyB)).made = 0 := rfl
  have hm3 : a2.made < 1000 := by omega
  have hbz : madeB 0 0 1 = false := by decide
  have em := madeE_ok hMade oka2 (by omega) hm3 (sidA_ok 0) hbz
  have mm := made_mem hMade oka2 (by omega) hm3 (sidA_ok 0) hbz
  have hx3 := madeV_hx hMade oka2 (by omega) hm3 (sidA_ok 0) hbz
  have hU3 := hx3.uni (by rw [List.length_append, List.length_singleton]; omega)
  have oka3 := madeS_ok oka2 (sidA 0) 0 0 1
  have eS3 : madeS a2 (sidA 0) 0 0 1 = { a2 with L := putL a2.L (madeV a2 (sidA 0) 0 0 1), made := a2.made + 1 } := by unfold madeS; rw [if_pos em]
  obtain ⟨v, hv⟩ : ∃ v, v = madeV a2 (sidA 0) 0 0 1 := ⟨_, rfl⟩
  have hvds : v.ds = 0 := by rw [hv]; exact ha2me
  have hvdc : v.dc = a2.made + 1 := by rw [hv]; rfl
  have hvid : v.id = sidA 0 := by rw [hv]; rfl
  rw [← hv] at mm hx3 hU3
  have hover : ∀ x ∈ a2.L, verOver v x = decide (x.id = sidA 0) := fun x hx => by rw [hv]; exact over_made hMade hx
  have hunder : ∀ z ∈ U2, verOver z v = false := fun z hz => by rw [hv]; exact made_under hMade oka2 hm3 z hz
  have hvo := hx3.ok v (by simp)
  have hL3 : (madeS a2 (sidA 0) 0 0 1).L = putL a2.L v := by rw [eS3, hv]
  have hS3 : (madeS a2 (sidA 0) 0 0 1).S = a2.S := by rw [eS3]
  have hme3 : (madeS a2 (sidA 0) 0 0 1).me = 0 := by rw [eS3]; exact ha2me
  have hmd3 : (madeS a2 (sidA 0) 0 0 1).made = a2.made + 1 := by rw [eS3]
  generalize ha3 : madeS a2 (sidA 0) 0 0 1 = a3 at *
  have ha3U : ∀ x ∈ a3.L, x ∈ U2 ++ [v] := fun x hx => by
    rw [hL3] at hx
    rcases (mm x).1 hx with e | ⟨h, -⟩
    · rw [e]; simp
    · exact List.mem_append_left _ (ha2U x h)
  have hb2U : ∀ x ∈ b2.L, x ∈ U2 ++ [v] := fun x hx => List.mem_append_left _ (ha2U x (by rw [hLL]; exact hx))
  have hb2P : b2.P = everP := y2.P.trans hbP
  have hb2l := y2.len
  rw [hbS] at hb2l
  have y3 := sync_took hU3 okb2 oka3 hb2U ha3U (by rw [hS3]; simp at hb2l; omega)
  have okb3 := tookS_ok okb2 (syncB_ok okb2 oka3)
  -- what b knows by then
  have kn0 : ∀ x, VerOk x → knV (knownS b2) x = ((decide (x.ds = 1) && decide (x.dc ≤ b1.made)) || (decide (x.ds = 0) && decide (x.dc ≤ a1.made)) || (decide (x.ds = 1) && decide (x.dc ≤ b1.made))) := fun x hxo => by
    have e0 : knV [] x = false := rfl
    rw [knV_eq okb2 hxo, y2.knV hb oka2 hxo, knV_eq oka2 hxo, y1.knV ha hb hxo, haS, hbS, knB x hxo, hbP, haP, inP_ever hxo, y2.me, y2.made, hbme, ha2me, ha2md, e0]
    simp only [Bool.false_or, Bool.true_and, Bool.and_true, Bool.or_assoc]
  have knv : knV (knownS b2) v = false := by
    have d1 : decide (v.ds = 1) = false := by rw [decide_eq_false_iff_not, hvds]; decide
    have d2 : decide (v.dc ≤ a1.made) = false := by rw [decide_eq_false_iff_not, hvdc, ha2md]; omega
    rw [kn0 v hvo, d1, d2]; simp
  have kn3 : ∀ x ∈ a3.L, x ≠ v → knV (knownS b2) x = true := fun x hx e => by
    have hxo := hx3.ok x (ha3U x hx)
    rw [kn0 x hxo]
    rw [hL3] at hx
    rcases (mm x).1 hx with h | ⟨h, -⟩
    · exact absurd h e
    · rcases ((m1 x).1 h).1 with h1 | h1
      · have := hAU x h1
        rw [decide_eq_true this.2.1, decide_eq_true this.2.2]; simp
      · have := hBU x h1
        rw [decide_eq_true this.2.1, decide_eq_true this.2.2]; simp
  generalize hb3 : tookS b2 (syncB b2 a3) = b3 at *
  have hLL3 : a3.L = b3.L := by
    refine vsorted_ext oka3.L.ord okb3.L.ord fun x => ?_
    have hvin : v ∈ a3.L := by rw [hL3]; exact (mm v).2 (.inl rfl)
    have hV : ∀ z, z ∈ giveV a3.L b2.P (knownS b2) ↔ z = v := fun z => by
      unfold giveV
      rw [List.mem_filter, Bool.and_eq_true]
      constructor
      · rintro ⟨q1, -, q2⟩
        refine Classical.byContradiction fun e => ?_
        rw [kn3 z q1 e] at q2
        exact absurd q2 (by decide)
      · intro e
        rw [e]
        refine ⟨hvin, by rw [hb2P]; exact inP_ever hvo, ?_⟩
        rw [knv]; rfl
    have hW : ∀ z, z ∉ a3.L.filter (fun u => !inP b2.P u) := fun z h => by
      obtain ⟨h1, h2⟩ := List.mem_filter.1 h
      rw [hb2P, inP_ever (hx3.ok z (ha3U z h1))] at h2; exact absurd h2 (by decide)
    have hl3 : x ∈ a3.L ↔ x = v ∨ x ∈ a2.L ∧ x.id ≠ sidA 0 := by rw [hL3]; exact mm x
    rw [y3.L.mem, hl3]
    constructor
    · rintro (e | ⟨q1, q2⟩)
      · rw [e]
        refine ⟨.inr ((hV _).2 rfl), fun z hz => hunder z (ha2U z (by rw [hLL]; exact hz)), fun z hz => by rw [(hV z).1 hz]; exact over_self hvo, fun z hz => absurd hz (hW z)⟩
      · refine ⟨.inl (by rw [← hLL]; exact q1), fun z hz => oka2.L.free x q1 z (by rw [hLL]; exact hz), fun z hz => ?_, fun z hz => absurd hz (hW z)⟩
        rw [(hV z).1 hz, hover x q1, decide_eq_false q2]
    · rintro ⟨q1, q2, q3, -⟩
      by_cases e : x = v
      · exact .inl e
      · have hx2 : x ∈ a2.L := by
          rcases q1 with q1 | q1
          · rw [hLL]; exact q1
          · exact absurd ((hV x).1 q1) e
        refine .inr ⟨hx2, fun e2 => ?_⟩
        have := q3 v ((hV v).2 rfl)
        rw [hover x hx2, decide_eq_true e2] at this; exact absurd this (by decide)
  refine ⟨y1.e, y2.e, hLL, htwo, em, y3.e, hLL3, ?_⟩
  have h1 : (getL b3.L (sidA 0)).length ≤ 1 := len_one (okb3.L.ord.filter _) fun x hx y hy => by
    have key : ∀ z ∈ getL b3.L (sidA 0), z = v := fun z hz => by
      obtain ⟨q1, q2⟩ := mem_get.1 hz
      rw [← hLL3, hL3, mm] at q1
      rcases q1 with q1 | ⟨-, q1⟩
      · exact q1
      · exact absurd q2 q1
    rw [key x hx, key y hy]
  have h2 : v ∈ getL b3.L (sidA 0) := mem_get.2 ⟨by rw [← hLL3, hL3]; exact (mm v).2 (.inl rfl), hvid⟩
  have := List.length_pos_of_mem h2
  omega
theorem getE_mem {l : List Ver} {v : Ver} (h : ShOk l) (hv : v ∈ l) : getE l v.id = 0 := by
  unfold getE
  rw [if_neg (by rw [shelfChk_zero.2 h]; decide), if_neg]
  have := List.length_pos_of_mem (mem_get.2 ⟨hv, rfl⟩ : v ∈ getL l v.id)
  omega
set_option maxRecDepth 100000 in
set_option maxHeartbeats 8000000 in
theorem SiteBoth_walk (lv mv : Value) (l m : List (List Int)) (w : World) (hl : RowAt vecE w lv l) (hm : RowAt vecE w mv m) :
    Calls Tryz.prog 13 #[lv, mv] w fun e w' => e = .returned (.bool true) ∧ Below w.heap.size w w' := by
  obtain ⟨la, lc, rfl⟩ := hl.shape
  obtain ⟨ma, mc, rfl⟩ := hm.shape
  have HL := Lib.hid hl
  have HM := Lib.hid hm
  clear hl hm
  have LW := Lib.hid (Lw.refl w)
  go_enter Tryz.func13, Tryz.ntmps13
  go_wp2_with fail
  (with_reducible refine (siteBegun_c w).mono ?_)
  rintro e w1 ⟨rfl, hb⟩
  replace LW := Lib.hid (LW.out.below hb)
  clear hb
  go_wp2_with fail
  (with_reducible refine (everyS w1).mono ?_)
  rintro e w2 ⟨ev, rfl, hev, hb⟩
  obtain ⟨eva, evc, hev⟩ := (hev.at_ok every_chk).shape
  subst hev
  have HEVev := Lib.hid hev
  replace LW := Lib.hid (LW.out.below hb)
  clear hb hev
  go_wp2_with fail
  (with_reducible refine (everyS w2).mono ?_)
  rintro e w3 ⟨ew, rfl, hev, hb⟩
  obtain ⟨ewa, ewc, hew⟩ := (hev.at_ok every_chk).shape
  subst hew
  have HEVew := Lib.hid hev
  replace HEVev := Lib.hid (BxsOwn.below HEVev.out hb)
  replace LW := Lib.hid (LW.out.below hb)
  clear hb hev
  go_wp2_with fail
  (with_reducible refine (stwo_c _ _ everyB everyB w3 (FOwn.at_ok HEVev.out every_chk) (FOwn.at_ok HEVew.out every_chk) every_chk every_chk).mono ?_)
  rintro e w4 ⟨ga, gb, rfl, hsa, hsb, hlt, hb⟩
  have HS0 := Lib.hid LW.out.size
  have SA := Lib.hid (SiteAt.mono hsa HS0.out)
  have SB := Lib.hid (SiteAt.mono hsb HS0.out)
  have GEga := Lib.hid SA.out.ge
  have GEgb := Lib.hid SB.out.ge
  have NEgagb := Lib.hid hlt
  clear hsa hsb hlt HS0
  replace HEVev := Lib.hid (BxsOwn.below HEVev.out hb)
  replace HEVew := Lib.hid (BxsOwn.below HEVew.out hb)
  replace LW := Lib.hid (LW.out.below hb)
  clear hb
  clear HEVev HEVew
  have HMA := Lib.hid (show (newS 0 (ptsOf everyB)).made ≤ 900 from (by decide : (0:Int) ≤ 900))
  have HMB := Lib.hid (show (newS 1 (ptsOf everyB)).made ≤ 900 from (by decide : (0:Int) ≤ 900))
  have M0 := Lib.hid (made_new [] 0 (ptsOf everyB) Hx.nil (by simp))
  go_wp2_with fail
  (with_reducible refine (smakes_c ga _ (newS 0 (ptsOf everyB)) [] _ l w4 SA.out M0.out (by simp) HMA.out (fun w' hs => HL.out.sub (LW.out.one hs GEga.out).sub)).mono ?_)
  rintro e w5 ⟨U1, a1, rfl, hgr, hs, hp⟩
  have Ga1 := Lib.hid hgr
  clear hgr
  replace SA := Lib.hid hs
  replace SB := Lib.hid (SB.out.stp hp (fun e => by have := NEgagb.out; omega))
  replace LW := Lib.hid (LW.out.one hp GEga.out)
  clear hs hp
  have M1 := Lib.hid (made_other Ga1.out 1 (ptsOf everyB) (by exact (by decide : (0:Int) ≠ 1)))
  have HU1 := Lib.hid (show U1.length ≤ 47 by have := Ga1.out.len.1; simp at this; omega)
  go_wp2_with fail
  (with_reducible refine (smakes_c gb _ (newS 1 (ptsOf everyB)) U1 _ m w5 SB.out M1.out HU1.out HMB.out (fun w' hs => HM.out.sub (LW.out.one hs GEgb.out).sub)).mono ?_)
  rintro e w6 ⟨U2, b1, rfl, hgr, hs, hp⟩
  have Gb1 := Lib.hid hgr
  clear hgr
  replace SB := Lib.hid hs
  replace SA := Lib.hid (SA.out.stp hp (fun e => by have := NEgagb.out; omega))
  replace LW := Lib.hid (LW.out.one hp GEgb.out)
  clear hs hp
  have HBO := Lib.hid (both_ok Ga1.out Gb1.out SA.out.ok SB.out.ok)
  go_wp2_with fail
  (with_reducible refine (sync_ok ga gb _ a1 b1 w6 SA.out SB.out (by have := NEgagb.out; omega) HBO.out.e1).mono ?_)
  rintro e w7 ⟨rfl, hs, hr, hp⟩
  replace SA := Lib.hid hs
  replace SB := Lib.hid hr
  replace LW := Lib.hid (LW.out.one hp GEga.out)
  clear hs hr hp
  generalize ha2 : tookS a1 (syncB a1 b1) = a2 at *
  have HEa2 := Lib.hid ha2
  clear ha2
  go_wp2_with fail
  (with_reducible refine (sync_ok gb ga _ b1 a2 w7 SB.out SA.out (by have := NEgagb.out; omega) HBO.out.e2).mono ?_)
  rintro e w8 ⟨rfl, hs, hr, hp⟩
  replace SB := Lib.hid hs
  replace SA := Lib.hid hr
  replace LW := Lib.hid (LW.out.one hp GEgb.out)
  clear hs hr hp
  generalize hb2 : tookS b1 (syncB b1 a2) = b2 at *
  have HEb2 := Lib.hid hb2
  clear hb2
  go_wp2_with fail
  (with_reducible refine (sshelf_c ga _ _ w8 SA.out).mono ?_)
  rintro e w9 ⟨xa, xc, rfl, hv, hb⟩
  have xV := Lib.hid (VOwn.mono hv (Nat.zero_le _))
  replace SB := Lib.hid (SB.out.below hb)
  replace SA := Lib.hid (SA.out.below hb)
  replace LW := Lib.hid (LW.out.below hb)
  clear hv hb
  go_wp2_with fail
  (with_reducible refine (sshelf_c gb _ _ w9 SB.out).mono ?_)
  rintro e w10 ⟨ya, yc, rfl, hv, hb⟩
  have yV := Lib.hid (VOwn.mono hv (Nat.zero_le _))
  replace SB := Lib.hid (SB.out.below hb)
  replace SA := Lib.hid (SA.out.below hb)
  replace xV := Lib.hid (VOwn.below xV.out hb)
  replace LW := Lib.hid (LW.out.below hb)
  clear hv hb
  have hao := SA.out.ok.L
  have hbo := SB.out.ok.L
  have HSM := Lib.hid (sameS_c _ _ a2.L b2.L w10 (xV.out.at_ (shok_bd hao.ok) (by have := hao.len; omega)) (yV.out.at_ (shok_bd hbo.ok) (by have := hbo.len; omega)))
  clear hao hbo
  clear xV yV
  go_wp2_with fail
  (with_reducible refine (HSM.out).mono ?_)
  rintro e w11 ⟨q, rfl, hq, hb⟩
  obtain rfl : q = true := hq.2 HBO.out.L
  clear hq HSM
  replace SB := Lib.hid (SB.out.below hb)
  replace SA := Lib.hid (SA.out.below hb)
  replace LW := Lib.hid (LW.out.below hb)
  clear hb
  go_wp2_with fail
  (with_reducible refine (sshelf_c ga _ _ w11 SA.out).mono ?_)
  rintro e w12 ⟨za, zc, rfl, hv, hb⟩
  have zV := Lib.hid (VOwn.mono hv (Nat.zero_le _))
  replace SB := Lib.hid (SB.out.below hb)
  replace SA := Lib.hid (SA.out.below hb)
  replace LW := Lib.hid (LW.out.below hb)
  clear hv hb
  have hao := SA.out.ok.L
  have hL60 := hao.len
  have HVR := Lib.hid (zV.out.at_ (shok_bd hao.ok) (by have := hao.len; omega))
  have HG0 := Lib.hid (fun v (hv : v ∈ a2.L) => getE_mem hao hv)
  clear hao
  obtain ⟨n, hn⟩ : ∃ n : Nat, n = a2.L.length := ⟨_, rfl⟩
  go_wp2
  go_loopw [62] (fun i wr => ∃ k : Nat, k ≤ a2.L.length ∧ i = .int .i64 k ∧ Below w12.heap.size w12 wr) (fun i _ => a2.L.length - (intOf i).toNat)
  case atStart => exact ⟨0, Nat.zero_le _, rfl, Below.refl _ _⟩
  case round =>
    obtain ⟨k, hk, rfl, hbl⟩ := hrel
    by_cases hlt : k < a2.L.length
    rotate_left
    · obtain rfl : k = a2.L.length := by omega
      have hkb : decide ((a2.L.length : Int) < (a2.L.length : Int)) = false := by simp
      clear zV
      clear HVR HG0
      replace SB := Lib.hid (SB.out.below hbl)
      replace SA := Lib.hid (SA.out.below hbl)
      replace LW := Lib.hid (LW.out.below hbl)
      clear hbl
      go_wp2_with fail
      (with_reducible refine (smake_c ga _ a2 _ 0 0 1 wr SA.out).mono ?_)
      rintro e w13 ⟨rfl, hs, hp⟩
      have he9 : madeE a2 { data := #[97] } 0 0 1 = 0 := HBO.out.em
      rw [if_pos he9, if_pos he9, he9]
      clear he9
      have he8 : madeS a2 { data := #[97] } 0 0 1 = madeS a2 (sidA 0) 0 0 1 := rfl
      rw [he8] at hs
      clear he8
      replace SA := Lib.hid hs
      replace SB := Lib.hid (SB.out.stp hp (fun e => by have := NEgagb.out; omega))
      replace LW := Lib.hid (LW.out.one hp GEga.out)
      clear hs hp
      generalize ha3 : madeS a2 (sidA 0) 0 0 1 = a3 at *
      have HEa3 := Lib.hid ha3
      clear ha3
      obtain ⟨wD, hwD⟩ : ∃ wD, wD = (w13.alloc (.cells #[.int .i64 a2.me, .int .i64 (a2.made + 1)] 41)) := ⟨_, rfl⟩
      have hb : Below w13.heap.size w13 wD := by rw [hwD]; exact bal _
      replace SB := Lib.hid (SB.out.below hb)
      replace SA := Lib.hid (SA.out.below hb)
      replace LW := Lib.hid (LW.out.below hb)
      clear hb
      go_wp2_with fail
      rw [← hwD]
      clear hwD
      (with_reducible refine (sync_ok gb ga _ b2 a3 wD SB.out SA.out (by have := NEgagb.out; omega) HBO.out.e3).mono ?_)
      rintro e w14 ⟨rfl, hs, hr, hp⟩
      replace SB := Lib.hid hs
      replace SA := Lib.hid hr
      replace LW := Lib.hid (LW.out.one hp GEgb.out)
      clear hs hr hp
      generalize hb3 : tookS b2 (syncB b2 a3) = b3 at *
      have HEb3 := Lib.hid hb3
      clear hb3
      go_wp2_with fail
      (with_reducible refine (sread_c gb _ b3 { data := #[97] } w14 SB.out).mono ?_)
      rintro e w15 ⟨ov, rfl, hv, hb⟩
      have he0 : getE b3.L (sidA 0) = 0 := by
        unfold getE
        rw [if_neg (by rw [shelfChk_zero.2 SB.out.ok.L]; decide), if_neg (by rw [HBO.out.one]; decide)]
      have he1 : getE b3.L { data := #[97] } = getE b3.L (sidA 0) := rfl
      have he2 : getR b3.L { data := #[97] } = getR b3.L (sidA 0) := rfl
      rw [he1, he0]
      rw [he2, getR_ok he0] at hv
      obtain ⟨oa, oc, hov⟩ := hv.shape
      subst hov
      have hl1 : ((getL b3.L (sidA 0)).length : Int) = 1 := by rw [HBO.out.one]; rfl
      have hl2 : decide (((getL b3.L (sidA 0)).length : Int) = 1) = true := by rw [hl1]; rfl
      have hl3 : (((getL b3.L (sidA 0)).length : Int) == 1) = true := by rw [hl1]; rfl
      clear hv he0 he1 he2
      replace SB := Lib.hid (SB.out.below hb)
      replace SA := Lib.hid (SA.out.below hb)
      replace LW := Lib.hid (LW.out.below hb)
      clear hb hl1
      go_wp2_with fail
      (with_reducible refine (sshelf_c ga _ _ w15 SA.out).mono ?_)
      rintro e w16 ⟨xa, xc, rfl, hv, hb⟩
      have xV := Lib.hid (VOwn.mono hv (Nat.zero_le _))
      replace SB := Lib.hid (SB.out.below hb)
      replace SA := Lib.hid (SA.out.below hb)
      replace LW := Lib.hid (LW.out.below hb)
      clear hv hb
      go_wp2_with fail
      (with_reducible refine (sshelf_c gb _ _ w16 SB.out).mono ?_)
      rintro e w17 ⟨ya, yc, rfl, hv, hb⟩
      have yV := Lib.hid (VOwn.mono hv (Nat.zero_le _))
      replace SB := Lib.hid (SB.out.below hb)
      replace SA := Lib.hid (SA.out.below hb)
      replace xV := Lib.hid (VOwn.below xV.out hb)
      replace LW := Lib.hid (LW.out.below hb)
      clear hv hb
      have hao := SA.out.ok.L
      have hbo := SB.out.ok.L
      have HSM := Lib.hid (sameS_c _ _ a3.L b3.L w17 (xV.out.at_ (shok_bd hao.ok) (by have := hao.len; omega)) (yV.out.at_ (shok_bd hbo.ok) (by have := hbo.len; omega)))
      clear hao hbo
      clear xV yV
      go_wp2_with fail
      (with_reducible refine (HSM.out).mono ?_)
      rintro e w18 ⟨q, rfl, hq, hb⟩
      obtain rfl : q = true := hq.2 HBO.out.L3
      clear hq HSM
      replace SB := Lib.hid (SB.out.below hb)
      replace SA := Lib.hid (SA.out.below hb)
      replace LW := Lib.hid (LW.out.below hb)
      clear hb
      have HB := Lib.hid LW.out.toBelow
      go_wp2
      go_ret
      exact ⟨rfl, HB.out⟩
    have SAr := Lib.hid (SA.out.below hbl)
    have HVr := Lib.hid (HVR.out.below hbl)
    have HBr := Lib.hid hbl
    obtain ⟨a', cap', ha', -, -, -, hvl⟩ := HVr.out.open_
    simp only [Value.slice.injEq, true_and] at ha'
    obtain ⟨ha', rfl⟩ := ha'
    rcases hvl with hnil | ⟨b9, off, rfl, hb, hc⟩
    · rw [hnil] at hlt; simp at hlt
    subst ha'
    obtain ⟨c, ⟨u, x, rfl, hk2⟩, hcc⟩ := hc k hlt
    obtain ⟨pa, pc, rfl⟩ := hk2.vec.shape
    obtain ⟨qa, qc, rfl⟩ := hk2.more.shape
    have hcl := fun (i : Nat) (y : Value) (hy : (verC a2.L[k] (.slice pa a2.L[k].past.vec.length pc) (.slice qa a2.L[k].past.more.length qc)).toList[i]? = some y) => row8 (b := b9) (off := off) (i := k) hcc hy
    have c0 := hcl 0 _ rfl
    have c1 := hcl 1 _ rfl
    have c2 := hcl 2 _ rfl
    have c3 := hcl 3 _ rfl
    have c4 := hcl 4 _ rfl
    have c5 := hcl 5 _ rfl
    have c6 := hcl 6 _ rfl
    have c7 := hcl 7 _ rfl
    rw [Nat.add_zero] at c0
    have hbx := bal (W := wr) (.cells (verC a2.L[k] (.slice pa a2.L[k].past.vec.length pc) (.slice qa a2.L[k].past.more.length qc)) 75)
    have HRD := Lib.hid (sread_c ga _ a2 a2.L[k].id _ (SAr.out.below hbx))
    have hg2 : (getR a2.L a2.L[k].id).length ≤ 2 := by rw [getR_ok (HG0.out _ (List.getElem_mem hlt))]; exact HBO.out.two _
    have HRN := Lib.hid (show decide (2 < ((getR a2.L a2.L[k].id).length : Int)) = false by simp; omega)
    rw [HG0.out _ (List.getElem_mem hlt)] at HRD
    have HBX := Lib.hid hbx
    clear hc hcc hcl hk2 hbx hbl hg2
    generalize a2.L[k] = v1 at *
    unfold verC at HRD HBX
    have hltb : decide ((k : Int) < (a2.L.length : Int)) = true := by simp; omega
    go_wp2_with fail
    (with_reducible refine (HRD.out).mono ?_)
    rintro e w13 ⟨ov, rfl, hv, hb1⟩
    obtain ⟨oa, oc, hov⟩ := hv.shape
    subst hov
    have HBE := Lib.hid (bstep (bstep HBr.out HBX.out) hb1)
    have hrn := HRN.out
    clear hv hb1 HRD HBX c0 c1 c2 c3 c4 c5 c6 c7 hb HRN
    go_wp2
    go_roundw
    case rel => exact ⟨k + 1, by omega, by go_num, HBE.out⟩
    case measure => simp [intOf] <;> omega
end Go.Proofs.YtboakoipdfmpcaaGreat
