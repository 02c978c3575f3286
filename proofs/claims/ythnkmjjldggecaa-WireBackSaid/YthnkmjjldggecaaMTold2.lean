/- What the laws' maker of versions does. Written by a small program (gen/told.py). A batch of some versions and parts: what memory holds while it is put together. No walk here. What reedkeep.batch does. Written by a small program (gen/batch.py). What WireCut does: it returns true. One byte of a batch's bytes is another one: the sum tells. No program in sight. -/
import Derived.Test.YthnkmjjldggecaaTold1
import Derived.Test.YthnkmjjldggecaaMWire6
import Derived.Test.YthnkmjjldggecaaMWireU
import Derived.Test.YthnkmjjldggecaaPartMade
import Derived.Test.YthnkmjjldggecaaCube2
import Derived.Test.YthnkmjjldggecaaMClaims
import Derived.Test.YthnkmjjldggecaaWireLaw
import Derived.Test.YthnkmjjldggecaaMWireP
import Derived.Test.YthnkmjjldggecaaMShelf7
import Derived.Test.YthnkmjjldggecaaWire8
namespace Go.Proofs.Ythnkmjjldggecaa
open Go.RowKit
set_option maxRecDepth 100000 in
set_option maxHeartbeats 8000000 in
theorem vtold_c (v : Value) (ls : List (List Int)) (w : World) (hv : RowAt vecE w v ls) :
    Calls Try.prog 91 #[v] w fun e w' => ∃ ov U, e = .returned ov ∧ TInv U ∧ U.length ≤ 20 ∧ VOwn w' w.heap.size ov U ∧ Below w.heap.size w w' := by
  obtain ⟨a, cap, rfl, hcap, hlen, ha0, hvl⟩ := hv.open_
  obtain ⟨t, ht⟩ : ∃ t : Nat, t = min ls.length 20 := ⟨_, rfl⟩
  have hmin : min (ls.length : Int) 20 = (t : Int) := by omega
  have ht1 : t ≤ ls.length := by omega
  have ht2 : t ≤ 20 := by omega
  have htc : t ≤ cap := by omega
  obtain ⟨W, hW⟩ : ∃ W, W = w.alloc (.cells #[.int .i64 0, .int .i64 0, .int .i64 0, .int .i64 0, .int .i64 0] 199) := ⟨_, rfl⟩
  have M0 := Lib.hid (show TSt w (fun _ => 0) [] (.slice none 0 0) W from ⟨by rw [hW]; exact alloc_new _ _ _ _ rfl, own_nilV _ _, by rw [hW]; exact bal _⟩)
  have HW := Lib.hid (show ∀ m : Int, (m = 5 ∨ m = 2 ∨ m = 16 ∨ m = 32 ∨ m = 1000) → (1 : Int) ≤ m ∧ m ≤ 9223372036854775807 from fun m h => by omega)
  clear ht hv
  cases a with
  | none =>
    obtain rfl := ha0 rfl
    obtain rfl : t = 0 := by omega
    clear ha0 hvl ht1 ht2 htc hcap hlen HW
    go_enter Try.func91, Try.ntmps91
    go_wp2_with fail
    rw [← hW]
    go_wp2
    go_loopw [3, 18] (fun ov i wr => ov = .slice none 0 0 ∧ i = .int .i64 0 ∧ Below w.heap.size w wr) (fun _ _ _ => 0)
    case atStart => exact ⟨rfl, rfl, M0.out.bel⟩
    case round =>
      obtain ⟨rfl, rfl, hb⟩ := hrel
      clear M0
      go_wp2
      go_ret
      exact ⟨_, [], rfl, TInv.nil, by decide, own_nilV _ _, hb⟩
  | some a0 =>
    clear ha0
    go_enter Try.func91, Try.ntmps91
    go_wp2_with fail
    rw [← hW]
    clear hW
    go_wp2
    go_loopw [3, 18] (fun ov i wr => ∃ (k : Nat) (mk : Nat → Nat) (U : List Ver), i = .int .i64 k ∧ k ≤ t ∧ U.length ≤ k ∧ TInv U ∧ (∀ x ∈ U, ∀ s : Nat, x.ds = (s : Int) → x.dc ≤ (mk s : Nat)) ∧ (∀ s, mk s ≤ U.length) ∧ TSt w mk U ov wr) (fun _ i _ => t - (intOf i).toNat)
    case atStart => exact ⟨0, fun _ => 0, [], rfl, Nat.zero_le _, Nat.zero_le _, TInv.nil, by simp, fun _ => Nat.zero_le _, M0.out⟩
    case round =>
      clear M0 hmin
      obtain ⟨k, mk, U, rfl, hk, hUk, hU, hm1, hm2, hM⟩ := hrel
      have M := Lib.hid hM
      have HU := Lib.hid hU
      have HM1 := Lib.hid hm1
      have HM2 := Lib.hid hm2
      clear hM hU hm1 hm2
      obtain ⟨oa, oc, hoo⟩ : ∃ oa oc, _ = Value.slice oa U.length oc := by
        obtain ⟨css, -, h2⟩ := M.out.own
        exact owns_slice h2
      subst hoo
      by_cases hlt : k < t
      · have hkl : k < ls.length := by omega
        rcases hvl with hnil | ⟨b, off, ha, hb, hc⟩
        · rw [hnil] at hkl; simp at hkl
        simp only [Option.some.injEq] at ha
        subst ha
        obtain ⟨c, ⟨u, rfl, hu⟩, hcc⟩ := hc k hkl
        have c1 : wr.cell? ⟨b, off + k, none⟩ = some u := (M.out.bel.cell (p := ⟨b, off + k, none⟩) hb).trans (by have := hcc 0 u rfl; simpa [vecE] using this)
        clear hc hcc
        generalize ls[k] = l at *
        obtain ⟨ua, uc, rfl, hucap, hum, -, hul⟩ := hu.open_
        clear hu
        by_cases hl3 : l.length < 3
        · have hl3b : decide ((l.length : Int) < 3) = true := by simp; omega
          go_wp2
          go_roundw
          case rel => exact ⟨k + 1, mk, U, by go_num, by omega, by omega, HU.out, HM1.out, HM2.out, M.out⟩
          case measure => simp [intOf] <;> omega
        have hl3b : decide ((l.length : Int) < 3) = false := by simp; omega
        rcases hul with hnil | ⟨b2, off2, rfl, hb2, hc2⟩
        · rw [hnil] at hl3; simp at hl3
        have X0 := Lib.hid ((M.out.bel.cell (p := ⟨b2, off2 + 0, none⟩) hb2).trans (hc2 0 (by omega)))
        have X1 := Lib.hid ((M.out.bel.cell (p := ⟨b2, off2 + 1, none⟩) hb2).trans (hc2 1 (by omega)))
        have X2 := Lib.hid ((M.out.bel.cell (p := ⟨b2, off2 + 2, none⟩) hb2).trans (hc2 2 (by omega)))
        have HB2 := Lib.hid (Nat.lt_of_lt_of_le hb2 M.out.bel.size)
        clear hc2
        generalize l[0] = x0 at *
        generalize l[1] = x1 at *
        generalize l[2] = x2 at *
        rw [Nat.add_zero] at X0
        have hll := hl3b
        obtain ⟨s, hs⟩ : ∃ s, s = wiN x0 5 := ⟨_, rfl⟩
        have hs5 : s < 5 := by rw [hs]; exact wiN_lt x0 5 (by decide)
        have HWS := Lib.hid (fun w2 => (show Calls Try.prog 37 #[.int .i64 x0, .int .i64 5] w2 fun e w' => e = .returned (.int .i64 ((s : Nat) : Int)) ∧ Below w2.heap.size w2 w' by rw [hs]; exact wiN_c x0 5 w2 (by decide) (by decide)))
        have HS := Lib.hid hs
        clear hs
        have cx0 := X0.out
        have hl3' : 0 < l.length := by omega
        go_wp2_with fail
        (with_reducible refine (HWS.out _).mono ?_)
        rintro e w1 ⟨rfl, hb1⟩
        have HB1 := Lib.hid hb1
        replace M := Lib.hid (M.out.below hb1)
        replace X1 := Lib.hid (ckeep hb1 X1.out)
        replace X2 := Lib.hid (ckeep hb1 X2.out)
        clear hb1 X0 cx0 HWS HB1
        have cs := cell_of_block (j := s) M.out.blk (madeC_get mk hs5)
        have fs := free_of_block (j := s) M.out.blk
        have hls := hlt_of M.out.blk
        have hwm : IntKind.i64.wrap ((mk s : Int) + 1) = ((mk s + 1 : Nat) : Int) := by have := HM2.out s; rw [IntKind.wrap_i64]; omega
        have hsb : decide ((s : Int) < 5) = true := by simp; omega
        obtain ⟨i2, hi2⟩ : ∃ i2, i2 = wiN x1 2 := ⟨_, rfl⟩
        have Li2 : i2 < 2 := by rw [hi2]; exact wiN_lt x1 2 (by decide)
        have Hi2 := Lib.hid (fun w2 => (show Calls Try.prog 37 #[.int .i64 x1, .int .i64 2] w2 fun e w' => e = .returned (.int .i64 ((i2 : Nat) : Int)) ∧ Below w2.heap.size w2 w' by rw [hi2]; exact wiN_c x1 2 w2 (by decide) (by decide)))
        clear hi2
        obtain ⟨tg, htg⟩ : ∃ tg, tg = wiN x2 16 := ⟨_, rfl⟩
        have Ltg : tg < 16 := by rw [htg]; exact wiN_lt x2 16 (by decide)
        have Htg := Lib.hid (fun w2 => (show Calls Try.prog 37 #[.int .i64 x2, .int .i64 16] w2 fun e w' => e = .returned (.int .i64 ((tg : Nat) : Int)) ∧ Below w2.heap.size w2 w' by rw [htg]; exact wiN_c x2 16 w2 (by decide) (by decide)))
        clear htg
        obtain ⟨nm, hnm⟩ : ∃ nm, nm = wiN x1 32 := ⟨_, rfl⟩
        have Lnm : nm < 32 := by rw [hnm]; exact wiN_lt x1 32 (by decide)
        have Hnm := Lib.hid (fun w2 => (show Calls Try.prog 37 #[.int .i64 x1, .int .i64 32] w2 fun e w' => e = .returned (.int .i64 ((nm : Nat) : Int)) ∧ Below w2.heap.size w2 w' by rw [hnm]; exact wiN_c x1 32 w2 (by decide) (by decide)))
        clear hnm
        obtain ⟨bd, hbd⟩ : ∃ bd, bd = wiN x2 1000 := ⟨_, rfl⟩
        have Lbd : bd < 1000 := by rw [hbd]; exact wiN_lt x2 1000 (by decide)
        have Hbd := Lib.hid (fun w2 => (show Calls Try.prog 37 #[.int .i64 x2, .int .i64 1000] w2 fun e w' => e = .returned (.int .i64 ((bd : Nat) : Int)) ∧ Below w2.heap.size w2 w' by rw [hbd]; exact wiN_c x2 1000 w2 (by decide) (by decide)))
        clear hbd
        go_wp2_with fail
        obtain ⟨W2, hW2⟩ : ∃ W2, W2 = w1.setCell ⟨w.heap.size, s, none⟩ (.int .i64 ((mk s : Int) + 1)) := ⟨_, rfl⟩
        rw [← hW2]
        obtain ⟨q1, hq1⟩ : ∃ q1, q1 = mk s + 1 := ⟨_, rfl⟩
        obtain ⟨mk2, hmk2⟩ : ∃ mk2 : Nat → Nat, mk2 = fun j => if j = s then q1 else mk j := ⟨_, rfl⟩
        replace M := Lib.hid (show TSt w mk2 U (.slice oa U.length oc) W2 by rw [hW2, hmk2, hq1]; exact M.out.made hs5)
        have HQ1 := Lib.hid hq1
        have HQ2 := Lib.hid (show mk2 s = q1 by rw [hmk2]; simp)
        have HK2 := Lib.hid (show ∀ j, j ≠ s → mk2 j = mk j from fun j hj => by rw [hmk2]; simp [hj])
        have CM := Lib.hid (show W2.cell? ⟨w.heap.size, s, none⟩ = some (.int .i64 (q1 : Nat)) by have h := cell_of_block (j := s) M.out.blk (madeC_get mk2 hs5); rw [HQ2.out] at h; exact h)
        replace X1 := Lib.hid (show W2.cell? ⟨b2, off2 + 1, none⟩ = some (.int .i64 x1) by rw [hW2, cell_set_other (by omega)]; exact X1.out)
        replace X2 := Lib.hid (show W2.cell? ⟨b2, off2 + 2, none⟩ = some (.int .i64 x2) by rw [hW2, cell_set_other (by omega)]; exact X2.out)
        clear hW2 hq1 hmk2 cs fs hls hwm c1
        refine Cl2.region0 103 rfl [27] (fun w => Below W2.heap.size W2 w) (fun jq => match jq with | 0 => [27] | 5 => [27] | 26 => [27] | _ => []) (fun jq v ww => match jq with | 0 => StrLit ww v | 1 => v = .slice (some ⟨b2, off2, none⟩) l.length uc | 2 => v = .pointer (some ⟨b2, off2 + 1, none⟩) | 3 => v = .int .i64 x1 | 4 => v = .int .i64 (i2 : Nat) | 5 => StrPtr ww v i2 | 6 => v = .string (sid i2) | 7 => v = .int .i64 (s : Nat) | 8 => v = .int .i64 (s : Nat) | 9 => v = .pointer (some ⟨w.heap.size, s, none⟩) | 10 => v = .int .i64 (q1 : Nat) | 11 => v = .agg #[.int .i64 (s : Nat), .int .i64 (q1 : Nat)] | 12 => v = .slice (some ⟨b2, off2, none⟩) l.length uc | 13 => v = .pointer (some ⟨b2, off2 + 2, none⟩) | 14 => v = .int .i64 x2 | 15 => v = .int .i64 (tg : Nat) | 16 => v = .slice (some ⟨b2, off2, none⟩) l.length uc | 17 => v = .pointer (some ⟨b2, off2 + 1, none⟩) | 18 => v = .int .i64 x1 | 19 => v = .int .i64 (nm : Nat) | 20 => v = .agg #[.int .i64 (tg : Nat), .int .i64 (nm : Nat)] | 21 => v = .slice (some ⟨b2, off2, none⟩) l.length uc | 22 => v = .pointer (some ⟨b2, off2 + 2, none⟩) | 23 => v = .int .i64 x2 | 24 => v = .int .i64 (bd : Nat) | 25 => v = .agg #[.string (sid i2), .int .i64 (s : Nat), .int .i64 (q1 : Nat), .int .i64 (tg : Nat), .int .i64 (nm : Nat), .int .i64 (bd : Nat), .slice none 0 0, .slice none 0 0] | 26 => NewV ww W2.heap.size v | 27 => FullV ww W2.heap.size v #[.string (sid i2), .int .i64 (s : Nat), .int .i64 (q1 : Nat), .int .i64 (tg : Nat), .int .i64 (nm : Nat), .int .i64 (bd : Nat), .slice none 0 0, .slice none 0 0] | _ => True) (fun ww => Below W2.heap.size W2 ww) (fun jq ww ww' => jq ≠ 27 → Below ww.heap.size ww ww') Try.mixed (by decide +kernel) (Below.refl _ _).drew ((Below.refl _ _).drew) ?_ (fun q w w' hk h hR => bstep h (hR (by simpa using hk))) ?_ ?_
        · intro qq r v w w' hne hk hlt h hR
          match r, hk, hlt, h, hne with
          | 0, hk, _, h, _ => exact StrLit.below h (hR (by simpa using hk))
          | 1, _, _, h, _ => exact h
          | 2, _, _, h, _ => exact h
          | 3, _, _, h, _ => exact h
          | 4, _, _, h, _ => exact h
          | 5, hk, _, h, _ => exact StrPtr.below h (hR (by simpa using hk))
          | 6, _, _, h, _ => exact h
          | 7, _, _, h, _ => exact h
          | 8, _, _, h, _ => exact h
          | 9, _, _, h, _ => exact h
          | 10, _, _, h, _ => exact h
          | 11, _, _, h, _ => exact h
          | 12, _, _, h, _ => exact h
          | 13, _, _, h, _ => exact h
          | 14, _, _, h, _ => exact h
          | 15, _, _, h, _ => exact h
          | 16, _, _, h, _ => exact h
          | 17, _, _, h, _ => exact h
          | 18, _, _, h, _ => exact h
          | 19, _, _, h, _ => exact h
          | 20, _, _, h, _ => exact h
          | 21, _, _, h, _ => exact h
          | 22, _, _, h, _ => exact h
          | 23, _, _, h, _ => exact h
          | 24, _, _, h, _ => exact h
          | 25, _, _, h, _ => exact h
          | 26, hk, _, h, _ => exact NewV.below h (hR (by simpa using hk))
          | 27, _, _, h, hne => exact FullV.below h (hR (by exact hne))
          | _ + 28, _, _, _, _ => trivial
        · refine ⟨?_, ?_, ?_, ?_, ?_, ?_, ?_, ?_, ?_, ?_, ?_, ?_, ?_, ?_, ?_, ?_, ?_, ?_, ?_, ?_, ?_, ?_, ?_, ?_, ?_, ?_, ?_, ?_, trivial⟩
          · intro x wx hG
            have hg := hG.good
            clear hG
            go_wp2
            exact ⟨_, rfl, ⟨_, rfl, alloc_new _ _ _ _ rfl⟩, hg.alloc hg.size _, fun _ => bal _⟩
          · intro x wx hG
            have f6 := hG.old 6 (by decide +kernel)
            have hg := hG.good
            clear hG
            go_wp2
            exact ⟨_, rfl, rfl, hg, fun _ => Below.refl _ _⟩
          · intro x wx hG
            have g1 : (x.tmps.getD 35 undef) = .slice (some ⟨b2, off2, none⟩) l.length uc := hG.claims 1 _ rfl (by decide +kernel) (by decide +kernel)
            have hg := hG.good
            clear hG
            go_wp2
            exact ⟨_, rfl, rfl, hg, fun _ => Below.refl _ _⟩
          · intro x wx hG
            have g2 : (x.tmps.getD 36 undef) = .pointer (some ⟨b2, off2 + 1, none⟩) := hG.claims 2 _ rfl (by decide +kernel) (by decide +kernel)
            have hg := hG.good
            clear hG
            have c_X1 := ckeep hg X1.out
            go_wp2
            exact ⟨_, rfl, rfl, hg, fun _ => Below.refl _ _⟩
          · intro x wx hG
            have g3 : (x.tmps.getD 37 undef) = .int .i64 x1 := hG.claims 3 _ rfl (by decide +kernel) (by decide +kernel)
            have hg := hG.good
            clear hG
            go_wp2_with fail
            (with_reducible refine (Hi2.out _).mono ?_)
            rintro e wq ⟨rfl, hb⟩
            go_wp2
            exact ⟨_, rfl, rfl, bstep hg hb, fun _ => hb⟩
          · intro x wx hG
            have g0 : StrLit wx (x.tmps.getD 34 undef) := hG.claims 0 _ rfl (by decide +kernel) (by decide +kernel)
            have g4 : (x.tmps.getD 38 undef) = .int .i64 (i2 : Nat) := hG.claims 4 _ rfl (by decide +kernel) (by decide +kernel)
            have hg := hG.good
            clear hG
            obtain ⟨gs, hs1, hs2⟩ := g0
            have HS2 := Lib.hid hs2
            clear hs2
            go_wp2
            exact ⟨_, rfl, ⟨_, rfl, HS2.out⟩, hg, fun _ => Below.refl _ _⟩
          · intro x wx hG
            have g5 : StrPtr wx (x.tmps.getD 39 undef) i2 := hG.claims 5 _ rfl (by decide +kernel) (by decide +kernel)
            have hg := hG.good
            clear hG
            obtain ⟨gs, hs1, hs2⟩ := g5
            have cst := str_cell hs2 Li2
            clear hs2
            go_wp2
            exact ⟨_, rfl, rfl, hg, fun _ => Below.refl _ _⟩
          · intro x wx hG
            have f7 := hG.old 7 (by decide +kernel)
            have hg := hG.good
            clear hG
            go_wp2
            exact ⟨_, rfl, rfl, hg, fun _ => Below.refl _ _⟩
          · intro x wx hG
            have f7 := hG.old 7 (by decide +kernel)
            have hg := hG.good
            clear hG
            go_wp2
            exact ⟨_, rfl, rfl, hg, fun _ => Below.refl _ _⟩
          · intro x wx hG
            have f4 := hG.old 4 (by decide +kernel)
            have g8 : (x.tmps.getD 42 undef) = .int .i64 (s : Nat) := hG.claims 8 _ rfl (by decide +kernel) (by decide +kernel)
            have hg := hG.good
            clear hG
            go_wp2
            exact ⟨_, rfl, rfl, hg, fun _ => Below.refl _ _⟩
          · intro x wx hG
            have g9 : (x.tmps.getD 43 undef) = .pointer (some ⟨w.heap.size, s, none⟩) := hG.claims 9 _ rfl (by decide +kernel) (by decide +kernel)
            have hg := hG.good
            clear hG
            have c_CM := ckeep hg CM.out
            go_wp2
            exact ⟨_, rfl, rfl, hg, fun _ => Below.refl _ _⟩
          · intro x wx hG
            have g7 : (x.tmps.getD 41 undef) = .int .i64 (s : Nat) := hG.claims 7 _ rfl (by decide +kernel) (by decide +kernel)
            have g7b := g7
            rw [Array.getD_eq_getD_getElem?] at g7b
            have g10 : (x.tmps.getD 44 undef) = .int .i64 (q1 : Nat) := hG.claims 10 _ rfl (by decide +kernel) (by decide +kernel)
            have g10b := g10
            rw [Array.getD_eq_getD_getElem?] at g10b
            have hg := hG.good
            clear hG
            go_wp2
            exact ⟨_, rfl, rfl, hg, fun _ => Below.refl _ _⟩
          · intro x wx hG
            have f6 := hG.old 6 (by decide +kernel)
            have hg := hG.good
            clear hG
            go_wp2
            exact ⟨_, rfl, rfl, hg, fun _ => Below.refl _ _⟩
          · intro x wx hG
            have g12 : (x.tmps.getD 46 undef) = .slice (some ⟨b2, off2, none⟩) l.length uc := hG.claims 12 _ rfl (by decide +kernel) (by decide +kernel)
            have hg := hG.good
            clear hG
            go_wp2
            exact ⟨_, rfl, rfl, hg, fun _ => Below.refl _ _⟩
          · intro x wx hG
            have g13 : (x.tmps.getD 47 undef) = .pointer (some ⟨b2, off2 + 2, none⟩) := hG.claims 13 _ rfl (by decide +kernel) (by decide +kernel)
            have hg := hG.good
            clear hG
            have c_X2 := ckeep hg X2.out
            go_wp2
            exact ⟨_, rfl, rfl, hg, fun _ => Below.refl _ _⟩
          · intro x wx hG
            have g14 : (x.tmps.getD 48 undef) = .int .i64 x2 := hG.claims 14 _ rfl (by decide +kernel) (by decide +kernel)
            have hg := hG.good
            clear hG
            go_wp2_with fail
            (with_reducible refine (Htg.out _).mono ?_)
            rintro e wq ⟨rfl, hb⟩
            go_wp2
            exact ⟨_, rfl, rfl, bstep hg hb, fun _ => hb⟩
          · intro x wx hG
            have f6 := hG.old 6 (by decide +kernel)
            have hg := hG.good
            clear hG
            go_wp2
            exact ⟨_, rfl, rfl, hg, fun _ => Below.refl _ _⟩
          · intro x wx hG
            have g16 : (x.tmps.getD 50 undef) = .slice (some ⟨b2, off2, none⟩) l.length uc := hG.claims 16 _ rfl (by decide +kernel) (by decide +kernel)
            have hg := hG.good
            clear hG
            go_wp2
            exact ⟨_, rfl, rfl, hg, fun _ => Below.refl _ _⟩
          · intro x wx hG
            have g17 : (x.tmps.getD 51 undef) = .pointer (some ⟨b2, off2 + 1, none⟩) := hG.claims 17 _ rfl (by decide +kernel) (by decide +kernel)
            have hg := hG.good
            clear hG
            have c_X1 := ckeep hg X1.out
            go_wp2
            exact ⟨_, rfl, rfl, hg, fun _ => Below.refl _ _⟩
          · intro x wx hG
            have g18 : (x.tmps.getD 52 undef) = .int .i64 x1 := hG.claims 18 _ rfl (by decide +kernel) (by decide +kernel)
            have hg := hG.good
            clear hG
            go_wp2_with fail
            (with_reducible refine (Hnm.out _).mono ?_)
            rintro e wq ⟨rfl, hb⟩
            go_wp2
            exact ⟨_, rfl, rfl, bstep hg hb, fun _ => hb⟩
          · intro x wx hG
            have g15 : (x.tmps.getD 49 undef) = .int .i64 (tg : Nat) := hG.claims 15 _ rfl (by decide +kernel) (by decide +kernel)
            have g15b := g15
            rw [Array.getD_eq_getD_getElem?] at g15b
            have g19 : (x.tmps.getD 53 undef) = .int .i64 (nm : Nat) := hG.claims 19 _ rfl (by decide +kernel) (by decide +kernel)
            have g19b := g19
            rw [Array.getD_eq_getD_getElem?] at g19b
            have hg := hG.good
            clear hG
            go_wp2
            exact ⟨_, rfl, rfl, hg, fun _ => Below.refl _ _⟩
          · intro x wx hG
            have f6 := hG.old 6 (by decide +kernel)
            have hg := hG.good
            clear hG
            go_wp2
            exact ⟨_, rfl, rfl, hg, fun _ => Below.refl _ _⟩
          · intro x wx hG
            have g21 : (x.tmps.getD 55 undef) = .slice (some ⟨b2, off2, none⟩) l.length uc := hG.claims 21 _ rfl (by decide +kernel) (by decide +kernel)
            have hg := hG.good
            clear hG
            go_wp2
            exact ⟨_, rfl, rfl, hg, fun _ => Below.refl _ _⟩
          · intro x wx hG
            have g22 : (x.tmps.getD 56 undef) = .pointer (some ⟨b2, off2 + 2, none⟩) := hG.claims 22 _ rfl (by decide +kernel) (by decide +kernel)
            have hg := hG.good
            clear hG
            have c_X2 := ckeep hg X2.out
            go_wp2
            exact ⟨_, rfl, rfl, hg, fun _ => Below.refl _ _⟩
          · intro x wx hG
            have g23 : (x.tmps.getD 57 undef) = .int .i64 x2 := hG.claims 23 _ rfl (by decide +kernel) (by decide +kernel)
            have hg := hG.good
            clear hG
            go_wp2_with fail
            (with_reducible refine (Hbd.out _).mono ?_)
            rintro e wq ⟨rfl, hb⟩
            go_wp2
            exact ⟨_, rfl, rfl, bstep hg hb, fun _ => hb⟩
          · intro x wx hG
            have g6 : (x.tmps.getD 40 undef) = .string (sid i2) := hG.claims 6 _ rfl (by decide +kernel) (by decide +kernel)
            have g6b := g6
            rw [Array.getD_eq_getD_getElem?] at g6b
            have g11 : (x.tmps.getD 45 undef) = .agg #[.int .i64 (s : Nat), .int .i64 (q1 : Nat)] := hG.claims 11 _ rfl (by decide +kernel) (by decide +kernel)
            have g11b := g11
            rw [Array.getD_eq_getD_getElem?] at g11b
            have g20 : (x.tmps.getD 54 undef) = .agg #[.int .i64 (tg : Nat), .int .i64 (nm : Nat)] := hG.claims 20 _ rfl (by decide +kernel) (by decide +kernel)
            have g20b := g20
            rw [Array.getD_eq_getD_getElem?] at g20b
            have g24 : (x.tmps.getD 58 undef) = .int .i64 (bd : Nat) := hG.claims 24 _ rfl (by decide +kernel) (by decide +kernel)
            have g24b := g24
            rw [Array.getD_eq_getD_getElem?] at g24b
            have hg := hG.good
            clear hG
            go_wp2
            exact ⟨_, rfl, rfl, hg, fun _ => Below.refl _ _⟩
          · intro x wx hG
            have hg := hG.good
            clear hG
            go_wp2
            exact ⟨_, rfl, ⟨_, rfl, alloc_new _ _ _ _ rfl, hg.size⟩, hg.alloc hg.size _, fun _ => bal _⟩
          · intro x wx hG
            have g26 : NewV wx W2.heap.size (x.tmps.getD 8 undef) := hG.claims 26 _ rfl (by decide +kernel) (by decide +kernel)
            have g25 : (x.tmps.getD 59 undef) = .agg #[.string (sid i2), .int .i64 (s : Nat), .int .i64 (q1 : Nat), .int .i64 (tg : Nat), .int .i64 (nm : Nat), .int .i64 (bd : Nat), .slice none 0 0, .slice none 0 0] := hG.claims 25 _ rfl (by decide +kernel) (by decide +kernel)
            have hg := hG.good
            clear hG
            obtain ⟨g8, hgb, hnil, hgs⟩ := g26
            have HN := Lib.hid hnil
            have HGB := Lib.hid hgb
            have HGS := Lib.hid hgs
            clear hnil hgs
            refine wpList_store_row rfl 109 (.tmp 8) (.tmp 59) rfl g8 #[.string (sid i2), .int .i64 (s : Nat), .int .i64 (q1 : Nat), .int .i64 (tg : Nat), .int .i64 (nm : Nat), .int .i64 (bd : Nat), .slice none 0 0, .slice none 0 0] hgb g25 109 _ HN.out VTy.size rfl (by simp [Value.oneCell']) ?_
            go_wp2
            exact ⟨undef, rfl, ⟨g8, Eq.trans (by kernel_rfl) HGB.out, setRow_heap _ _ _ _ _ _ HN.out, HGS.out⟩, below_setRow hg HGS.out _, fun h => absurd rfl h⟩
        · intro vals w3 hg hF
          obtain ⟨g0, g1, g2, g3, g4, g5, g6, g7, g8, g9, g10, g11, g12, g13, g14, g15, g16, g17, g18, g19, g20, g21, g22, g23, g24, g25, g26, g27, -⟩ := hF
          have e1 : vals 1 = .slice (some ⟨b2, off2, none⟩) l.length uc := g1 rfl
          have e2 : vals 2 = .pointer (some ⟨b2, off2 + 1, none⟩) := g2 rfl
          have e3 : vals 3 = .int .i64 x1 := g3 rfl
          have e4 : vals 4 = .int .i64 (i2 : Nat) := g4 rfl
          have e6 : vals 6 = .string (sid i2) := g6 rfl
          have e7 : vals 7 = .int .i64 (s : Nat) := g7 rfl
          have e8 : vals 8 = .int .i64 (s : Nat) := g8 rfl
          have e9 : vals 9 = .pointer (some ⟨w.heap.size, s, none⟩) := g9 rfl
          have e10 : vals 10 = .int .i64 (q1 : Nat) := g10 rfl
          have e11 : vals 11 = .agg #[.int .i64 (s : Nat), .int .i64 (q1 : Nat)] := g11 rfl
          have e12 : vals 12 = .slice (some ⟨b2, off2, none⟩) l.length uc := g12 rfl
          have e13 : vals 13 = .pointer (some ⟨b2, off2 + 2, none⟩) := g13 rfl
          have e14 : vals 14 = .int .i64 x2 := g14 rfl
          have e15 : vals 15 = .int .i64 (tg : Nat) := g15 rfl
          have e16 : vals 16 = .slice (some ⟨b2, off2, none⟩) l.length uc := g16 rfl
          have e17 : vals 17 = .pointer (some ⟨b2, off2 + 1, none⟩) := g17 rfl
          have e18 : vals 18 = .int .i64 x1 := g18 rfl
          have e19 : vals 19 = .int .i64 (nm : Nat) := g19 rfl
          have e20 : vals 20 = .agg #[.int .i64 (tg : Nat), .int .i64 (nm : Nat)] := g20 rfl
          have e21 : vals 21 = .slice (some ⟨b2, off2, none⟩) l.length uc := g21 rfl
          have e22 : vals 22 = .pointer (some ⟨b2, off2 + 2, none⟩) := g22 rfl
          have e23 : vals 23 = .int .i64 x2 := g23 rfl
          have e24 : vals 24 = .int .i64 (bd : Nat) := g24 rfl
          have e25 : vals 25 = .agg #[.string (sid i2), .int .i64 (s : Nat), .int .i64 (q1 : Nat), .int .i64 (tg : Nat), .int .i64 (nm : Nat), .int .i64 (bd : Nat), .slice none 0 0, .slice none 0 0] := g25 rfl
          have g27 := g27 rfl
          simp only [Cl2.puts, e1, e2, e3, e4, e6, e7, e8, e9, e10, e11, e12, e13, e14, e15, e16, e17, e18, e19, e20, e21, e22, e23, e24, e25]
          clear e1 e2 e3 e4 e6 e7 e8 e9 e10 e11 e12 e13 e14 e15 e16 e17 e18 e19 e20 e21 e22 e23 e24 e25 g0 g1 g2 g3 g4 g5 g6 g7 g8 g9 g10 g11 g12 g13 g14 g15 g16 g17 g18 g19 g20 g21 g22 g23 g24 g25 g26
          go_simp
          obtain ⟨B8, hp8, hv8, hlo8⟩ := g27
          clear g27
          have hpt : vals 26 = .pointer (some ⟨B8, 0, none⟩) := Eq.trans (by kernel_rfl) hp8
          rw [hpt]
          have M3 := Lib.hid (M.out.below hg)
          have HV8 := Lib.hid hv8
          have H8 := Lib.hid (show w.heap.size < B8 by have := hlt_of M.out.blk; omega)
          have HNE := Lib.hid (show (Value.slice oa U.length oc).ownBlock ≠ some B8 by
            intro e
            obtain ⟨css, -, h2⟩ := M.out.own
            have := (h2.lt _ e).2
            omega)
          replace X2 := Lib.hid (ckeep hg X2.out)
          clear hg hp8 hv8 hlo8 hpt M X1 CM Hi2 Htg Hnm Hbd
          obtain ⟨z, hz⟩ : ∃ z, z = dotC fun _ => 0 := ⟨_, rfl⟩
          have hz2 : z = Try.zeroCells203 := by rw [hz, dotC_zero]; rfl
          go_wp2_with fail
          obtain ⟨W4, hW4⟩ : ∃ W4, W4 = w3.alloc (.cells z 203) := ⟨_, rfl⟩
          rw [← hz2, ← hW4]
          obtain ⟨B9, hB9⟩ : ∃ B9, B9 = w3.heap.size := ⟨_, rfl⟩
          rw [← hB9]
          have I0 := Lib.hid (show ISt w mk2 U (.slice oa U.length oc) B8 B9 #[.string (sid i2), .int .i64 (s : Nat), .int .i64 (q1 : Nat), .int .i64 (tg : Nat), .int .i64 (nm : Nat), .int .i64 (bd : Nat), .slice none 0 0, .slice none 0 0] (fun _ => 0) W4 from
            ⟨by rw [hW4]; exact M3.out.below (bal _), by rw [hW4]; exact alloc_keep _ HV8.out, by rw [hW4, hz, hB9]; exact alloc_new _ _ _ _ rfl, ⟨H8.out, by rw [hB9]; exact hlt_of HV8.out⟩, HNE.out⟩)
          replace X2 := Lib.hid (show W4.cell? ⟨b2, off2 + 2, none⟩ = some (.int .i64 x2) by rw [hW4]; exact ckeep (bal _) X2.out)
          have HBB := Lib.hid (show Below w.heap.size w W4 from I0.out.t.bel)
          clear hW4 hz hz2 hB9 M3 HV8 H8 HNE HB2
          have X2W := Lib.hid (show w.cell? ⟨b2, off2 + 2, none⟩ = some (.int .i64 x2) from (HBB.out.cell (p := ⟨b2, off2 + 2, none⟩) hb2).symm.trans X2.out)
          clear X2 HBB
          go_wp2
          go_loopw [62] (fun i w5 => ∃ (q : Nat) (m : Nat → Nat) (C : List Ver), i = .int .i64 q ∧ q ≤ U.length ∧ DWord m ∧ (∀ x ∈ C, x ∈ U ∧ x.id = sid i2) ∧ Has1 m (fun s c => pastP C (s : Int) (c : Int)) ∧ ISt w mk2 U (.slice oa U.length oc) B8 B9 #[.string (sid i2), .int .i64 (s : Nat), .int .i64 (q1 : Nat), .int .i64 (tg : Nat), .int .i64 (nm : Nat), .int .i64 (bd : Nat), .slice none 0 0, .slice none 0 0] m w5) (fun i _ => U.length - (intOf i).toNat)
          case atStart => exact ⟨0, fun _ => 0, [], rfl, Nat.zero_le _, fun _ => by simp, by simp, has_zero, I0.out⟩
          case round =>
            clear I0
            obtain ⟨q, m, C, rfl, hq, hmw, hC, hm, hI⟩ := hrel
            have I := Lib.hid hI
            have HMW := Lib.hid hmw
            have HC := Lib.hid hC
            have HHM := Lib.hid hm
            clear hI hmw hC hm
            by_cases hqt : q < U.length
            · have hrow := I.out.t.own.at_ (shok_bd HU.out.ok) (by omega)
              obtain ⟨a5, cap5, ha5, -, -, -, hul5⟩ := hrow.open_
              simp only [Value.slice.injEq, true_and] at ha5
              obtain ⟨ha5, rfl⟩ := ha5
              rcases hul5 with hnil | ⟨b5, off5, rfl, hb5, hc5⟩
              · rw [hnil] at hqt; simp at hqt
              subst ha5
              obtain ⟨c, ⟨u, x, rfl, hk2⟩, hcc⟩ := hc5 q hqt
              obtain ⟨pa, pc, rfl⟩ := hk2.vec.shape
              obtain ⟨qa, qc, rfl⟩ := hk2.more.shape
              have hcl := fun (i : Nat) (y : Value) (hy : (verC U[q] (.slice pa U[q].past.vec.length pc) (.slice qa U[q].past.more.length qc)).toList[i]? = some y) => row8 (b := b5) (off := off5) (i := q) hcc hy
              have c0 := hcl 0 _ rfl
              have c1 := hcl 1 _ rfl
              have c2 := hcl 2 _ rfl
              have c3 := hcl 3 _ rfl
              have c4 := hcl 4 _ rfl
              have c5 := hcl 5 _ rfl
              have c6 := hcl 6 _ rfl
              have c7 := hcl 7 _ rfl
              rw [Nat.add_zero] at c0
              have HIN := Lib.hid (List.getElem_mem hqt)
              have HVO := Lib.hid (HU.out.ok _ HIN.out)
              obtain ⟨W5, hW5⟩ : ∃ W5, W5 = wr.alloc (.cells (verC U[q] (.slice pa U[q].past.vec.length pc) (.slice qa U[q].past.more.length qc)) 109) := ⟨_, rfl⟩
              have hbx : Below wr.heap.size wr W5 := by rw [hW5]; exact bal _
              obtain ⟨B11, hB11⟩ : ∃ B11, B11 = wr.heap.size := ⟨_, rfl⟩
              have H11 := Lib.hid (show W5.heap[B11]? = some (Obj.cells (verC U[q] (.slice pa U[q].past.vec.length pc) (.slice qa U[q].past.more.length qc)) 109 (0, 0)) by rw [hW5]; exact alloc_new _ _ _ _ hB11)
              have HKU := Lib.hid (hk2.below hbx)
              have I5 := Lib.hid (I.out.below hbx)
              have hx2 := (I.out.t.bel.cell (p := ⟨b2, off2 + 2, none⟩) hb2).trans X2W.out
              have hb2r : b2 < wr.heap.size := Nat.lt_of_lt_of_le hb2 I.out.t.bel.size
              have v0 := cell_of_block (j := 0) I.out.v rfl
              have hv8l := hlt_of I.out.v
              have hids := ids_eq U[q].id (sid i2)
              clear hc5 hcc hcl hk2 hbx hrow I hb5
              generalize hvu : U[q] = v1 at *
              unfold verC at hW5
              have hqb : decide ((q : Int) < (U.length : Int)) = true := by simp; omega
              generalize hdi : decide (v1.id = sid i2) = di at *
              obtain ⟨bb, hbb⟩ : ∃ bb, (bits BinOp.and IntKind.i64 (x2 / 2 ^ (q % 30)) 1 == 1) = bb := ⟨_, rfl⟩
              cases di
              · subst hW5
                clear hbb hdi
                go_wp2
                go_roundw
                case rel => exact ⟨q + 1, m, C, by go_num, by omega, HMW.out, HC.out, HHM.out, I5.out⟩
                case measure => simp [intOf] <;> omega
              cases bb
              · subst hW5
                clear hdi
                go_wp2
                go_roundw
                case rel => exact ⟨q + 1, m, C, by go_num, by omega, HMW.out, HC.out, HHM.out, I5.out⟩
                case measure => simp [intOf] <;> omega
              have HID := Lib.hid (of_decide_eq_true hdi)
              clear hdi
              go_wp2
              rw [← hW5, ← hB11]
              clear hW5 hB11 c0 c1 c2 c3 c4 c5 c6 c7 hx2 hb2r v0 hv8l hids hbb
              obtain ⟨⟨d0, d5⟩, d1, d2⟩ := dotOk_iff.1 HVO.out.dot
              simp only at d0 d5 d1 d2
              obtain ⟨s1, hs1⟩ := Int.eq_ofNat_of_zero_le d0
              obtain ⟨n1, hn1⟩ := Int.eq_ofNat_of_zero_le (show 0 ≤ v1.dc by omega)
              have HS1 := Lib.hid hs1
              have HN1 := Lib.hid hn1
              have hs15 : s1 < 5 := by omega
              have hn11 : n1 < 1024 := by omega
              obtain ⟨e0, e1, e2, e3, e4, e5, e6, e7⟩ := verAt8 H11.out
              rw [hs1] at e1
              rw [hn1] at e2
              have E1 := Lib.hid e1
              have E2 := Lib.hid e2
              have E6 := Lib.hid e6
              have E7 := Lib.hid e7
              have HD := Lib.hid I5.out.d
              have HI := Lib.hid (DotsTy.size m)
              clear e0 e1 e2 e3 e4 e5 e6 e7 d0 d5 d1 d2 hs1 hn1
              obtain ⟨w0, hw0⟩ : ∃ w0, w0 = w := ⟨_, rfl⟩
              rw [← hw0] at I5
              have HW0 := Lib.hid hw0
              clear hw0
              refine Cl.region0 103 rfl [8] (fun ww => Below W5.heap.size W5 ww) (fun _ => []) (fun jq v ww => match jq with | 0 => v = .agg (dotC m) | 1 => v = .pointer (some ⟨B11, 6, none⟩) | 2 => v = .agg #[.slice pa v1.past.vec.length pc, .slice qa v1.past.more.length qc] | 3 => DotsP v (allP v1.past) | 4 => DotsP v (fun s c => pastP C (s : Int) (c : Int) || allP v1.past s c) | 5 => v = .pointer (some ⟨B11, 1, none⟩) | 6 => v = .agg #[.int .i64 (s1 : Nat), .int .i64 (n1 : Nat)] | 7 => DotsP v (pastN C v1 s1 n1) | 8 => IPut w0 mk2 U (.slice (some ⟨b5, off5, none⟩) U.length oc) B8 B9 #[.string (sid i2), .int .i64 (s : Nat), .int .i64 (q1 : Nat), .int .i64 (tg : Nat), .int .i64 (nm : Nat), .int .i64 (bd : Nat), .slice none 0 0, .slice none 0 0] (pastN C v1 s1 n1) ww | _ => True) (fun ww => True) (fun jq ww ww' => jq ≠ 8 → Below ww.heap.size ww ww') Try.mixed (by decide +kernel) trivial ((Below.refl _ _).drew) ?_ (fun jq ww ww' hk h hR => bstep h (hR (by simpa using hk))) ?_ ?_
              · intro qq r v w w' hne hk hlt h hR
                match r, hk, hlt, h, hne with
                | 0, _, _, h, _ => exact h
                | 1, _, _, h, _ => exact h
                | 2, _, _, h, _ => exact h
                | 3, _, _, h, _ => exact h
                | 4, _, _, h, _ => exact h
                | 5, _, _, h, _ => exact h
                | 6, _, _, h, _ => exact h
                | 7, _, _, h, _ => exact h
                | 8, _, _, h, hne => exact IPut.below h (hR (by exact hne))
                | _ + 9, _, _, _, _ => trivial
              · refine ⟨?_, ?_, ?_, ?_, ?_, ?_, ?_, ?_, ?_, trivial⟩
                · intro x wx hG
                  have f9 := hG.old 9 (by decide +kernel)
                  have hp := hG.pre (by decide +kernel)
                  have hg := hG.good
                  clear hG
                  have hg := hp
                  have hd := below_keep hg HD.out
                  have HDX := Lib.hid hd
                  clear hd
                  refine wpList_load_row rfl 203 (.tmp 9) rfl B9 f9 203 (dotC m) (0, 0) _ HDX.out Try.underlying203 rfl HI.out ?_
                  go_wp2
                  exact ⟨_, rfl, rfl, trivial, fun _ => Below.refl _ _⟩
                · intro x wx hG
                  have f11 := hG.old 11 (by decide +kernel)
                  have hp := hG.pre (by decide +kernel)
                  have hg := hG.good
                  clear hG
                  have hg := hp
                  go_wp2
                  exact ⟨_, rfl, rfl, trivial, fun _ => Below.refl _ _⟩
                · intro x wx hG
                  have g1 : (x.tmps.getD 83 undef) = .pointer (some ⟨B11, 6, none⟩) := hG.claims 1 _ rfl (by decide +kernel) (by decide +kernel)
                  have hp := hG.pre (by decide +kernel)
                  have hg := hG.good
                  clear hG
                  have hg := hp
                  have c_E6 := ckeep hg E6.out
                  have c_E7 := ckeep hg E7.out
                  go_wp2
                  exact ⟨_, rfl, rfl, trivial, fun _ => Below.refl _ _⟩
                · intro x wx hG
                  have g2 : (x.tmps.getD 84 undef) = .agg #[.slice pa v1.past.vec.length pc, .slice qa v1.past.more.length qc] := hG.claims 2 _ rfl (by decide +kernel) (by decide +kernel)
                  have hp := hG.pre (by decide +kernel)
                  have hg := hG.good
                  clear hG
                  have hg := hp
                  have hk := HKU.out.below hg
                  have HKX := Lib.hid hk
                  clear hk
                  go_wp2_with fail
                  (with_reducible refine (dall_c _ _ v1.past _ HKX.out HVO.out.past HVO.out.len).mono ?_)
                  rintro e wq ⟨m9, rfl, hm1, hm2, hb⟩
                  have H1 := Lib.hid hm1
                  have H2 := Lib.hid hm2
                  clear hm1 hm2
                  go_wp2
                  exact ⟨_, rfl, ⟨_, rfl, H1.out, H2.out⟩, trivial, fun _ => hb⟩
                · intro x wx hG
                  have g0 : (x.tmps.getD 82 undef) = .agg (dotC m) := hG.claims 0 _ rfl (by decide +kernel) (by decide +kernel)
                  have g3 : DotsP (x.tmps.getD 85 undef) (allP v1.past) := hG.claims 3 _ rfl (by decide +kernel) (by decide +kernel)
                  have hp := hG.pre (by decide +kernel)
                  have hg := hG.good
                  clear hG
                  have hg := hp
                  have g0b := g0
                  rw [Array.getD_eq_getD_getElem?] at g0b
                  obtain ⟨ma, ma0, ma1, ma2⟩ := g3
                  have mab := ma0
                  rw [Array.getD_eq_getD_getElem?] at mab
                  have maH := Lib.hid ma1
                  have maP := Lib.hid ma2
                  clear ma1 ma2
                  go_wp2_with fail
                  (with_reducible refine (djoin_c m ma _ HMW.out maH.out).mono ?_)
                  rintro e wq ⟨rfl, hb⟩
                  go_wp2
                  exact ⟨_, rfl, ⟨_, rfl, orD_word HMW.out maH.out, has_or HHM.out maP.out⟩, trivial, fun _ => hb⟩
                · intro x wx hG
                  have f11 := hG.old 11 (by decide +kernel)
                  have hp := hG.pre (by decide +kernel)
                  have hg := hG.good
                  clear hG
                  have hg := hp
                  go_wp2
                  exact ⟨_, rfl, rfl, trivial, fun _ => Below.refl _ _⟩
                · intro x wx hG
                  have g5 : (x.tmps.getD 87 undef) = .pointer (some ⟨B11, 1, none⟩) := hG.claims 5 _ rfl (by decide +kernel) (by decide +kernel)
                  have g5b := g5
                  rw [Array.getD_eq_getD_getElem?] at g5b
                  have hp := hG.pre (by decide +kernel)
                  have hg := hG.good
                  clear hG
                  have hg := hp
                  have c_E1 := ckeep hg E1.out
                  have c_E2 := ckeep hg E2.out
                  go_wp2
                  exact ⟨_, rfl, rfl, trivial, fun _ => Below.refl _ _⟩
                · intro x wx hG
                  have g4 : DotsP (x.tmps.getD 86 undef) (fun s c => pastP C (s : Int) (c : Int) || allP v1.past s c) := hG.claims 4 _ rfl (by decide +kernel) (by decide +kernel)
                  have g6 : (x.tmps.getD 88 undef) = .agg #[.int .i64 (s1 : Nat), .int .i64 (n1 : Nat)] := hG.claims 6 _ rfl (by decide +kernel) (by decide +kernel)
                  have hp := hG.pre (by decide +kernel)
                  have hg := hG.good
                  clear hG
                  have hg := hp
                  obtain ⟨mj, mj0, mj1, mj2⟩ := g4
                  have mjb := mj0
                  rw [Array.getD_eq_getD_getElem?] at mjb
                  have mjH := Lib.hid mj1
                  have mjP := Lib.hid mj2
                  clear mj1 mj2
                  go_wp2_with fail
                  (with_reducible refine (dwith_c mj s1 n1 _ mjH.out hs15 hn11).mono ?_)
                  rintro e wq ⟨rfl, hb⟩
                  go_wp2
                  exact ⟨_, rfl, ⟨_, rfl, withD_word mjH.out _ _, has_with mjP.out hn11⟩, trivial, fun _ => hb⟩
                · intro x wx hG
                  have f9 := hG.old 9 (by decide +kernel)
                  have g7 : DotsP (x.tmps.getD 89 undef) (pastN C v1 s1 n1) := hG.claims 7 _ rfl (by decide +kernel) (by decide +kernel)
                  have hp := hG.pre (by decide +kernel)
                  have hg := hG.good
                  clear hG
                  have hg := hp
                  have hM := I5.out.below hp
                  have HMX := Lib.hid hM
                  clear hM hp
                  obtain ⟨mw, mw0, mw1, mw2⟩ := g7
                  have HP1 := Lib.hid mw1
                  have HP2 := Lib.hid mw2
                  clear mw1 mw2
                  have HI2 := Lib.hid (DotsTy.size mw)
                  refine wpList_store_row rfl 203 (.tmp 9) (.tmp 89) rfl B9 (dotC mw) f9 mw0 203 (dotC m) HMX.out.d HI2.out (by simp [dotC_size]) (dotC_one _) ?_
                  go_wp2
                  exact ⟨undef, rfl, ⟨⟨mw, HP1.out, HP2.out, HMX.out.put mw⟩⟩, trivial, fun h => absurd rfl h⟩
              · intro vals w6 hg hF
                obtain ⟨g0, g1, g2, g3, g4, g5, g6, g7, g8, -⟩ := hF
                have e0 : vals 0 = .agg (dotC m) := g0 rfl
                have e1 : vals 1 = .pointer (some ⟨B11, 6, none⟩) := g1 rfl
                have e2 : vals 2 = .agg #[.slice pa v1.past.vec.length pc, .slice qa v1.past.more.length qc] := g2 rfl
                have e5 : vals 5 = .pointer (some ⟨B11, 1, none⟩) := g5 rfl
                have e6 : vals 6 = .agg #[.int .i64 (s1 : Nat), .int .i64 (n1 : Nat)] := g6 rfl
                replace g8 : IPut w0 mk2 U (.slice (some ⟨b5, off5, none⟩) U.length oc) B8 B9 #[.string (sid i2), .int .i64 (s : Nat), .int .i64 (q1 : Nat), .int .i64 (tg : Nat), .int .i64 (nm : Nat), .int .i64 (bd : Nat), .slice none 0 0, .slice none 0 0] (pastN C v1 s1 n1) w6 := g8 rfl
                simp only [Cl.puts, e0, e1, e2, e5, e6]
                clear e0 e1 e2 e5 e6 g0 g1 g2 g3 g4 g5 g6 g7
                go_simp
                obtain ⟨m2, hmw2, hmm2, hI2⟩ := g8.ex
                rw [HW0.out] at hI2
                have hC2 : ∀ x ∈ C ++ [v1], x ∈ U ∧ x.id = sid i2 := fun x hx => by
                  rcases List.mem_append.1 hx with hx | hx
                  · exact HC.out x hx
                  · rw [List.mem_singleton] at hx; subst hx; exact ⟨HIN.out, HID.out⟩
                have HC2 := Lib.hid hC2
                have HM22 := Lib.hid (show Has1 m2 (fun s c => pastP (C ++ [v1]) (s : Int) (c : Int)) from fun s c h5 h1 h2 => by rw [hmm2 s c h5 h1 h2]; exact (past_snoc C v1 HS1.out HN1.out s c).symm)
                have HMW2 := Lib.hid hmw2
                have HI2 := Lib.hid hI2
                clear hI2 hmw2 hmm2 hC2 g8 I5 HD HI E1 E2 E6 E7 H11 HKU
                go_wp2
                go_roundw
                case rel => exact ⟨q + 1, m2, C ++ [v1], by go_num, by omega, HMW2.out, HC2.out, HM22.out, HI2.out⟩
                case measure => simp [intOf] <;> omega
            · obtain rfl : q = U.length := by omega
              have hst := told_step HU.out (by omega) hs5 Ltg Lnm Lbd HQ1.out HQ2.out HK2.out HM1.out HM2.out HC.out HHM.out
              have HST := Lib.hid hst
              clear hst
              have HD := Lib.hid I.out.d
              have HI := Lib.hid (DotsTy.size m)
              have HF := Lib.hid (fun w2 => dform_c m w2 HMW.out)
              generalize formK (predD m) = kk at *
              go_wp2_with (with_reducible refine wpList_load_row rfl 203 (.tmp 9) rfl B9 rfl 203 (dotC m) (0, 0) _ HD.out Try.underlying203 rfl HI.out ?_)
              go_wp2_with fail
              (with_reducible refine (HF.out _).mono ?_)
              rintro e w5 ⟨u, x, rfl, ho5, hb5⟩
              have I5 := Lib.hid (I.out.below hb5)
              obtain ⟨ka, kc, hu⟩ := owns_slice ho5.vec
              obtain ⟨kb, kd, hx⟩ := owns_slice ho5.more
              subst hu hx
              have hwsz : w.heap.size + 1 ≤ wr.heap.size := hlt_of I.out.t.blk
              have hko := ho5.mono (base' := w.heap.size + 1) hwsz
              obtain ⟨vn, hvn⟩ : ∃ vn : Ver, vn = ⟨sid i2, s, q1, tg, nm, bd, kk⟩ := ⟨_, rfl⟩
              have hB2 := I5.out.v
              have hne := I5.out.ne
              have hord := I5.out.ord
              have hB3 : ((w5.setCell ⟨B8, 6, none⟩ (.slice ka kk.vec.length kc)).setCell ⟨B8, 7, none⟩ (.slice kb kk.more.length kd)).heap[B8]? = some (Obj.cells (verC vn (.slice ka kk.vec.length kc) (.slice kb kk.more.length kd)) 109 (0, 0)) := by rw [heap_set_same (heap_set_same hB2), hvn]; rfl
              have HO3 := (I5.out.t.own.set1 (j := 6) (y := (.slice ka kk.vec.length kc)) hB2 hne).set1 (j := 7) (y := (.slice kb kk.more.length kd)) (heap_set_same hB2) hne
              have hko3 := (hko.set1 (j := 6) (y := (.slice ka kk.vec.length kc)) hB2).set1 (j := 7) (y := (.slice kb kk.more.length kd)) (heap_set_same hB2)
              have hbl3 := (I5.out.t.bel.setCell (p := ⟨B8, 6, none⟩) (by show w.heap.size ≤ B8; omega) (.slice ka kk.vec.length kc)).setCell (p := ⟨B8, 7, none⟩) (by show w.heap.size ≤ B8; omega) (.slice kb kk.more.length kd)
              have hblk : ((w5.setCell ⟨B8, 6, none⟩ (.slice ka kk.vec.length kc)).setCell ⟨B8, 7, none⟩ (.slice kb kk.more.length kd)).heap[w.heap.size]? = some (Obj.cells (madeC mk2) 199 (0, 0)) := by rw [heap_set_other (by omega), heap_set_other (by omega)]; exact I5.out.t.blk
              have r6 := cell_of_block (j := 6) hB2 rfl
              have r7 := cell_of_block (j := 7) hB2 rfl
              have f6 := free_of_block (j := 6) hB2
              have f7 := free_of_block (j := 7) hB2
              have hRl := hlt_of hB2
              obtain ⟨e0, e1, e2, e3, e4, e5, e6, e7⟩ := verAt8 hB3
              have HKP := Lib.hid (show kk = vn.past by rw [hvn])
              have HROW := Lib.hid (fun j u (hj : ((verC vn (.slice ka kk.vec.length kc) (.slice kb kk.more.length kd)).toList)[j]? = some u) => (show (((w5.setCell ⟨B8, 6, none⟩ (.slice ka kk.vec.length kc)).setCell ⟨B8, 7, none⟩ (.slice kb kk.more.length kd)).alloc (.cells (verC vn (.slice ka kk.vec.length kc) (.slice kb kk.more.length kd)) 109)).cell? ((⟨w5.heap.size, 0, none⟩ : Addr).add j) = some u by
                rw [show (⟨w5.heap.size, 0, none⟩ : Addr).add j = ⟨w5.heap.size, j, none⟩ from by simp [Addr.add]; exact fun h => h.symm, World.cell?_alloc_at _ _ _ _ (by simp)]; simpa using hj))
              have hbz := bal (W := ((w5.setCell ⟨B8, 6, none⟩ (.slice ka kk.vec.length kc)).setCell ⟨B8, 7, none⟩ (.slice kb kk.more.length kd))) (.cells (verC vn (.slice ka kk.vec.length kc) (.slice kb kk.more.length kd)) 109)
              have HO4 := Lib.hid (HO3.below hbz)
              have HK4 := Lib.hid (hko3.below hbz)
              have HB4 := Lib.hid (bstep hbl3 hbz)
              have HBLK := Lib.hid (below_keep hbz hblk)
              have HVN := Lib.hid hvn
              have hsz5 : w.heap.size + 1 ≤ w5.heap.size := Nat.le_trans hwsz hb5.size
              have hsz : w.heap.size + 1 ≤ (((w5.setCell ⟨B8, 6, none⟩ (.slice ka kk.vec.length kc)).setCell ⟨B8, 7, none⟩ (.slice kb kk.more.length kd)).alloc (.cells (verC vn (.slice ka kk.vec.length kc) (.slice kb kk.more.length kd)) 109)).heap.size := Nat.le_trans (by simpa using hsz5) hbz.size
              clear hB2 hne hord hB3 HO3 hko3 hbl3 hblk hvn ho5 hb5 hko I HD HI HF HMW hbz
              obtain ⟨css4, hve4, hrow4⟩ := HO4.out
              have HVE4 := Lib.hid hve4
              have HR4 := Lib.hid hrow4
              have HON := Lib.hid (show ∀ u ∈ (verC vn (.slice ka kk.vec.length kc) (.slice kb kk.more.length kd)).toList, u.oneCell' = true by intro u hu; simp only [verC, List.mem_cons, List.not_mem_nil, or_false] at hu; rcases hu with rfl | rfl | rfl | rfl | rfl | rfl | rfl | rfl <;> rfl)
              clear hve4 hrow4 HO4
              have hk1000 : U.length ≤ 1000 := by omega
              unfold verC at *
              go_wp2_with (at_builtin; refine wpList_append_own' rfl (.tmp 97) (.tmp 99) 60 rfl (w.heap.size + 1) 109 _ 8 104 Try.underlying60 VerTy.info rfl (by decide) _ U.length _ rfl HR4.out _ 1 1 _ rfl rfl HROW.out HON.out (by unfold maxLen; omega) (by omega) hsz ?_)
              intro v' w7 ho hgr _
              obtain ⟨qa, qc, hq⟩ := owns_slice ho
              subst hq
              have hown7 : VOwn w7 (w.heap.size + 1) (.slice qa (U.length + 1) qc) (U ++ [vn]) := ⟨css4 ++ [(verC vn (.slice ka kk.vec.length kc) (.slice kb kk.more.length kd)).toList], VE.snoc (HVE4.out.map fun _ _ _ h => ⟨own_kept2 h.vec HR4.out (by decide) hgr, own_kept2 h.more HR4.out (by decide) hgr⟩) ⟨⟨ka, kk.vec.length, kc, kb, kk.more.length, kd, rfl, (HKP.out ▸ (⟨own_kept2 HK4.out.vec HR4.out (by decide) hgr, own_kept2 HK4.out.more HR4.out (by decide) hgr⟩ : KnOwn w7 (w.heap.size + 1) (.slice ka kk.vec.length kc) (.slice kb kk.more.length kd) kk))⟩, trivial⟩, by rw [List.flatten_append, List.length_append]; simpa [verC] using ho⟩
              have HT7 := Lib.hid (show TSt w mk2 (U ++ [vn]) (.slice qa (U.length + 1) qc) w7 from ⟨grown_keep HR4.out hgr HBLK.out (by decide), hown7, HB4.out.grown hgr HB4.out.size fun k hk => by have := (HR4.out.lt k hk).1; omega⟩)
              obtain ⟨hst1, hst2, hst3⟩ := HST.out
              rw [← HVN.out] at hst1 hst2 hst3
              have HS1 := Lib.hid hst1
              have HS2 := Lib.hid hst2
              have HS3 := Lib.hid hst3
              have hlen : (U ++ [vn]).length ≤ k + 1 := by rw [List.length_append, List.length_singleton]; omega
              clear ho hgr hown7 e0 e1 e2 e3 e4 e5 e6 e7 r6 r7 f6 f7 HR4 HVE4 HROW HON HST hst1 hst2 hst3
              go_wp2
              go_roundw
              case rel => exact ⟨k + 1, mk2, U ++ [vn], by go_num, by omega, hlen, HS1.out, HS2.out, HS3.out, HT7.out⟩
              case measure => simp [intOf] <;> omega
      · obtain rfl : k = t := by omega
        have HO := Lib.hid (M.out.own.mono (Nat.le_succ _))
        have HB := Lib.hid M.out.bel
        go_wp2
        go_ret
        exact ⟨_, U, rfl, HU.out, by omega, HO.out, HB.out⟩
end Go.Proofs.Ythnkmjjldggecaa
namespace Go.Proofs.Ythnkmjjldggecaa
open Go.RowKit
theorem VE.get {w : World} {base : Nat} : ∀ {l : List Ver} {cs : List (List Value)} (_ : VE w base l cs) (i : Nat) (hi : i < l.length), ∃ (a : Option Addr) (n d : Nat) (b : Option Addr) (m e : Nat), cs[i]? = some (verC l[i] (.slice a n d) (.slice b m e)).toList ∧ KnOwn w base (.slice a n d) (.slice b m e) l[i].past
  | [], _, _, i, hi => by simp at hi
  | _ :: _, _ :: _, ⟨⟨a, n, d, b, m, e, h1, h2⟩, _⟩, 0, _ => ⟨a, n, d, b, m, e, by simp [h1], h2⟩
  | _ :: _, _ :: _, ⟨_, h4⟩, i + 1, hi => by
    obtain ⟨a, n, d, b, m, e, h1, h2⟩ := VE.get h4 i (by simpa using hi)
    exact ⟨a, n, d, b, m, e, by simpa using h1, h2⟩
  | _ :: _, [], h, _, _ => h.elim
theorem VE.lens {w : World} {base : Nat} : ∀ {l : List Ver} {cs : List (List Value)}, VE w base l cs → ∀ c ∈ cs, c.length = 8
  | [], [], _ => by simp
  | _ :: _, _ :: _, ⟨⟨a, n, d, b, m, e, h1, _⟩, h4⟩ => by
    intro c hc
    rcases List.mem_cons.1 hc with rfl | hc
    · rw [h1]; rfl
    · exact VE.lens h4 c hc
  | [], _ :: _, h => h.elim
  | _ :: _, [], h => h.elim
theorem flat_get {n : Nat} : ∀ {css : List (List Value)} (_ : ∀ c ∈ css, c.length = n) (i : Nat) {c : List Value} (_ : css[i]? = some c) (j : Nat) {x : Value} (_ : c[j]? = some x), css.flatten[i * n + j]? = some x
  | [], _, i, c, h, j, x, hj => by simp at h
  | d :: css, hl, 0, c, h, j, x, hj => by
    simp only [List.getElem?_cons_zero, Option.some.injEq] at h
    subst h
    have hlt := (List.getElem?_eq_some_iff.1 hj).1
    rw [List.flatten_cons, Nat.zero_mul, Nat.zero_add, List.getElem?_append_left hlt]; exact hj
  | d :: css, hl, i + 1, c, h, j, x, hj => by
    have hd := hl d (by simp)
    rw [List.flatten_cons, List.getElem?_append_right (by rw [hd, Nat.succ_mul]; omega), hd, show (i + 1) * n + j - n = i * n + j by rw [Nat.succ_mul]; omega]
    exact flat_get (fun c hc => hl c (by simp [hc])) i (by simpa using h) j hj
/-- A version of a row of the call's own: its cells and its past. -/
theorem VOwn.cellsAt {w : World} {base : Nat} {v : Value} {l : List Ver} (h : VOwn w base v l) (i : Nat) (hi : i < l.length) : ∃ (g cap : Nat) (a : Option Addr) (n d : Nat) (b : Option Addr) (m e : Nat), v = .slice (some ⟨g, 0, none⟩) l.length cap ∧ l.length ≤ cap ∧ g < w.heap.size ∧
    (∀ j x, (verC l[i] (.slice a n d) (.slice b m e)).toList[j]? = some x → w.cell? ⟨g, i * 8 + j, none⟩ = some x) ∧ KnOwn w base (.slice a n d) (.slice b m e) l[i].past := by
  obtain ⟨css, h1, h2⟩ := h
  obtain ⟨a, n, d, b, m, e, e1, e2⟩ := h1.get i hi
  rcases h2.2 with ⟨-, h0⟩ | ⟨g, cap, cur, hv, hb, hg, hn, hr⟩
  · omega
  · refine ⟨g, cap, a, n, d, b, m, e, hv, hn, hlt_of hg, fun j x hj => ?_, e2⟩
    have h3 := h2.cells (g := g) (by rw [hv]; rfl) (i * 8 + j) x (flat_get h1.lens i e1 j hj)
    rwa [Addr.add_lit, Nat.zero_add] at h3
theorem PM.mono {w0 w : World} {base base' : Nat} (hb : base' ≤ base) : ∀ {l : List Pt} {cs : List (List Value)}, PM w0 w base l cs → PM w0 w base' l cs
  | [], [], _ => trivial
  | _ :: _, _ :: _, ⟨⟨f, u, x, h1, h2, h3⟩, h4⟩ => ⟨⟨f, u, x, h1, h2, h3.mono hb⟩, PM.mono hb h4⟩
  | [], _ :: _, h3 => h3.elim
  | _ :: _, [], h3 => h3.elim
theorem PMO.mono {w0 w : World} {b0 b1 : Nat} {v : Value} {l : List Pt} (h : PMO w0 b0 w v l) (hb : b1 ≤ b0) : PMO w0 b1 w v l := by
  obtain ⟨css, h1, h2⟩ := h; exact ⟨css, h1.mono hb, owns_mono h2 hb⟩
theorem PMO.tk {T : Nat → Bool} {w0 w w' : World} {b0 : Nat} {v : Value} {l : List Pt} (h : PMO w0 b0 w v l) (hk : TKeep T w w') (h1 : T 3 = true) (h2 : T 92 = true) (h5 : T 83 = true) : PMO w0 b0 w' v l := by
  obtain ⟨css, a, b⟩ := h
  exact ⟨css, a.map fun _ _ _ k => k.tk hk h1 h2, hk.owns b h5⟩
theorem PMO.at_ {w0 w : World} {b0 : Nat} {v : Value} {l : List Pt} (h : PMO w0 b0 w v l) (hb : Below w0.heap.size w0 w) (hok : ∀ p ∈ l, PtOk p) (hl : l.length ≤ 1000) : RowAt partE w v l := by
  obtain ⟨css, h1, h2⟩ := h
  exact ⟨css, h1.els hb hok, CellsAt.of_owns h2 (by omega)⟩
/-- What is made: versions, parts. -/
def ToldP (w : World) (base : Nat) (v : Value) : Prop := ∃ (a : Option Addr) (n c : Nat) (U : List Ver), v = .slice a n c ∧ (∀ x ∈ U, VerOk x) ∧ U.length ≤ 20 ∧ VOwn w base (.slice a n c) U
def PartsP (W w : World) (base : Nat) (v : Value) : Prop := ∃ (a : Option Addr) (n c : Nat) (l : List Pt), v = .slice a n c ∧ (∀ x ∈ l, PtOk x) ∧ l.length ≤ 10 ∧ PMO W base w (.slice a n c) l
theorem ToldP.tk {T : Nat → Bool} {w w' : World} {base : Nat} {v : Value} (h : ToldP w base v) (hk : TKeep T w w') (h1 : T 3 = true) (h2 : T 92 = true) (h3 : T 109 = true) : ToldP w' base v := by
  obtain ⟨a, n, c, U, e, k1, k2, k3⟩ := h; exact ⟨a, n, c, U, e, k1, k2, k3.tk hk h1 h2 h3⟩
theorem PartsP.tk {T : Nat → Bool} {W w w' : World} {base : Nat} {v : Value} (h : PartsP W w base v) (hk : TKeep T w w') (h1 : T 3 = true) (h2 : T 92 = true) (h3 : T 83 = true) : PartsP W w' base v := by
  obtain ⟨a, n, c, U, e, k1, k2, k3⟩ := h; exact ⟨a, n, c, U, e, k1, k2, k3.tk hk h1 h2 h3⟩
def tb (q t : Nat) : Bool := !(q == 16 && t == 64)
theorem tb_else {t : Nat} (h : (t == 64) = false) (q : Nat) : tb q t = true := by unfold tb; rw [h]; simp
theorem tb_any {q : Nat} (h : q ≠ 16) (t : Nat) : tb q t = true := by unfold tb; rw [show (q == 16) = false by simpa using h]; rfl
def NewBt (w : World) (base : Nat) (v : Value) : Prop := ∃ g, v = .pointer (some ⟨g, 0, none⟩) ∧ w.heap[g]? = some (Obj.cells #[.int .i64 0, .int .i64 0, .slice none 0 0, .slice none 0 0, .slice none 0 0] 64 (0, 0)) ∧ base ≤ g
def AggBt (W w : World) (base : Nat) (st sm : Int) (v : Value) : Prop := ∃ vv pv, (∃ a n c, vv = .slice a n c) ∧ (∃ a n c, pv = .slice a n c) ∧ v = .agg #[.int .i64 st, .int .i64 sm, vv, .slice none 0 0, pv] ∧ ToldP w base vv ∧ PartsP W w base pv
def FullBt (W w : World) (base : Nat) (st sm : Int) (v : Value) : Prop := ∃ g vv pv, v = .pointer (some ⟨g, 0, none⟩) ∧ w.heap[g]? = some (Obj.cells #[.int .i64 st, .int .i64 sm, vv, .slice none 0 0, pv] 64 (0, 0)) ∧ base ≤ g ∧ ToldP w base vv ∧ PartsP W w base pv
structure BSt (W : World) (B8 BB : Nat) (st sm : Int) (VV GV PV : Value) (w0 : World) (U : List Ver) (G : List Gn) (P : List Pt) (wr : World) : Prop where
  b8 : wr.heap[B8]? = some (Obj.cells #[.int .i64 0, .int .i64 0, .slice none 0 0, .slice none 0 0, .slice none 0 0] 64 (0, 0))
  bb : wr.heap[BB]? = some (Obj.cells #[.int .i64 st, .int .i64 sm, VV, GV, PV] 64 (0, 0))
  v : VOwn wr W.heap.size VV U
  g : GOwn wr W.heap.size GV G
  p : PMO w0 W.heap.size wr PV P
  bel : Below W.heap.size W wr
theorem BSt.below {W wr w' w0 : World} {B8 BB : Nat} {st sm : Int} {VV GV PV : Value} {U : List Ver} {G : List Gn} {P : List Pt} (h : BSt W B8 BB st sm VV GV PV w0 U G P wr) (hb : Below wr.heap.size wr w') : BSt W B8 BB st sm VV GV PV w0 U G P w' :=
  ⟨below_keep hb h.b8, below_keep hb h.bb, h.v.below hb, h.g.below hb, h.p.tk (T := fun _ => true) (TKeep.of_below hb) rfl rfl rfl, bstep h.bel hb⟩
end Go.Proofs.Ythnkmjjldggecaa
namespace Go.Proofs.Ythnkmjjldggecaa
open Go.RowKit
set_option maxRecDepth 100000 in
set_option maxHeartbeats 8000000 in
theorem batch_ok (lv fv av : Value) (l : List (List Int)) (fs : List Bxs) (als : List (List (List Int))) (xx : Int) (wz : World) (hl : RowAt vecE wz lv l) (hf : RowAt bxsE wz fv fs) (ha : RowAt vecsE wz av als) :
    Calls Try.prog 36 #[lv, fv, av, .int .i64 xx] wz fun e w' => ∃ vv gv pv b, e = .returned (.agg #[.int .i64 b.site, .int .i64 b.stamp, vv, gv, pv]) ∧ BtAt w' vv gv pv b ∧ BtOk b ∧ Below wz.heap.size wz w' := by
  obtain ⟨la, lc, rfl⟩ := hl.shape
  obtain ⟨aa, ac, rfl⟩ := ha.shape
  have hfl := hf.len
  obtain ⟨fa, fc, rfl, hfc, -, -, -⟩ := hf.open_
  obtain ⟨n4, hn4⟩ : ∃ n4 : Nat, n4 = min fs.length 4 := ⟨_, rfl⟩
  have h4a : n4 ≤ fs.length := by omega
  have h4c : n4 ≤ fc := by omega
  have hmin : min (fs.length : Int) 4 = (n4 : Int) := by omega
  have hf4 : RowAt bxsE wz (.slice fa n4 fc) (fs.take n4) := hf.take n4 h4a
  have HB0 := Lib.hid (show Below wz.heap.size wz (wz.alloc (.cells #[.int .i64 0, .int .i64 0, .slice none 0 0, .slice none 0 0, .slice none 0 0] 64)) from bal _)
  have HK0 := Lib.hid (alloc_new wz #[.int .i64 0, .int .i64 0, .slice none 0 0, .slice none 0 0, .slice none 0 0] 64 _ rfl)
  obtain ⟨W, hW⟩ : ∃ W, W = wz.alloc (.cells #[.int .i64 0, .int .i64 0, .slice none 0 0, .slice none 0 0, .slice none 0 0] 64) := ⟨_, rfl⟩
  have hWs : W.heap.size = wz.heap.size + 1 := by rw [hW, World.size_alloc]
  rw [← hW] at HB0 HK0
  have HL := Lib.hid (hl.below HB0.out)
  have HF := Lib.hid hf4
  have HA := Lib.hid (ha.below HB0.out)
  have HWS := Lib.hid hWs
  obtain ⟨B8, hB8⟩ : ∃ B8, B8 = wz.heap.size := ⟨_, rfl⟩
  rw [← hB8] at HK0
  have HB8 := Lib.hid hB8
  obtain ⟨st, hst⟩ : ∃ st, st = (l.length : Int) % 18446744073709551616 % 5 := ⟨_, rfl⟩
  obtain ⟨sm, hsm⟩ : ∃ sm, sm = xx % 18446744073709551616 % 1000001 := ⟨_, rfl⟩
  have hst5 : 0 ≤ st ∧ st < 5 := by omega
  have hsm5 : 0 ≤ sm ∧ sm ≤ 1000000 := by omega
  have HW1 := Lib.hid (fun (y : World) => withinInt_c (l.length : Int) 5 (by decide) (by decide) y)
  have HW2 := Lib.hid (fun (y : World) => withinInt_c xx 1000001 (by decide) (by decide) y)
  rw [← hst] at HW1
  rw [← hsm] at HW2
  clear hl hf ha hf4 hfl hn4 hst hsm hWs
  go_enter Try.func36, Try.ntmps36
  go_wp2_with fail
  rw [← hW, ← hB8]
  clear hW hB8
  refine Cl2.region0 50 rfl [] (fun _ => True) (fun jq => match jq with | 15 => [16] | _ => []) (fun jq v ww => match jq with | 0 => v = .slice la l.length lc | 1 => v = .int .i64 (l.length : Nat) | 2 => v = .int .i64 st | 3 => v = .int .i64 xx | 4 => v = .int .i64 sm | 5 => v = .slice la l.length lc | 6 => ToldP ww W.heap.size v | 7 => v = .slice fa fs.length fc | 8 => v = .slice fa fs.length fc | 9 => v = .int .i64 (fs.length : Nat) | 10 => v = .int .i64 n4 | 11 => v = .slice fa n4 fc | 12 => v = .slice aa als.length ac | 13 => PartsP wz ww W.heap.size v | 14 => AggBt wz ww W.heap.size st sm v | 15 => NewBt ww W.heap.size v | 16 => FullBt wz ww W.heap.size st sm v | _ => True) (fun ww => Below W.heap.size W ww) (fun jq ww ww' => TKeep (tb jq) ww ww' ∧ (jq ≠ 16 → Below ww.heap.size ww ww')) Try.mixed (by decide +kernel) (Below.refl _ _).drew trivial ?_ (fun _ _ _ _ _ _ => trivial) ?_ ?_
  · intro q r v w w' hne hk hlt h hR
    match r, hk, hlt, h, hne with
    | 0, _, _, h, _ => exact h
    | 1, _, _, h, _ => exact h
    | 2, _, _, h, _ => exact h
    | 3, _, _, h, _ => exact h
    | 4, _, _, h, _ => exact h
    | 5, _, _, h, _ => exact h
    | 6, hk, hlt, h, hne =>
      exact h.tk hR.1 (tb_else rfl _) (tb_else rfl _) (tb_else rfl _)
    | 7, _, _, h, _ => exact h
    | 8, _, _, h, _ => exact h
    | 9, _, _, h, _ => exact h
    | 10, _, _, h, _ => exact h
    | 11, _, _, h, _ => exact h
    | 12, _, _, h, _ => exact h
    | 13, hk, hlt, h, hne =>
      exact h.tk hR.1 (tb_else rfl _) (tb_else rfl _) (tb_else rfl _)
    | 14, hk, hlt, h, hne =>
      obtain ⟨vv, pv, e1, e2, e3, k1, k2⟩ := h
      exact ⟨vv, pv, e1, e2, e3, k1.tk hR.1 (tb_else rfl _) (tb_else rfl _) (tb_else rfl _), k2.tk hR.1 (tb_else rfl _) (tb_else rfl _) (tb_else rfl _)⟩
    | 15, hk, hlt, h, hne =>
      obtain ⟨g, e1, e2, e3⟩ := h
      exact ⟨g, e1, hR.1.blk _ _ _ e2 (tb_any (by simpa using hk) _), e3⟩
    | 16, hk, hlt, h, hne =>
      obtain ⟨g, vv, pv, e1, e2, e3, k1, k2⟩ := h
      exact ⟨g, vv, pv, e1, hR.1.blk _ _ _ e2 (tb_any (by exact hne) _), e3, k1.tk hR.1 (tb_else rfl _) (tb_else rfl _) (tb_else rfl _), k2.tk hR.1 (tb_else rfl _) (tb_else rfl _) (tb_else rfl _)⟩
    | _ + 17, _, _, _, _ => trivial
  · refine ⟨?_, ?_, ?_, ?_, ?_, ?_, ?_, ?_, ?_, ?_, ?_, ?_, ?_, ?_, ?_, ?_, ?_, trivial⟩
    · intro x wx hG
      have f0 := hG.old 0 (by decide +kernel)
      have hg := hG.good
      clear hG
      go_wp2
      exact ⟨_, rfl, rfl, hg, ⟨TKeep.refl _ _, fun _ => Below.refl _ _⟩⟩
    · intro x wx hG
      have g0 : (x.tmps.getD 12 undef) = .slice la l.length lc := hG.claims 0 _ rfl (by decide +kernel) (by decide +kernel)
      have g0b := g0
      rw [Array.getD_eq_getD_getElem?] at g0b
      have hg := hG.good
      clear hG
      go_wp2
      exact ⟨_, rfl, rfl, hg, ⟨TKeep.refl _ _, fun _ => Below.refl _ _⟩⟩
    · intro x wx hG
      have g1 : (x.tmps.getD 13 undef) = .int .i64 (l.length : Nat) := hG.claims 1 _ rfl (by decide +kernel) (by decide +kernel)
      have g1b := g1
      rw [Array.getD_eq_getD_getElem?] at g1b
      have hg := hG.good
      clear hG
      go_wp2_with fail
      (with_reducible refine (HW1.out _).mono ?_)
      rintro e wq ⟨rfl, rfl⟩
      go_wp2
      exact ⟨_, rfl, rfl, hg, ⟨TKeep.refl _ _, fun _ => Below.refl _ _⟩⟩
    · intro x wx hG
      have f3 := hG.old 3 (by decide +kernel)
      have hg := hG.good
      clear hG
      go_wp2
      exact ⟨_, rfl, rfl, hg, ⟨TKeep.refl _ _, fun _ => Below.refl _ _⟩⟩
    · intro x wx hG
      have g3 : (x.tmps.getD 15 undef) = .int .i64 xx := hG.claims 3 _ rfl (by decide +kernel) (by decide +kernel)
      have g3b := g3
      rw [Array.getD_eq_getD_getElem?] at g3b
      have hg := hG.good
      clear hG
      go_wp2_with fail
      (with_reducible refine (HW2.out _).mono ?_)
      rintro e wq ⟨rfl, rfl⟩
      go_wp2
      exact ⟨_, rfl, rfl, hg, ⟨TKeep.refl _ _, fun _ => Below.refl _ _⟩⟩
    · intro x wx hG
      have f0 := hG.old 0 (by decide +kernel)
      have hg := hG.good
      clear hG
      go_wp2
      exact ⟨_, rfl, rfl, hg, ⟨TKeep.refl _ _, fun _ => Below.refl _ _⟩⟩
    · intro x wx hG
      have g5 : (x.tmps.getD 17 undef) = .slice la l.length lc := hG.claims 5 _ rfl (by decide +kernel) (by decide +kernel)
      have g5b := g5
      rw [Array.getD_eq_getD_getElem?] at g5b
      have hg := hG.good
      clear hG
      have HLX := Lib.hid (HL.out.below hg)
      go_wp2_with fail
      (with_reducible refine (vtold_c _ l _ HLX.out).mono ?_)
      rintro e wq ⟨ov, U, rfl, hU, hU20, ho, hb⟩
      obtain ⟨oa, oc, hov⟩ := VOwn.slc ho
      subst hov
      have HT := Lib.hid (show ToldP wq W.heap.size (.slice oa U.length oc) from ⟨_, _, _, U, rfl, hU.ok, hU20, ho.mono hg.size⟩)
      have HBB := Lib.hid hb
      clear ho hb hU
      go_wp2
      exact ⟨_, rfl, HT.out, bstep hg HBB.out, ⟨TKeep.of_below HBB.out, fun _ => HBB.out⟩⟩
    · intro x wx hG
      have f1 := hG.old 1 (by decide +kernel)
      have hg := hG.good
      clear hG
      go_wp2
      exact ⟨_, rfl, rfl, hg, ⟨TKeep.refl _ _, fun _ => Below.refl _ _⟩⟩
    · intro x wx hG
      have f1 := hG.old 1 (by decide +kernel)
      have hg := hG.good
      clear hG
      go_wp2
      exact ⟨_, rfl, rfl, hg, ⟨TKeep.refl _ _, fun _ => Below.refl _ _⟩⟩
    · intro x wx hG
      have g8 : (x.tmps.getD 20 undef) = .slice fa fs.length fc := hG.claims 8 _ rfl (by decide +kernel) (by decide +kernel)
      have g8b := g8
      rw [Array.getD_eq_getD_getElem?] at g8b
      have hg := hG.good
      clear hG
      go_wp2
      exact ⟨_, rfl, rfl, hg, ⟨TKeep.refl _ _, fun _ => Below.refl _ _⟩⟩
    · intro x wx hG
      have g9 : (x.tmps.getD 21 undef) = .int .i64 (fs.length : Nat) := hG.claims 9 _ rfl (by decide +kernel) (by decide +kernel)
      have g9b := g9
      rw [Array.getD_eq_getD_getElem?] at g9b
      have hg := hG.good
      clear hG
      go_wp2
      exact ⟨_, rfl, rfl, hg, ⟨TKeep.refl _ _, fun _ => Below.refl _ _⟩⟩
    · intro x wx hG
      have g7 : (x.tmps.getD 19 undef) = .slice fa fs.length fc := hG.claims 7 _ rfl (by decide +kernel) (by decide +kernel)
      have g7b := g7
      rw [Array.getD_eq_getD_getElem?] at g7b
      have g10 : (x.tmps.getD 22 undef) = .int .i64 n4 := hG.claims 10 _ rfl (by decide +kernel) (by decide +kernel)
      have g10b := g10
      rw [Array.getD_eq_getD_getElem?] at g10b
      have hg := hG.good
      clear hG
      go_wp2
      exact ⟨_, rfl, rfl, hg, ⟨TKeep.refl _ _, fun _ => Below.refl _ _⟩⟩
    · intro x wx hG
      have f2 := hG.old 2 (by decide +kernel)
      have hg := hG.good
      clear hG
      go_wp2
      exact ⟨_, rfl, rfl, hg, ⟨TKeep.refl _ _, fun _ => Below.refl _ _⟩⟩
    · intro x wx hG
      have g11 : (x.tmps.getD 23 undef) = .slice fa n4 fc := hG.claims 11 _ rfl (by decide +kernel) (by decide +kernel)
      have g11b := g11
      rw [Array.getD_eq_getD_getElem?] at g11b
      have g12 : (x.tmps.getD 24 undef) = .slice aa als.length ac := hG.claims 12 _ rfl (by decide +kernel) (by decide +kernel)
      have g12b := g12
      rw [Array.getD_eq_getD_getElem?] at g12b
      have hg := hG.good
      clear hG
      have HAX := Lib.hid (HA.out.below hg)
      have HGX := Lib.hid (bstep HB0.out hg)
      go_wp2_with fail
      (with_reducible refine (parts_own wz (.slice fa n4 fc) (.slice aa als.length ac) (fs.take n4) als _ HGX.out HF.out HAX.out).mono ?_)
      rintro e wq ⟨lst, oa, oc, rfl, ho, hok, h10, hb⟩
      have HT := Lib.hid (show PartsP wz wq W.heap.size (.slice oa lst.length oc) from ⟨_, _, _, lst, rfl, hok, h10, ho.mono hg.size⟩)
      have HBB := Lib.hid hb
      clear ho hb hok
      go_wp2
      exact ⟨_, rfl, HT.out, bstep hg HBB.out, ⟨TKeep.of_below HBB.out, fun _ => HBB.out⟩⟩
    · intro x wx hG
      have g2 : (x.tmps.getD 14 undef) = .int .i64 st := hG.claims 2 _ rfl (by decide +kernel) (by decide +kernel)
      have g2b := g2
      rw [Array.getD_eq_getD_getElem?] at g2b
      have g4 : (x.tmps.getD 16 undef) = .int .i64 sm := hG.claims 4 _ rfl (by decide +kernel) (by decide +kernel)
      have g4b := g4
      rw [Array.getD_eq_getD_getElem?] at g4b
      have g6 : ToldP wx W.heap.size (x.tmps.getD 18 undef) := hG.claims 6 _ rfl (by decide +kernel) (by decide +kernel)
      have g13 : PartsP wz wx W.heap.size (x.tmps.getD 25 undef) := hG.claims 13 _ rfl (by decide +kernel) (by decide +kernel)
      have hg := hG.good
      clear hG
      obtain ⟨ta, tn, tc, U, ht1, ht2, ht3, ht4⟩ := g6
      obtain ⟨pa, pn, pc, lst, hp1, hp2, hp3, hp4⟩ := g13
      have HT := Lib.hid (show ToldP wx W.heap.size (.slice ta tn tc) from ⟨_, _, _, U, rfl, ht2, ht3, ht4⟩)
      have HP := Lib.hid (show PartsP wz wx W.heap.size (.slice pa pn pc) from ⟨_, _, _, lst, rfl, hp2, hp3, hp4⟩)
      have ht1b := ht1
      rw [Array.getD_eq_getD_getElem?] at ht1b
      have hp1b := hp1
      rw [Array.getD_eq_getD_getElem?] at hp1b
      clear ht2 ht3 ht4 hp2 hp3 hp4
      go_wp2
      exact ⟨_, rfl, ⟨_, _, ⟨_, _, _, rfl⟩, ⟨_, _, _, rfl⟩, rfl, HT.out, HP.out⟩, hg, ⟨TKeep.refl _ _, fun _ => Below.refl _ _⟩⟩
    · intro x wx hG
      have hg := hG.good
      clear hG
      go_wp2
      exact ⟨_, rfl, ⟨_, rfl, alloc_new _ _ _ _ rfl, hg.size⟩, hg.alloc hg.size _, ⟨TKeep.of_below (bal _), fun _ => bal _⟩⟩
    · intro x wx hG
      have g15 : NewBt wx W.heap.size (x.tmps.getD 9 undef) := hG.claims 15 _ rfl (by decide +kernel) (by decide +kernel)
      have g14 : AggBt wz wx W.heap.size st sm (x.tmps.getD 26 undef) := hG.claims 14 _ rfl (by decide +kernel) (by decide +kernel)
      have hg := hG.good
      clear hG
      obtain ⟨g9, hgb, hnil, hgs⟩ := g15
      obtain ⟨vv, pv, ⟨va, vn, vc, rfl⟩, ⟨pa, pn, pc, rfl⟩, hag, hvv, hpv⟩ := g14
      have r0 := cell_of_block (j := 0) hnil rfl
      have r1 := cell_of_block (j := 1) hnil rfl
      have r2 := cell_of_block (j := 2) hnil rfl
      have r3 := cell_of_block (j := 3) hnil rfl
      have r4 := cell_of_block (j := 4) hnil rfl
      have f0q := free_of_block (j := 0) hnil
      have f1q := free_of_block (j := 1) hnil
      have f2q := free_of_block (j := 2) hnil
      have f3q := free_of_block (j := 3) hnil
      have f4q := free_of_block (j := 4) hnil
      have hRl := hlt_of hnil
      have HN := Lib.hid hnil
      have HGB := Lib.hid hgb
      have HGS := Lib.hid hgs
      have HVV := Lib.hid hvv
      have HPV := Lib.hid hpv
      have hgbb := hgb
      rw [Array.getD_eq_getD_getElem?] at hgbb
      have hagb := hag
      rw [Array.getD_eq_getD_getElem?] at hagb
      clear hnil hvv hpv hgs
      go_wp2
      exact ⟨undef, rfl, ⟨g9, _, _, Eq.trans (by kernel_rfl) HGB.out, by rw [heap_set_same (heap_set_same (heap_set_same (heap_set_same (heap_set_same HN.out))))]; rfl, HGS.out, HVV.out.tk (TKeep.set5 (T := fun t => t != 64) HN.out (by decide)) (by decide) (by decide) (by decide), HPV.out.tk (TKeep.set5 (T := fun t => t != 64) HN.out (by decide)) (by decide) (by decide) (by decide)⟩, ((((hg.setCell (p := ⟨g9, 0, none⟩) HGS.out _).setCell (p := ⟨g9, 1, none⟩) HGS.out _).setCell (p := ⟨g9, 2, none⟩) HGS.out _).setCell (p := ⟨g9, 3, none⟩) HGS.out _).setCell (p := ⟨g9, 4, none⟩) HGS.out _, ⟨TKeep.set5 HN.out (by decide), fun h => absurd rfl h⟩⟩
  · intro vals w3 hg hF
    obtain ⟨g0, g1, g2, g3, g4, g5, g6, g7, g8, g9, g10, g11, g12, g13, g14, g15, g16, -⟩ := hF
    have e0 : vals 0 = .slice la l.length lc := g0 rfl
    have e1 : vals 1 = .int .i64 (l.length : Nat) := g1 rfl
    have e2 : vals 2 = .int .i64 st := g2 rfl
    have e3 : vals 3 = .int .i64 xx := g3 rfl
    have e4 : vals 4 = .int .i64 sm := g4 rfl
    have e5 : vals 5 = .slice la l.length lc := g5 rfl
    have e7 : vals 7 = .slice fa fs.length fc := g7 rfl
    have e8 : vals 8 = .slice fa fs.length fc := g8 rfl
    have e9 : vals 9 = .int .i64 (fs.length : Nat) := g9 rfl
    have e10 : vals 10 = .int .i64 n4 := g10 rfl
    have e11 : vals 11 = .slice fa n4 fc := g11 rfl
    have e12 : vals 12 = .slice aa als.length ac := g12 rfl
    have g16 := g16 rfl
    simp only [Cl2.puts, e0, e1, e2, e3, e4, e5, e7, e8, e9, e10, e11, e12]
    clear e0 e1 e2 e3 e4 e5 e7 e8 e9 e10 e11 e12 g0 g1 g2 g3 g4 g5 g6 g7 g8 g9 g10 g11 g12 g13 g14 g15
    go_simp
    obtain ⟨BB, vv, pv, hpt, hbb, hlo, hvv, hpv⟩ := g16
    have hpt2 : vals 15 = .pointer (some ⟨BB, 0, none⟩) := Eq.trans (by kernel_rfl) hpt
    rw [hpt2]
    obtain ⟨ua, un, uc, U, rfl, hU, hU20, hvo⟩ := hvv
    obtain ⟨pa, pn, pc, lst, rfl, hP, hP10, hpo⟩ := hpv
    obtain ⟨ua2, uc2, hun⟩ := VOwn.slc hvo
    simp only [Value.slice.injEq] at hun
    obtain ⟨-, rfl, -⟩ := hun
    have HU := Lib.hid hU
    have HP := Lib.hid hP
    have HST := Lib.hid (show BSt W B8 BB st sm (.slice ua U.length uc) (.slice none 0 0) (.slice pa pn pc) wz U [] lst w3 from ⟨below_keep hg HK0.out, hbb, hvo, GOwn.nil _ _, hpo, hg⟩)
    have hBB8 : B8 < BB := by have := HWS.out; rw [HB8.out]; omega
    have hlo2 := hlo
    clear hg hpt hpt2 hbb hlo hU hP hvo hpo HL HF HA HW1 HW2 HK0 hfc h4a h4c hmin
    generalize vals 14 = j14 at *
    generalize vals 13 = j13 at *
    generalize vals 6 = j6 at *
    have x2 := cell_of_block (j := 2) HST.out.bb rfl
    have hl3 := hlt_of HST.out.bb
    go_wp2
    go_loopw [30] (fun i wr => ∃ k : Nat, k ≤ U.length ∧ i = .int .i64 k ∧ ∃ GV G, (∀ x ∈ G, GnOk x) ∧ G.length ≤ k ∧ BSt W B8 BB st sm (.slice ua U.length uc) GV (.slice pa pn pc) wz U G lst wr) (fun i _ => U.length - (intOf i).toNat)
    case atStart => exact ⟨0, Nat.zero_le _, rfl, _, [], by simp, Nat.le_refl _, HST.out⟩
    case round =>
      clear HST
      obtain ⟨k, hk, rfl, GV, G, hG, hGk, hst⟩ := hrel
      obtain ⟨ga, gc, hgv⟩ := GOwn.shape hst.g
      subst hgv
      have HG := Lib.hid hG
      by_cases hlt : k < U.length
      rotate_left
      · obtain rfl : k = U.length := by omega
        have HST := Lib.hid hst
        have y0 := cell_of_block (j := 0) hst.bb rfl
        have y1 := cell_of_block (j := 1) hst.bb rfl
        have y2 := cell_of_block (j := 2) hst.bb rfl
        have y3 := cell_of_block (j := 3) hst.bb rfl
        have y4 := cell_of_block (j := 4) hst.bb rfl
        have hy := hlt_of hst.bb
        have z0 := cell_of_block (j := 0) hst.b8 rfl
        have z1 := cell_of_block (j := 1) hst.b8 rfl
        have z2 := cell_of_block (j := 2) hst.b8 rfl
        have z3 := cell_of_block (j := 3) hst.b8 rfl
        have z4 := cell_of_block (j := 4) hst.b8 rfl
        have f0 := free_of_block (j := 0) hst.b8
        have f1 := free_of_block (j := 1) hst.b8
        have f2 := free_of_block (j := 2) hst.b8
        have f3 := free_of_block (j := 3) hst.b8
        have f4 := free_of_block (j := 4) hst.b8
        have hz := hlt_of hst.b8
        have hkk : decide ((U.length : Int) < (U.length : Int)) = false := by simp
        clear hst hG
        go_wp2
        refine bodyPost_ret (v := .agg #[.int .i64 st, .int .i64 sm, .slice ua U.length uc, .slice ga G.length gc, .slice pa pn pc]) (by simp [results, Try.results36, go_sem, *]) rfl ?_
        have ht := TKeep.set5 (T := fun t => t != 64) (x0 := .int .i64 st) (x1 := .int .i64 sm) (x2 := .slice ua U.length uc) (x3 := .slice ga G.length gc) (x4 := .slice pa pn pc) HST.out.b8 (by decide)
        have hle : wz.heap.size ≤ B8 := by rw [HB8.out]; exact Nat.le_refl _
        have hbw := ((((((bstep HB0.out HST.out.bel).setCell (p := ⟨B8, 0, none⟩) hle (.int .i64 st)).setCell (p := ⟨B8, 1, none⟩) hle (.int .i64 sm)).setCell (p := ⟨B8, 2, none⟩) hle (.slice ua U.length uc)).setCell (p := ⟨B8, 3, none⟩) hle (.slice ga G.length gc)).setCell (p := ⟨B8, 4, none⟩) hle (.slice pa pn pc))
        exact ⟨_, _, _, ⟨st, sm, U, G, lst⟩, rfl, ⟨(HST.out.v.tk ht (by decide) (by decide) (by decide)).at_ (shok_bd HU.out) (by omega), (HST.out.g.tk ht (by decide) (by decide) (by decide)).at_ (fun g hg => ⟨(HG.out g hg).past.len, (HG.out g hg).len⟩) (by omega), (HST.out.p.tk ht (by decide) (by decide) (by decide)).at_ hbw HP.out (by omega)⟩, ⟨hst5, hsm5, by show U.length ≤ 60; omega, by show G.length ≤ 60; omega, by show lst.length ≤ 30; omega, HU.out, HG.out, HP.out⟩, hbw⟩
      obtain ⟨g, cap, a, n, d, b, m, e, hvv, hcap, hgs, hc, hkn⟩ := hst.v.cellsAt k hlt
      simp only [Value.slice.injEq, true_and] at hvv
      obtain ⟨rfl, rfl⟩ := hvv
      have d0 : wr.cell? ⟨g, k * 8, none⟩ = some (.string U[k].id) := hc 0 _ rfl
      have d1 := hc 1 _ rfl
      have d2 := hc 2 _ rfl
      have d3 := hc 3 _ rfl
      have d4 := hc 4 _ rfl
      have d5 := hc 5 _ rfl
      have d6 := hc 6 _ rfl
      have d7 := hc 7 _ rfl
      have HVB := Lib.hid (HU.out U[k] (List.getElem_mem hlt))
      have hkb : decide ((k : Int) < (U.length : Int)) = true := by simp; omega
      have HST := Lib.hid hst
      have HKN := Lib.hid hkn
      clear hc hst hkn hG
      generalize U[k] = v1 at *
      by_cases h3 : k % 3 = 1
      rotate_left
      · have h3b : ((k : Int) % 3 == 1) = false := by simp; omega
        have HST2 := Lib.hid (HST.out.below (bal (.cells (verC v1 (.slice a n d) (.slice b m e)) 109)))
        clear HST HKN
        go_wp2
        go_roundw
        case rel => exact ⟨k + 1, by omega, by go_num, _, G, HG.out, by omega, HST2.out⟩
        case measure => simp [intOf] <;> omega
      have h3b : ((k : Int) % 3 == 1) = true := by simp; omega
      have HST2 := Lib.hid (HST.out.below (bal (.cells (verC v1 (.slice a n d) (.slice b m e)) 109)))
      have HKN2 := Lib.hid (HKN.out.below (bal (.cells (verC v1 (.slice a n d) (.slice b m e)) 109)))
      have z3 := cell_of_block (j := 3) HST.out.bb rfl
      have zl := hlt_of HST.out.bb
      have HST3 := Lib.hid (HST2.out.below (bal (.cells #[.string v1.id, .slice a n d, .slice b m e] 111)))
      have HKN3 := Lib.hid (HKN2.out.below (bal (.cells #[.string v1.id, .slice a n d, .slice b m e] 111)))
      clear HST HKN
      go_wp2_with (at_builtin; apply Classical.byContradiction; intro hcon)
      have ROW := Lib.hid (CellsAt.mk (w := (wr.alloc (.cells (verC v1 (.slice a n d) (.slice b m e)) 109)).alloc (.cells #[.string v1.id, .slice a n d, .slice b m e] 111)) (b := wr.heap.size + 1) (off := 0) (n := 1) (cap := 1) (xs := [.string v1.id, .slice a n d, .slice b m e]) (Nat.le_refl _) (by decide) (by simp) (fun j x hj => by
        rw [Nat.zero_add, World.cell?_alloc_at _ _ _ _ (by simp)]; simpa using hj))
      obtain ⟨css, e1, e2⟩ := HST3.out.g
      have E1 := Lib.hid e1
      have E2 := Lib.hid e2
      have hsz := HST3.out.bel.size
      clear e1 e2
      refine hcon ?_
      (refine wpList_append_cells2 rfl (.tmp 39) (.tmp 45) 61 rfl W.heap.size 111 _ 3 64 Try.underlying61 GoneTy.info rfl (by decide) (.slice ga G.length gc) G.length _ (by simp [go_sem]) E2.out _ 1 _ (by simp [go_sem]) ROW.out rfl (by intro z hz; simp at hz; rcases hz with rfl | rfl | rfl <;> rfl) hsz (by unfold maxLen; omega) (by omega) ?_)
      intro v9 w9 ho hgr
      obtain ⟨qa, qc, hq⟩ := owns_slice ho
      subst hq
      have HG9 := Lib.hid (GOwn.push (g := ⟨v1.id, v1.past⟩) E1.out E2.out HKN3.out ho hgr)
      have TA := Lib.hid (TKeep.of_app (T := fun t => t != 111) E2.out hgr (by decide))
      have HBB9 := Lib.hid (TA.out.blk _ _ _ HST3.out.bb (by decide))
      have HB89 := Lib.hid (TA.out.blk _ _ _ HST3.out.b8 (by decide))
      have TB := Lib.hid (TKeep.of_set (T := fun t => t != 64) (j := 3) (v := .slice qa (G.length + 1) qc) HBB9.out (by decide))
      have HBE := Lib.hid (HST3.out.bel.grown hgr hsz (fun q hq => (E2.out.lt q hq).1))
      have HFIN := Lib.hid (show BSt W B8 BB st sm (.slice (some ⟨g, 0, none⟩) U.length uc) (.slice qa (G.length + 1) qc) (.slice pa pn pc) wz U (G ++ [⟨v1.id, v1.past⟩]) lst (w9.setCell ⟨BB, 3, none⟩ (.slice qa (G.length + 1) qc)) from
        ⟨by rw [heap_set_other (by omega)]; exact HB89.out, by rw [heap_set_same HBB9.out]; rfl, (HST3.out.v.tk TA.out (by decide) (by decide) (by decide)).tk TB.out (by decide) (by decide) (by decide), HG9.out.tk TB.out (by decide) (by decide) (by decide), (HST3.out.p.tk TA.out (by decide) (by decide) (by decide)).tk TB.out (by decide) (by decide) (by decide), HBE.out.setCell (p := ⟨BB, 3, none⟩) hlo2 _⟩)
      have HGB := Lib.hid (show ∀ x ∈ G ++ [(⟨v1.id, v1.past⟩ : Gn)], GnOk x from fun x hx => by
        rcases List.mem_append.1 hx with hx | hx
        · exact HG.out x hx
        · rw [List.mem_singleton] at hx; rw [hx]; exact ⟨HVB.out.id, HVB.out.past, HVB.out.len⟩)
      have z4 := cell_of_block (j := 3) HBB9.out rfl
      have z5 := free_of_block (j := 3) HBB9.out
      have z6 := hlt_of HBB9.out
      clear ho hgr hcon z3 zl hsz
      go_wp2
      go_roundw
      case rel => exact ⟨k + 1, by omega, by go_num, _, _, HGB.out, by rw [List.length_append, List.length_singleton]; omega, HFIN.out⟩
      case measure => simp [intOf] <;> omega
end Go.Proofs.Ythnkmjjldggecaa
namespace Go.Proofs.Ythnkmjjldggecaa
open Go.RowKit
theorem pack_size {b : Bt} (h : packE b = 0) : 18 ≤ (packS b).size ∧ (packS b).size ≤ 20000 ∧ packS b = ⟨(fullW b).toArray⟩ := by
  have e : packS b = ⟨(fullW b).toArray⟩ := by unfold packS; rw [if_pos h]
  have hs : (packS b).size = (fullW b).length := by rw [e, size_list]
  unfold packE at h
  split at h
  · rename_i h1; exact absurd h h1
  split at h
  · exact absurd h (by decide)
  rename_i h2
  refine ⟨?_, by omega, e⟩
  rw [hs]
  unfold fullW bodyW
  simp only [List.length_append, nums_len, List.length_cons, List.length_nil]
  omega
end Go.Proofs.Ythnkmjjldggecaa
namespace Go.Proofs.Ythnkmjjldggecaa
open Go.RowKit
theorem b3_inj {a b : Int} (ha : 0 ≤ a) (ha2 : a < 16777216) (hb : 0 ≤ b) (hb2 : b < 16777216) (h : b3 a = b3 b) : a = b := by
  have h1 := num_back (s := ⟨(b3 a).toArray⟩) (n := a) (r := []) (by simp) ha ha2
  have h2 := num_back (s := ⟨(b3 b).toArray⟩) (n := b) (r := []) (by simp) hb hb2
  rw [← h1.2.1, ← h2.2.1, h]
theorem upSum_bd (s : ByteArray) : 0 ≤ upSum s ∧ upSum s < 16777216 := by
  refine ⟨headN_pos _, ?_⟩
  unfold upSum headN num3
  generalize (s.extract (s.size - 3) s.size).data.toList[0]?.getD 0 = a
  generalize (s.extract (s.size - 3) s.size).data.toList[1]?.getD 0 = b
  generalize (s.extract (s.size - 3) s.size).data.toList[2]?.getD 0 = c
  have := a.toNat_lt
  have := b.toNat_lt
  have := c.toNat_lt
  omega
/-- The sum of what was packed is right. -/
theorem pack_good {b : Bt} (h : packE b = 0) : sumOf (upT (packS b)) = upSum (packS b) := by
  obtain ⟨h1, h2, h3⟩ := pack_size h
  have hl : (packS b).data.toList = bodyW b ++ b3 (sumOf ⟨(bodyW b).toArray⟩) := by rw [h3]; unfold fullW; rw [nums_one]
  have h4 := split3 (s := packS b) (by omega)
  have h5 : (upT (packS b)).data.toList.length = (bodyW b).length := by
    have h6 := congrArg List.length h4
    have h7 := congrArg List.length hl
    rw [h6] at h7
    simp only [List.length_append] at h7
    have h8 : ∀ n, (b3 n).length = 3 := fun _ => rfl
    rw [h8, h8] at h7
    omega
  rw [h4] at hl
  obtain ⟨h9, h10⟩ := List.append_inj hl h5
  have h11 := sumOf_bd ⟨(bodyW b).toArray⟩
  have h12 := upSum_bd (packS b)
  have h13 : upT (packS b) = ⟨(bodyW b).toArray⟩ := by rw [← h9, bytes_list]
  rw [h13]
  exact b3_inj h11.1 (by omega) h12.1 h12.2 h10.symm
end Go.Proofs.Ythnkmjjldggecaa
