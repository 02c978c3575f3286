/- What the reference's SameVersion and SameShelf do. -/
import Derived.Test.YtippljiicnpieaaShelf3
import Derived.Test.YtippljiicnpieaaKnow7
namespace Go.Proofs.Ytippljiicnpieaa
open Go.RowKit
set_option maxRecDepth 100000 in
theorem eqPoint (a b c d : Int) (w : World) : (Op.equalIn 10000 26 (.agg #[.int .i64 a, .int .i64 b]) (.agg #[.int .i64 c, .int .i64 d])).run Try.prog w = .ok (a == c && b == d) w := by
  have u3 := Try.underlying3
  have a3 := Try.isAgg3
  have z3 := Try.sizeOf3
  rw [show (10000 : Nat) = 9999 + 1 from rfl, run_equalIn_agg w 9999 26 _ _ (by kernel_rfl) (by kernel_rfl)]
  simp only [Program.fieldsOf, Try.underlying26]
  go_simp
  by_cases h1 : a = c <;> by_cases h2 : b = d <;> simp [h1, h2]
def sameVB (a b : Ver) : Bool := decide (a.id = b.id) && (a.ds == b.ds && a.dc == b.dc) && (a.tg == b.tg && a.nm == b.nm) && (a.bd == b.bd) && decide (a.past = b.past)
theorem sameVB_iff (a b : Ver) : sameVB a b = true ↔ a = b := by
  obtain ⟨i, d, c, t, n, o, p⟩ := a
  obtain ⟨i', d', c', t', n', o', p'⟩ := b
  simp only [sameVB, Bool.and_eq_true, decide_eq_true_eq, beq_iff_eq, Ver.mk.injEq]
  constructor
  · rintro ⟨⟨⟨⟨h1, h2, h3⟩, h4, h5⟩, h6⟩, h7⟩; exact ⟨h1, h2, h3, h4, h5, h6, h7⟩
  · rintro ⟨h1, h2, h3, h4, h5, h6, h7⟩; exact ⟨⟨⟨⟨h1, h2, h3⟩, h4, h5⟩, h6⟩, h7⟩
set_option maxRecDepth 100000 in
set_option maxHeartbeats 2000000 in
theorem sameV_c (a b : Ver) (u x y z : Value) (w : World) (ha : KnAt w u x a.past) (hb : KnAt w y z b.past) :
    Calls Try.prog 45 #[.agg (verC a u x), .agg (verC b y z)] w fun e w' => e = .returned (.bool (sameVB a b)) ∧ Below w.heap.size w w' := by
  obtain ⟨xa, ca, rfl⟩ := ha.vec.shape
  obtain ⟨ya, da, rfl⟩ := ha.more.shape
  obtain ⟨xb, cb, rfl⟩ := hb.vec.shape
  obtain ⟨yb, db, rfl⟩ := hb.more.shape
  obtain ⟨W, hW⟩ : ∃ W, W = (w.alloc (.cells (verC a (.slice xa a.past.vec.length ca) (.slice ya a.past.more.length da)) 32)).alloc (.cells (verC b (.slice xb b.past.vec.length cb) (.slice yb b.past.more.length db)) 32) := ⟨_, rfl⟩
  have hbel : Below w.heap.size w W := by rw [hW]; exact (bal _).alloc (by simp) _
  have hA := ha.below hbel
  have hB := hb.below hbel
  have HO := Lib.hid (show sameVB a b = (decide (a.id = b.id) && (a.ds == b.ds && a.dc == b.dc) && (a.tg == b.tg && a.nm == b.nm) && (a.bd == b.bd) && decide (a.past = b.past)) from rfl)
  have hids := ids_eq a.id b.id
  have hqd := fun w => eqDot a.ds a.dc b.ds b.dc w
  have hqp := fun w => eqPoint a.tg a.nm b.tg b.nm w
  clear ha hb
  unfold verC at hW ⊢
  generalize h0 : decide (a.id = b.id) = q0 at *
  generalize h1 : (a.ds == b.ds && a.dc == b.dc) = q1 at *
  generalize h2 : (a.tg == b.tg && a.nm == b.nm) = q2 at *
  generalize h3 : (a.bd == b.bd) = q3 at *
  clear h0 h1 h2
  cases hq : (q0 && q1 && q2 && q3)
  · have H := Lib.hid (show sameVB a b = false by rw [HO.out, hq]; rfl)
    rw [hW] at hbel
    clear hA hB hW HO
    have HQ := Lib.hid hq
    clear hq
    cases q0
    · go_enter Try.func45, Try.ntmps45
      go_wp2
      go_ret
      exact ⟨by rw [H.out]; rfl, hbel⟩
    cases q1
    · go_enter Try.func45, Try.ntmps45
      go_wp2
      go_ret
      exact ⟨by rw [H.out]; rfl, hbel⟩
    cases q2
    · go_enter Try.func45, Try.ntmps45
      go_wp2
      go_ret
      exact ⟨by rw [H.out]; rfl, hbel⟩
    cases q3
    · go_enter Try.func45, Try.ntmps45
      go_wp2
      go_ret
      exact ⟨by rw [H.out]; rfl, hbel⟩
    exact absurd HQ.out (by decide)
  · have H := Lib.hid (show sameVB a b = decide (a.past = b.past) by rw [HO.out, hq]; rfl)
    simp only [Bool.and_eq_true] at hq
    obtain ⟨⟨⟨rfl, rfl⟩, rfl⟩, rfl⟩ := hq
    clear HO
    go_enter Try.func45, Try.ntmps45
    go_wp2_with fail
    rw [← hW]
    clear hW
    (with_reducible refine (sameK_c _ _ _ _ a.past b.past _ hA hB).mono ?_)
    rintro e w4 ⟨rfl, hb⟩
    replace hbel := bstep hbel hb
    clear hb
    go_wp2
    go_ret
    exact ⟨by rw [H.out]; rfl, hbel⟩
end Go.Proofs.Ytippljiicnpieaa
