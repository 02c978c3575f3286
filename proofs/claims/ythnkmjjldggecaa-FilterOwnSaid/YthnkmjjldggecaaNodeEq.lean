/- What slices.Equal does with the same nodes twice: it says that they are the same. -/
import Derived.Test.YthnkmjjldggecaaChecked
import Derived.Test.YthnkmjjldggecaaMForm
import Derived.Test.YthnkmjjldggecaaMClaims
import Derived.Deep.QuietTactic
import Derived.BigQuiet
namespace Go.Proofs.Ythnkmjjldggecaa
open Go.RowKit
set_option maxRecDepth 100000 in
theorem eqNode (a b c : Int) (w : World) : (Op.equalIn 10000 30 (.agg #[.int .i64 a, .int .i64 b, .int .i64 c]) (.agg #[.int .i64 a, .int .i64 b, .int .i64 c])).run Try.prog w = .ok true w := by
  have u3 := Try.underlying3
  have a3 := Try.isAgg3
  have z3 := Try.sizeOf3
  rw [show (10000 : Nat) = 9999 + 1 from rfl, run_equalIn_agg w 9999 30 _ _ (by kernel_rfl) (by kernel_rfl)]
  simp only [Program.fieldsOf, Try.underlying30]
  go_simp
set_option maxRecDepth 100000 in
theorem eqGuardNode : Try.prog.eqGuardType Try.prog.depth 30 = false := by kernel_rfl
set_option maxRecDepth 100000 in
set_option maxHeartbeats 400000 in
theorem eqNds_c (va vb : Value) (a : Nds) (w : World) (ha : NdsAt w va a) (hb : NdsAt w vb a) :
    Calls Try.prog 25 #[va, vb] w fun e w' => e = .returned (.bool true) ∧ Below w.heap.size w w' := by
  obtain ⟨xa, ca, rfl, hcap, hm, -, hla⟩ := ha.open_
  obtain ⟨xb, cb, rfl, hcapb, hmb, -, hlb⟩ := hb.open_
  clear ha hb
  go_enter Try.func25, Try.ntmps25
  go_wp2
  go_loopw [13] (fun i wr => ∃ k : Nat, k ≤ a.length ∧ i = .int .i64 k ∧ Below w.heap.size w wr) (fun i _ => a.length - (intOf i).toNat)
  case atStart => exact ⟨0, Nat.zero_le _, rfl, Below.refl _ _⟩
  case round =>
    obtain ⟨k, hk, rfl, hbl⟩ := hrel
    by_cases hlt : k < a.length
    · rcases hla with rfl | ⟨b0, off, rfl, hb0, hc⟩
      · simp at hlt
      rcases hlb with rfl | ⟨b1, off1, rfl, hb1, hc1⟩
      · simp at hlt
      obtain ⟨c1, c2, c3⟩ := hc k hlt
      obtain ⟨c4, c5, c6⟩ := hc1 k hlt
      have d1 := (hbl.cell (p := ⟨b0, off + k * 3, none⟩) hb0).trans c1
      have d2 := (hbl.cell (p := ⟨b0, off + k * 3 + 1, none⟩) hb0).trans c2
      have d3 := (hbl.cell (p := ⟨b0, off + k * 3 + 2, none⟩) hb0).trans c3
      have d4 := (hbl.cell (p := ⟨b1, off1 + k * 3, none⟩) hb1).trans c4
      have d5 := (hbl.cell (p := ⟨b1, off1 + k * 3 + 1, none⟩) hb1).trans c5
      have d6 := (hbl.cell (p := ⟨b1, off1 + k * 3 + 2, none⟩) hb1).trans c6
      clear c1 c2 c3 c4 c5 c6 hc hc1
      generalize a[k] = x at *
      have heqs := eqNode
      have heqg := eqGuardNode
      go_wp2
      go_quiet (fail)
      go_wp2
      go_roundw
      case rel => exact ⟨k + 1, by omega, by go_num, below_drewN hbl _⟩
      case measure => simp [intOf]; omega
    · go_wp2
      go_ret
      exact ⟨rfl, hbl⟩
end Go.Proofs.Ythnkmjjldggecaa
