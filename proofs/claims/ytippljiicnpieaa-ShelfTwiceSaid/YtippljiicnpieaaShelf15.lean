/- The check on shelves that the statements begin with. -/
import Derived.Test.YtippljiicnpieaaShelf13
namespace Go.Proofs.Ytippljiicnpieaa
open Go.RowKit
def vA1 : Ver := ⟨⟨#[97]⟩, 0, 1, 0, 0, 0, ⟨[], []⟩⟩
def vA2 : Ver := ⟨⟨#[97]⟩, 1, 1, 0, 0, 0, ⟨[1], []⟩⟩
theorem begE1 : putE [] vA1 = 0 := by decide +kernel
theorem begL1 : putL [] vA1 = [vA1] := by kernel_rfl
theorem begE2 : putE [vA1] vA2 = 0 := by decide +kernel
theorem begL2 : putL [vA1] vA2 = [vA2] := by kernel_rfl
set_option maxRecDepth 100000 in
set_option maxHeartbeats 4000000 in
theorem shelfBegun_c (w : World) :
    Calls Try.prog 25 #[] w fun e w' => e = .returned (.bool true) ∧ Below w.heap.size w w' := by
  have HP1 := Lib.hid (put_c (.slice none 0 0) [] vA1 (.slice none 0 0) (.slice none 0 0) w (RowAt.nil w) ⟨CellsAt.nil _, CellsAt.nil _⟩)
  rw [putR_ok begE1, begE1, begL1] at HP1
  unfold verC vA1 at HP1
  go_enter Try.func25, Try.ntmps25
  go_wp2_with fail
  (with_reducible refine (HP1.out).mono ?_)
  rintro e w1 ⟨ov, rfl, ho, hb1⟩
  have hbx := bal (W := w1) (.cells #[.int .i64 1] 3)
  have hrow := (ho.below hbx).at_ (by intro v hv; rw [List.mem_singleton] at hv; subst hv; decide) (by decide)
  have hk : KnAt (w1.alloc (.cells #[.int .i64 1] 3)) (.slice (some ⟨w1.heap.size, 0, none⟩) 1 1) (.slice none 0 0) ⟨[1], []⟩ :=
    ⟨CellsAt.mk (Nat.le_refl _) (by decide) (by simp) (fun j x hj => by rw [Nat.zero_add, World.cell?_alloc_at _ _ _ _ rfl]; simpa [intsC] using hj), CellsAt.nil _⟩
  have HP2 := Lib.hid (put_c _ [vA1] vA2 _ _ _ hrow hk)
  rw [putR_ok begE2, begE2, begL2] at HP2
  obtain ⟨oa, oc, rfl⟩ : ∃ oa oc, ov = Value.slice oa 1 oc := by
    obtain ⟨css, -, h2⟩ := ho
    exact owns_slice h2
  have HBX := Lib.hid (bstep hb1 hbx)
  clear ho hrow hk hbx HP1 hb1
  unfold verC vA2 at HP2
  go_wp2_with fail
  (with_reducible refine (HP2.out).mono ?_)
  rintro e w2 ⟨ov, rfl, ho, hb2⟩
  have HB2 := Lib.hid (bstep HBX.out hb2)
  have hrow := ho.at_ (by intro v hv; rw [List.mem_singleton] at hv; subst hv; decide) (by decide)
  obtain ⟨a, cap, rfl, -, -, -, hvl⟩ := hrow.open_
  rcases hvl with hnil | ⟨b, off, rfl, hb, hc⟩
  · simp at hnil
  obtain ⟨c, ⟨u, x, rfl, hk2⟩, hcc⟩ := hc 0 (by decide)
  have c1 := row8 (w := w2) (b := b) (off := off) (i := 0) (j := 1) hcc rfl
  clear ho hrow hc hcc hk2 HP2 hb2 HBX hb
  rw [Nat.zero_mul, Nat.add_zero] at c1
  replace c1 : w2.cell? ⟨b, off + 1, none⟩ = some (.int .i64 1) := c1
  go_wp2
  go_ret
  exact ⟨rfl, HB2.out⟩
end Go.Proofs.Ytippljiicnpieaa
