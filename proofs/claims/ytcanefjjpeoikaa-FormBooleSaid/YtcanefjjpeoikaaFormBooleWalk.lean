/- The walk of FormBoole: it returns true, whatever the arguments are. Written by a small program (gen/formboole.py). -/
import Derived.Test.YtcanefjjpeoikaaFormBoole0
import Derived.Test.YtcanefjjpeoikaaForm4
import Derived.Test.YtcanefjjpeoikaaFilter6
import Derived.Test.YtcanefjjpeoikaaNodeClone
import Derived.Test.YtcanefjjpeoikaaCube2
namespace Go.Proofs.Ytcanefjjpeoikaa
open Go.RowKit
theorem isE_cases (l : Nds) (t n : Int) : (formIsE l t n ≠ 0 ∧ formIs l t n = false) ∨ (formChk l = 0 ∧ ptOk t n = true ∧ formIs l t n = formVal l t n ∧ formIsE l t n = 0) := by
  by_cases h : formChk l = 0
  · cases hp : ptOk t n
    · exact .inl ⟨by simp [formIsE, h, hp], by simp [formIs, h, hp]⟩
    · exact .inr ⟨h, rfl, by simp [formIs, h, hp], by simp [formIsE, h, hp]⟩
  · exact .inl ⟨by simp [formIsE, h], by simp [formIs, h]⟩
theorem atP_form {l : Nds} {t n : Int} (h : ptOk t n = true) : atP (fun t n => formVal l t n) t n = formVal l t n := by
  have hp := h
  simp only [ptOk, Bool.and_eq_true, decide_eq_true_eq] at h
  have h0 : 0 ≤ t := by have := h.1.1; simp [tagsB] at this; omega
  simp only [atP, Int.toNat_of_nonneg h0, Int.toNat_of_nonneg h.1.2, hp, Bool.true_and]
set_option maxRecDepth 100000 in
set_option maxHeartbeats 4000000 in
theorem FormBoole_walk (v : Value) (l : Nds) (t n : Int) (w : World) (hs : NdsAt w v l) :
    Calls Try.prog 12 #[v, .agg #[.int .i64 t, .int .i64 n]] w fun e w' => e = .returned (.bool true) ∧ Below w.heap.size w w' := by
  have hcell : ∀ w1, Below (w.alloc (.cells #[.int .i64 t, .int .i64 n] 24)).heap.size (w.alloc (.cells #[.int .i64 t, .int .i64 n] 24)) w1 →
      w1.cell? ⟨w.heap.size, 0, none⟩ = some (.int .i64 t) ∧ w1.cell? ⟨w.heap.size, 1, none⟩ = some (.int .i64 n) ∧ Below w.heap.size w w1 := fun w1 h =>
    ⟨ckeep h (cat _ _ _ 0 _ rfl _ rfl), ckeep h (cat _ _ _ 1 _ rfl _ rfl), ba1 h⟩
  have HC := Lib.hid hcell
  clear hcell
  go_enter Try.func12, Try.ntmps12
  go_wp2_with fail
  (with_reducible refine (formIs_c _ [⟨2, 1, 0⟩] _ _ _ (ndLit _ _ _ _ _ _ (by simp))).mono ?_)
  rintro e w1 ⟨rfl, hb⟩
  obtain ⟨c0, c1, hbel⟩ := HC.out _ (ba1 hb)
  clear HC hb
  rw [show formIs [⟨2, 1, 0⟩] 2 0 = true from by decide +kernel, show formIsE [⟨2, 1, 0⟩] 2 0 = 0 from by decide +kernel]
  replace hs := hs.below hbel
  go_wp2_with fail
  (with_reducible refine (formIs_c _ l t n _ hs).mono ?_)
  rintro e w2 ⟨rfl, hb⟩
  replace c0 := ckeep hb c0
  replace c1 := ckeep hb c1
  replace hs := hs.below hb
  replace hbel := bstep hbel hb
  clear hb
  rcases isE_cases l t n with ⟨hE, hI⟩ | ⟨h0, hp, hI, hE⟩
  · have h1 : (formIsE l t n == 0) = false := by simpa using hE
    have h2 : (formIsE l t n != 0) = true := by simp [bne, h1]
    rw [hI]
    clear hE hI
    go_wp2
    go_ret
    exact ⟨rfl, hbel⟩
  rw [hI, hE]
  have H0 := Lib.hid h0
  have HP := Lib.hid hp
  clear h0 hp hI hE
  obtain ⟨hpos, h30, -⟩ := formChk_all H0.out
  obtain ⟨va, vc, hv⟩ := hs.shape
  subst hv
  have hvc : l.length ≤ vc := by obtain ⟨a', c', h1, h2, -⟩ := hs; simp only [Value.slice.injEq] at h1; omega
  go_wp2_with fail
  (with_reducible refine (formFilter_c _ l _ hs).mono ?_)
  rintro e w3 ⟨u, rfl, hu, -, hb⟩
  rw [H0.out]
  have hfv := (hu H0.out).fv
  obtain ⟨ua, un, uc, hus⟩ := hfv.shape
  subst hus
  replace c0 := ckeep hb c0
  replace c1 := ckeep hb c1
  replace hs := hs.below hb
  replace hbel := bstep hbel hb
  clear hb hu
  have HFV := Lib.hid hfv
  clear hfv
  go_wp2_with fail
  (with_reducible refine (hasF _ _ t n _ HFV.out).mono ?_)
  rintro e w4 ⟨rfl, hb⟩
  rw [atP_form HP.out, if_pos HP.out]
  replace c0 := ckeep hb c0
  replace c1 := ckeep hb c1
  replace hs := hs.below hb
  replace hbel := bstep hbel hb
  clear hb HFV
  have hN : ∃ N : Int, N = (l.length : Int) - 1 := ⟨_, rfl⟩
  obtain ⟨N, hN⟩ := hN
  have hbb : (formVal l t n != formVal l t n) = false := by simp
  cases hx : decide ((30 : Int) < (l.length : Int) + 4)
  rotate_left
  · go_wp2
    go_ret
    exact ⟨rfl, hbel⟩
  have hlt : l.length + 4 ≤ 30 := by simp at hx; omega
  have BN := Lib.hid (boole_not H0.out hlt hN)
  have BB := Lib.hid (boole_both H0.out hlt hN)
  go_wp2_with fail
  rw [← hN]
  have HN := Lib.hid hN
  have hN0 : 0 ≤ N := by omega
  have hN1 : N < 30 := by omega
  clear hN hx hbb
  have C0 := Lib.hid c0
  have C1 := Lib.hid c1
  clear c0 c1
  have c0 := C0
  have c1 := C1
  clear C0 C1
  have hs2 : CellsAt w4 (.slice va l.length vc) l.length (ndCells l) := hs
  (with_reducible refine (NodeClone_c _ l.length (ndCells l) _ hs2 (ndCells_length l) (ndCells_one l) (by omega)).mono ?_)
  rintro e w5 ⟨v5, rfl, ho, hb⟩
  clear hs2
  obtain ⟨za, zc, hz⟩ := owns_slice ho
  subst hz
  have hb9 : Below w5.heap.size w5 (w5.alloc (.cells #[.int .i64 4, .int .i64 N, .int .i64 0, .int .i64 4, .int .i64 0, .int .i64 0, .int .i64 6, .int .i64 (N + 1), .int .i64 (N + 2)] 29)) := bal _
  have HO := Lib.hid (owns_below ho hb9)
  have ROW := Lib.hid (CellsAt.mk (w := (w5.alloc (.cells #[.int .i64 4, .int .i64 N, .int .i64 0, .int .i64 4, .int .i64 0, .int .i64 0, .int .i64 6, .int .i64 (N + 1), .int .i64 (N + 2)] 29))) (b := w5.heap.size) (off := 0) (n := 3) (cap := 3) (xs := ndCells [(⟨4, N, 0⟩ : Nd), (⟨4, 0, 0⟩ : Nd), (⟨6, N + 1, N + 2⟩ : Nd)]) (Nat.le_refl _) (by decide) (by simp) (fun j x hj => by rw [Nat.zero_add, World.cell?_alloc_at _ _ _ _ rfl]; simpa [ndCells] using hj))
  have HB := Lib.hid (bstep hb hb9)
  clear ho hb
  go_wp2_with (at_builtin; refine wpList_append_cells2 rfl (.tmp 76) (.tmp 86) 22 rfl w4.heap.size 29 _ 3 24 Try.underlying22 NodeTy.info rfl (by decide) _ l.length _ rfl HO.out _ 3 _ rfl ROW.out rfl (fun u hu => ndCells_one _ u hu) (by have := HB.out.size; omega) (by unfold maxLen; omega) (by omega) ?_)
  intro XNv w5b ho hgr
  have hx : NdsAt w5b XNv (l ++ [(⟨4, N, 0⟩ : Nd), (⟨4, 0, 0⟩ : Nd), (⟨6, N + 1, N + 2⟩ : Nd)]) := by have h := CellsAt.of_owns ho (by omega); unfold NdsAt; rw [ndCells_append, List.length_append]; exact h
  have hb := HB.out.grown hgr HB.out.size (fun q hq => (HO.out.lt q hq).1)
  obtain ⟨XNa, XNc, hq⟩ := owns_slice ho
  subst hq
  clear HO ROW HB hb9 ho hgr
  replace c0 := Lib.hid (ckeep hb c0.out)
  replace c1 := Lib.hid (ckeep hb c1.out)
  replace hs := hs.below hb
  replace hbel := bstep hbel hb
  clear hb
  have XN := hx
  clear hx
  go_wp2_with fail
  have hs2 : CellsAt w5b (.slice va l.length vc) l.length (ndCells l) := hs
  (with_reducible refine (NodeClone_c _ l.length (ndCells l) _ hs2 (ndCells_length l) (ndCells_one l) (by omega)).mono ?_)
  rintro e w6 ⟨v5, rfl, ho, hb⟩
  clear hs2
  obtain ⟨za, zc, hz⟩ := owns_slice ho
  subst hz
  have hb9 : Below w6.heap.size w6 (w6.alloc (.cells #[.int .i64 5, .int .i64 N, .int .i64 0, .int .i64 4, .int .i64 (N + 1), .int .i64 0] 29)) := bal _
  have HO := Lib.hid (owns_below ho hb9)
  have ROW := Lib.hid (CellsAt.mk (w := (w6.alloc (.cells #[.int .i64 5, .int .i64 N, .int .i64 0, .int .i64 4, .int .i64 (N + 1), .int .i64 0] 29))) (b := w6.heap.size) (off := 0) (n := 2) (cap := 2) (xs := ndCells [(⟨5, N, 0⟩ : Nd), (⟨4, N + 1, 0⟩ : Nd)]) (Nat.le_refl _) (by decide) (by simp) (fun j x hj => by rw [Nat.zero_add, World.cell?_alloc_at _ _ _ _ rfl]; simpa [ndCells] using hj))
  have HB := Lib.hid (bstep hb hb9)
  clear ho hb
  go_wp2_with (at_builtin; refine wpList_append_cells2 rfl (.tmp 89) (.tmp 96) 22 rfl w5b.heap.size 29 _ 3 24 Try.underlying22 NodeTy.info rfl (by decide) _ l.length _ rfl HO.out _ 2 _ rfl ROW.out rfl (fun u hu => ndCells_one _ u hu) (by have := HB.out.size; omega) (by unfold maxLen; omega) (by omega) ?_)
  intro XBv w6b ho hgr
  have hx : NdsAt w6b XBv (l ++ [(⟨5, N, 0⟩ : Nd), (⟨4, N + 1, 0⟩ : Nd)]) := by have h := CellsAt.of_owns ho (by omega); unfold NdsAt; rw [ndCells_append, List.length_append]; exact h
  have hb := HB.out.grown hgr HB.out.size (fun q hq => (HO.out.lt q hq).1)
  obtain ⟨XBa, XBc, hq⟩ := owns_slice ho
  subst hq
  clear HO ROW HB hb9 ho hgr
  replace c0 := Lib.hid (ckeep hb c0.out)
  replace c1 := Lib.hid (ckeep hb c1.out)
  replace hs := hs.below hb
  replace hbel := bstep hbel hb
  replace XN := XN.below hb
  clear hb
  have XB := hx
  clear hx
  replace c0 := c0.out
  replace c1 := c1.out
  go_wp2_with fail
  (with_reducible refine (formIs_c _ _ t n _ XN).mono ?_)
  rintro e wn ⟨rfl, hb⟩
  replace c0 := ckeep hb c0
  replace c1 := ckeep hb c1
  replace hs := hs.below hb
  replace hbel := bstep hbel hb
  replace XN := XN.below hb
  replace XB := XB.below hb
  clear hb
  rw [(formIs_of BN.out.1 HP.out).1, (formIs_of BN.out.1 HP.out).2, BN.out.2]
  go_wp2_with fail
  (with_reducible refine (formIs_c _ _ t n _ XB).mono ?_)
  rintro e wn ⟨rfl, hb⟩
  replace c0 := ckeep hb c0
  replace c1 := ckeep hb c1
  replace hs := hs.below hb
  replace hbel := bstep hbel hb
  replace XN := XN.below hb
  replace XB := XB.below hb
  clear hb
  rw [(formIs_of BB.out.1 HP.out).1, (formIs_of BB.out.1 HP.out).2, BB.out.2]
  go_wp2_with fail
  (with_reducible refine (formFilter_c _ _ _ XN).mono ?_)
  rintro e wn ⟨u1, rfl, hu1, -, hb⟩
  rw [BN.out.1]
  have F1 := (hu1 BN.out.1).fv
  obtain ⟨a1, n1, k1, hus⟩ := F1.shape
  subst hus
  clear hu1 XN
  replace c0 := ckeep hb c0
  replace c1 := ckeep hb c1
  replace hs := hs.below hb
  replace hbel := bstep hbel hb
  replace XB := XB.below hb
  clear hb
  go_wp2_with fail
  (with_reducible refine (formFilter_c _ _ _ XB).mono ?_)
  rintro e wn ⟨u2, rfl, hu2, -, hb⟩
  rw [BB.out.1]
  have F2 := (hu2 BB.out.1).fv
  obtain ⟨a2, n2, k2, hus⟩ := F2.shape
  subst hus
  clear hu2 XB
  replace c0 := ckeep hb c0
  replace c1 := ckeep hb c1
  replace hs := hs.below hb
  replace hbel := bstep hbel hb
  replace F1 := F1.below hb
  clear hb
  go_wp2_with fail
  (with_reducible refine (sameT _ _ _ _ _ F1 F2 (fun k n => by rw [BN.out.2, BB.out.2])).mono ?_)
  rintro e wn ⟨rfl, hb⟩
  replace c0 := ckeep hb c0
  replace c1 := ckeep hb c1
  replace hs := hs.below hb
  replace hbel := bstep hbel hb
  clear hb
  go_wp2
  go_ret
  exact ⟨rfl, hbel⟩
end Go.Proofs.Ytcanefjjpeoikaa
