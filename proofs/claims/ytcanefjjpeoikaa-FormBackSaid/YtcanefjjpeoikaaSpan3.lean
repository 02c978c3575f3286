/- What reedref.Told, reedkeep.spans and reedkeep.every do. -/
import Derived.Test.YtcanefjjpeoikaaSpan2
namespace Go.Proofs.Ytcanefjjpeoikaa
open Go.RowKit

/-- reedref.Told's round at number n. -/
def tstep (p : Nat → Bool) (n : Nat) (out : Spans) : Spans :=
  if p n then
    match out with
    | [] => [((n : Int), (n : Int) + 1)]
    | s :: r => if s.1 = (n : Int) + 1 then ((n : Int), s.2) :: r else ((n : Int), (n : Int) + 1) :: s :: r
  else out
def toldK (p : Nat → Bool) : Nat → Spans
  | 0 => []
  | k + 1 => tstep p (31 - k) (toldK p k)
def told (p : Nat → Bool) : Spans := toldK p 32

theorem toldK_down (p : Nat → Bool) (j : Nat) (hj : j < 32) : toldK p (32 - j) = tstep p j (toldK p (32 - (j + 1))) := by
  rw [show 32 - j = (32 - (j + 1)) + 1 from by omega, toldK, show 31 - (32 - (j + 1)) = j from by omega]

theorem tstep_length (p : Nat → Bool) (n : Nat) (l : Spans) : (tstep p n l).length ≤ l.length + 1 := by
  unfold tstep; split
  · split
    · simp
    · split <;> simp
  · omega
theorem toldK_length (p : Nat → Bool) (k : Nat) : (toldK p k).length ≤ k := by
  induction k with
  | zero => simp [toldK]
  | succ k ih => have := tstep_length p (31 - k) (toldK p k); simp only [toldK]; omega

/-- The 32 cells of a set of numbers. -/
def bits32 (p : Nat → Bool) : Array Value := ((List.range 32).map fun i => Value.bool (p i)).toArray
theorem bits32_get (p : Nat → Bool) (j : Nat) (hj : j < 32) : (bits32 p)[j]? = some (.bool (p j)) := by
  simp [bits32, hj]
theorem bits32_size (p : Nat → Bool) : (bits32 p).size = 32 := by simp [bits32]

set_option maxRecDepth 100000 in
set_option maxHeartbeats 1000000 in
theorem told_c (p : Nat → Bool) (w : World) :
    Calls Try.prog 65 #[.agg (bits32 p)] w fun e w' => ∃ v, e = .returned v ∧ w'.ownsRow w.heap.size 59 2 v (told p).length (spansCells (told p)) ∧ Below w.heap.size w w' := by
  have hbx : Below w.heap.size w (w.alloc (.cells (bits32 p) 102)) := (Below.refl _ _).alloc (Nat.le_refl _) _
  have hcx := Lib.hid (show ∀ j, j < 32 → (w.alloc (.cells (bits32 p) 102)).cell? ⟨w.heap.size, j, none⟩ = some (.bool (p j)) from fun j hj => by
    rw [World.cell?_alloc_at _ _ _ _ rfl]; exact bits32_get p j hj)
  go_enter Try.func65, Try.ntmps65
  go_wp2
  go_loopw [3, 4] (fun v i wr => ∃ m : Nat, m ≤ 32 ∧ i = .int .i64 ((m : Int) - 1) ∧ wr.ownsRow (w.heap.size + 1) 59 2 v (toldK p (32 - m)).length (spansCells (toldK p (32 - m))) ∧ Below (w.heap.size + 1) (w.alloc (.cells (bits32 p) 102)) wr) (fun _ i _ => (intOf i + 1).toNat)
  case atStart => exact ⟨32, Nat.le_refl _, rfl, World.ownsRow_nil _ _ _ _, Below.refl _ _⟩
  case round =>
    obtain ⟨m, hm, rfl, hown, hbl⟩ := hrel
    rcases m with _ | j
    · go_wp2
      go_ret
      refine ⟨_, rfl, ?_, hbx.trans (hbl.mono (by omega))⟩
      refine ⟨hown.1, hown.2.imp id ?_⟩
      rintro ⟨g, cap, cur, e1, e2, e3⟩
      exact ⟨g, cap, cur, e1, by omega, e3⟩
    · rw [show ((j + 1 : Nat) : Int) - 1 = j from by omega]
      have hd := (hbl.cell (p := ⟨w.heap.size, j, none⟩) (by simp)).trans (hcx.out j (by omega))
      have hts := toldK_down p j (by omega)
      have hle := toldK_length p (32 - (j + 1))
      have hsz := hbl.size
      simp only [World.size_alloc] at hsz
      generalize toldK p (32 - (j + 1)) = out at *
      have HT := Lib.hid hts
      clear hts
      cases hp : p j
      · rw [hp] at hd
        have e : tstep p j out = out := by simp [tstep, hp]
        have HO := Lib.hid (e ▸ hown)
        clear hown
        go_wp2
        go_roundw
        case rel => exact ⟨j, by omega, by go_num, by rw [HT.out]; exact HO.out, hbl⟩
        case measure => simp [intOf] <;> omega
      · rw [hp] at hd
        obtain ⟨a, cap, rfl⟩ := owns_slice hown
        rcases out with _ | ⟨s, r⟩
        · have HO := Lib.hid hown
          have HB := Lib.hid hbl
          clear hown hbl
          have e := Lib.hid (show tstep p j [] = [((j : Int), (j : Int) + 1)] by simp [tstep, hp])
          clear hp
          go_wp2_with (at_builtin; refine wpList_append_cells (w0 := w.alloc (.cells (bits32 p) 102)) rfl (.tmp 13) (.tmp 14) 50 rfl (w.heap.size + 1) 59 (.agg #[.int .i64 0, .int .i64 0]) 2 16 Try.underlying50 SpanTy.info rfl (by decide) _ 1 [.int .i64 j, .int .i64 (j + 1)] rfl (World.ownsRow_lit _ #[.int .i64 j, .int .i64 (j + 1)] 1 (by omega) (by decide) rfl) _ 0 [] rfl ((CellsAt.of_owns HO.out (by simp)).below ((Below.refl _ _).alloc (Nat.le_refl _) _)) (by simp) (by simp) (HB.out.alloc (by omega) _) (by simp; omega) (by decide) (by decide) ?_)
          intro v' w2 hown2 hbl2
          go_wp2
          go_roundw
          case rel => exact ⟨j, by omega, by go_num, by rw [HT.out, e.out]; exact hown2, hbl2⟩
          case measure => simp [intOf] <;> omega
        · rcases hown.2 with ⟨-, h0⟩ | ⟨g1, cap1, cur, hv, hg1, hgg, -⟩
          · simp at h0
          simp only [Value.slice.injEq, true_and] at hv
          obtain ⟨rfl, rfl⟩ := hv
          have hc1 : wr.cell? ⟨g1, 0, none⟩ = some (.int .i64 s.1) := by
            rw [hown.cellAt _ (by simp)]; rfl
          have hf1 := hown.frozenAt 0
          have hgl : g1 < wr.heap.size := (Array.getElem?_eq_some_iff.1 hgg).1
          clear hgg
          simp only [List.length_cons] at hle
          simp only [List.length_cons]
          by_cases hs : s.1 = (j : Int) + 1
          · have e := Lib.hid (show tstep p j (s :: r) = ((j : Int), s.2) :: r by simp [tstep, hp, hs])
            rw [hs] at hc1
            have HST := Lib.hid (hown.stored 0 (.int .i64 j))
            clear hown hs hp
            go_wp2
            go_roundw
            case rel => exact ⟨j, by omega, by go_num, by rw [HT.out, e.out]; exact HST.out.1, hbl.setCell (by exact hg1) _⟩
            case measure => simp [intOf] <;> omega
          · have hne : (s.1 == (j : Int) + 1) = false := by simpa using hs
            have HO := Lib.hid hown
            have HB := Lib.hid hbl
            have e := Lib.hid (show tstep p j (s :: r) = ((j : Int), (j : Int) + 1) :: s :: r by simp [tstep, hp, hs])
            clear hown hbl hs hp
            go_wp2_with (at_builtin; refine wpList_append_cells (w0 := w.alloc (.cells (bits32 p) 102)) rfl (.tmp 13) (.tmp 14) 50 rfl (w.heap.size + 1) 59 (.agg #[.int .i64 0, .int .i64 0]) 2 16 Try.underlying50 SpanTy.info rfl (by decide) _ 1 [.int .i64 j, .int .i64 (j + 1)] rfl (World.ownsRow_lit _ #[.int .i64 j, .int .i64 (j + 1)] 1 (by omega) (by decide) rfl) _ (r.length + 1) _ rfl ((CellsAt.of_owns HO.out (by simp; omega)).below ((Below.refl _ _).alloc (Nat.le_refl _) _)) (by rw [spansCells_length]; simp) (spansCells_one _) (HB.out.alloc (by omega) _) (by simp; omega) (by unfold maxLen; omega) (by omega) ?_)
            intro v' w2 hown2 hbl2
            go_wp2
            go_roundw
            case rel => exact ⟨j, by omega, by go_num, by rw [HT.out, e.out, List.length_cons, List.length_cons, show r.length + 1 + 1 = 1 + (r.length + 1) from by omega]; exact hown2, hbl2⟩
            case measure => simp [intOf] <;> omega

/-- The bits of a word of 32. -/
def bitOf (x : Int) (n : Nat) : Bool := x / 2 ^ n % 2 == 1

/-- The cells of such a set, its first k numbers laid. -/
def bitsUp (p : Nat → Bool) (k : Nat) : Array Value := ((List.range 32).map fun i => Value.bool (decide (i < k) && p i)).toArray
theorem bitsUp_get (p : Nat → Bool) (k : Nat) (hk : k < 32) : (bitsUp p k)[k]? = some (.bool false) := by simp [bitsUp, hk]
theorem bit_u32 (x : Int) (k : Nat) (h0 : 0 ≤ x) (h1 : x < 4294967296) : (bits BinOp.and IntKind.u32 (x / 2 ^ k) 1 == 1) = bitOf x k := by
  have hle : x / 2 ^ k ≤ x := Int.ediv_le_self _ h0
  have hnn : 0 ≤ x / 2 ^ k := Int.ediv_nonneg h0 (Int.le_of_lt (Int.pow_pos (by decide)))
  rw [u32_and _ _ hnn (by omega) (by decide) (by decide)]
  unfold bitOf
  generalize x / 2 ^ k = y at *
  have : (1 : Int).toNat = 1 := rfl
  rw [this, Nat.and_one_is_mod]
  have e : ((y.toNat % 2 : Nat) : Int) = y % 2 := by omega
  rw [e]
theorem bitsUp_size (p : Nat → Bool) (k : Nat) : (bitsUp p k).size = 32 := by simp [bitsUp]
theorem bitsUp_zero (p : Nat → Bool) : bitsUp p 0 = Array.replicate 32 (.bool false) := by
  apply Array.ext
  · simp [bitsUp]
  · intro i h1 h2; simp [bitsUp]
theorem bitsUp_full (p : Nat → Bool) : bitsUp p 32 = bits32 p := by
  apply Array.ext
  · simp [bitsUp, bits32]
  · intro i h1 h2; simp only [bitsUp_size] at h1; simp [bitsUp, bits32, h1]
theorem bitsUp_succ (p : Nat → Bool) (k : Nat) (b : Bool) (hb : b = p k) : (bitsUp p k).setIfInBounds k (.bool b) = bitsUp p (k + 1) := by
  subst hb
  apply Array.ext
  · simp [bitsUp]
  · intro i h1 h2
    simp only [Array.size_setIfInBounds, bitsUp_size] at h1
    by_cases h : k = i
    · subst h; simp [bitsUp]
    · rw [Array.getElem_setIfInBounds_ne (by simpa [bitsUp] using h1) h]
      simp only [bitsUp, List.getElem_toArray, List.getElem_map, List.getElem_range]
      rw [show decide (i < k + 1) = decide (i < k) from by simp; omega]

set_option maxRecDepth 100000 in
set_option maxHeartbeats 1000000 in
theorem spans_c (x : Int) (hx : 0 ≤ x ∧ x < 4294967296) (w : World) :
    Calls Try.prog 32 #[.int .u32 x] w fun e w' => ∃ v, e = .returned v ∧ w'.ownsRow w.heap.size 59 2 v (told (bitOf x)).length (spansCells (told (bitOf x))) ∧ Below w.heap.size w w' := by
  obtain ⟨hx0, hx1⟩ := hx
  go_enter Try.func32, Try.ntmps32
  go_wp2
  go_loopw [5] (fun i wr => ∃ k : Nat, k ≤ 32 ∧ i = .int .i64 k ∧ wr = w.alloc (.cells (bitsUp (bitOf x) k) 102)) (fun i _ => 32 - (intOf i).toNat)
  case atStart => exact ⟨0, Nat.zero_le _, rfl, by rw [bitsUp_zero]; rfl⟩
  case round =>
    obtain ⟨k, hk, rfl, rfl⟩ := hrel
    by_cases hlt : k < 32
    · have hget := bitsUp_get (bitOf x) k hlt
      go_wp2
      go_roundw
      case rel => exact ⟨k + 1, by omega, by go_num, by rw [bitsUp_succ]; exact bit_u32 x k hx0 hx1⟩
      case measure => simp [intOf] <;> omega
    · obtain rfl : k = 32 := by omega
      rw [bitsUp_full]
      have hi : (Try.prog.info? 102).map (·.size) = some (bits32 (bitOf x)).size := by rw [bits32_size]; kernel_rfl
      have HI := Lib.hid hi
      clear hi
      go_wp2_with (with_reducible refine wpList_load_row rfl 102 (.tmp 3) rfl w.heap.size rfl 102 (bits32 (bitOf x)) (0, 0) _ (heap_alloc_new w _) Try.underlying102 rfl HI.out ?_)
      refine (told_c (bitOf x) _).mono ?_
      rintro e w1 ⟨v, rfl, hown, hb1⟩
      go_wp2
      go_ret
      refine ⟨_, rfl, ⟨hown.1, hown.2.imp id ?_⟩, ((Below.refl _ _).alloc (Nat.le_refl _) _).trans (hb1.mono (by simp))⟩
      rintro ⟨g, cap, cur, e1, e2, e3⟩
      exact ⟨g, cap, cur, e1, by simp at e2; omega, e3⟩

end Go.Proofs.Ytcanefjjpeoikaa
