/- What the functions of package span do, one contract a function: span.In, span.Check, span.Make. -/
import Derived.Test.YtcanefjjpeoikaaChecked
import Derived.Test.YtcanefjjpeoikaaSpanPure
import Derived.Deep.QuietTactic
import Derived.BigQuiet
import Derived.WalkSmall
namespace Go.Proofs.Ytcanefjjpeoikaa
open Go.RowKit

theorem inB_take (l : Spans) (n : Int) (k : Nat) (hk : k < l.length) : inB (l.take (k + 1)) n = (inB (l.take k) n || (decide (l[k].1 ≤ n) && decide (n < l[k].2))) := by
  rw [List.take_succ_eq_append_getElem hk]; simp only [inB, List.any_append, List.any_cons, List.any_nil, Bool.or_false]
theorem inB_hit (l : Spans) (n : Int) (k : Nat) (hk : k < l.length) (h1 : l[k].1 ≤ n) (h2 : n < l[k].2) : inB l n = true :=
  List.any_eq_true.2 ⟨l[k], List.getElem_mem hk, by simp [h1, h2]⟩

set_option maxRecDepth 100000 in
set_option maxHeartbeats 400000 in
theorem in_c (v : Value) (l : Spans) (n : Int) (w : World) (hs : SpansAt w v l) :
    Calls Try.prog 70 #[v, .int .i64 n] w fun e w' => e = .returned (.bool (inB l n)) ∧ Below w.heap.size w w' := by
  obtain ⟨a, cap, rfl, hcap, hm, hl⟩ := hs.open_
  clear hs hcap
  go_enter Try.func70, Try.ntmps70
  go_wp2
  go_loopw [9] (fun i wr => ∃ k : Nat, k ≤ l.length ∧ i = .int .i64 k ∧ inB (l.take k) n = false ∧ Below w.heap.size w wr) (fun i _ => l.length - (intOf i).toNat)
  case atStart => exact ⟨0, Nat.zero_le _, rfl, rfl, Below.refl _ _⟩
  case round =>
    obtain ⟨k, hk, rfl, hno, hbl⟩ := hrel
    by_cases hlt : k < l.length
    · rcases hl with rfl | ⟨b, off, rfl, hb, hc⟩
      · simp at hlt
      obtain ⟨c1, c2⟩ := hc k hlt
      have d1 := (hbl.cell (p := ⟨b, off + k * 2, none⟩) hb).trans c1
      have d2 := (hbl.cell (p := ⟨b, off + k * 2 + 1, none⟩) hb).trans c2
      have HN := Lib.hid hno
      clear c1 c2 hc hno
      go_wp2
      · go_ret
        exact ⟨ret_bool (inB_hit l n k hlt (by assumption) (by assumption)).symm, (hbl.alloc hbl.size _)⟩
      all_goals
        go_roundw
        case rel => exact ⟨k + 1, by omega, by go_num, by rw [inB_take l n k hlt, HN.out]; simp [*]; try omega, hbl.alloc hbl.size _⟩
        case measure => simp [intOf]; omega
    · go_wp2
      go_ret
      have : k = l.length := by omega
      subst this
      exact ⟨ret_bool (by rw [List.take_length] at hno; exact hno.symm), hbl⟩

theorem chkFrom_nonneg (last : Int) (l : Spans) : chkFrom last l = 0 ∨ chkFrom last l = 1 ∨ chkFrom last l = 3 := by
  induction l generalizing last with
  | nil => simp [chkFrom]
  | cons s l ih => simp only [chkFrom]; split; · simp
                   split; · simp
                   exact ih _
/-- What span.Check knows behind k spans. -/
def chkAt (l : Spans) (k : Nat) : Int := chkFrom (if h : k = 0 ∨ l.length < k then -1 else (l[k - 1]'(by omega)).2) (l.drop k)

theorem chkAt_zero (l : Spans) : chkAt l 0 = chkFrom (-1) l := by simp [chkAt]
theorem chkAt_end (l : Spans) : chkAt l l.length = 0 := by simp [chkAt, chkFrom]
theorem chkAt_bad (l : Spans) (k : Nat) (hk : k < l.length) (h : l[k].1 < 0 ∨ 32 < l[k].2 ∨ l[k].2 ≤ l[k].1) : chkAt l k = 1 := by
  unfold chkAt; rw [List.drop_eq_getElem_cons hk]; simp only [chkFrom]; rw [if_pos h]
theorem chkAt_form (l : Spans) (k : Nat) (hk : k + 1 < l.length) (h : ¬(l[k + 1].1 < 0 ∨ 32 < l[k + 1].2 ∨ l[k + 1].2 ≤ l[k + 1].1)) (h2 : l[k + 1].1 ≤ l[k].2) : chkAt l (k + 1) = 3 := by
  unfold chkAt; rw [List.drop_eq_getElem_cons hk]; simp only [chkFrom]; rw [if_neg h, dif_neg (by omega)]; simp [h2]
theorem chkAt_zero_ok (l : Spans) (hk : 0 < l.length) (h : ¬(l[0].1 < 0 ∨ (32 : Int) < l[0].2 ∨ l[0].2 ≤ l[0].1)) : chkAt l 0 = chkAt l 1 := by
  have e : chkAt l 1 = chkFrom l[0].2 (l.drop 1) := by unfold chkAt; rw [dif_neg (by omega)]
  rw [e]; unfold chkAt; rw [dif_pos (.inl rfl), List.drop_eq_getElem_cons hk]; simp only [chkFrom]; rw [if_neg h, if_neg (by omega)]
theorem chkAt_succ_ok (l : Spans) (k : Nat) (hk : k + 1 < l.length) (h : ¬(l[k + 1].1 < 0 ∨ 32 < l[k + 1].2 ∨ l[k + 1].2 ≤ l[k + 1].1)) (h2 : l[k].2 < l[k + 1].1) : chkAt l (k + 1) = chkAt l (k + 2) := by
  have e : chkAt l (k + 2) = chkFrom l[k + 1].2 (l.drop (k + 2)) := by unfold chkAt; rw [dif_neg (by omega)]; rfl
  rw [e]; unfold chkAt; rw [dif_neg (by omega), List.drop_eq_getElem_cons hk]; simp only [chkFrom]; rw [if_neg h, if_neg (by simp; omega)]

set_option maxRecDepth 100000 in
set_option maxHeartbeats 400000 in
theorem spanChk_c (v : Value) (l : Spans) (w : World) (hs : SpansAt w v l) :
    Calls Try.prog 58 #[v] w fun e w' => e = .returned (.int .i64 (spansChk l)) ∧ Below w.heap.size w w' := by
  obtain ⟨a, cap, rfl, hcap, hm, hl⟩ := hs.open_
  clear hs hcap
  by_cases h16 : 16 < l.length
  · go_enter Try.func58, Try.ntmps58
    go_wp2
    go_ret
    exact ⟨ret_int (by simp [spansChk, h16]), Below.refl _ _⟩
  go_enter Try.func58, Try.ntmps58
  go_wp2
  go_loopw [10] (fun i wr => ∃ k : Nat, k ≤ l.length ∧ i = .int .i64 k ∧ chkAt l 0 = chkAt l k ∧ Below w.heap.size w wr) (fun i _ => l.length - (intOf i).toNat)
  case atStart => exact ⟨0, Nat.zero_le _, rfl, rfl, Below.refl _ _⟩
  case round =>
    obtain ⟨k, hk, rfl, hno, hbl⟩ := hrel
    by_cases hlt : k < l.length
    · rcases hl with rfl | ⟨b, off, rfl, hb, hc⟩
      · simp at hlt
      obtain ⟨c1, c2⟩ := hc k hlt
      have d1 := (hbl.cell (p := ⟨b, off + k * 2, none⟩) hb).trans c1
      have d2 := (hbl.cell (p := ⟨b, off + k * 2 + 1, none⟩) hb).trans c2
      have HN := Lib.hid hno
      clear c1 c2 hno
      by_cases hbad : l[k].1 < 0 ∨ 32 < l[k].2 ∨ l[k].2 ≤ l[k].1
      · have hch := chkAt_bad l k hlt hbad
        clear hc
        have hr : spansChk l = 1 := by rw [spansChk, if_neg h16, ← chkAt_zero, HN.out, hch]
        have HR := Lib.hid hr
        clear hr hch
        go_wp2
        all_goals go_ret
        all_goals exact ⟨ret_int HR.out.symm, hbl.alloc hbl.size _⟩
      · cases k with
        | zero =>
          have HC := Lib.hid (chkAt_zero_ok l hlt hbad)
          rw [Nat.zero_mul, Nat.add_zero] at d1 d2
          clear hc
          have hq : (decide (l[0].1 < 0) || decide (32 < l[0].2) || decide (l[0].2 ≤ l[0].1)) = false := by simp; omega
          go_wp2
          go_quiet (fail)
          go_wp2
          go_roundw
          case rel => exact ⟨1, by omega, by go_num, HC.out, below_drewN (hbl.alloc hbl.size _) _⟩
          case measure => simp [intOf]; omega
        | succ k =>
          obtain ⟨-, c2⟩ := hc k (by omega)
          have d3 := (hbl.cell (p := ⟨b, off + k * 2 + 1, none⟩) hb).trans c2
          have HF := Lib.hid (chkAt_form l k hlt hbad)
          have HO := Lib.hid (chkAt_succ_ok l k hlt hbad)
          clear hc c2
          have hk0 : decide ((0 : Int) < (k : Int) + 1) = true := by simp
          have hw := IntWalk.i64_in ((k : Int) + 1 - 1) (by omega)
          have hw2 : ((k : Int) + 1 - 1) = k := by omega
          rw [hw2] at hw
          have hi : (k : Int) < l.length := by omega
          have hbw : b < wr.heap.size := Nat.lt_of_lt_of_le hb hbl.size
          go_wp2
          go_quiet (fail)
          go_wp2
          · go_ret
            exact ⟨ret_int (by rw [spansChk, if_neg h16, ← chkAt_zero, HN.out, HF.out (by assumption)]), below_drewN (hbl.alloc hbl.size _) _⟩
          · go_roundw
            case rel => exact ⟨k + 2, by omega, by go_num, HN.out.trans (HO.out (by assumption)), below_drewN (hbl.alloc hbl.size _) _⟩
            case measure => simp [intOf]; omega
    · go_wp2
      go_ret
      have : k = l.length := by omega
      subst this
      exact ⟨ret_int (by rw [chkAt_end] at hno; rw [spansChk, if_neg h16, ← chkAt_zero, hno]), hbl⟩

set_option maxRecDepth 100000 in
theorem SpanTy.info : (Try.prog.info? 59).map (fun i => (i.zero, i.size, i.bytes)) = some (some (.agg #[.int .i64 0, .int .i64 0]), 2, 16) := by kernel_rfl

/-- What a predicate on numbers below 32, handed over as a function value, does: it answers p, in whatever world that has grown out of w. -/
def Pred (g : FuncId) (caps : Array Value) (p : Nat → Bool) (w : World) : Prop :=
  (∀ args W, (callFunc g args).run Try.prog W = .ok (.enter g args) W) ∧ ∀ (n : Nat) (W : World), n < 32 → Below w.heap.size w W → Calls Try.prog g (#[.int .i64 n] ++ caps) W fun e w' => e = .returned (.bool (p n)) ∧ Below W.heap.size W w'

theorem put1_length (l : Spans) (n : Int) : (put1 l n).length ≤ l.length + 1 := by
  unfold put1; split
  · split <;> simp
  · simp
theorem mk_length (p : Nat → Bool) (k : Nat) : (mk p k).length ≤ k := by
  induction k with
  | zero => simp [mk]
  | succ k ih => simp only [mk]; split; · have := put1_length (mk p k) k; omega
                 omega

set_option maxRecDepth 100000 in
set_option maxHeartbeats 800000 in
theorem make_c (g : FuncId) (caps : Array Value) (p : Nat → Bool) (w : World) (hg : Pred g caps p w) :
    Calls Try.prog 68 #[.func (.func g) #[] caps] w fun e w' => ∃ v, e = .returned v ∧ w'.ownsRow w.heap.size 59 2 v (make p).length (spansCells (make p)) ∧ Below w.heap.size w w' := by
  obtain ⟨i0, hi, hz0, hz1, hz2⟩ := info_parts SpanTy.info
  obtain ⟨hcall, hg⟩ := hg
  have HG := Lib.hid hg
  clear hg
  go_enter Try.func68, Try.ntmps68
  go_wp2
  go_loopw [3, 4] (fun v i wr => ∃ k : Nat, k ≤ 32 ∧ i = .int .i64 k ∧ wr.ownsRow w.heap.size 59 2 v (mk p k).length (spansCells (mk p k)) ∧ Below w.heap.size w wr) (fun _ i _ => 32 - (intOf i).toNat)
  case atStart => exact ⟨0, Nat.zero_le _, rfl, World.ownsRow_nil _ _ _ _, Below.refl _ _⟩
  case round =>
    obtain ⟨k, hk, rfl, hown, hbl⟩ := hrel
    by_cases hlt : k < 32
    · go_wp2_with fail
      refine (HG.out k _ hlt hbl).mono ?_
      rintro e w1 ⟨rfl, hb1⟩
      have hbl1 := bstep hbl hb1
      have hown1 := owns_below hown hb1
      cases hp : p k
      · go_wp2
        go_roundw
        case rel => exact ⟨k + 1, by omega, by go_num, by simpa [mk, hp] using hown1, hbl1⟩
        case measure => simp [intOf]; omega
      have hmk : mk p (k + 1) = put1 (mk p k) k := by simp [mk, hp]
      have hle := mk_length p k
      clear hown hb1 hbl
      generalize mk p k = m at *
      have HM := Lib.hid hmk
      clear hmk
      obtain ⟨a, cap, rfl⟩ := owns_slice hown1
      rcases List.eq_nil_or_concat m with rfl | ⟨l, s, hcc⟩
      · have HO := Lib.hid hown1
        clear hown1
        go_wp2_with (at_builtin; refine wpList_append_new rfl (.tmp 36) (.tmp 41) 50 rfl w.heap.size 59 (.agg #[.int .i64 0, .int .i64 0]) 2 16 Try.underlying50 SpanTy.info rfl (by decide) _ 0 [] rfl HO.out [.int .i64 k, .int .i64 (k + 1)] rfl (by simp [Value.oneCell']) rfl hbl1 hbl1.size (by decide) (by decide) ?_)
        intro v' w2 hown2 hbl2
        go_wp2
        go_roundw
        case rel => exact ⟨k + 1, by omega, by go_num, by rw [HM.out]; exact hown2, hbl2⟩
        case measure => simp [intOf]; omega
      · rw [List.concat_eq_append] at hcc; subst hcc
        have hl32 : l.length < 32 := by simp at hle; omega
        clear hle
        rcases hown1.2 with ⟨-, h0⟩ | ⟨g1, cap1, cur, hv, hg1, hgg, -⟩
        · simp at h0
        simp only [Value.slice.injEq, true_and] at hv
        obtain ⟨rfl, rfl⟩ := hv
        have hc1 : w1.cell? ⟨g1, l.length * 2 + 1, none⟩ = some (.int .i64 s.2) := by
          rw [hown1.cellAt _ (by simp; omega), spansCells_append, List.getElem?_append_right (by rw [spansCells_length]; omega), spansCells_length, show l.length * 2 + 1 - l.length * 2 = 1 from by omega]; rfl
        have hf1 := hown1.frozenAt (l.length * 2 + 1)
        have hgl : g1 < w1.heap.size := (Array.getElem?_eq_some_iff.1 hgg).1
        clear hgg
        have hlen : (l ++ [s]).length = l.length + 1 := by simp
        by_cases hs : s.2 = k
        · have HS := Lib.hid hs
          rw [hs] at hc1
          clear hs
          have HST := Lib.hid (hown1.stored (l.length * 2 + 1) (.int .i64 (k + 1)))
          clear hown1
          go_wp2
          go_roundw
          case rel =>
            have e : put1 (l ++ [s]) k = l ++ [(s.1, (k : Int) + 1)] := by unfold put1; simp [HS.out]
            refine ⟨k + 1, by omega, by go_num, ?_, hbl1.setCell (by exact hg1) _⟩
            rw [HM.out, e]
            have := HST.out.1
            rw [spansCells_append, List.set_append_right _ _ (by rw [spansCells_length]; omega), spansCells_length, show l.length * 2 + 1 - l.length * 2 = 1 from by omega] at this
            simpa [spansCells] using this
          case measure => simp [intOf]; omega
        have hne : (s.2 == (k : Int)) = false := by simpa using hs
        rw [hlen] at hown1
        have HO := Lib.hid hown1
        clear hs hown1
        go_wp2_with (at_builtin; refine wpList_append_new rfl (.tmp 36) (.tmp 41) 50 rfl w.heap.size 59 (.agg #[.int .i64 0, .int .i64 0]) 2 16 Try.underlying50 SpanTy.info rfl (by decide) _ (l.length + 1) _ rfl HO.out [.int .i64 k, .int .i64 (k + 1)] rfl (by simp [Value.oneCell']) rfl hbl1 hbl1.size (by unfold maxLen; omega) (by omega) ?_)
        intro v' w2 hown2 hbl2
        go_wp2
        go_roundw
        case rel =>
          have e : put1 (l ++ [s]) k = (l ++ [s]) ++ [((k : Int), (k : Int) + 1)] := by unfold put1; simp only [List.getLast?_append, List.getLast?_singleton, Option.some_or]; rw [if_neg (by simpa using hne)]
          refine ⟨k + 1, by omega, by go_num, ?_, hbl2⟩
          rw [HM.out, e, spansCells_append]
          simpa [spansCells] using hown2
        case measure => simp [intOf]; omega
    · go_wp2
      go_ret
      obtain rfl : k = 32 := by omega
      exact ⟨_, rfl, hown, hbl⟩
end Go.Proofs.Ytcanefjjpeoikaa
