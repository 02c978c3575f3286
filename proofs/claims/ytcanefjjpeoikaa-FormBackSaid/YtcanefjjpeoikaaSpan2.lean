/- What the functions of package span do, one contract a function: two, Has, Join, Meet, Less, Within, Count; and slices.Equal at spans. -/
import Derived.Test.YtcanefjjpeoikaaSpan1
namespace Go.Proofs.Ytcanefjjpeoikaa
open Go.RowKit

def two (a b : Spans) : Int := if spansChk a = 0 then spansChk b else spansChk a
def spanHas (l : Spans) (n : Int) : Bool := if spansChk l = 0 then inB l n else false
def spanJoin (a b : Spans) : Spans := if two a b = 0 then make (fun n => inB a n || inB b n) else []
def spanMeet (a b : Spans) : Spans := if two a b = 0 then make (fun n => inB a n && inB b n) else []
def spanLess (a b : Spans) : Spans := if two a b = 0 then make (fun n => inB a n && !inB b n) else []
def spanWithin (a b : Spans) : Bool := decide (two a b = 0) && (spanLess a b).isEmpty

theorem make_length (p : Nat → Bool) : (make p).length ≤ 32 := mk_length p 32

set_option maxRecDepth 100000 in
set_option maxHeartbeats 400000 in
theorem two_c (va vb : Value) (a b : Spans) (w : World) (ha : SpansAt w va a) (hb : SpansAt w vb b) :
    Calls Try.prog 67 #[va, vb] w fun e w' => e = .returned (.int .i64 (two a b)) ∧ Below w.heap.size w w' := by
  go_enter Try.func67, Try.ntmps67
  go_wp2_with fail
  refine (spanChk_c va a _ ha).mono ?_
  rintro e w1 ⟨rfl, hb1⟩
  by_cases h : spansChk a = 0
  · have H := Lib.hid (show two a b = spansChk b by simp [two, h])
    rw [h]
    clear h
    go_wp2_with fail
    refine (spanChk_c vb b _ (hb.below hb1)).mono ?_
    rintro e w2 ⟨rfl, hb2⟩
    go_wp2
    go_ret
    exact ⟨ret_int H.out.symm, bstep hb1 hb2⟩
  · have H := Lib.hid (show two a b = spansChk a by simp [two, h])
    have h' : (spansChk a != 0) = true := by simpa using h
    clear h
    go_wp2
    go_ret
    exact ⟨ret_int H.out.symm, hb1⟩

/-- A closure over two sets: its captured variables are blocks that hold them. -/
def Caps2 (W : World) (x y : Nat) (a b : Spans) : Prop :=
  ∃ va vb, W.cell? ⟨x, 0, none⟩ = some va ∧ W.cell? ⟨y, 0, none⟩ = some vb ∧ SpansAt W va a ∧ SpansAt W vb b

theorem Caps2.below {w w' : World} {x y : Nat} {a b : Spans} (h : Caps2 w x y a b) (hx : x < w.heap.size) (hy : y < w.heap.size) (hb : Below w.heap.size w w') : Caps2 w' x y a b := by
  obtain ⟨va, vb, h1, h2, h3, h4⟩ := h
  exact ⟨va, vb, (hb.cell (p := ⟨x, 0, none⟩) hx).trans h1, (hb.cell (p := ⟨y, 0, none⟩) hy).trans h2, h3.below hb, h4.below hb⟩

set_option maxRecDepth 100000 in
set_option maxHeartbeats 400000 in
theorem meet1_c (n : Int) (x y : Nat) (a b : Spans) (W : World) (hy : y < W.heap.size) (h : Caps2 W x y a b) :
    Calls Try.prog 69 #[.int .i64 n, .pointer (some ⟨x, 0, none⟩), .pointer (some ⟨y, 0, none⟩)] W fun e w' => e = .returned (.bool (inB a n && inB b n)) ∧ Below W.heap.size W w' := by
  obtain ⟨va, vb, h1, h2, h3, h4⟩ := h
  go_enter Try.func69, Try.ntmps69
  go_wp2_with fail
  refine (in_c va a n _ h3).mono ?_
  rintro e w1 ⟨rfl, hb1⟩
  have h2' := (hb1.cell (p := ⟨y, 0, none⟩) hy).trans h2
  clear h1 h2
  cases hA : inB a n
  · go_wp2
    go_ret
    exact ⟨ret_bool (by simp [hA]), hb1⟩
  go_wp2_with fail
  refine (in_c vb b n _ (h4.below hb1)).mono ?_
  rintro e w2 ⟨rfl, hb2⟩
  cases hB : inB b n <;> go_wp2 <;> go_ret <;> exact ⟨ret_bool (by simp [hA, hB]), bstep hb1 hb2⟩

/-- The world in which both arguments have been laid into blocks of their own. -/
abbrev boxed2 (w : World) (va vb : Value) (t : TypeId) : World := (w.alloc (.cells #[va] t)).alloc (.cells #[vb] t)

theorem caps2_boxed {w : World} {va vb : Value} {a b : Spans} {t : TypeId} (ha : SpansAt w va a) (hb : SpansAt w vb b) : Caps2 (boxed2 w va vb t) w.heap.size (w.heap.size + 1) a b := by
  have hbel : Below w.heap.size w (boxed2 w va vb t) := ((Below.refl _ _).alloc (Nat.le_refl _) _).alloc (by simp) _
  refine ⟨va, vb, ?_, ?_, ha.below hbel, hb.below hbel⟩
  · rw [World.cell?_alloc_past _ _ _ (by simp), World.cell?_alloc_at _ _ _ _ rfl]; rfl
  · rw [World.cell?_alloc_at _ _ _ _ (by simp)]; rfl

set_option maxRecDepth 100000 in
set_option maxHeartbeats 400000 in
theorem meet_c (va vb : Value) (a b : Spans) (w : World) (ha : SpansAt w va a) (hb : SpansAt w vb b) :
    Calls Try.prog 35 #[va, vb] w fun e w' => ∃ v, e = .returned (.tuple #[v, .int .i64 (two a b)]) ∧ w'.ownsRow w.heap.size 59 2 v (spanMeet a b).length (spansCells (spanMeet a b)) ∧ Below w.heap.size w w' := by
  obtain ⟨xa, ca, rfl⟩ := ha.shape
  obtain ⟨xb, cb, rfl⟩ := hb.shape
  generalize hva : Value.slice xa a.length ca = va at ha
  generalize hvb : Value.slice xb b.length cb = vb at hb
  have hbx : Below w.heap.size w (boxed2 w va vb 50) := ((Below.refl _ _).alloc (Nat.le_refl _) _).alloc (by simp) _
  have hcp := Lib.hid (caps2_boxed (t := 50) ha hb)
  have hcell := Lib.hid (show ∀ w1, Below (boxed2 w va vb 50).heap.size (boxed2 w va vb 50) w1 → Caps2 w1 w.heap.size (w.heap.size + 1) a b ∧ w.heap.size + 1 < w1.heap.size from fun w1 h =>
    ⟨hcp.out.below (by simp; omega) (by simp) h, by have := h.size; simp at this; omega⟩)
  subst hva hvb
  have hm : ∀ args W, (callFunc 69 args).run Try.prog W = .ok (.enter 69 args) W := fun _ _ => by kernel_rfl
  go_enter Try.func35, Try.ntmps35
  go_wp2_with fail
  refine (two_c _ _ a b _ (ha.below hbx) (hb.below hbx)).mono ?_
  rintro e w1 ⟨rfl, hb1⟩
  by_cases h : two a b = 0
  · have H := Lib.hid (show spanMeet a b = make (fun n => inB a n && inB b n) ∧ two a b = 0 by simp [spanMeet, h])
    rw [h]
    clear h
    go_wp2_with fail
    refine (make_c 69 #[.pointer (some ⟨w.heap.size, 0, none⟩), .pointer (some ⟨w.heap.size + 1, 0, none⟩)] (fun n => inB a n && inB b n) w1 ⟨hm, fun n W hn hW => ?_⟩).mono ?_
    · obtain ⟨h1, h2⟩ := hcell.out w1 hb1
      exact meet1_c n _ _ a b W (Nat.lt_of_lt_of_le h2 hW.size) (h1.below (by omega) h2 hW)
    rintro e w2 ⟨v, rfl, hown, hb2⟩
    have hown' : w2.ownsRow w.heap.size 59 2 v (make (fun n => inB a n && inB b n)).length (spansCells (make (fun n => inB a n && inB b n))) := by
      refine ⟨hown.1, hown.2.imp id ?_⟩
      rintro ⟨g, cap, cur, e1, e2, e3⟩
      exact ⟨g, cap, cur, e1, by have := hb1.size; simp at this; omega, e3⟩
    clear hown
    go_wp2
    go_ret2
    exact ⟨_, ret_ve H.out.2.symm, by rw [H.out.1]; exact hown', bstep (bstep hbx hb1) hb2⟩
  · have H := Lib.hid (show spanMeet a b = [] by simp [spanMeet, h])
    have h' : (two a b != 0) = true := by simpa using h
    clear h hcell
    go_wp2
    go_ret2
    exact ⟨_, rfl, by rw [H.out]; exact World.ownsRow_nil _ _ _ _, bstep hbx hb1⟩
def countFrom (l : Spans) : Int := (l.map fun s => s.2 - s.1).sum
def spanCount (l : Spans) : Int := if spansChk l = 0 then countFrom l else 0

theorem chkFrom_bounds (last : Int) (l : Spans) (h : chkFrom last l = 0) : ∀ s ∈ l, 0 ≤ s.1 ∧ s.1 < s.2 ∧ s.2 ≤ 32 := by
  induction l generalizing last with
  | nil => simp
  | cons s l ih =>
    simp only [chkFrom] at h
    split at h
    · simp at h
    split at h
    · simp at h
    intro t ht
    rcases List.mem_cons.1 ht with rfl | ht
    · omega
    · exact ih _ h t ht
theorem spansChk_bounds {l : Spans} (h : spansChk l = 0) : l.length ≤ 16 ∧ ∀ s ∈ l, 0 ≤ s.1 ∧ s.1 < s.2 ∧ s.2 ≤ 32 := by
  unfold spansChk at h; split at h
  · simp at h
  · exact ⟨by omega, chkFrom_bounds _ l h⟩
theorem countFrom_take (l : Spans) (k : Nat) (hk : k < l.length) : countFrom (l.take (k + 1)) = countFrom (l.take k) + (l[k].2 - l[k].1) := by
  rw [List.take_succ_eq_append_getElem hk]; simp only [countFrom, List.map_append, List.map_cons, List.map_nil, List.sum_append, List.sum_cons, List.sum_nil]; omega
theorem countFrom_le (l : Spans) (h : ∀ s ∈ l, 0 ≤ s.1 ∧ s.1 < s.2 ∧ s.2 ≤ 32) (k : Nat) : 0 ≤ countFrom (l.take k) ∧ countFrom (l.take k) ≤ 32 * k := by
  induction k with
  | zero => simp [countFrom]
  | succ k ih =>
    by_cases hk : k < l.length
    · have := h _ (List.getElem_mem hk)
      rw [countFrom_take l k hk]; omega
    · rw [List.take_of_length_le (by omega)]; rw [List.take_of_length_le (by omega)] at ih; omega

set_option maxRecDepth 100000 in
set_option maxHeartbeats 400000 in
theorem spanCount_c (v : Value) (l : Spans) (w : World) (hs : SpansAt w v l) :
    Calls Try.prog 34 #[v] w fun e w' => e = .returned (.tuple #[.int .i64 (spanCount l), .int .i64 (spansChk l)]) ∧ Below w.heap.size w w' := by
  obtain ⟨a, cap, rfl, hcap, hm, hl⟩ := hs.open_
  go_enter Try.func34, Try.ntmps34
  go_wp2_with fail
  refine (spanChk_c _ l _ hs).mono ?_
  rintro e w1 ⟨rfl, hb1⟩
  by_cases h : spansChk l = 0
  · have H := Lib.hid (show spanCount l = countFrom l ∧ spansChk l = 0 by simp [spanCount, h])
    obtain ⟨hlen, hbd⟩ := spansChk_bounds h
    have HB := Lib.hid hbd
    rw [h]
    clear h hs hbd
    go_wp2
    go_loopw [5, 15] (fun n i wr => ∃ k : Nat, k ≤ l.length ∧ i = .int .i64 k ∧ n = .int .i64 (countFrom (l.take k)) ∧ Below w.heap.size w wr) (fun _ i _ => l.length - (intOf i).toNat)
    case atStart => exact ⟨0, Nat.zero_le _, rfl, rfl, hb1⟩
    case round =>
      obtain ⟨k, hk, rfl, rfl, hbl⟩ := hrel
      have hcl := countFrom_le l HB.out k
      obtain ⟨hc0, hc1⟩ := hcl
      by_cases hlt : k < l.length
      · rcases hl with rfl | ⟨b, off, rfl, hb, hc⟩
        · simp at hlt
        obtain ⟨c1, c2⟩ := hc k hlt
        have d1 := (hbl.cell (p := ⟨b, off + k * 2, none⟩) hb).trans c1
        have d2 := (hbl.cell (p := ⟨b, off + k * 2 + 1, none⟩) hb).trans c2
        obtain ⟨b0, b1, b2⟩ := HB.out _ (List.getElem_mem hlt)
        have HT := Lib.hid (countFrom_take l k hlt)
        clear c1 c2 hc
        go_wp2
        go_roundw
        case rel => exact ⟨k + 1, by omega, by go_num, by rw [HT.out], hbl.alloc hbl.size _⟩
        case measure => simp [intOf]; omega
      · go_wp2
        go_ret2
        have : k = l.length := by omega
        subst this
        exact ⟨ret_ie (by rw [H.out.1, List.take_length]) H.out.2.symm, hbl⟩
  · have H := Lib.hid (show spanCount l = 0 by simp [spanCount, h])
    have h' : (spansChk l != 0) = true := by simpa using h
    clear h
    go_wp2
    go_ret2
    exact ⟨ret_ie H.out.symm rfl, hb1⟩

set_option maxRecDepth 100000 in
/-- '==' on two spans. -/
theorem eqSpan (a b c d : Int) (w : World) : (Op.equalIn 10000 59 (.agg #[.int .i64 a, .int .i64 b]) (.agg #[.int .i64 c, .int .i64 d])).run Try.prog w = .ok (a == c && b == d) w := by
  have u3 := Try.underlying3
  have a3 := Try.isAgg3
  have z3 := Try.sizeOf3
  rw [show (10000 : Nat) = 9999 + 1 from rfl, run_equalIn_agg w 9999 59 _ _ (by kernel_rfl) (by kernel_rfl)]
  simp only [Program.fieldsOf, Try.underlying59]
  go_simp
  by_cases h1 : a = c <;> by_cases h2 : b = d <;> simp [h1, h2]
set_option maxRecDepth 100000 in
theorem eqGuardSpan : Try.prog.eqGuardType Try.prog.depth 59 = false := by kernel_rfl

set_option maxRecDepth 100000 in
set_option maxHeartbeats 400000 in
theorem eqSpans_c (va vb : Value) (a b : Spans) (w : World) (ha : SpansAt w va a) (hb : SpansAt w vb b) :
    Calls Try.prog 53 #[va, vb] w fun e w' => e = .returned (.bool (a == b)) ∧ Below w.heap.size w w' := by
  obtain ⟨xa, ca, rfl, hcap, hm, hla⟩ := ha.open_
  obtain ⟨xb, cb, rfl, hcapb, hmb, hlb⟩ := hb.open_
  clear ha hb
  go_enter Try.func53, Try.ntmps53
  by_cases hlen : a.length = b.length
  · rw [← hlen]
    rw [← hlen] at hcapb hmb
    have HL := Lib.hid hlen
    clear hlen
    go_wp2
    go_loopw [13] (fun i wr => ∃ k : Nat, k ≤ a.length ∧ i = .int .i64 k ∧ a.take k = b.take k ∧ Below w.heap.size w wr) (fun i _ => a.length - (intOf i).toNat)
    case atStart => exact ⟨0, Nat.zero_le _, rfl, rfl, Below.refl _ _⟩
    case round =>
      obtain ⟨k, hk, rfl, heq, hbl⟩ := hrel
      have HE := Lib.hid heq
      clear heq
      by_cases hlt : k < a.length
      · rcases hla with rfl | ⟨b0, off, rfl, hb0, hc⟩
        · simp at hlt
        rcases hlb with rfl | ⟨b1, off1, rfl, hb1, hc1⟩
        · have := HL.out; simp at this; rw [this] at hlt; simp at hlt
        have hltb : k < b.length := by have := HL.out; omega
        obtain ⟨c1, c2⟩ := hc k hlt
        obtain ⟨c3, c4⟩ := hc1 k hltb
        have d1 := (hbl.cell (p := ⟨b0, off + k * 2, none⟩) hb0).trans c1
        have d2 := (hbl.cell (p := ⟨b0, off + k * 2 + 1, none⟩) hb0).trans c2
        have d3 := (hbl.cell (p := ⟨b1, off1 + k * 2, none⟩) hb1).trans c3
        have d4 := (hbl.cell (p := ⟨b1, off1 + k * 2 + 1, none⟩) hb1).trans c4
        clear c1 c2 c3 c4 hc hc1
        have heqs := eqSpan
        have heqg := eqGuardSpan
        go_wp2
        go_quiet (fail)
        go_wp2
        · go_ret
          have hne : a[k] ≠ b[k] := by
            intro e; rename_i hor; revert hor; rw [e]; simp
          exact ⟨ret_bool (by symm; rw [beq_eq_false_iff_ne]; intro e; subst e; exact hne rfl), below_drewN hbl _⟩
        · go_roundw
          case rel =>
            have he : a[k] = b[k] := by rename_i hand; simp at hand; exact Prod.ext hand.1 hand.2
            exact ⟨k + 1, by omega, by go_num, by rw [List.take_succ_eq_append_getElem hlt, List.take_succ_eq_append_getElem hltb, HE.out, he], below_drewN hbl _⟩
          case measure => simp [intOf]; omega
      · go_wp2
        go_ret
        have : k = a.length := by omega
        subst this
        exact ⟨ret_bool (by have h := HE.out; rw [List.take_length, HL.out, List.take_length] at h; simp [h]), hbl⟩
  · have H := Lib.hid hlen
    have h' : ((a.length : Int) != b.length) = true := by simp; omega
    clear hlen
    go_wp2
    go_ret
    exact ⟨ret_bool (by symm; simpa using fun h => H.out (by rw [h])), Below.refl _ _⟩
end Go.Proofs.Ytcanefjjpeoikaa
