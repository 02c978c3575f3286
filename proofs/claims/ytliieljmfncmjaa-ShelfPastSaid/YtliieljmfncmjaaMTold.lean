/- Versions as sites would make them: what memory holds while they are made. What the laws' maker of versions does. Written by a small program (gen/told.py). -/
import Derived.Test.YtliieljmfncmjaaMShelfP
import Derived.Test.YtliieljmfncmjaaMShelf13
import Derived.Test.YtliieljmfncmjaaShelf9
import Derived.Test.YtliieljmfncmjaaDots3
import Derived.Test.YtliieljmfncmjaaMDots4
import Derived.Test.YtliieljmfncmjaaMClaims
namespace Go.Proofs.Ytliieljmfncmjaa
open Go.RowKit
def madeC (mk : Nat → Nat) : Array Value := #[.int .i64 (mk 0 : Nat), .int .i64 (mk 1 : Nat), .int .i64 (mk 2 : Nat), .int .i64 (mk 3 : Nat), .int .i64 (mk 4 : Nat)]
theorem madeC_get (mk : Nat → Nat) {s : Nat} (h : s < 5) : (madeC mk)[s]? = some (.int .i64 (mk s : Nat)) := by
  match s, h with
  | 0, _ => rfl
  | 1, _ => rfl
  | 2, _ => rfl
  | 3, _ => rfl
  | 4, _ => rfl
theorem madeC_set (mk : Nat → Nat) {s n : Nat} (h : s < 5) : (madeC mk).setIfInBounds s (.int .i64 (n : Nat)) = madeC (fun j => if j = s then n else mk j) := by
  match s, h with
  | 0, _ => rfl
  | 1, _ => rfl
  | 2, _ => rfl
  | 3, _ => rfl
  | 4, _ => rfl
theorem grown_setRow (w : World) (g : Nat) (cs : Array Value) : w.grownBy (w.setRow g cs) (some g) := ⟨rfl, rfl, rfl, by simp, fun k _ hne => setRow_else fun e => hne (by rw [e])⟩
/-- A write into a block of another type than a shelf's rows. -/
theorem VOwn.other {w w' : World} {base g : Nat} {vv : Value} {l : List Ver} {cs : Array Value} {t : TypeId} {r : Nat × Nat} (h : VOwn w base vv l) (hb : w.grownBy w' (some g)) (hg : w.heap[g]? = some (Obj.cells cs t r)) (h1 : t ≠ 57) (h2 : t ≠ 3) (h3 : t ≠ 49) : VOwn w' base vv l := by
  obtain ⟨css, k1, k2⟩ := h
  exact ⟨css, k1.map fun _ _ _ h => ⟨h.vec.kept hb (.inr (own_off h.vec hg h2)), h.more.kept hb (.inr (own_off h.more hg h3))⟩, k2.kept hb (.inr (own_off k2 hg h1))⟩
structure TSt (w : World) (mk : Nat → Nat) (U : List Ver) (ov : Value) (wr : World) : Prop where
  blk : wr.heap[w.heap.size]? = some (Obj.cells (madeC mk) 153 (0, 0))
  own : VOwn wr (w.heap.size + 1) ov U
  bel : Below w.heap.size w wr
theorem TSt.below {w wr w2 : World} {mk : Nat → Nat} {U : List Ver} {ov : Value} (h : TSt w mk U ov wr) (hb : Below wr.heap.size wr w2) : TSt w mk U ov w2 :=
  ⟨below_keep hb h.blk, h.own.below hb, bstep h.bel hb⟩
theorem TSt.made {w wr : World} {mk : Nat → Nat} {U : List Ver} {ov : Value} (h : TSt w mk U ov wr) {s n : Nat} (hs : s < 5) : TSt w (fun j => if j = s then n else mk j) U ov (wr.setCell ⟨w.heap.size, s, none⟩ (.int .i64 (n : Nat))) :=
  ⟨by rw [heap_set_same h.blk, madeC_set mk hs], h.own.other (grown_set _ _ _ _) h.blk (by decide) (by decide) (by decide), h.bel.setCell (Nat.le_refl _) _⟩
/-- While what a version is over is put together. -/
structure ISt (w : World) (mk : Nat → Nat) (U : List Ver) (ov : Value) (B8 B9 : Nat) (cs : Array Value) (m : Nat → Nat) (wr : World) : Prop where
  t : TSt w mk U ov wr
  v : wr.heap[B8]? = some (Obj.cells cs 57 (0, 0))
  d : wr.heap[B9]? = some (Obj.cells (dotC m) 156 (0, 0))
  ord : w.heap.size < B8 ∧ B8 < B9
  ne : ov.ownBlock ≠ some B8
theorem ISt.below {w wr w2 : World} {mk : Nat → Nat} {U : List Ver} {ov : Value} {B8 B9 : Nat} {cs : Array Value} {m : Nat → Nat} (h : ISt w mk U ov B8 B9 cs m wr) (hb : Below wr.heap.size wr w2) : ISt w mk U ov B8 B9 cs m w2 :=
  ⟨h.t.below hb, below_keep hb h.v, below_keep hb h.d, h.ord, h.ne⟩
theorem ISt.put {w wr : World} {mk : Nat → Nat} {U : List Ver} {ov : Value} {B8 B9 : Nat} {cs : Array Value} {m : Nat → Nat} (m' : Nat → Nat) (h : ISt w mk U ov B8 B9 cs m wr) : ISt w mk U ov B8 B9 cs m' (wr.setRow B9 (dotC m')) := by
  have := h.ord
  exact ⟨⟨(setRow_else (by omega)).trans h.t.blk, h.t.own.other (grown_setRow _ _ _) h.d (by decide) (by decide) (by decide), below_setRow h.t.bel (by omega) _⟩, (setRow_else (by omega)).trans h.v, setRow_heap _ _ _ _ _ _ h.d, h.ord, h.ne⟩
/-- The strings that a version may be called. -/
def sid (i : Nat) : ByteArray := if i = 0 then ⟨#[97]⟩ else ⟨#[98]⟩
def StrLit (w : World) (v : Value) : Prop := ∃ g, v = .slice (some ⟨g, 0, none⟩) 2 2 ∧ w.heap[g]? = some (Obj.cells #[.string ⟨#[97]⟩, .string ⟨#[98]⟩] 9 (0, 0))
theorem StrLit.below {w w' : World} {v : Value} (h : StrLit w v) (hb : Below w.heap.size w w') : StrLit w' v := by
  obtain ⟨g, h1, h2⟩ := h; exact ⟨g, h1, below_keep hb h2⟩
def StrPtr (w : World) (v : Value) (i : Nat) : Prop := ∃ g, v = .pointer (some ⟨g, i, none⟩) ∧ w.heap[g]? = some (Obj.cells #[.string ⟨#[97]⟩, .string ⟨#[98]⟩] 9 (0, 0))
theorem StrPtr.below {w w' : World} {v : Value} {i : Nat} (h : StrPtr w v i) (hb : Below w.heap.size w w') : StrPtr w' v i := by
  obtain ⟨g, h1, h2⟩ := h; exact ⟨g, h1, below_keep hb h2⟩
theorem str_cell {w : World} {g i : Nat} (h : w.heap[g]? = some (Obj.cells #[.string ⟨#[97]⟩, .string ⟨#[98]⟩] 9 (0, 0))) (hi : i < 2) : w.cell? ⟨g, i, none⟩ = some (.string (sid i)) := by
  match i, hi with
  | 0, _ => exact cell_of_block h rfl
  | 1, _ => exact cell_of_block h rfl
def NewV (w : World) (S : Nat) (v : Value) : Prop := ∃ g, v = .pointer (some ⟨g, 0, none⟩) ∧ w.heap[g]? = some (Obj.cells #[.string ByteArray.empty, .int .i64 0, .int .i64 0, .int .i64 0, .int .i64 0, .int .i64 0, .slice none 0 0, .slice none 0 0] 57 (0, 0)) ∧ S ≤ g
theorem NewV.below {w w' : World} {S : Nat} {v : Value} (h : NewV w S v) (hb : Below w.heap.size w w') : NewV w' S v := by
  obtain ⟨g, h1, h2, h3⟩ := h; exact ⟨g, h1, below_keep hb h2, h3⟩
def FullV (w : World) (S : Nat) (v : Value) (cs : Array Value) : Prop := ∃ g, v = .pointer (some ⟨g, 0, none⟩) ∧ w.heap[g]? = some (Obj.cells cs 57 (0, 0)) ∧ S ≤ g
theorem FullV.below {w w' : World} {S : Nat} {v : Value} {cs : Array Value} (h : FullV w S v cs) (hb : Below w.heap.size w w') : FullV w' S v cs := by
  obtain ⟨g, h1, h2, h3⟩ := h; exact ⟨g, h1, below_keep hb h2, h3⟩
def DotsP (v : Value) (p : Nat → Nat → Bool) : Prop := ∃ m, v = .agg (dotC m) ∧ DWord m ∧ Has1 m p
theorem has_or {m m' : Nat → Nat} {p p' : Nat → Nat → Bool} (h : Has1 m p) (h' : Has1 m' p') : Has1 (orD m m') fun s c => p s c || p' s c := fun s c h5 h1 h2 => by rw [memD_or, h s c h5 h1 h2, h' s c h5 h1 h2]
theorem past_snoc (C : List Ver) (v : Ver) {s1 n1 : Nat} (hs : v.ds = s1) (hn : v.dc = n1) (s c : Nat) : pastP (C ++ [v]) (s : Int) (c : Int) = ((pastP C (s : Int) (c : Int) || allP v.past s c) || decide (s = s1 ∧ c = n1)) := by
  have e : decide ((s1 : Int) = (s : Int) ∧ (n1 : Int) = (c : Int)) = decide (s = s1 ∧ c = n1) := by rw [decide_eq_decide]; omega
  unfold pastP
  rw [List.any_append, List.any_cons, List.any_nil, Bool.or_false, hs, hn, e, Bool.or_assoc]
  rfl
/-- The same with one more. -/
def pastN (C : List Ver) (v : Ver) (s1 n1 : Nat) : Nat → Nat → Bool := fun s c => (pastP C (s : Int) (c : Int) || allP v.past s c) || decide (s = s1 ∧ c = n1)
structure IPut (w : World) (mk : Nat → Nat) (U : List Ver) (ov : Value) (B8 B9 : Nat) (cs : Array Value) (p : Nat → Nat → Bool) (wr : World) : Prop where
  ex : ∃ m, DWord m ∧ Has1 m p ∧ ISt w mk U ov B8 B9 cs m wr
theorem IPut.below {w wr w2 : World} {mk : Nat → Nat} {U : List Ver} {ov : Value} {B8 B9 : Nat} {cs : Array Value} {p : Nat → Nat → Bool} (h : IPut w mk U ov B8 B9 cs p wr) (hb : Below wr.heap.size wr w2) : IPut w mk U ov B8 B9 cs p w2 := by
  obtain ⟨m, h1, h2, h3⟩ := h.ex; exact ⟨m, h1, h2, h3.below hb⟩
theorem told_step {U : List Ver} {mk mk2 : Nat → Nat} {s q1 i2 tg nm bd : Nat} {C : List Ver} {m : Nat → Nat} (h : TInv U) (hl : U.length ≤ 20) (hs : s < 5) (htg : tg < 16) (hnm : nm < 32) (hbd : bd < 1000) (hq : q1 = mk s + 1) (hq2 : mk2 s = q1) (hk2 : ∀ j, j ≠ s → mk2 j = mk j)
    (hm1 : ∀ x ∈ U, ∀ s : Nat, x.ds = (s : Int) → x.dc ≤ (mk s : Nat)) (hm2 : ∀ s, mk s ≤ U.length) (hC : ∀ x ∈ C, x ∈ U ∧ x.id = sid i2) (hm : Has1 m (fun s c => pastP C (s : Int) (c : Int))) :
    TInv (U ++ [⟨sid i2, s, q1, tg, nm, bd, formK (predD m)⟩]) ∧ (∀ x ∈ U ++ [(⟨sid i2, s, q1, tg, nm, bd, formK (predD m)⟩ : Ver)], ∀ s : Nat, x.ds = (s : Int) → x.dc ≤ (mk2 s : Nat)) ∧ ∀ s', mk2 s' ≤ (U ++ [(⟨sid i2, s, q1, tg, nm, bd, formK (predD m)⟩ : Ver)]).length := by
  have hms := hm2 s
  refine ⟨h.snoc (C := C) (P := predD m) ?_ ?_ ?_ ?_ ?_ ?_ (by omega) hC ?_ rfl, ?_, ?_⟩
  · show sid i2 = _ ∨ sid i2 = _
    unfold sid; split
    · exact .inl rfl
    · exact .inr rfl
  · exact dotOk_iff.2 ⟨by simp only; omega, by simp only; omega⟩
  · simp only [ptOk, tagsB, Bool.and_eq_true, decide_eq_true_eq]; omega
  · exact ⟨by simp only; omega, by simp only; omega⟩
  · intro x hx e
    have := hm1 x hx s e
    simp only; omega
  · simp only; omega
  · intro a c h0 h5 h1 h1000
    have := hm a.toNat c.toNat (by omega) (by omega) (by omega)
    simp only at this
    rw [show ((a.toNat : Nat) : Int) = a by omega, show ((c.toNat : Nat) : Int) = c by omega] at this
    exact this
  · intro x hx s' e
    rcases List.mem_append.1 hx with hx | hx
    · have := hm1 x hx s' e
      by_cases hss : s' = s
      · subst hss; rw [hq2]; omega
      · rw [hk2 s' hss]; exact this
    · rw [List.mem_singleton] at hx
      subst hx
      simp only at e ⊢
      obtain rfl : s = s' := by omega
      rw [hq2]; omega
  · intro s'
    rw [List.length_append, List.length_singleton]
    by_cases hss : s' = s
    · subst hss; rw [hq2]; omega
    · rw [hk2 s' hss]; have := hm2 s'; omega
end Go.Proofs.Ytliieljmfncmjaa
namespace Go.Proofs.Ytliieljmfncmjaa
open Go.RowKit
set_option maxRecDepth 100000 in
set_option maxHeartbeats 8000000 in
theorem vtold_c (v : Value) (ls : List (List Int)) (w : World) (hv : RowAt vecE w v ls) :
    Calls Try.prog 27 #[v] w fun e w' => ∃ ov U, e = .returned ov ∧ TInv U ∧ U.length ≤ 20 ∧ VOwn w' w.heap.size ov U ∧ Below w.heap.size w w' := by
  obtain ⟨a, cap, rfl, hcap, hlen, ha0, hvl⟩ := hv.open_
  obtain ⟨t, ht⟩ : ∃ t : Nat, t = min ls.length 20 := ⟨_, rfl⟩
  have hmin : min (ls.length : Int) 20 = (t : Int) := by omega
  have ht1 : t ≤ ls.length := by omega
  have ht2 : t ≤ 20 := by omega
  have htc : t ≤ cap := by omega
  obtain ⟨W, hW⟩ : ∃ W, W = w.alloc (.cells #[.int .i64 0, .int .i64 0, .int .i64 0, .int .i64 0, .int .i64 0] 153) := ⟨_, rfl⟩
  have M0 := Lib.hid (show TSt w (fun _ => 0) [] (.slice none 0 0) W from ⟨by rw [hW]; exact alloc_new _ _ _ _ rfl, own_nilV _ _, by rw [hW]; exact bal _⟩)
  have HW := Lib.hid (show ∀ m : Int, (m = 5 ∨ m = 2 ∨ m = 16 ∨ m = 32 ∨ m = 1000) → (1 : Int) ≤ m ∧ m ≤ 9223372036854775807 from fun m h => by omega)
  clear ht hv
  cases a with
  | none =>
    obtain rfl := ha0 rfl
    obtain rfl : t = 0 := by omega
    clear ha0 hvl ht1 ht2 htc hcap hlen HW
    go_enter Try.func27, Try.ntmps27
    go_wp2_with fail
    rw [← hW]
    go_wp2
    go_loopw [3, 18] (fun ov i wr => ov = .slice none 0 0 ∧ i = .int .i64 0 ∧ Below w.heap.size w wr) (fun _ _ _ => 0)
    case atStart => exact ⟨rfl, rfl, M0.out.bel⟩
    case round =>
      obtain ⟨rfl, rfl, hb⟩ := hrel
      clear M0
      go_wp2
      go_ret
      exact ⟨_, [], rfl, TInv.nil, by decide, own_nilV _ _, hb⟩
  | some a0 =>
    clear ha0
    go_enter Try.func27, Try.ntmps27
    go_wp2_with fail
    rw [← hW]
    clear hW
    go_wp2
    go_loopw [3, 18] (fun ov i wr => ∃ (k : Nat) (mk : Nat → Nat) (U : List Ver), i = .int .i64 k ∧ k ≤ t ∧ U.length ≤ k ∧ TInv U ∧ (∀ x ∈ U, ∀ s : Nat, x.ds = (s : Int) → x.dc ≤ (mk s : Nat)) ∧ (∀ s, mk s ≤ U.length) ∧ TSt w mk U ov wr) (fun _ i _ => t - (intOf i).toNat)
    case atStart => exact ⟨0, fun _ => 0, [], rfl, Nat.zero_le _, Nat.zero_le _, TInv.nil, by simp, fun _ => Nat.zero_le _, M0.out⟩
    case round =>
      clear M0 hmin
      obtain ⟨k, mk, U, rfl, hk, hUk, hU, hm1, hm2, hM⟩ := hrel
      have M := Lib.hid hM
      have HU := Lib.hid hU
      have HM1 := Lib.hid hm1
      have HM2 := Lib.hid hm2
      clear hM hU hm1 hm2
      obtain ⟨oa, oc, hoo⟩ : ∃ oa oc, _ = Value.slice oa U.length oc := by
        obtain ⟨css, -, h2⟩ := M.out.own
        exact owns_slice h2
      subst hoo
      by_cases hlt : k < t
      · have hkl : k < ls.length := by omega
        rcases hvl with hnil | ⟨b, off, ha, hb, hc⟩
        · rw [hnil] at hkl; simp at hkl
        simp only [Option.some.injEq] at ha
        subst ha
        obtain ⟨c, ⟨u, rfl, hu⟩, hcc⟩ := hc k hkl
        have c1 : wr.cell? ⟨b, off + k, none⟩ = some u := (M.out.bel.cell (p := ⟨b, off + k, none⟩) hb).trans (by have := hcc 0 u rfl; simpa [vecE] using this)
        clear hc hcc
        generalize ls[k] = l at *
        obtain ⟨ua, uc, rfl, hucap, hum, -, hul⟩ := hu.open_
        clear hu
        by_cases hl3 : l.length < 3
        · have hl3b : decide ((l.length : Int) < 3) = true := by simp; omega
          go_wp2
          go_roundw
          case rel => exact ⟨k + 1, mk, U, by go_num, by omega, by omega, HU.out, HM1.out, HM2.out, M.out⟩
          case measure => simp [intOf] <;> omega
        have hl3b : decide ((l.length : Int) < 3) = false := by simp; omega
        rcases hul with hnil | ⟨b2, off2, rfl, hb2, hc2⟩
        · rw [hnil] at hl3; simp at hl3
        have X0 := Lib.hid ((M.out.bel.cell (p := ⟨b2, off2 + 0, none⟩) hb2).trans (hc2 0 (by omega)))
        have X1 := Lib.hid ((M.out.bel.cell (p := ⟨b2, off2 + 1, none⟩) hb2).trans (hc2 1 (by omega)))
        have X2 := Lib.hid ((M.out.bel.cell (p := ⟨b2, off2 + 2, none⟩) hb2).trans (hc2 2 (by omega)))
        have HB2 := Lib.hid (Nat.lt_of_lt_of_le hb2 M.out.bel.size)
        clear hc2
        generalize l[0] = x0 at *
        generalize l[1] = x1 at *
        generalize l[2] = x2 at *
        rw [Nat.add_zero] at X0
        have hll := hl3b
        obtain ⟨s, hs⟩ : ∃ s, s = wiN x0 5 := ⟨_, rfl⟩
        have hs5 : s < 5 := by rw [hs]; exact wiN_lt x0 5 (by decide)
        have HWS := Lib.hid (fun w2 => (show Calls Try.prog 22 #[.int .i64 x0, .int .i64 5] w2 fun e w' => e = .returned (.int .i64 ((s : Nat) : Int)) ∧ Below w2.heap.size w2 w' by rw [hs]; exact wiN_c x0 5 w2 (by decide) (by decide)))
        have HS := Lib.hid hs
        clear hs
        have cx0 := X0.out
        have hl3' : 0 < l.length := by omega
        go_wp2_with fail
        (with_reducible refine (HWS.out _).mono ?_)
        rintro e w1 ⟨rfl, hb1⟩
        have HB1 := Lib.hid hb1
        replace M := Lib.hid (M.out.below hb1)
        replace X1 := Lib.hid (ckeep hb1 X1.out)
        replace X2 := Lib.hid (ckeep hb1 X2.out)
        clear hb1 X0 cx0 HWS HB1
        have cs := cell_of_block (j := s) M.out.blk (madeC_get mk hs5)
        have fs := free_of_block (j := s) M.out.blk
        have hls := hlt_of M.out.blk
        have hwm : IntKind.i64.wrap ((mk s : Int) + 1) = ((mk s + 1 : Nat) : Int) := by have := HM2.out s; rw [IntKind.wrap_i64]; omega
        have hsb : decide ((s : Int) < 5) = true := by simp; omega
        obtain ⟨i2, hi2⟩ : ∃ i2, i2 = wiN x1 2 := ⟨_, rfl⟩
        have Li2 : i2 < 2 := by rw [hi2]; exact wiN_lt x1 2 (by decide)
        have Hi2 := Lib.hid (fun w2 => (show Calls Try.prog 22 #[.int .i64 x1, .int .i64 2] w2 fun e w' => e = .returned (.int .i64 ((i2 : Nat) : Int)) ∧ Below w2.heap.size w2 w' by rw [hi2]; exact wiN_c x1 2 w2 (by decide) (by decide)))
        clear hi2
        obtain ⟨tg, htg⟩ : ∃ tg, tg = wiN x2 16 := ⟨_, rfl⟩
        have Ltg : tg < 16 := by rw [htg]; exact wiN_lt x2 16 (by decide)
        have Htg := Lib.hid (fun w2 => (show Calls Try.prog 22 #[.int .i64 x2, .int .i64 16] w2 fun e w' => e = .returned (.int .i64 ((tg : Nat) : Int)) ∧ Below w2.heap.size w2 w' by rw [htg]; exact wiN_c x2 16 w2 (by decide) (by decide)))
        clear htg
        obtain ⟨nm, hnm⟩ : ∃ nm, nm = wiN x1 32 := ⟨_, rfl⟩
        have Lnm : nm < 32 := by rw [hnm]; exact wiN_lt x1 32 (by decide)
        have Hnm := Lib.hid (fun w2 => (show Calls Try.prog 22 #[.int .i64 x1, .int .i64 32] w2 fun e w' => e = .returned (.int .i64 ((nm : Nat) : Int)) ∧ Below w2.heap.size w2 w' by rw [hnm]; exact wiN_c x1 32 w2 (by decide) (by decide)))
        clear hnm
        obtain ⟨bd, hbd⟩ : ∃ bd, bd = wiN x2 1000 := ⟨_, rfl⟩
        have Lbd : bd < 1000 := by rw [hbd]; exact wiN_lt x2 1000 (by decide)
        have Hbd := Lib.hid (fun w2 => (show Calls Try.prog 22 #[.int .i64 x2, .int .i64 1000] w2 fun e w' => e = .returned (.int .i64 ((bd : Nat) : Int)) ∧ Below w2.heap.size w2 w' by rw [hbd]; exact wiN_c x2 1000 w2 (by decide) (by decide)))
        clear hbd
        go_wp2_with fail
        obtain ⟨W2, hW2⟩ : ∃ W2, W2 = w1.setCell ⟨w.heap.size, s, none⟩ (.int .i64 ((mk s : Int) + 1)) := ⟨_, rfl⟩
        rw [← hW2]
        obtain ⟨q1, hq1⟩ : ∃ q1, q1 = mk s + 1 := ⟨_, rfl⟩
        obtain ⟨mk2, hmk2⟩ : ∃ mk2 : Nat → Nat, mk2 = fun j => if j = s then q1 else mk j := ⟨_, rfl⟩
        replace M := Lib.hid (show TSt w mk2 U (.slice oa U.length oc) W2 by rw [hW2, hmk2, hq1]; exact M.out.made hs5)
        have HQ1 := Lib.hid hq1
        have HQ2 := Lib.hid (show mk2 s = q1 by rw [hmk2]; simp)
        have HK2 := Lib.hid (show ∀ j, j ≠ s → mk2 j = mk j from fun j hj => by rw [hmk2]; simp [hj])
        have CM := Lib.hid (show W2.cell? ⟨w.heap.size, s, none⟩ = some (.int .i64 (q1 : Nat)) by have h := cell_of_block (j := s) M.out.blk (madeC_get mk2 hs5); rw [HQ2.out] at h; exact h)
        replace X1 := Lib.hid (show W2.cell? ⟨b2, off2 + 1, none⟩ = some (.int .i64 x1) by rw [hW2, cell_set_other (by omega)]; exact X1.out)
        replace X2 := Lib.hid (show W2.cell? ⟨b2, off2 + 2, none⟩ = some (.int .i64 x2) by rw [hW2, cell_set_other (by omega)]; exact X2.out)
        clear hW2 hq1 hmk2 cs fs hls hwm c1
        refine Cl2.region0 103 rfl [27] (fun w => Below W2.heap.size W2 w) (fun jq => match jq with | 0 => [27] | 5 => [27] | 26 => [27] | _ => []) (fun jq v ww => match jq with | 0 => StrLit ww v | 1 => v = .slice (some ⟨b2, off2, none⟩) l.length uc | 2 => v = .pointer (some ⟨b2, off2 + 1, none⟩) | 3 => v = .int .i64 x1 | 4 => v = .int .i64 (i2 : Nat) | 5 => StrPtr ww v i2 | 6 => v = .string (sid i2) | 7 => v = .int .i64 (s : Nat) | 8 => v = .int .i64 (s : Nat) | 9 => v = .pointer (some ⟨w.heap.size, s, none⟩) | 10 => v = .int .i64 (q1 : Nat) | 11 => v = .agg #[.int .i64 (s : Nat), .int .i64 (q1 : Nat)] | 12 => v = .slice (some ⟨b2, off2, none⟩) l.length uc | 13 => v = .pointer (some ⟨b2, off2 + 2, none⟩) | 14 => v = .int .i64 x2 | 15 => v = .int .i64 (tg : Nat) | 16 => v = .slice (some ⟨b2, off2, none⟩) l.length uc | 17 => v = .pointer (some ⟨b2, off2 + 1, none⟩) | 18 => v = .int .i64 x1 | 19 => v = .int .i64 (nm : Nat) | 20 => v = .agg #[.int .i64 (tg : Nat), .int .i64 (nm : Nat)] | 21 => v = .slice (some ⟨b2, off2, none⟩) l.length uc | 22 => v = .pointer (some ⟨b2, off2 + 2, none⟩) | 23 => v = .int .i64 x2 | 24 => v = .int .i64 (bd : Nat) | 25 => v = .agg #[.string (sid i2), .int .i64 (s : Nat), .int .i64 (q1 : Nat), .int .i64 (tg : Nat), .int .i64 (nm : Nat), .int .i64 (bd : Nat), .slice none 0 0, .slice none 0 0] | 26 => NewV ww W2.heap.size v | 27 => FullV ww W2.heap.size v #[.string (sid i2), .int .i64 (s : Nat), .int .i64 (q1 : Nat), .int .i64 (tg : Nat), .int .i64 (nm : Nat), .int .i64 (bd : Nat), .slice none 0 0, .slice none 0 0] | _ => True) (fun ww => Below W2.heap.size W2 ww) (fun jq ww ww' => jq ≠ 27 → Below ww.heap.size ww ww') Try.mixed (by decide +kernel) (Below.refl _ _).drew ((Below.refl _ _).drew) ?_ (fun q w w' hk h hR => bstep h (hR (by simpa using hk))) ?_ ?_
        · intro qq r v w w' hne hk hlt h hR
          match r, hk, hlt, h, hne with
          | 0, hk, _, h, _ => exact StrLit.below h (hR (by simpa using hk))
          | 1, _, _, h, _ => exact h
          | 2, _, _, h, _ => exact h
          | 3, _, _, h, _ => exact h
          | 4, _, _, h, _ => exact h
          | 5, hk, _, h, _ => exact StrPtr.below h (hR (by simpa using hk))
          | 6, _, _, h, _ => exact h
          | 7, _, _, h, _ => exact h
          | 8, _, _, h, _ => exact h
          | 9, _, _, h, _ => exact h
          | 10, _, _, h, _ => exact h
          | 11, _, _, h, _ => exact h
          | 12, _, _, h, _ => exact h
          | 13, _, _, h, _ => exact h
          | 14, _, _, h, _ => exact h
          | 15, _, _, h, _ => exact h
          | 16, _, _, h, _ => exact h
          | 17, _, _, h, _ => exact h
          | 18, _, _, h, _ => exact h
          | 19, _, _, h, _ => exact h
          | 20, _, _, h, _ => exact h
          | 21, _, _, h, _ => exact h
          | 22, _, _, h, _ => exact h
          | 23, _, _, h, _ => exact h
          | 24, _, _, h, _ => exact h
          | 25, _, _, h, _ => exact h
          | 26, hk, _, h, _ => exact NewV.below h (hR (by simpa using hk))
          | 27, _, _, h, hne => exact FullV.below h (hR (by exact hne))
          | _ + 28, _, _, _, _ => trivial
        · refine ⟨?_, ?_, ?_, ?_, ?_, ?_, ?_, ?_, ?_, ?_, ?_, ?_, ?_, ?_, ?_, ?_, ?_, ?_, ?_, ?_, ?_, ?_, ?_, ?_, ?_, ?_, ?_, ?_, trivial⟩
          · intro x wx hG
            have hg := hG.good
            clear hG
            go_wp2
            exact ⟨_, rfl, ⟨_, rfl, alloc_new _ _ _ _ rfl⟩, hg.alloc hg.size _, fun _ => bal _⟩
          · intro x wx hG
            have f6 := hG.old 6 (by decide +kernel)
            have hg := hG.good
            clear hG
            go_wp2
            exact ⟨_, rfl, rfl, hg, fun _ => Below.refl _ _⟩
          · intro x wx hG
            have g1 : (x.tmps.getD 35 undef) = .slice (some ⟨b2, off2, none⟩) l.length uc := hG.claims 1 _ rfl (by decide +kernel) (by decide +kernel)
            have hg := hG.good
            clear hG
            go_wp2
            exact ⟨_, rfl, rfl, hg, fun _ => Below.refl _ _⟩
          · intro x wx hG
            have g2 : (x.tmps.getD 36 undef) = .pointer (some ⟨b2, off2 + 1, none⟩) := hG.claims 2 _ rfl (by decide +kernel) (by decide +kernel)
            have hg := hG.good
            clear hG
            have c_X1 := ckeep hg X1.out
            go_wp2
            exact ⟨_, rfl, rfl, hg, fun _ => Below.refl _ _⟩
          · intro x wx hG
            have g3 : (x.tmps.getD 37 undef) = .int .i64 x1 := hG.claims 3 _ rfl (by decide +kernel) (by decide +kernel)
            have hg := hG.good
            clear hG
            go_wp2_with fail
            (with_reducible refine (Hi2.out _).mono ?_)
            rintro e wq ⟨rfl, hb⟩
            go_wp2
            exact ⟨_, rfl, rfl, bstep hg hb, fun _ => hb⟩
          · intro x wx hG
            have g0 : StrLit wx (x.tmps.getD 34 undef) := hG.claims 0 _ rfl (by decide +kernel) (by decide +kernel)
            have g4 : (x.tmps.getD 38 undef) = .int .i64 (i2 : Nat) := hG.claims 4 _ rfl (by decide +kernel) (by decide +kernel)
            have hg := hG.good
            clear hG
            obtain ⟨gs, hs1, hs2⟩ := g0
            have HS2 := Lib.hid hs2
            clear hs2
            go_wp2
            exact ⟨_, rfl, ⟨_, rfl, HS2.out⟩, hg, fun _ => Below.refl _ _⟩
          · intro x wx hG
            have g5 : StrPtr wx (x.tmps.getD 39 undef) i2 := hG.claims 5 _ rfl (by decide +kernel) (by decide +kernel)
            have hg := hG.good
            clear hG
            obtain ⟨gs, hs1, hs2⟩ := g5
            have cst := str_cell hs2 Li2
            clear hs2
            go_wp2
            exact ⟨_, rfl, rfl, hg, fun _ => Below.refl _ _⟩
          · intro x wx hG
            have f7 := hG.old 7 (by decide +kernel)
            have hg := hG.good
            clear hG
            go_wp2
            exact ⟨_, rfl, rfl, hg, fun _ => Below.refl _ _⟩
          · intro x wx hG
            have f7 := hG.old 7 (by decide +kernel)
            have hg := hG.good
            clear hG
            go_wp2
            exact ⟨_, rfl, rfl, hg, fun _ => Below.refl _ _⟩
          · intro x wx hG
            have f4 := hG.old 4 (by decide +kernel)
            have g8 : (x.tmps.getD 42 undef) = .int .i64 (s : Nat) := hG.claims 8 _ rfl (by decide +kernel) (by decide +kernel)
            have hg := hG.good
            clear hG
            go_wp2
            exact ⟨_, rfl, rfl, hg, fun _ => Below.refl _ _⟩
          · intro x wx hG
            have g9 : (x.tmps.getD 43 undef) = .pointer (some ⟨w.heap.size, s, none⟩) := hG.claims 9 _ rfl (by decide +kernel) (by decide +kernel)
            have hg := hG.good
            clear hG
            have c_CM := ckeep hg CM.out
            go_wp2
            exact ⟨_, rfl, rfl, hg, fun _ => Below.refl _ _⟩
          · intro x wx hG
            have g7 : (x.tmps.getD 41 undef) = .int .i64 (s : Nat) := hG.claims 7 _ rfl (by decide +kernel) (by decide +kernel)
            have g7b := g7
            rw [Array.getD_eq_getD_getElem?] at g7b
            have g10 : (x.tmps.getD 44 undef) = .int .i64 (q1 : Nat) := hG.claims 10 _ rfl (by decide +kernel) (by decide +kernel)
            have g10b := g10
            rw [Array.getD_eq_getD_getElem?] at g10b
            have hg := hG.good
            clear hG
            go_wp2
            exact ⟨_, rfl, rfl, hg, fun _ => Below.refl _ _⟩
          · intro x wx hG
            have f6 := hG.old 6 (by decide +kernel)
            have hg := hG.good
            clear hG
            go_wp2
            exact ⟨_, rfl, rfl, hg, fun _ => Below.refl _ _⟩
          · intro x wx hG
            have g12 : (x.tmps.getD 46 undef) = .slice (some ⟨b2, off2, none⟩) l.length uc := hG.claims 12 _ rfl (by decide +kernel) (by decide +kernel)
            have hg := hG.good
            clear hG
            go_wp2
            exact ⟨_, rfl, rfl, hg, fun _ => Below.refl _ _⟩
          · intro x wx hG
            have g13 : (x.tmps.getD 47 undef) = .pointer (some ⟨b2, off2 + 2, none⟩) := hG.claims 13 _ rfl (by decide +kernel) (by decide +kernel)
            have hg := hG.good
            clear hG
            have c_X2 := ckeep hg X2.out
            go_wp2
            exact ⟨_, rfl, rfl, hg, fun _ => Below.refl _ _⟩
          · intro x wx hG
            have g14 : (x.tmps.getD 48 undef) = .int .i64 x2 := hG.claims 14 _ rfl (by decide +kernel) (by decide +kernel)
            have hg := hG.good
            clear hG
            go_wp2_with fail
            (with_reducible refine (Htg.out _).mono ?_)
            rintro e wq ⟨rfl, hb⟩
            go_wp2
            exact ⟨_, rfl, rfl, bstep hg hb, fun _ => hb⟩
          · intro x wx hG
            have f6 := hG.old 6 (by decide +kernel)
            have hg := hG.good
            clear hG
            go_wp2
            exact ⟨_, rfl, rfl, hg, fun _ => Below.refl _ _⟩
          · intro x wx hG
            have g16 : (x.tmps.getD 50 undef) = .slice (some ⟨b2, off2, none⟩) l.length uc := hG.claims 16 _ rfl (by decide +kernel) (by decide +kernel)
            have hg := hG.good
            clear hG
            go_wp2
            exact ⟨_, rfl, rfl, hg, fun _ => Below.refl _ _⟩
          · intro x wx hG
            have g17 : (x.tmps.getD 51 undef) = .pointer (some ⟨b2, off2 + 1, none⟩) := hG.claims 17 _ rfl (by decide +kernel) (by decide +kernel)
            have hg := hG.good
            clear hG
            have c_X1 := ckeep hg X1.out
            go_wp2
            exact ⟨_, rfl, rfl, hg, fun _ => Below.refl _ _⟩
          · intro x wx hG
            have g18 : (x.tmps.getD 52 undef) = .int .i64 x1 := hG.claims 18 _ rfl (by decide +kernel) (by decide +kernel)
            have hg := hG.good
            clear hG
            go_wp2_with fail
            (with_reducible refine (Hnm.out _).mono ?_)
            rintro e wq ⟨rfl, hb⟩
            go_wp2
            exact ⟨_, rfl, rfl, bstep hg hb, fun _ => hb⟩
          · intro x wx hG
            have g15 : (x.tmps.getD 49 undef) = .int .i64 (tg : Nat) := hG.claims 15 _ rfl (by decide +kernel) (by decide +kernel)
            have g15b := g15
            rw [Array.getD_eq_getD_getElem?] at g15b
            have g19 : (x.tmps.getD 53 undef) = .int .i64 (nm : Nat) := hG.claims 19 _ rfl (by decide +kernel) (by decide +kernel)
            have g19b := g19
            rw [Array.getD_eq_getD_getElem?] at g19b
            have hg := hG.good
            clear hG
            go_wp2
            exact ⟨_, rfl, rfl, hg, fun _ => Below.refl _ _⟩
          · intro x wx hG
            have f6 := hG.old 6 (by decide +kernel)
            have hg := hG.good
            clear hG
            go_wp2
            exact ⟨_, rfl, rfl, hg, fun _ => Below.refl _ _⟩
          · intro x wx hG
            have g21 : (x.tmps.getD 55 undef) = .slice (some ⟨b2, off2, none⟩) l.length uc := hG.claims 21 _ rfl (by decide +kernel) (by decide +kernel)
            have hg := hG.good
            clear hG
            go_wp2
            exact ⟨_, rfl, rfl, hg, fun _ => Below.refl _ _⟩
          · intro x wx hG
            have g22 : (x.tmps.getD 56 undef) = .pointer (some ⟨b2, off2 + 2, none⟩) := hG.claims 22 _ rfl (by decide +kernel) (by decide +kernel)
            have hg := hG.good
            clear hG
            have c_X2 := ckeep hg X2.out
            go_wp2
            exact ⟨_, rfl, rfl, hg, fun _ => Below.refl _ _⟩
          · intro x wx hG
            have g23 : (x.tmps.getD 57 undef) = .int .i64 x2 := hG.claims 23 _ rfl (by decide +kernel) (by decide +kernel)
            have hg := hG.good
            clear hG
            go_wp2_with fail
            (with_reducible refine (Hbd.out _).mono ?_)
            rintro e wq ⟨rfl, hb⟩
            go_wp2
            exact ⟨_, rfl, rfl, bstep hg hb, fun _ => hb⟩
          · intro x wx hG
            have g6 : (x.tmps.getD 40 undef) = .string (sid i2) := hG.claims 6 _ rfl (by decide +kernel) (by decide +kernel)
            have g6b := g6
            rw [Array.getD_eq_getD_getElem?] at g6b
            have g11 : (x.tmps.getD 45 undef) = .agg #[.int .i64 (s : Nat), .int .i64 (q1 : Nat)] := hG.claims 11 _ rfl (by decide +kernel) (by decide +kernel)
            have g11b := g11
            rw [Array.getD_eq_getD_getElem?] at g11b
            have g20 : (x.tmps.getD 54 undef) = .agg #[.int .i64 (tg : Nat), .int .i64 (nm : Nat)] := hG.claims 20 _ rfl (by decide +kernel) (by decide +kernel)
            have g20b := g20
            rw [Array.getD_eq_getD_getElem?] at g20b
            have g24 : (x.tmps.getD 58 undef) = .int .i64 (bd : Nat) := hG.claims 24 _ rfl (by decide +kernel) (by decide +kernel)
            have g24b := g24
            rw [Array.getD_eq_getD_getElem?] at g24b
            have hg := hG.good
            clear hG
            go_wp2
            exact ⟨_, rfl, rfl, hg, fun _ => Below.refl _ _⟩
          · intro x wx hG
            have hg := hG.good
            clear hG
            go_wp2
            exact ⟨_, rfl, ⟨_, rfl, alloc_new _ _ _ _ rfl, hg.size⟩, hg.alloc hg.size _, fun _ => bal _⟩
          · intro x wx hG
            have g26 : NewV wx W2.heap.size (x.tmps.getD 8 undef) := hG.claims 26 _ rfl (by decide +kernel) (by decide +kernel)
            have g25 : (x.tmps.getD 59 undef) = .agg #[.string (sid i2), .int .i64 (s : Nat), .int .i64 (q1 : Nat), .int .i64 (tg : Nat), .int .i64 (nm : Nat), .int .i64 (bd : Nat), .slice none 0 0, .slice none 0 0] := hG.claims 25 _ rfl (by decide +kernel) (by decide +kernel)
            have hg := hG.good
            clear hG
            obtain ⟨g8, hgb, hnil, hgs⟩ := g26
            have HN := Lib.hid hnil
            have HGB := Lib.hid hgb
            have HGS := Lib.hid hgs
            clear hnil hgs
            refine wpList_store_row rfl 57 (.tmp 8) (.tmp 59) rfl g8 #[.string (sid i2), .int .i64 (s : Nat), .int .i64 (q1 : Nat), .int .i64 (tg : Nat), .int .i64 (nm : Nat), .int .i64 (bd : Nat), .slice none 0 0, .slice none 0 0] hgb g25 57 _ HN.out VTy.size rfl (by simp [Value.oneCell']) ?_
            go_wp2
            exact ⟨undef, rfl, ⟨g8, Eq.trans (by kernel_rfl) HGB.out, setRow_heap _ _ _ _ _ _ HN.out, HGS.out⟩, below_setRow hg HGS.out _, fun h => absurd rfl h⟩
        · intro vals w3 hg hF
          obtain ⟨g0, g1, g2, g3, g4, g5, g6, g7, g8, g9, g10, g11, g12, g13, g14, g15, g16, g17, g18, g19, g20, g21, g22, g23, g24, g25, g26, g27, -⟩ := hF
          have e1 : vals 1 = .slice (some ⟨b2, off2, none⟩) l.length uc := g1 rfl
          have e2 : vals 2 = .pointer (some ⟨b2, off2 + 1, none⟩) := g2 rfl
          have e3 : vals 3 = .int .i64 x1 := g3 rfl
          have e4 : vals 4 = .int .i64 (i2 : Nat) := g4 rfl
          have e6 : vals 6 = .string (sid i2) := g6 rfl
          have e7 : vals 7 = .int .i64 (s : Nat) := g7 rfl
          have e8 : vals 8 = .int .i64 (s : Nat) := g8 rfl
          have e9 : vals 9 = .pointer (some ⟨w.heap.size, s, none⟩) := g9 rfl
          have e10 : vals 10 = .int .i64 (q1 : Nat) := g10 rfl
          have e11 : vals 11 = .agg #[.int .i64 (s : Nat), .int .i64 (q1 : Nat)] := g11 rfl
          have e12 : vals 12 = .slice (some ⟨b2, off2, none⟩) l.length uc := g12 rfl
          have e13 : vals 13 = .pointer (some ⟨b2, off2 + 2, none⟩) := g13 rfl
          have e14 : vals 14 = .int .i64 x2 := g14 rfl
          have e15 : vals 15 = .int .i64 (tg : Nat) := g15 rfl
          have e16 : vals 16 = .slice (some ⟨b2, off2, none⟩) l.length uc := g16 rfl
          have e17 : vals 17 = .pointer (some ⟨b2, off2 + 1, none⟩) := g17 rfl
          have e18 : vals 18 = .int .i64 x1 := g18 rfl
          have e19 : vals 19 = .int .i64 (nm : Nat) := g19 rfl
          have e20 : vals 20 = .agg #[.int .i64 (tg : Nat), .int .i64 (nm : Nat)] := g20 rfl
          have e21 : vals 21 = .slice (some ⟨b2, off2, none⟩) l.length uc := g21 rfl
          have e22 : vals 22 = .pointer (some ⟨b2, off2 + 2, none⟩) := g22 rfl
          have e23 : vals 23 = .int .i64 x2 := g23 rfl
          have e24 : vals 24 = .int .i64 (bd : Nat) := g24 rfl
          have e25 : vals 25 = .agg #[.string (sid i2), .int .i64 (s : Nat), .int .i64 (q1 : Nat), .int .i64 (tg : Nat), .int .i64 (nm : Nat), .int .i64 (bd : Nat), .slice none 0 0, .slice none 0 0] := g25 rfl
          have g27 := g27 rfl
          simp only [Cl2.puts, e1, e2, e3, e4, e6, e7, e8, e9, e10, e11, e12, e13, e14, e15, e16, e17, e18, e19, e20, e21, e22, e23, e24, e25]
          clear e1 e2 e3 e4 e6 e7 e8 e9 e10 e11 e12 e13 e14 e15 e16 e17 e18 e19 e20 e21 e22 e23 e24 e25 g0 g1 g2 g3 g4 g5 g6 g7 g8 g9 g10 g11 g12 g13 g14 g15 g16 g17 g18 g19 g20 g21 g22 g23 g24 g25 g26
          go_simp
          obtain ⟨B8, hp8, hv8, hlo8⟩ := g27
          clear g27
          have hpt : vals 26 = .pointer (some ⟨B8, 0, none⟩) := Eq.trans (by kernel_rfl) hp8
          rw [hpt]
          have M3 := Lib.hid (M.out.below hg)
          have HV8 := Lib.hid hv8
          have H8 := Lib.hid (show w.heap.size < B8 by have := hlt_of M.out.blk; omega)
          have HNE := Lib.hid (show (Value.slice oa U.length oc).ownBlock ≠ some B8 by
            intro e
            obtain ⟨css, -, h2⟩ := M.out.own
            have := (h2.lt _ e).2
            omega)
          replace X2 := Lib.hid (ckeep hg X2.out)
          clear hg hp8 hv8 hlo8 hpt M X1 CM Hi2 Htg Hnm Hbd
          obtain ⟨z, hz⟩ : ∃ z, z = dotC fun _ => 0 := ⟨_, rfl⟩
          have hz2 : z = Try.zeroCells156 := by rw [hz, dotC_zero]; rfl
          go_wp2_with fail
          obtain ⟨W4, hW4⟩ : ∃ W4, W4 = w3.alloc (.cells z 156) := ⟨_, rfl⟩
          rw [← hz2, ← hW4]
          obtain ⟨B9, hB9⟩ : ∃ B9, B9 = w3.heap.size := ⟨_, rfl⟩
          rw [← hB9]
          have I0 := Lib.hid (show ISt w mk2 U (.slice oa U.length oc) B8 B9 #[.string (sid i2), .int .i64 (s : Nat), .int .i64 (q1 : Nat), .int .i64 (tg : Nat), .int .i64 (nm : Nat), .int .i64 (bd : Nat), .slice none 0 0, .slice none 0 0] (fun _ => 0) W4 from
            ⟨by rw [hW4]; exact M3.out.below (bal _), by rw [hW4]; exact alloc_keep _ HV8.out, by rw [hW4, hz, hB9]; exact alloc_new _ _ _ _ rfl, ⟨H8.out, by rw [hB9]; exact hlt_of HV8.out⟩, HNE.out⟩)
          replace X2 := Lib.hid (show W4.cell? ⟨b2, off2 + 2, none⟩ = some (.int .i64 x2) by rw [hW4]; exact ckeep (bal _) X2.out)
          have HBB := Lib.hid (show Below w.heap.size w W4 from I0.out.t.bel)
          clear hW4 hz hz2 hB9 M3 HV8 H8 HNE HB2
          have X2W := Lib.hid (show w.cell? ⟨b2, off2 + 2, none⟩ = some (.int .i64 x2) from (HBB.out.cell (p := ⟨b2, off2 + 2, none⟩) hb2).symm.trans X2.out)
          clear X2 HBB
          go_wp2
          go_loopw [62] (fun i w5 => ∃ (q : Nat) (m : Nat → Nat) (C : List Ver), i = .int .i64 q ∧ q ≤ U.length ∧ DWord m ∧ (∀ x ∈ C, x ∈ U ∧ x.id = sid i2) ∧ Has1 m (fun s c => pastP C (s : Int) (c : Int)) ∧ ISt w mk2 U (.slice oa U.length oc) B8 B9 #[.string (sid i2), .int .i64 (s : Nat), .int .i64 (q1 : Nat), .int .i64 (tg : Nat), .int .i64 (nm : Nat), .int .i64 (bd : Nat), .slice none 0 0, .slice none 0 0] m w5) (fun i _ => U.length - (intOf i).toNat)
          case atStart => exact ⟨0, fun _ => 0, [], rfl, Nat.zero_le _, fun _ => by simp, by simp, has_zero, I0.out⟩
          case round =>
            clear I0
            obtain ⟨q, m, C, rfl, hq, hmw, hC, hm, hI⟩ := hrel
            have I := Lib.hid hI
            have HMW := Lib.hid hmw
            have HC := Lib.hid hC
            have HHM := Lib.hid hm
            clear hI hmw hC hm
            by_cases hqt : q < U.length
            · have hrow := I.out.t.own.at_ (shok_bd HU.out.ok) (by omega)
              obtain ⟨a5, cap5, ha5, -, -, -, hul5⟩ := hrow.open_
              simp only [Value.slice.injEq, true_and] at ha5
              obtain ⟨ha5, rfl⟩ := ha5
              rcases hul5 with hnil | ⟨b5, off5, rfl, hb5, hc5⟩
              · rw [hnil] at hqt; simp at hqt
              subst ha5
              obtain ⟨c, ⟨u, x, rfl, hk2⟩, hcc⟩ := hc5 q hqt
              obtain ⟨pa, pc, rfl⟩ := hk2.vec.shape
              obtain ⟨qa, qc, rfl⟩ := hk2.more.shape
              have hcl := fun (i : Nat) (y : Value) (hy : (verC U[q] (.slice pa U[q].past.vec.length pc) (.slice qa U[q].past.more.length qc)).toList[i]? = some y) => row8 (b := b5) (off := off5) (i := q) hcc hy
              have c0 := hcl 0 _ rfl
              have c1 := hcl 1 _ rfl
              have c2 := hcl 2 _ rfl
              have c3 := hcl 3 _ rfl
              have c4 := hcl 4 _ rfl
              have c5 := hcl 5 _ rfl
              have c6 := hcl 6 _ rfl
              have c7 := hcl 7 _ rfl
              rw [Nat.add_zero] at c0
              have HIN := Lib.hid (List.getElem_mem hqt)
              have HVO := Lib.hid (HU.out.ok _ HIN.out)
              obtain ⟨W5, hW5⟩ : ∃ W5, W5 = wr.alloc (.cells (verC U[q] (.slice pa U[q].past.vec.length pc) (.slice qa U[q].past.more.length qc)) 57) := ⟨_, rfl⟩
              have hbx : Below wr.heap.size wr W5 := by rw [hW5]; exact bal _
              obtain ⟨B11, hB11⟩ : ∃ B11, B11 = wr.heap.size := ⟨_, rfl⟩
              have H11 := Lib.hid (show W5.heap[B11]? = some (Obj.cells (verC U[q] (.slice pa U[q].past.vec.length pc) (.slice qa U[q].past.more.length qc)) 57 (0, 0)) by rw [hW5]; exact alloc_new _ _ _ _ hB11)
              have HKU := Lib.hid (hk2.below hbx)
              have I5 := Lib.hid (I.out.below hbx)
              have hx2 := (I.out.t.bel.cell (p := ⟨b2, off2 + 2, none⟩) hb2).trans X2W.out
              have hb2r : b2 < wr.heap.size := Nat.lt_of_lt_of_le hb2 I.out.t.bel.size
              have v0 := cell_of_block (j := 0) I.out.v rfl
              have hv8l := hlt_of I.out.v
              have hids := ids_eq U[q].id (sid i2)
              clear hc5 hcc hcl hk2 hbx hrow I hb5
              generalize hvu : U[q] = v1 at *
              unfold verC at hW5
              have hqb : decide ((q : Int) < (U.length : Int)) = true := by simp; omega
              generalize hdi : decide (v1.id = sid i2) = di at *
              obtain ⟨bb, hbb⟩ : ∃ bb, (bits BinOp.and IntKind.i64 (x2 / 2 ^ (q % 30)) 1 == 1) = bb := ⟨_, rfl⟩
              cases di
              · subst hW5
                clear hbb hdi
                go_wp2
                go_roundw
                case rel => exact ⟨q + 1, m, C, by go_num, by omega, HMW.out, HC.out, HHM.out, I5.out⟩
                case measure => simp [intOf] <;> omega
              cases bb
              · subst hW5
                clear hdi
                go_wp2
                go_roundw
                case rel => exact ⟨q + 1, m, C, by go_num, by omega, HMW.out, HC.out, HHM.out, I5.out⟩
                case measure => simp [intOf] <;> omega
              have HID := Lib.hid (of_decide_eq_true hdi)
              clear hdi
              go_wp2
              rw [← hW5, ← hB11]
              clear hW5 hB11 c0 c1 c2 c3 c4 c5 c6 c7 hx2 hb2r v0 hv8l hids hbb
              obtain ⟨⟨d0, d5⟩, d1, d2⟩ := dotOk_iff.1 HVO.out.dot
              simp only at d0 d5 d1 d2
              obtain ⟨s1, hs1⟩ := Int.eq_ofNat_of_zero_le d0
              obtain ⟨n1, hn1⟩ := Int.eq_ofNat_of_zero_le (show 0 ≤ v1.dc by omega)
              have HS1 := Lib.hid hs1
              have HN1 := Lib.hid hn1
              have hs15 : s1 < 5 := by omega
              have hn11 : n1 < 1024 := by omega
              obtain ⟨e0, e1, e2, e3, e4, e5, e6, e7⟩ := verAt8 H11.out
              rw [hs1] at e1
              rw [hn1] at e2
              have E1 := Lib.hid e1
              have E2 := Lib.hid e2
              have E6 := Lib.hid e6
              have E7 := Lib.hid e7
              have HD := Lib.hid I5.out.d
              have HI := Lib.hid (DotsTy.size m)
              clear e0 e1 e2 e3 e4 e5 e6 e7 d0 d5 d1 d2 hs1 hn1
              obtain ⟨w0, hw0⟩ : ∃ w0, w0 = w := ⟨_, rfl⟩
              rw [← hw0] at I5
              have HW0 := Lib.hid hw0
              clear hw0
              refine Cl.region0 103 rfl [8] (fun ww => Below W5.heap.size W5 ww) (fun _ => []) (fun jq v ww => match jq with | 0 => v = .agg (dotC m) | 1 => v = .pointer (some ⟨B11, 6, none⟩) | 2 => v = .agg #[.slice pa v1.past.vec.length pc, .slice qa v1.past.more.length qc] | 3 => DotsP v (allP v1.past) | 4 => DotsP v (fun s c => pastP C (s : Int) (c : Int) || allP v1.past s c) | 5 => v = .pointer (some ⟨B11, 1, none⟩) | 6 => v = .agg #[.int .i64 (s1 : Nat), .int .i64 (n1 : Nat)] | 7 => DotsP v (pastN C v1 s1 n1) | 8 => IPut w0 mk2 U (.slice (some ⟨b5, off5, none⟩) U.length oc) B8 B9 #[.string (sid i2), .int .i64 (s : Nat), .int .i64 (q1 : Nat), .int .i64 (tg : Nat), .int .i64 (nm : Nat), .int .i64 (bd : Nat), .slice none 0 0, .slice none 0 0] (pastN C v1 s1 n1) ww | _ => True) (fun ww => True) (fun jq ww ww' => jq ≠ 8 → Below ww.heap.size ww ww') Try.mixed (by decide +kernel) trivial ((Below.refl _ _).drew) ?_ (fun jq ww ww' hk h hR => bstep h (hR (by simpa using hk))) ?_ ?_
              · intro qq r v w w' hne hk hlt h hR
                match r, hk, hlt, h, hne with
                | 0, _, _, h, _ => exact h
                | 1, _, _, h, _ => exact h
                | 2, _, _, h, _ => exact h
                | 3, _, _, h, _ => exact h
                | 4, _, _, h, _ => exact h
                | 5, _, _, h, _ => exact h
                | 6, _, _, h, _ => exact h
                | 7, _, _, h, _ => exact h
                | 8, _, _, h, hne => exact IPut.below h (hR (by exact hne))
                | _ + 9, _, _, _, _ => trivial
              · refine ⟨?_, ?_, ?_, ?_, ?_, ?_, ?_, ?_, ?_, trivial⟩
                · intro x wx hG
                  have f9 := hG.old 9 (by decide +kernel)
                  have hp := hG.pre (by decide +kernel)
                  have hg := hG.good
                  clear hG
                  have hg := hp
                  have hd := below_keep hg HD.out
                  have HDX := Lib.hid hd
                  clear hd
                  refine wpList_load_row rfl 156 (.tmp 9) rfl B9 f9 156 (dotC m) (0, 0) _ HDX.out Try.underlying156 rfl HI.out ?_
                  go_wp2
                  exact ⟨_, rfl, rfl, trivial, fun _ => Below.refl _ _⟩
                · intro x wx hG
                  have f11 := hG.old 11 (by decide +kernel)
                  have hp := hG.pre (by decide +kernel)
                  have hg := hG.good
                  clear hG
                  have hg := hp
                  go_wp2
                  exact ⟨_, rfl, rfl, trivial, fun _ => Below.refl _ _⟩
                · intro x wx hG
                  have g1 : (x.tmps.getD 83 undef) = .pointer (some ⟨B11, 6, none⟩) := hG.claims 1 _ rfl (by decide +kernel) (by decide +kernel)
                  have hp := hG.pre (by decide +kernel)
                  have hg := hG.good
                  clear hG
                  have hg := hp
                  have c_E6 := ckeep hg E6.out
                  have c_E7 := ckeep hg E7.out
                  go_wp2
                  exact ⟨_, rfl, rfl, trivial, fun _ => Below.refl _ _⟩
                · intro x wx hG
                  have g2 : (x.tmps.getD 84 undef) = .agg #[.slice pa v1.past.vec.length pc, .slice qa v1.past.more.length qc] := hG.claims 2 _ rfl (by decide +kernel) (by decide +kernel)
                  have hp := hG.pre (by decide +kernel)
                  have hg := hG.good
                  clear hG
                  have hg := hp
                  have hk := HKU.out.below hg
                  have HKX := Lib.hid hk
                  clear hk
                  go_wp2_with fail
                  (with_reducible refine (dall_c _ _ v1.past _ HKX.out HVO.out.past HVO.out.len).mono ?_)
                  rintro e wq ⟨m9, rfl, hm1, hm2, hb⟩
                  have H1 := Lib.hid hm1
                  have H2 := Lib.hid hm2
                  clear hm1 hm2
                  go_wp2
                  exact ⟨_, rfl, ⟨_, rfl, H1.out, H2.out⟩, trivial, fun _ => hb⟩
                · intro x wx hG
                  have g0 : (x.tmps.getD 82 undef) = .agg (dotC m) := hG.claims 0 _ rfl (by decide +kernel) (by decide +kernel)
                  have g3 : DotsP (x.tmps.getD 85 undef) (allP v1.past) := hG.claims 3 _ rfl (by decide +kernel) (by decide +kernel)
                  have hp := hG.pre (by decide +kernel)
                  have hg := hG.good
                  clear hG
                  have hg := hp
                  have g0b := g0
                  rw [Array.getD_eq_getD_getElem?] at g0b
                  obtain ⟨ma, ma0, ma1, ma2⟩ := g3
                  have mab := ma0
                  rw [Array.getD_eq_getD_getElem?] at mab
                  have maH := Lib.hid ma1
                  have maP := Lib.hid ma2
                  clear ma1 ma2
                  go_wp2_with fail
                  (with_reducible refine (djoin_c m ma _ HMW.out maH.out).mono ?_)
                  rintro e wq ⟨rfl, hb⟩
                  go_wp2
                  exact ⟨_, rfl, ⟨_, rfl, orD_word HMW.out maH.out, has_or HHM.out maP.out⟩, trivial, fun _ => hb⟩
                · intro x wx hG
                  have f11 := hG.old 11 (by decide +kernel)
                  have hp := hG.pre (by decide +kernel)
                  have hg := hG.good
                  clear hG
                  have hg := hp
                  go_wp2
                  exact ⟨_, rfl, rfl, trivial, fun _ => Below.refl _ _⟩
                · intro x wx hG
                  have g5 : (x.tmps.getD 87 undef) = .pointer (some ⟨B11, 1, none⟩) := hG.claims 5 _ rfl (by decide +kernel) (by decide +kernel)
                  have g5b := g5
                  rw [Array.getD_eq_getD_getElem?] at g5b
                  have hp := hG.pre (by decide +kernel)
                  have hg := hG.good
                  clear hG
                  have hg := hp
                  have c_E1 := ckeep hg E1.out
                  have c_E2 := ckeep hg E2.out
                  go_wp2
                  exact ⟨_, rfl, rfl, trivial, fun _ => Below.refl _ _⟩
                · intro x wx hG
                  have g4 : DotsP (x.tmps.getD 86 undef) (fun s c => pastP C (s : Int) (c : Int) || allP v1.past s c) := hG.claims 4 _ rfl (by decide +kernel) (by decide +kernel)
                  have g6 : (x.tmps.getD 88 undef) = .agg #[.int .i64 (s1 : Nat), .int .i64 (n1 : Nat)] := hG.claims 6 _ rfl (by decide +kernel) (by decide +kernel)
                  have hp := hG.pre (by decide +kernel)
                  have hg := hG.good
                  clear hG
                  have hg := hp
                  obtain ⟨mj, mj0, mj1, mj2⟩ := g4
                  have mjb := mj0
                  rw [Array.getD_eq_getD_getElem?] at mjb
                  have mjH := Lib.hid mj1
                  have mjP := Lib.hid mj2
                  clear mj1 mj2
                  go_wp2_with fail
                  (with_reducible refine (dwith_c mj s1 n1 _ mjH.out hs15 hn11).mono ?_)
                  rintro e wq ⟨rfl, hb⟩
                  go_wp2
                  exact ⟨_, rfl, ⟨_, rfl, withD_word mjH.out _ _, has_with mjP.out hn11⟩, trivial, fun _ => hb⟩
                · intro x wx hG
                  have f9 := hG.old 9 (by decide +kernel)
                  have g7 : DotsP (x.tmps.getD 89 undef) (pastN C v1 s1 n1) := hG.claims 7 _ rfl (by decide +kernel) (by decide +kernel)
                  have hp := hG.pre (by decide +kernel)
                  have hg := hG.good
                  clear hG
                  have hg := hp
                  have hM := I5.out.below hp
                  have HMX := Lib.hid hM
                  clear hM hp
                  obtain ⟨mw, mw0, mw1, mw2⟩ := g7
                  have HP1 := Lib.hid mw1
                  have HP2 := Lib.hid mw2
                  clear mw1 mw2
                  have HI2 := Lib.hid (DotsTy.size mw)
                  refine wpList_store_row rfl 156 (.tmp 9) (.tmp 89) rfl B9 (dotC mw) f9 mw0 156 (dotC m) HMX.out.d HI2.out (by simp [dotC_size]) (dotC_one _) ?_
                  go_wp2
                  exact ⟨undef, rfl, ⟨⟨mw, HP1.out, HP2.out, HMX.out.put mw⟩⟩, trivial, fun h => absurd rfl h⟩
              · intro vals w6 hg hF
                obtain ⟨g0, g1, g2, g3, g4, g5, g6, g7, g8, -⟩ := hF
                have e0 : vals 0 = .agg (dotC m) := g0 rfl
                have e1 : vals 1 = .pointer (some ⟨B11, 6, none⟩) := g1 rfl
                have e2 : vals 2 = .agg #[.slice pa v1.past.vec.length pc, .slice qa v1.past.more.length qc] := g2 rfl
                have e5 : vals 5 = .pointer (some ⟨B11, 1, none⟩) := g5 rfl
                have e6 : vals 6 = .agg #[.int .i64 (s1 : Nat), .int .i64 (n1 : Nat)] := g6 rfl
                replace g8 : IPut w0 mk2 U (.slice (some ⟨b5, off5, none⟩) U.length oc) B8 B9 #[.string (sid i2), .int .i64 (s : Nat), .int .i64 (q1 : Nat), .int .i64 (tg : Nat), .int .i64 (nm : Nat), .int .i64 (bd : Nat), .slice none 0 0, .slice none 0 0] (pastN C v1 s1 n1) w6 := g8 rfl
                simp only [Cl.puts, e0, e1, e2, e5, e6]
                clear e0 e1 e2 e5 e6 g0 g1 g2 g3 g4 g5 g6 g7
                go_simp
                obtain ⟨m2, hmw2, hmm2, hI2⟩ := g8.ex
                rw [HW0.out] at hI2
                have hC2 : ∀ x ∈ C ++ [v1], x ∈ U ∧ x.id = sid i2 := fun x hx => by
                  rcases List.mem_append.1 hx with hx | hx
                  · exact HC.out x hx
                  · rw [List.mem_singleton] at hx; subst hx; exact ⟨HIN.out, HID.out⟩
                have HC2 := Lib.hid hC2
                have HM22 := Lib.hid (show Has1 m2 (fun s c => pastP (C ++ [v1]) (s : Int) (c : Int)) from fun s c h5 h1 h2 => by rw [hmm2 s c h5 h1 h2]; exact (past_snoc C v1 HS1.out HN1.out s c).symm)
                have HMW2 := Lib.hid hmw2
                have HI2 := Lib.hid hI2
                clear hI2 hmw2 hmm2 hC2 g8 I5 HD HI E1 E2 E6 E7 H11 HKU
                go_wp2
                go_roundw
                case rel => exact ⟨q + 1, m2, C ++ [v1], by go_num, by omega, HMW2.out, HC2.out, HM22.out, HI2.out⟩
                case measure => simp [intOf] <;> omega
            · obtain rfl : q = U.length := by omega
              have hst := told_step HU.out (by omega) hs5 Ltg Lnm Lbd HQ1.out HQ2.out HK2.out HM1.out HM2.out HC.out HHM.out
              have HST := Lib.hid hst
              clear hst
              have HD := Lib.hid I.out.d
              have HI := Lib.hid (DotsTy.size m)
              have HF := Lib.hid (fun w2 => dform_c m w2 HMW.out)
              generalize formK (predD m) = kk at *
              go_wp2_with (with_reducible refine wpList_load_row rfl 156 (.tmp 9) rfl B9 rfl 156 (dotC m) (0, 0) _ HD.out Try.underlying156 rfl HI.out ?_)
              go_wp2_with fail
              (with_reducible refine (HF.out _).mono ?_)
              rintro e w5 ⟨u, x, rfl, ho5, hb5⟩
              have I5 := Lib.hid (I.out.below hb5)
              obtain ⟨ka, kc, hu⟩ := owns_slice ho5.vec
              obtain ⟨kb, kd, hx⟩ := owns_slice ho5.more
              subst hu hx
              have hwsz : w.heap.size + 1 ≤ wr.heap.size := hlt_of I.out.t.blk
              have hko := ho5.mono (base' := w.heap.size + 1) hwsz
              obtain ⟨vn, hvn⟩ : ∃ vn : Ver, vn = ⟨sid i2, s, q1, tg, nm, bd, kk⟩ := ⟨_, rfl⟩
              have hB2 := I5.out.v
              have hne := I5.out.ne
              have hord := I5.out.ord
              have hB3 : ((w5.setCell ⟨B8, 6, none⟩ (.slice ka kk.vec.length kc)).setCell ⟨B8, 7, none⟩ (.slice kb kk.more.length kd)).heap[B8]? = some (Obj.cells (verC vn (.slice ka kk.vec.length kc) (.slice kb kk.more.length kd)) 57 (0, 0)) := by rw [heap_set_same (heap_set_same hB2), hvn]; rfl
              have HO3 := (I5.out.t.own.set1 (j := 6) (y := (.slice ka kk.vec.length kc)) hB2 hne).set1 (j := 7) (y := (.slice kb kk.more.length kd)) (heap_set_same hB2) hne
              have hko3 := (hko.set1 (j := 6) (y := (.slice ka kk.vec.length kc)) hB2).set1 (j := 7) (y := (.slice kb kk.more.length kd)) (heap_set_same hB2)
              have hbl3 := (I5.out.t.bel.setCell (p := ⟨B8, 6, none⟩) (by show w.heap.size ≤ B8; omega) (.slice ka kk.vec.length kc)).setCell (p := ⟨B8, 7, none⟩) (by show w.heap.size ≤ B8; omega) (.slice kb kk.more.length kd)
              have hblk : ((w5.setCell ⟨B8, 6, none⟩ (.slice ka kk.vec.length kc)).setCell ⟨B8, 7, none⟩ (.slice kb kk.more.length kd)).heap[w.heap.size]? = some (Obj.cells (madeC mk2) 153 (0, 0)) := by rw [heap_set_other (by omega), heap_set_other (by omega)]; exact I5.out.t.blk
              have r6 := cell_of_block (j := 6) hB2 rfl
              have r7 := cell_of_block (j := 7) hB2 rfl
              have f6 := free_of_block (j := 6) hB2
              have f7 := free_of_block (j := 7) hB2
              have hRl := hlt_of hB2
              obtain ⟨e0, e1, e2, e3, e4, e5, e6, e7⟩ := verAt8 hB3
              have HKP := Lib.hid (show kk = vn.past by rw [hvn])
              have HROW := Lib.hid (fun j u (hj : ((verC vn (.slice ka kk.vec.length kc) (.slice kb kk.more.length kd)).toList)[j]? = some u) => (show (((w5.setCell ⟨B8, 6, none⟩ (.slice ka kk.vec.length kc)).setCell ⟨B8, 7, none⟩ (.slice kb kk.more.length kd)).alloc (.cells (verC vn (.slice ka kk.vec.length kc) (.slice kb kk.more.length kd)) 57)).cell? ((⟨w5.heap.size, 0, none⟩ : Addr).add j) = some u by
                rw [show (⟨w5.heap.size, 0, none⟩ : Addr).add j = ⟨w5.heap.size, j, none⟩ from by simp [Addr.add]; exact fun h => h.symm, World.cell?_alloc_at _ _ _ _ (by simp)]; simpa using hj))
              have hbz := bal (W := ((w5.setCell ⟨B8, 6, none⟩ (.slice ka kk.vec.length kc)).setCell ⟨B8, 7, none⟩ (.slice kb kk.more.length kd))) (.cells (verC vn (.slice ka kk.vec.length kc) (.slice kb kk.more.length kd)) 57)
              have HO4 := Lib.hid (HO3.below hbz)
              have HK4 := Lib.hid (hko3.below hbz)
              have HB4 := Lib.hid (bstep hbl3 hbz)
              have HBLK := Lib.hid (below_keep hbz hblk)
              have HVN := Lib.hid hvn
              have hsz5 : w.heap.size + 1 ≤ w5.heap.size := Nat.le_trans hwsz hb5.size
              have hsz : w.heap.size + 1 ≤ (((w5.setCell ⟨B8, 6, none⟩ (.slice ka kk.vec.length kc)).setCell ⟨B8, 7, none⟩ (.slice kb kk.more.length kd)).alloc (.cells (verC vn (.slice ka kk.vec.length kc) (.slice kb kk.more.length kd)) 57)).heap.size := Nat.le_trans (by simpa using hsz5) hbz.size
              clear hB2 hne hord hB3 HO3 hko3 hbl3 hblk hvn ho5 hb5 hko I HD HI HF HMW hbz
              obtain ⟨css4, hve4, hrow4⟩ := HO4.out
              have HVE4 := Lib.hid hve4
              have HR4 := Lib.hid hrow4
              have HON := Lib.hid (show ∀ u ∈ (verC vn (.slice ka kk.vec.length kc) (.slice kb kk.more.length kd)).toList, u.oneCell' = true by intro u hu; simp only [verC, List.mem_cons, List.not_mem_nil, or_false] at hu; rcases hu with rfl | rfl | rfl | rfl | rfl | rfl | rfl | rfl <;> rfl)
              clear hve4 hrow4 HO4
              have hk1000 : U.length ≤ 1000 := by omega
              unfold verC at *
              go_wp2_with (at_builtin; refine wpList_append_own' rfl (.tmp 97) (.tmp 99) 29 rfl (w.heap.size + 1) 57 _ 8 104 Try.underlying29 VerTy.info rfl (by decide) _ U.length _ rfl HR4.out _ 1 1 _ rfl rfl HROW.out HON.out (by unfold maxLen; omega) (by omega) hsz ?_)
              intro v' w7 ho hgr _
              obtain ⟨qa, qc, hq⟩ := owns_slice ho
              subst hq
              have hown7 : VOwn w7 (w.heap.size + 1) (.slice qa (U.length + 1) qc) (U ++ [vn]) := ⟨css4 ++ [(verC vn (.slice ka kk.vec.length kc) (.slice kb kk.more.length kd)).toList], VE.snoc (HVE4.out.map fun _ _ _ h => ⟨own_kept2 h.vec HR4.out (by decide) hgr, own_kept2 h.more HR4.out (by decide) hgr⟩) ⟨⟨ka, kk.vec.length, kc, kb, kk.more.length, kd, rfl, (HKP.out ▸ (⟨own_kept2 HK4.out.vec HR4.out (by decide) hgr, own_kept2 HK4.out.more HR4.out (by decide) hgr⟩ : KnOwn w7 (w.heap.size + 1) (.slice ka kk.vec.length kc) (.slice kb kk.more.length kd) kk))⟩, trivial⟩, by rw [List.flatten_append, List.length_append]; simpa [verC] using ho⟩
              have HT7 := Lib.hid (show TSt w mk2 (U ++ [vn]) (.slice qa (U.length + 1) qc) w7 from ⟨grown_keep HR4.out hgr HBLK.out (by decide), hown7, HB4.out.grown hgr HB4.out.size fun k hk => by have := (HR4.out.lt k hk).1; omega⟩)
              obtain ⟨hst1, hst2, hst3⟩ := HST.out
              rw [← HVN.out] at hst1 hst2 hst3
              have HS1 := Lib.hid hst1
              have HS2 := Lib.hid hst2
              have HS3 := Lib.hid hst3
              have hlen : (U ++ [vn]).length ≤ k + 1 := by rw [List.length_append, List.length_singleton]; omega
              clear ho hgr hown7 e0 e1 e2 e3 e4 e5 e6 e7 r6 r7 f6 f7 HR4 HVE4 HROW HON HST hst1 hst2 hst3
              go_wp2
              go_roundw
              case rel => exact ⟨k + 1, mk2, U ++ [vn], by go_num, by omega, hlen, HS1.out, HS2.out, HS3.out, HT7.out⟩
              case measure => simp [intOf] <;> omega
      · obtain rfl : k = t := by omega
        have HO := Lib.hid (M.out.own.mono (Nat.le_succ _))
        have HB := Lib.hid M.out.bel
        go_wp2
        go_ret
        exact ⟨_, U, rfl, HU.out, by omega, HO.out, HB.out⟩
end Go.Proofs.Ytliieljmfncmjaa
