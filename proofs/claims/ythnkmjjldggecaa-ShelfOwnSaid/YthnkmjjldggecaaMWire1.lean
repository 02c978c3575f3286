/- What a writer of bytes does: numbers as three bytes each. What a writer of bytes does: texts, sets of dots. -/
import Derived.Test.YthnkmjjldggecaaMElt
import Derived.Test.YthnkmjjldggecaaMKnow1
import Derived.Lib.AppendStr
namespace Go.Proofs.Ythnkmjjldggecaa
open Go.RowKit
def byteC (out : List UInt8) : List Value := out.map fun b => .int .u8 b.toNat
theorem byteC_len (out : List UInt8) : (byteC out).length = out.length := by simp [byteC]
theorem byteC_app (a b : List UInt8) : byteC (a ++ b) = byteC a ++ byteC b := by simp [byteC]
theorem byteC_str (s : ByteArray) : byteC s.data.toList = Lib.strCells s := rfl
def b3 (n : Int) : List UInt8 := [UInt8.ofNat (n / 65536 % 256).toNat, UInt8.ofNat (n / 256 % 256).toNat, UInt8.ofNat (n % 256).toNat]
def nums (l : List Int) : List UInt8 := l.flatMap b3
theorem nums_len (l : List Int) : (nums l).length = 3 * l.length := by
  induction l with
  | nil => rfl
  | cons a l ih => unfold nums at *; rw [List.flatMap_cons, List.length_append, ih, List.length_cons]; simp [b3]; omega
theorem nums_take {l : List Int} {k : Nat} (h : k < l.length) : nums (l.take (k + 1)) = nums (l.take k) ++ b3 l[k] := by
  unfold nums
  rw [List.take_succ_eq_append_getElem h, List.flatMap_append]; simp
theorem byteC_one (out : List UInt8) : ∀ u ∈ byteC out, u.oneCell' = true := by
  intro u hu; simp only [byteC, List.mem_map] at hu; obtain ⟨b, -, rfl⟩ := hu; rfl
theorem b3_cells (x : Int) : byteC (b3 x) = [.int .u8 (x / 65536 % 256), .int .u8 (x / 256 % 256), .int .u8 (x % 256)] := by
  have h : ∀ y : Int, ((UInt8.ofNat (y % 256).toNat).toNat : Int) = y % 256 := fun y => by
    rw [UInt8.toNat_ofNat']; omega
  unfold byteC b3
  simp only [List.map_cons, List.map_nil, h]
set_option maxRecDepth 100000 in
theorem ByteTy.info : (Try.prog.info? 5).map (fun i => (i.zero, i.size, i.bytes)) = some (some (.int .u8 0), 1, 1) := by kernel_rfl
/-- All that is no writer and no bytes stays. -/
structure WKeep (w w' : World) : Prop where
  size : w.heap.size ≤ w'.heap.size
  blk : ∀ (g : Nat) (cs : Array Value) (t : TypeId) (r : Nat × Nat), w.heap[g]? = some (Obj.cells cs t r) → t ≠ 144 → t ≠ 5 → w'.heap[g]? = some (Obj.cells cs t r)
theorem WKeep.refl (w : World) : WKeep w w := ⟨Nat.le_refl _, fun _ _ _ _ h _ _ => h⟩
theorem WKeep.trans {a b c : World} (h : WKeep a b) (k : WKeep b c) : WKeep a c := ⟨Nat.le_trans h.size k.size, fun g cs t r h1 h2 h3 => k.blk g cs t r (h.blk g cs t r h1 h2 h3) h2 h3⟩
theorem WKeep.of_below {w w' : World} (h : Below w.heap.size w w') : WKeep w w' := ⟨h.size, fun _ _ _ _ h1 _ _ => below_keep h h1⟩
structure WrSt (base B : Nat) (out : List UInt8) (w : World) : Prop where
  hB : base ≤ B
  st : ∃ v, w.heap[B]? = some (Obj.cells #[v] 144 (0, 0)) ∧ w.ownsRow base 5 1 v out.length (byteC out)
theorem WrSt.size {base B : Nat} {out : List UInt8} {w : World} (h : WrSt base B out w) : base ≤ w.heap.size := by
  obtain ⟨v, h1, -⟩ := h.st; exact Nat.le_trans h.hB (Nat.le_of_lt (hlt_of h1))
theorem WrSt.below {base B : Nat} {out : List UInt8} {w w' : World} (h : WrSt base B out w) (hb : Below w.heap.size w w') : WrSt base B out w' := by
  obtain ⟨v, h1, h2⟩ := h.st; exact ⟨h.hB, v, below_keep hb h1, owns_below h2 hb⟩
theorem WrSt.store {base B : Nat} {out out' : List UInt8} {w w' : World} {v v' : Value} (hB : base ≤ B) (h1 : w.heap[B]? = some (Obj.cells #[v] 144 (0, 0))) (h2 : w.ownsRow base 5 1 v out.length (byteC out))
    (h3 : w'.ownsRow base 5 1 v' out'.length (byteC out')) (hg : w.grownBy w' v.ownBlock) : WrSt base B out' (w'.setCell ⟨B, 0, none⟩ v') ∧ Below base w (w'.setCell ⟨B, 0, none⟩ v') ∧ WKeep w (w'.setCell ⟨B, 0, none⟩ v') := by
  have hbs : base ≤ w.heap.size := Nat.le_trans hB (Nat.le_of_lt (hlt_of h1))
  have hB' : w'.heap[B]? = some (Obj.cells #[v] 144 (0, 0)) := grown_keep h2 hg h1 (by decide)
  refine ⟨⟨hB, v', heap_set_same hB', own_set h3 hB' (by decide)⟩, ?_, ?_⟩
  · exact ((Below.refl base w).grown hg hbs fun k hk => (h2.lt k hk).1).setCell hB v'
  · refine ⟨Nat.le_trans hg.size (by simp [World.setCell]), fun g cs t r hk n1 n2 => ?_⟩
    have e1 := grown_keep h2 hg hk n2
    rw [heap_set_other (fun e => ?_)]
    · exact e1
    · subst e; rw [hB'] at e1; simp only [Option.some.injEq, Obj.cells.injEq] at e1; exact n1 e1.2.1.symm
/-- A row that stays to be read while a writer writes. -/
def Stay (base : Nat) (w : World) (v : Value) (n : Nat) (cs : List Value) : Prop := ∀ w', Below base w w' → WKeep w w' → CellsAt w' v n cs
set_option maxRecDepth 100000 in
set_option maxHeartbeats 2000000 in
theorem wnums_c (base B : Nat) (lv : Value) (l : List Int) (out : List UInt8) (w : World) (hs : WrSt base B out w) (hl : Stay base w lv l.length (intsC l)) (hn : out.length + 3 * l.length ≤ 1000000000) :
    Calls Try.prog 87 #[.pointer (some ⟨B, 0, none⟩), lv] w fun e w' => e = .returned (.tuple #[]) ∧ WrSt base B (out ++ nums l) w' ∧ Below base w w' ∧ WKeep w w' := by
  obtain ⟨a, cap, rfl, -⟩ := hl w (Below.refl _ _) (WKeep.refl _)
  have HL := Lib.hid hl
  have HS := Lib.hid hs
  clear hl hs
  go_enter Try.func87, Try.ntmps87
  go_wp2
  go_loopw [8] (fun i wr => ∃ k : Nat, k ≤ l.length ∧ i = .int .i64 k ∧ WrSt base B (out ++ nums (l.take k)) wr ∧ Below base w wr ∧ WKeep w wr) (fun i _ => l.length - (intOf i).toNat)
  case atStart => exact ⟨0, Nat.zero_le _, rfl, by simpa [nums] using HS.out, Below.refl _ _, WKeep.refl _⟩
  case round =>
    clear HS
    obtain ⟨k, hk, rfl, hs, hb, hkp⟩ := hrel
    by_cases hlt : k < l.length
    · have HT := Lib.hid (nums_take hlt)
      have HN := Lib.hid (nums_len (l.take k))
      have hcl := HL.out wr hb hkp
      obtain ⟨a', cap', ha', -, -, -, hc⟩ := hcl
      simp only [Value.slice.injEq, true_and] at ha'
      obtain ⟨ha', rfl⟩ := ha'
      rcases hc with hnil | ⟨b, off, rfl, hbo, hc⟩
      · have := congrArg List.length hnil; simp [intsC] at this; rw [this] at hlt; simp at hlt
      subst ha'
      have c1 := hc k (.int .i64 l[k]) (by simp [intsC, hlt])
      obtain ⟨v, hv, hrow⟩ := hs.st
      have c0 := cell_of_block (j := 0) hv rfl
      have HV := Lib.hid hv
      have HR := Lib.hid hrow
      have HB := Lib.hid hb
      have HK := Lib.hid hkp
      have HS := Lib.hid hs
      clear hc hv hrow hb hkp hs
      generalize l[k] = x at *
      obtain ⟨W, hW⟩ : ∃ W, W = wr.alloc (.cells #[.int .u8 (x / 65536 % 256), .int .u8 (x / 256 % 256), .int .u8 (x % 256)] 5) := ⟨_, rfl⟩
      have hbW : Below wr.heap.size wr W := by rw [hW]; exact bal _
      have HLC := Lib.hid (show CellsAt W (.slice (some ⟨wr.heap.size, 0, none⟩) 3 3) 3 (byteC (b3 x)) by
        rw [hW, b3_cells]
        exact CellsAt.of_owns (litOwn wr 0 1 5 #[.int .u8 (x / 65536 % 256), .int .u8 (x / 256 % 256), .int .u8 (x % 256)] 3 _ rfl (Nat.zero_le _) (by decide) rfl) (by decide))
      have HRW := Lib.hid (owns_below HR.out hbW)
      have HVW := Lib.hid (below_keep hbW HV.out)
      have HSZ := Lib.hid (Nat.le_trans HS.out.size hbW.size)
      have c0W := cell_of_block (j := 0) HVW.out rfl
      have hvl := hlt_of HVW.out
      have HBW := Lib.hid hbW
      rw [hW] at c0W hvl
      have HWW := Lib.hid hW
      clear hbW hW
      go_wp2_with (at_builtin; rw [← HWW.out]; refine wpList_append_cells2 rfl (.tmp 16) (.tmp 25) 69 rfl base 5 (.int .u8 0) 1 1 Try.underlying69 ByteTy.info rfl (by decide) v _ _ rfl HRW.out (.slice (some ⟨wr.heap.size, 0, none⟩) 3 3) 3 (byteC (b3 x)) rfl HLC.out (by rw [byteC_len]; rfl) (byteC_one _) HSZ.out (by unfold maxLen; have := HN.out; rw [List.length_append, this, List.length_take]; omega) (by have := HN.out; rw [List.length_append, this, List.length_take]; omega) ?_)
      intro v' w' hown' hg'
      rw [← byteC_app] at hown'
      obtain ⟨va, vc, rfl⟩ := owns_slice hown'
      have hst := WrSt.store HS.out.hB HVW.out HRW.out (out' := out ++ nums (l.take k) ++ b3 x) (by rw [List.length_append, List.length_append]; exact hown') hg'
      rw [List.append_assoc, ← HT.out] at hst
      have HST := Lib.hid hst
      have hvl2 := hlt_of (grown_keep HRW.out hg' HVW.out (by decide))
      have c0' := cell_of_block (j := 0) (grown_keep HRW.out hg' HVW.out (by decide)) rfl
      have hfz := free_of_block (j := 0) (grown_keep HRW.out hg' HVW.out (by decide))
      clear hst hown' hg' c0W hvl
      go_wp2
      go_roundw
      case rel => exact ⟨k + 1, by omega, by go_num, HST.out.1, (HB.out.trans (HBW.out.mono HS.out.size)).trans HST.out.2.1, (HK.out.trans (WKeep.of_below HBW.out)).trans HST.out.2.2⟩
      case measure => simp [intOf] <;> omega
    · obtain rfl : k = l.length := by omega
      rw [List.take_length] at hs
      go_wp2
      refine bodyPost_end (v := .tuple #[]) ?_ rfl ?_
      · simp [results, Try.results87, go_sem]
      · exact ⟨rfl, hs, hb, hkp⟩
end Go.Proofs.Ythnkmjjldggecaa
namespace Go.Proofs.Ythnkmjjldggecaa
open Go.RowKit
theorem nums_append (a b : List Int) : nums (a ++ b) = nums a ++ nums b := by simp [nums]
theorem Stay.lit (base : Nat) {w : World} {g : Nat} {l : List Int} {cs : Array Value} (h : w.heap[g]? = some (Obj.cells cs 3 (0, 0))) (hc : cs.toList = intsC l) (hl : l.length ≤ 140737488355328) : Stay base w (.slice (some ⟨g, 0, none⟩) l.length l.length) l.length (intsC l) := by
  intro w' _ hk
  have h' := hk.blk g _ _ _ h (by decide) (by decide)
  refine CellsAt.mk (Nat.le_refl _) hl (hlt_of h') fun j x hj => ?_
  rw [Nat.zero_add]
  refine cell_of_block h' ?_
  rw [← hc] at hj
  simpa using hj
theorem Stay.below {base : Nat} {w0 w : World} {v : Value} {n : Nat} {cs : List Value} (h : CellsAt w0 v n cs) (hs : base = w0.heap.size) (hb : Below base w0 w) : Stay base w v n cs := by
  intro w' hb' _
  subst hs
  exact h.below (hb.trans hb')
def StayK (base : Nat) (w : World) (u x : Value) (k : Kn) : Prop := ∀ w', Below base w w' → WKeep w w' → KnAt w' u x k
theorem StayK.below {base : Nat} {w0 w : World} {u x : Value} {k : Kn} (h : KnAt w0 u x k) (hs : base = w0.heap.size) (hb : Below base w0 w) : StayK base w u x k := by
  intro w' hb' _
  subst hs
  exact h.below (hb.trans hb')
def dotI (l : Dots) : List Int := l.flatMap fun d => [d.1, d.2]
theorem dotI_take {l : Dots} {k : Nat} (h : k < l.length) : dotI (l.take (k + 1)) = dotI (l.take k) ++ [l[k].1, l[k].2] := by
  unfold dotI; rw [List.take_succ_eq_append_getElem h, List.flatMap_append]; simp
theorem dotI_len (l : Dots) : (dotI l).length = 2 * l.length := by
  induction l with
  | nil => rfl
  | cons a l ih => unfold dotI at *; rw [List.flatMap_cons, List.length_append, ih, List.length_cons]; simp; omega
def textW (s : ByteArray) : List UInt8 := b3 (s.size : Nat) ++ s.data.toList
def knW (k : Kn) : List UInt8 := nums ([(k.vec.length : Int)] ++ k.vec ++ [(k.more.length : Int)] ++ dotI k.more)
theorem knW_len (k : Kn) : (knW k).length = 6 + 3 * k.vec.length + 6 * k.more.length := by
  unfold knW; rw [nums_len]; simp only [List.length_append, dotI_len, List.length_singleton]; omega
set_option maxRecDepth 100000 in
theorem wnums_lit (base B g n : Nat) (l : List Int) (cs : Array Value) (out : List UInt8) (w : World) (hs : WrSt base B out w) (h : w.heap[g]? = some (Obj.cells cs 3 (0, 0))) (hc : cs.toList = intsC l) (hl : l.length = n) (hn : out.length + 3 * l.length ≤ 1000000000) :
    Calls Try.prog 87 #[.pointer (some ⟨B, 0, none⟩), .slice (some ⟨g, 0, none⟩) n n] w fun e w' => e = .returned (.tuple #[]) ∧ WrSt base B (out ++ nums l) w' ∧ Below base w w' ∧ WKeep w w' := by
  subst hl; exact wnums_c base B _ l out w hs (Stay.lit base h hc (by omega)) hn
set_option maxRecDepth 100000 in
set_option maxHeartbeats 2000000 in
theorem wtext_c (base B : Nat) (s : ByteArray) (out : List UInt8) (w : World) (hs : WrSt base B out w) (hn : out.length + 3 + s.size ≤ 1000000000) :
    Calls Try.prog 88 #[.pointer (some ⟨B, 0, none⟩), .string s] w fun e w' => e = .returned (.tuple #[]) ∧ WrSt base B (out ++ textW s) w' ∧ Below base w w' ∧ WKeep w w' := by
  obtain ⟨W, hW⟩ : ∃ W, W = w.alloc (.cells #[.int .i64 (s.size : Nat)] 3) := ⟨_, rfl⟩
  have hbW : Below w.heap.size w W := by rw [hW]; exact bal _
  have HC := Lib.hid (wnums_lit base B w.heap.size 1 [(s.size : Int)] #[.int .i64 (s.size : Nat)] out W (hs.below hbW) (by rw [hW]; exact alloc_new _ _ _ _ rfl) rfl rfl (by simp; omega))
  have HB := Lib.hid (show Below base w W from hbW.mono hs.size)
  have HK := Lib.hid (WKeep.of_below hbW)
  have HZ := Lib.hid hs.size
  have hsz : s.size ≤ 1000000000 := by omega
  clear hbW hs
  go_enter Try.func88, Try.ntmps88
  go_wp2_with fail
  rw [← hW]
  clear hW
  (with_reducible refine (HC.out).mono ?_)
  rintro e w1 ⟨rfl, hs1, hb1, hk1⟩
  obtain ⟨v, hv, hrow⟩ := hs1.st
  have c0 := cell_of_block (j := 0) hv rfl
  have HV := Lib.hid hv
  have HR := Lib.hid hrow
  have HS := Lib.hid hs1
  have HB1 := Lib.hid (HB.out.trans hb1)
  have HK1 := Lib.hid (HK.out.trans hk1)
  have HL := Lib.hid (show (out ++ nums [(s.size : Int)]).length = out.length + 3 by rw [List.length_append, nums_len]; simp)
  obtain ⟨i0, hi, hz0, hz1, hz2⟩ := info_parts ByteTy.info
  have HI := Lib.hid hi
  have HI0 := Lib.hid hz0
  have HI1 := Lib.hid hz1
  have HI2 := Lib.hid hz2
  have hvl := hlt_of hv
  clear HC hb1 hk1 hs1 hv hrow hi hz0 hz1 hz2 HB HK
  go_wp2_with (at_builtin; refine Lib.wpList_append_own_string (w := w1) rfl (.tmp 13) (.tmp 14) 69 9 rfl base 5 i0 Try.underlying69 Try.underlying9 HI.out HI0.out HI1.out HI2.out v _ _ rfl HR.out s rfl (by rw [HL.out]; unfold maxLen; omega) (by rw [HL.out]; omega) HS.out.size ?_)
  intro v' w' hown' hg' _
  rw [← byteC_str, ← byteC_app] at hown'
  obtain ⟨va, vc, rfl⟩ := owns_slice hown'
  have hst := WrSt.store HS.out.hB HV.out HR.out (out' := out ++ nums [(s.size : Int)] ++ s.data.toList) (by rw [List.length_append, List.length_append, Array.length_toList]; exact hown') hg'
  have HST := Lib.hid hst
  have hvl2 := hlt_of (grown_keep HR.out hg' HV.out (by decide))
  have c0' := cell_of_block (j := 0) (grown_keep HR.out hg' HV.out (by decide)) rfl
  have hfz := free_of_block (j := 0) (grown_keep HR.out hg' HV.out (by decide))
  clear hst hown' hg' c0 hvl
  go_wp2
  refine bodyPost_end (v := .tuple #[]) ?_ rfl ?_
  · simp [results, Try.results88, go_sem]
  · refine ⟨rfl, ?_, HB1.out.trans HST.out.2.1, HK1.out.trans HST.out.2.2⟩
    have := HST.out.1
    rw [List.append_assoc] at this
    exact this
set_option maxRecDepth 100000 in
set_option maxHeartbeats 4000000 in
theorem wknow_c (base B : Nat) (u x : Value) (k : Kn) (out : List UInt8) (w : World) (hs : WrSt base B out w) (hk : StayK base w u x k) (hn : out.length + 6 + 3 * k.vec.length + 6 * k.more.length ≤ 1000000000) :
    Calls Try.prog 89 #[.pointer (some ⟨B, 0, none⟩), .agg #[u, x]] w fun e w' => e = .returned (.tuple #[]) ∧ WrSt base B (out ++ knW k) w' ∧ Below base w w' ∧ WKeep w w' := by
  have hka := hk w (Below.refl _ _) (WKeep.refl _)
  obtain ⟨ua, uc, rfl⟩ := hka.vec.shape
  obtain ⟨xa, xc, rfl⟩ := hka.more.shape
  obtain ⟨BK, hBK⟩ : ∃ BK, BK = w.heap.size := ⟨_, rfl⟩
  obtain ⟨W, hW⟩ : ∃ W, W = w.alloc (.cells #[.slice ua k.vec.length uc, .slice xa k.more.length xc] 81) := ⟨_, rfl⟩
  have hbW : Below w.heap.size w W := by rw [hW]; exact bal _
  have HKB := Lib.hid (show W.heap[BK]? = some (Obj.cells #[.slice ua k.vec.length uc, .slice xa k.more.length xc] 81 (0, 0)) by rw [hW]; exact alloc_new _ _ _ _ hBK)
  have HS := Lib.hid (hs.below hbW)
  have HB := Lib.hid (show Below base w W from hbW.mono hs.size)
  have HK := Lib.hid (WKeep.of_below hbW)
  have HZ := Lib.hid hs.size
  have HSK := Lib.hid hk
  have hl1 : k.vec.length ≤ 1000000000 := by omega
  have hl2 : k.more.length ≤ 1000000000 := by omega
  clear hbW hs hk hka
  go_enter Try.func89, Try.ntmps89
  have c0 := cell_of_block (j := 0) HKB.out rfl
  obtain ⟨W1, hW1⟩ : ∃ W1, W1 = W.alloc (.cells #[.int .i64 (k.vec.length : Nat)] 3) := ⟨_, rfl⟩
  have hbW1 : Below W.heap.size W W1 := by rw [hW1]; exact bal _
  have HC := Lib.hid (wnums_lit base B (BK + 1) 1 [(k.vec.length : Int)] #[.int .i64 (k.vec.length : Nat)] out W1 (HS.out.below hbW1) (by rw [hW1]; exact alloc_new _ _ _ _ (by rw [hW, hBK]; simp)) rfl rfl (by simp; omega))
  have HB1 := Lib.hid (HB.out.trans (hbW1.mono HS.out.size))
  have HK1 := Lib.hid (HK.out.trans (WKeep.of_below hbW1))
  have HKB1 := Lib.hid (below_keep hbW1 HKB.out)
  clear hbW1 HKB HS HB HK
  go_wp2_with fail
  rw [← hBK, ← hW, ← hW1]
  clear hBK
  (with_reducible refine (HC.out).mono ?_)
  rintro e w1 ⟨rfl, hs1, hb1, hk1⟩
  have HS1 := Lib.hid hs1
  have HB2 := Lib.hid (HB1.out.trans hb1)
  have HK2 := Lib.hid (HK1.out.trans hk1)
  have HKB2 := Lib.hid (hk1.blk _ _ _ _ HKB1.out (by decide) (by decide))
  clear c0 HC hs1 hb1 hk1 HB1 HK1 HKB1 hW1
  clear hW
  have c0 := cell_of_block (j := 0) HKB2.out rfl
  have HC := Lib.hid (wnums_c base B (.slice ua k.vec.length uc) k.vec (out ++ nums [(k.vec.length : Int)]) w1 HS1.out (fun w' hb' hk' => (HSK.out w' (HB2.out.trans hb') (HK2.out.trans hk')).vec) (by rw [List.length_append, nums_len]; simp; omega))
  go_wp2_with fail
  (with_reducible refine (HC.out).mono ?_)
  rintro e w2 ⟨rfl, hs1, hb1, hk1⟩
  have HS3 := Lib.hid hs1
  have HB3 := Lib.hid (HB2.out.trans hb1)
  have HK3 := Lib.hid (HK2.out.trans hk1)
  have HKB3 := Lib.hid (hk1.blk _ _ _ _ HKB2.out (by decide) (by decide))
  clear c0 HC hs1 hb1 hk1 HB2 HK2 HKB2 HS1
  have c1 := cell_of_block (j := 1) HKB3.out rfl
  obtain ⟨W3, hW3⟩ : ∃ W3, W3 = w2.alloc (.cells #[.int .i64 (k.more.length : Nat)] 3) := ⟨_, rfl⟩
  have hbW3 : Below w2.heap.size w2 W3 := by rw [hW3]; exact bal _
  have HC := Lib.hid (wnums_lit base B w2.heap.size 1 [(k.more.length : Int)] #[.int .i64 (k.more.length : Nat)] _ W3 (HS3.out.below hbW3) (by rw [hW3]; exact alloc_new _ _ _ _ rfl) rfl rfl (by rw [List.length_append, List.length_append, nums_len, nums_len]; simp; omega))
  have HB4 := Lib.hid (HB3.out.trans (hbW3.mono HS3.out.size))
  have HK4 := Lib.hid (HK3.out.trans (WKeep.of_below hbW3))
  have HKB4 := Lib.hid (below_keep hbW3 HKB3.out)
  clear hbW3 HS3 HB3 HK3 HKB3
  go_wp2_with fail
  rw [← hW3]
  (with_reducible refine (HC.out).mono ?_)
  rintro e w3 ⟨rfl, hs1, hb1, hk1⟩
  obtain ⟨pre, hpre⟩ : ∃ pre, pre = out ++ nums [(k.vec.length : Int)] ++ nums k.vec ++ nums [(k.more.length : Int)] := ⟨_, rfl⟩
  have hpl : pre.length = out.length + 6 + 3 * k.vec.length := by rw [hpre, List.length_append, List.length_append, List.length_append, nums_len, nums_len, nums_len]; simp; omega
  have HPRE := Lib.hid (show pre ++ nums (dotI k.more) = out ++ knW k by unfold knW; rw [hpre, nums_append, nums_append, nums_append]; simp only [List.append_assoc])
  rw [← hpre] at hs1
  clear hpre
  have HS5 := Lib.hid hs1
  have HB5 := Lib.hid (HB4.out.trans hb1)
  have HK5 := Lib.hid (HK4.out.trans hk1)
  have HKB5 := Lib.hid (hk1.blk _ _ _ _ HKB4.out (by decide) (by decide))
  clear c1 HC hs1 hb1 hk1 HB4 HK4 HKB4 hW3
  have c1 := cell_of_block (j := 1) HKB5.out rfl
  go_wp2
  go_loopw [25] (fun i wr => ∃ n : Nat, n ≤ k.more.length ∧ i = .int .i64 n ∧ WrSt base B (pre ++ nums (dotI (k.more.take n))) wr ∧ Below base w wr ∧ WKeep w wr) (fun i _ => k.more.length - (intOf i).toNat)
  case atStart => exact ⟨0, Nat.zero_le _, rfl, by rw [List.take_zero]; simpa [dotI, nums] using HS5.out, HB5.out, HK5.out⟩
  case round =>
    clear HS5 HB5 HK5 HKB5 c1
    obtain ⟨n, hn1, rfl, hs, hb, hkp⟩ := hrel
    by_cases hlt : n < k.more.length
    · have HT := Lib.hid (dotI_take hlt)
      have HN := Lib.hid (show (dotI (k.more.take n)).length = 2 * n by rw [dotI_len, List.length_take]; omega)
      obtain ⟨a', cap', ha', -, -, -, hc⟩ := (HSK.out wr hb hkp).more.open_
      simp only [Value.slice.injEq, true_and] at ha'
      obtain ⟨ha', rfl⟩ := ha'
      rcases hc with hnil | ⟨b, off, rfl, hbo, hc⟩
      · rw [hnil] at hlt; simp at hlt
      subst ha'
      obtain ⟨d1, d2⟩ := hc n hlt
      have HS := Lib.hid hs
      have HB := Lib.hid hb
      have HK := Lib.hid hkp
      clear hc hs hb hkp
      generalize k.more[n] = d at *
      obtain ⟨W1, hW1⟩ : ∃ W1, W1 = (wr.alloc (.cells #[.int .i64 d.1, .int .i64 d.2] 92)).alloc (.cells #[.int .i64 d.1, .int .i64 d.2] 3) := ⟨_, rfl⟩
      have hbW1 : Below wr.heap.size wr W1 := by rw [hW1]; exact (bal _).alloc (by simp) _
      have HC := Lib.hid (wnums_lit base B (wr.heap.size + 1) 2 [d.1, d.2] #[.int .i64 d.1, .int .i64 d.2] _ W1 (HS.out.below hbW1) (by rw [hW1]; exact alloc_new _ _ _ _ (by simp)) rfl rfl (by rw [List.length_append, nums_len, HN.out, hpl]; simp; omega))
      have HB1 := Lib.hid (HB.out.trans (hbW1.mono HS.out.size))
      have HK1 := Lib.hid (HK.out.trans (WKeep.of_below hbW1))
      have HWW := Lib.hid hW1
      clear hbW1 HS HB HK hW1
      go_wp2_with fail
      rw [← HWW.out]
      (with_reducible refine (HC.out).mono ?_)
      rintro e w4 ⟨rfl, hs1, hb1, hk1⟩
      rw [List.append_assoc, ← nums_append, ← HT.out] at hs1
      have HS6 := Lib.hid hs1
      have HB6 := Lib.hid (HB1.out.trans hb1)
      have HK6 := Lib.hid (HK1.out.trans hk1)
      clear HC hs1 hb1 hk1 HB1 HK1 HWW d1 d2
      go_wp2
      go_roundw
      case rel => exact ⟨n + 1, by omega, by go_num, HS6.out, HB6.out, HK6.out⟩
      case measure => simp [intOf] <;> omega
    · obtain rfl : n = k.more.length := by omega
      rw [List.take_length, HPRE.out] at hs
      go_wp2
      refine bodyPost_end (v := .tuple #[]) ?_ rfl ?_
      · simp [results, Try.results89, go_sem]
      · exact ⟨rfl, hs, hb, hkp⟩
end Go.Proofs.Ythnkmjjldggecaa
