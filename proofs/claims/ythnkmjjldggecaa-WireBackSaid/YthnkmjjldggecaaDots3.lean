/- The laws' sets of dots: what reedkeep.set does. Written by a small program (gen/dots3.py). -/
import Derived.Test.YthnkmjjldggecaaDots2
import Derived.Test.YthnkmjjldggecaaKnow7
import Derived.Test.YthnkmjjldggecaaKnow6
namespace Go.Proofs.Ythnkmjjldggecaa
open Go.RowKit
def wiN (k m : Int) : Nat := (k % 18446744073709551616 % m).toNat
theorem wiN_lt (k : Int) (m : Nat) (hm : 0 < m) : wiN k m < m := by
  have h1 := Int.emod_nonneg (k % 18446744073709551616) (show (m : Int) ≠ 0 by omega)
  have h2 := Int.emod_lt_of_pos (k % 18446744073709551616) (show 0 < (m : Int) by omega)
  unfold wiN
  generalize k % 18446744073709551616 % (m : Int) = z at *
  omega
theorem wiN_eq (k m : Int) (hm : 1 ≤ m) (hm2 : m ≤ 9223372036854775807) : wrap64 ((IntKind.u64.wrap k).tmod m) = (wiN k m : Int) := by
  rw [IntKind.wrap_u64]
  have h0 : 0 ≤ k % 18446744073709551616 := Int.emod_nonneg _ (by decide)
  rw [Int.tmod_eq_emod_of_nonneg h0]
  have h1 := Int.emod_nonneg (k % 18446744073709551616) (show m ≠ 0 by omega)
  have h2 := Int.emod_lt_of_pos (k % 18446744073709551616) (show 0 < m by omega)
  rw [IntWalk.wrap64_in _ (by omega)]
  unfold wiN
  generalize k % 18446744073709551616 % m = z at *
  omega
set_option maxRecDepth 100000 in
theorem wiN_c (k m : Int) (w : World) (hm : 1 ≤ m) (hm2 : m ≤ 9223372036854775807) :
    Calls Try.prog 37 #[.int .i64 k, .int .i64 m] w fun e w' => e = .returned (.int .i64 ((wiN k m : Nat) : Int)) ∧ Below w.heap.size w w' := by
  go_enter Try.func37, Try.ntmps37
  go_wp2
  go_ret
  exact ⟨ret_int (wiN_eq k m hm hm2), Below.refl _ _⟩
/-- The dot that a row of the law's argument names. -/
def rowDot (c : List Int) : Option (Nat × Nat) := match c with | a :: b :: _ => some (wiN a 5, 1 + wiN b 12) | _ => none
def stepM (m : Nat → Nat) (c : List Int) : Nat → Nat := match rowDot c with | some (s, n) => withD m s n | none => m
def setM (ls : List (List Int)) : Nat → Nat := ls.foldl stepM (fun _ => 0)
theorem setM_snoc (ls : List (List Int)) (c : List Int) : setM (ls ++ [c]) = stepM (setM ls) c := by simp [setM]
theorem rowDot_bd {c : List Int} {d : Nat × Nat} (h : rowDot c = some d) : d.1 < 5 ∧ 1 ≤ d.2 ∧ d.2 ≤ 12 := by
  unfold rowDot at h
  split at h
  · rename_i a b t
    have h5 := wiN_lt a 5 (by decide)
    have h12 := wiN_lt b 12 (by decide)
    simp only [Option.some.injEq] at h
    subst h
    simp only at *
    change wiN a 5 < 5 at h5
    change wiN b 12 < 12 at h12
    omega
  · exact absurd h (by simp)
theorem stepM_word {m : Nat → Nat} (h : DWord m) (c : List Int) : DWord (stepM m c) := by
  unfold stepM
  split
  · exact withD_word h _ _
  · exact h
theorem setM_word (ls : List (List Int)) : DWord (setM ls) := by
  refine snoc_ind (p := fun ls => DWord (setM ls)) (fun k => by simp [setM]) ?_ ls
  intro l x ih
  rw [setM_snoc]
  exact stepM_word ih x
/-- The dots of a set of the laws. -/
def setDs (ls : List (List Int)) : List (Nat × Nat) := (ls.take 40).filterMap rowDot
theorem setM_mem (ls : List (List Int)) (s c : Nat) (hc : c < 1024) : memD (setM ls) s c = decide ((s, c) ∈ ls.filterMap rowDot) := by
  refine snoc_ind (p := fun ls => memD (setM ls) s c = decide ((s, c) ∈ ls.filterMap rowDot)) ?_ ?_ ls
  · simp [setM, memD]
  · intro l x ih
    rw [setM_snoc, List.filterMap_append]
    unfold stepM
    cases h : rowDot x with
    | none => dsimp only; rw [ih]; simp [h]
    | some d =>
      obtain ⟨d1, d2, d3⟩ := rowDot_bd h
      obtain ⟨s', c'⟩ := d
      simp only at d1 d2 d3 ⊢
      rw [memD_with _ _ _ _ _ (by omega) hc, ih]
      have e : decide ((s, c) = (s', c')) = decide (rowDot x = some (s, c)) := by rw [h]; rw [decide_eq_decide]; simp only [Option.some.injEq]; exact ⟨fun h => h.symm, fun h => h.symm⟩
      have e2 : decide (s = s' ∧ c = c') = decide ((s, c) = (s', c')) := by rw [decide_eq_decide]; simp
      rw [e2, e]
      simp
def setP (ls : List (List Int)) : DPred := predD (setM (ls.take 40))
theorem setP_mem (ls : List (List Int)) {s c : Int} (_h0 : 0 ≤ s) (h1 : 1 ≤ c) (h2 : c ≤ 1000) : setP ls s c = decide ((s.toNat, c.toNat) ∈ setDs ls) := by
  unfold setP predD setDs
  exact setM_mem _ _ _ (by omega)
structure StSt (m : Nat → Nat) (w wr : World) : Prop where
  o : wr.heap[w.heap.size]? = some (Obj.cells #[.slice none 0 0, .slice none 0 0] 81 (0, 0))
  d : wr.heap[w.heap.size + 1]? = some (Obj.cells (dotC m) 203 (0, 0))
  bel : Below w.heap.size w wr
theorem StSt.below {m : Nat → Nat} {w wr w2 : World} (h : StSt m w wr) (hb : Below wr.heap.size wr w2) : StSt m w w2 :=
  ⟨below_keep hb h.o, below_keep hb h.d, h.bel.trans (hb.mono h.bel.size)⟩
theorem setRow_other {w : World} {g k : Nat} {cs : Array Value} (h : g ≠ k) : (w.setRow g cs).heap[k]? = w.heap[k]? := by
  unfold World.setRow
  simp only
  rw [Array.getElem?_modify, if_neg h]
theorem StSt.put {m m' : Nat → Nat} {w wr : World} (h : StSt m w wr) : StSt m' w (wr.setRow (w.heap.size + 1) (dotC m')) :=
  ⟨(setRow_other (by omega)).trans h.o, setRow_heap _ _ _ _ _ _ h.d, below_setRow h.bel (by omega) _⟩
set_option maxRecDepth 100000 in
set_option maxHeartbeats 4000000 in
theorem set_c (v : Value) (ls : List (List Int)) (w : World) (hv : RowAt vecE w v ls) :
    Calls Try.prog 104 #[v] w fun e w' => ∃ u x, e = .returned (.agg #[u, x]) ∧ KnOwn w' w.heap.size u x (formK (setP ls)) ∧ Below w.heap.size w w' := by
  obtain ⟨a, cap, rfl, hcap, hlen, ha0, hvl⟩ := hv.open_
  obtain ⟨z, hz⟩ : ∃ z, z = dotC (setM []) := ⟨_, rfl⟩
  have hz2 : z = Try.zeroCells203 := by rw [hz, show setM [] = fun _ => 0 from rfl, dotC_zero]; rfl
  obtain ⟨W, hW⟩ : ∃ W, W = (w.alloc (.cells #[.slice none 0 0, .slice none 0 0] 81)).alloc (.cells z 203) := ⟨_, rfl⟩
  have M0 := Lib.hid (show StSt (setM []) w W from ⟨by rw [hW]; exact alloc_keep _ (alloc_new _ _ _ _ rfl), by rw [hW, hz]; exact alloc_new _ _ _ _ (by simp), by rw [hW]; exact (bal _).alloc (by simp) _⟩)
  clear hz hv
  rcases a with - | a0
  · obtain rfl := ha0 rfl
    have hl0 : ls.length = 0 := by omega

    obtain ⟨t, ht⟩ : ∃ t : Nat, t = min ls.length 40 := ⟨_, rfl⟩
    have hmin : min (ls.length : Int) 40 = (t : Int) := by omega
    have ht1 : t ≤ ls.length := by omega
    have ht2 : t ≤ 40 := by omega
    have htc : t ≤ 0 := by omega
    have HTK := Lib.hid (show ls.take t = ls.take 40 by rw [ht]; by_cases h : ls.length ≤ 40; rw [Nat.min_eq_left h, List.take_length, List.take_of_length_le h]; rw [Nat.min_eq_right (by omega)])
    have HW := Lib.hid (show (1 : Int) ≤ 5 ∧ (5 : Int) ≤ 9223372036854775807 ∧ (1 : Int) ≤ 12 ∧ (12 : Int) ≤ 9223372036854775807 from ⟨by decide, by decide, by decide, by decide⟩)
    clear ht
    go_enter Try.func104, Try.ntmps104
    go_wp2_with fail
    rw [← hz2, ← hW]
    clear hW hz2
    go_wp2
    go_loopw [14] (fun i wr => ∃ j : Nat, j ≤ t ∧ i = .int .i64 j ∧ StSt (setM (ls.take j)) w wr) (fun i _ => t - (intOf i).toNat)
    case atStart => exact ⟨0, Nat.zero_le _, rfl, M0.out⟩
    case round =>
      clear M0 hmin
      obtain ⟨j, hj, rfl, hM⟩ := hrel
      have M := Lib.hid hM
      clear hM
      by_cases hlt : j < t
      · exfalso; omega
      · obtain rfl : j = t := by omega
        have HSP := Lib.hid (show setP ls = predD (setM (ls.take j)) by unfold setP; rw [HTK.out])
        have HMW := Lib.hid (setM_word (ls.take j))
        generalize setM (ls.take j) = m at *
        have HD := Lib.hid M.out.d
        have HI := Lib.hid (DotsTy.size m)
        go_wp2_with (with_reducible refine wpList_load_row rfl 203 (.tmp 3) rfl (w.heap.size + 1) rfl 203 (dotC m) (0, 0) _ HD.out Try.underlying203 rfl HI.out ?_)
        go_wp2_with fail
        (with_reducible refine (dform_c m _ HMW.out).mono ?_)
        rintro e w5 ⟨u, x, rfl, ho5, hb5⟩
        have M5 := Lib.hid (M.out.below hb5)
        obtain ⟨ua, uc, hu⟩ := owns_slice ho5.vec
        obtain ⟨xa, xc, hx⟩ := owns_slice ho5.more
        subst hu hx
        have HO5 := Lib.hid (ho5.mono (base' := w.heap.size) (by exact M.out.bel.size))
        have r0 := cell_of_block (j := 0) M5.out.o rfl
        have r1 := cell_of_block (j := 1) M5.out.o rfl
        have f0 := free_of_block (j := 0) M5.out.o
        have f1 := free_of_block (j := 1) M5.out.o
        have hRl := hlt_of M5.out.o
        clear M HD HI ho5 hb5
        go_wp2
        refine bodyPost_ret (v := .agg #[_, _]) (by simp [results, Try.results104, go_sem, *]; exact ⟨rfl, rfl⟩) rfl ?_
        refine ⟨_, _, rfl, ?_, ?_⟩
        · rw [HSP.out]
          exact KnOwn.below ⟨own_set (own_set HO5.out.vec M5.out.o (by decide)) (heap_set_same M5.out.o) (by decide), own_set (own_set HO5.out.more M5.out.o (by decide)) (heap_set_same M5.out.o) (by decide)⟩ (bal _)
        · exact ((M5.out.bel.setCell (by exact Nat.le_refl _) _).setCell (by exact Nat.le_refl _) _).alloc (by simpa using M5.out.bel.size) _
  · skip
    obtain ⟨t, ht⟩ : ∃ t : Nat, t = min ls.length 40 := ⟨_, rfl⟩
    have hmin : min (ls.length : Int) 40 = (t : Int) := by omega
    have ht1 : t ≤ ls.length := by omega
    have ht2 : t ≤ 40 := by omega
    have htc : t ≤ cap := by omega
    have HTK := Lib.hid (show ls.take t = ls.take 40 by rw [ht]; by_cases h : ls.length ≤ 40; rw [Nat.min_eq_left h, List.take_length, List.take_of_length_le h]; rw [Nat.min_eq_right (by omega)])
    have HW := Lib.hid (show (1 : Int) ≤ 5 ∧ (5 : Int) ≤ 9223372036854775807 ∧ (1 : Int) ≤ 12 ∧ (12 : Int) ≤ 9223372036854775807 from ⟨by decide, by decide, by decide, by decide⟩)
    clear ht
    go_enter Try.func104, Try.ntmps104
    go_wp2_with fail
    rw [← hz2, ← hW]
    clear hW hz2
    go_wp2
    go_loopw [14] (fun i wr => ∃ j : Nat, j ≤ t ∧ i = .int .i64 j ∧ StSt (setM (ls.take j)) w wr) (fun i _ => t - (intOf i).toNat)
    case atStart => exact ⟨0, Nat.zero_le _, rfl, M0.out⟩
    case round =>
      clear M0 hmin
      obtain ⟨j, hj, rfl, hM⟩ := hrel
      have M := Lib.hid hM
      clear hM
      by_cases hlt : j < t
      · have hjl : j < ls.length := by omega
        rcases hvl with hnil | ⟨b, off, ha, hb, hc⟩
        · rw [hnil] at hjl; simp at hjl
        simp only [Option.some.injEq] at ha
        subst ha
        obtain ⟨c, ⟨u, rfl, hu⟩, hcc⟩ := hc j hjl
        have c1 : wr.cell? ⟨b, off + j, none⟩ = some u := (M.out.bel.cell (p := ⟨b, off + j, none⟩) hb).trans (by have := hcc 0 u rfl; simpa [vecE] using this)
        have HT := Lib.hid (show setM (ls.take (j + 1)) = stepM (setM (ls.take j)) ls[j] by rw [List.take_succ_eq_append_getElem hjl, setM_snoc])
        have HMW := Lib.hid (setM_word (ls.take j))
        clear hc hcc
        generalize setM (ls.take j) = m at *
        generalize ls[j] = l at *
        obtain ⟨ua, uc, rfl, hucap, hum, -, hul⟩ := hu.open_
        clear hu
        by_cases hl1 : 1 < l.length
        · rcases hul with hnil | ⟨b2, off2, rfl, hb2, hc2⟩
          · rw [hnil] at hl1; simp at hl1
          have X0 := Lib.hid ((M.out.bel.cell (p := ⟨b2, off2 + 0, none⟩) hb2).trans (hc2 0 (by omega)))
          have X1 := Lib.hid ((M.out.bel.cell (p := ⟨b2, off2 + 1, none⟩) hb2).trans (hc2 1 hl1))
          have HB2 := Lib.hid (Nat.lt_of_lt_of_le hb2 M.out.bel.size)
          have HD := Lib.hid M.out.d
          have HRD := Lib.hid (show rowDot l = some (wiN l[0] 5, 1 + wiN l[1] 12) by
            match l, hl1 with
            | a :: b :: r, _ => rfl)
          have hs5 := wiN_lt l[0] 5 (by decide)
          have hn12 := wiN_lt l[1] 12 (by decide)
          change wiN l[0] 5 < 5 at hs5
          change wiN l[1] 12 < 12 at hn12
          have HWA := Lib.hid (fun w2 => wiN_c l[0] 5 w2 HW.out.1 HW.out.2.1)
          have HWB := Lib.hid (fun w2 => wiN_c l[1] 12 w2 HW.out.2.2.1 HW.out.2.2.2)
          clear hc2
          generalize l[0] = x0 at *
          generalize l[1] = x1 at *
          generalize wiN x0 5 = s5 at *
          generalize wiN x1 12 = n12 at *
          have HSM := Lib.hid (show stepM m l = withD m s5 (1 + n12) by unfold stepM; rw [HRD.out])
          have HDW := Lib.hid (fun w2 => (show Calls Try.prog 147 #[.agg (dotC m), .agg #[.int .i64 s5, .int .i64 (1 + (n12 : Int))]] w2 fun e w' => e = .returned (.agg (dotC (withD m s5 (1 + n12)))) ∧ Below w2.heap.size w2 w' from dwith_c m s5 (1 + n12) w2 HMW.out hs5 (by omega)))
          rw [Nat.add_zero] at X0
          have HI := Lib.hid (DotsTy.size m)
          have HI2 := Lib.hid (DotsTy.size (withD m s5 (1 + n12)))
          go_wp2
      
          refine Cl.region0 40 rfl [12] (fun ww => Below wr.heap.size wr ww) (fun _ => []) (fun jq v ww => match jq with | 0 => v = .agg (dotC m) | 1 => v = .slice (some ⟨b2, off2, none⟩) l.length uc | 2 => v = .pointer (some ⟨b2, off2, none⟩) | 3 => v = .int .i64 x0 | 4 => v = .int .i64 (s5 : Nat) | 5 => v = .slice (some ⟨b2, off2, none⟩) l.length uc | 6 => v = .pointer (some ⟨b2, off2 + 1, none⟩) | 7 => v = .int .i64 x1 | 8 => v = .int .i64 (n12 : Nat) | 9 => v = .int .i64 (1 + (n12 : Int)) | 10 => v = .agg #[.int .i64 (s5 : Nat), .int .i64 (1 + (n12 : Int))] | 11 => v = .agg (dotC (withD m s5 (1 + n12))) | 12 => StSt (withD m s5 (1 + n12)) w ww | _ => True) (fun ww => True) (fun jq ww ww' => jq ≠ 12 → Below ww.heap.size ww ww') Try.mixed (by decide +kernel) trivial ((Below.refl _ _).drew) ?_ (fun jq ww ww' hk h hR => bstep h (hR (by simpa using hk))) ?_ ?_
          · intro q r v w w' hne hk hlt h hR
            match r, hk, hlt, h, hne with
            | 0, _, _, h, _ => exact h
            | 1, _, _, h, _ => exact h
            | 2, _, _, h, _ => exact h
            | 3, _, _, h, _ => exact h
            | 4, _, _, h, _ => exact h
            | 5, _, _, h, _ => exact h
            | 6, _, _, h, _ => exact h
            | 7, _, _, h, _ => exact h
            | 8, _, _, h, _ => exact h
            | 9, _, _, h, _ => exact h
            | 10, _, _, h, _ => exact h
            | 11, _, _, h, _ => exact h
            | 12, _, _, h, hne => exact h.below (hR (by exact hne))
            | _ + 13, _, _, _, _ => trivial
          · refine ⟨?_, ?_, ?_, ?_, ?_, ?_, ?_, ?_, ?_, ?_, ?_, ?_, ?_, trivial⟩
            · intro x wx hG
              have f3 := hG.old 3 (by decide +kernel)
              have hp := hG.pre (by decide +kernel)
              have hg := hG.good
              clear hG
              have hg := hp
              have hd := below_keep hg HD.out
              have HDX := Lib.hid hd
              clear hd
              refine wpList_load_row rfl 203 (.tmp 3) rfl (w.heap.size + 1) f3 203 (dotC m) (0, 0) _ HDX.out Try.underlying203 rfl HI.out ?_
              go_wp2
              exact ⟨_, rfl, rfl, trivial, fun _ => Below.refl _ _⟩
            · intro x wx hG
              have f5 := hG.old 5 (by decide +kernel)
              have hp := hG.pre (by decide +kernel)
              have hg := hG.good
              clear hG
              have hg := hp
              go_wp2
              exact ⟨_, rfl, rfl, trivial, fun _ => Below.refl _ _⟩
            · intro x wx hG
              have g1 : (x.tmps.getD 22 undef) = .slice (some ⟨b2, off2, none⟩) l.length uc := hG.claims 1 _ rfl (by decide +kernel) (by decide +kernel)
              have hp := hG.pre (by decide +kernel)
              have hg := hG.good
              clear hG
              have hg := hp
              go_wp2
              exact ⟨_, rfl, rfl, trivial, fun _ => Below.refl _ _⟩
            · intro x wx hG
              have g2 : (x.tmps.getD 23 undef) = .pointer (some ⟨b2, off2, none⟩) := hG.claims 2 _ rfl (by decide +kernel) (by decide +kernel)
              have hp := hG.pre (by decide +kernel)
              have hg := hG.good
              clear hG
              have hg := hp
              have c_X0 := ckeep hg X0.out
              go_wp2
              exact ⟨_, rfl, rfl, trivial, fun _ => Below.refl _ _⟩
            · intro x wx hG
              have g3 : (x.tmps.getD 24 undef) = .int .i64 x0 := hG.claims 3 _ rfl (by decide +kernel) (by decide +kernel)
              have hp := hG.pre (by decide +kernel)
              have hg := hG.good
              clear hG
              have hg := hp
              go_wp2_with fail
              (with_reducible refine (HWA.out _).mono ?_)
              rintro e wq ⟨rfl, hb⟩
              go_wp2
              exact ⟨_, rfl, rfl, trivial, fun _ => hb⟩
            · intro x wx hG
              have f5 := hG.old 5 (by decide +kernel)
              have hp := hG.pre (by decide +kernel)
              have hg := hG.good
              clear hG
              have hg := hp
              go_wp2
              exact ⟨_, rfl, rfl, trivial, fun _ => Below.refl _ _⟩
            · intro x wx hG
              have g5 : (x.tmps.getD 26 undef) = .slice (some ⟨b2, off2, none⟩) l.length uc := hG.claims 5 _ rfl (by decide +kernel) (by decide +kernel)
              have hp := hG.pre (by decide +kernel)
              have hg := hG.good
              clear hG
              have hg := hp
              go_wp2
              exact ⟨_, rfl, rfl, trivial, fun _ => Below.refl _ _⟩
            · intro x wx hG
              have g6 : (x.tmps.getD 27 undef) = .pointer (some ⟨b2, off2 + 1, none⟩) := hG.claims 6 _ rfl (by decide +kernel) (by decide +kernel)
              have hp := hG.pre (by decide +kernel)
              have hg := hG.good
              clear hG
              have hg := hp
              have c_X1 := ckeep hg X1.out
              go_wp2
              exact ⟨_, rfl, rfl, trivial, fun _ => Below.refl _ _⟩
            · intro x wx hG
              have g7 : (x.tmps.getD 28 undef) = .int .i64 x1 := hG.claims 7 _ rfl (by decide +kernel) (by decide +kernel)
              have hp := hG.pre (by decide +kernel)
              have hg := hG.good
              clear hG
              have hg := hp
              go_wp2_with fail
              (with_reducible refine (HWB.out _).mono ?_)
              rintro e wq ⟨rfl, hb⟩
              go_wp2
              exact ⟨_, rfl, rfl, trivial, fun _ => hb⟩
            · intro x wx hG
              have g8 : (x.tmps.getD 29 undef) = .int .i64 (n12 : Nat) := hG.claims 8 _ rfl (by decide +kernel) (by decide +kernel)
              have hp := hG.pre (by decide +kernel)
              have hg := hG.good
              clear hG
              have hg := hp
              go_wp2
              exact ⟨_, rfl, rfl, trivial, fun _ => Below.refl _ _⟩
            · intro x wx hG
              have g4 : (x.tmps.getD 25 undef) = .int .i64 (s5 : Nat) := hG.claims 4 _ rfl (by decide +kernel) (by decide +kernel)
              have g4b := g4
              rw [Array.getD_eq_getD_getElem?] at g4b
              have g9 : (x.tmps.getD 30 undef) = .int .i64 (1 + (n12 : Int)) := hG.claims 9 _ rfl (by decide +kernel) (by decide +kernel)
              have g9b := g9
              rw [Array.getD_eq_getD_getElem?] at g9b
              have hp := hG.pre (by decide +kernel)
              have hg := hG.good
              clear hG
              have hg := hp
              go_wp2
              exact ⟨_, rfl, rfl, trivial, fun _ => Below.refl _ _⟩
            · intro x wx hG
              have g0 : (x.tmps.getD 21 undef) = .agg (dotC m) := hG.claims 0 _ rfl (by decide +kernel) (by decide +kernel)
              have g10 : (x.tmps.getD 31 undef) = .agg #[.int .i64 (s5 : Nat), .int .i64 (1 + (n12 : Int))] := hG.claims 10 _ rfl (by decide +kernel) (by decide +kernel)
              have hp := hG.pre (by decide +kernel)
              have hg := hG.good
              clear hG
              have hg := hp
              go_wp2_with fail
              (with_reducible refine (HDW.out _).mono ?_)
              rintro e wq ⟨rfl, hb⟩
              go_wp2
              exact ⟨_, rfl, rfl, trivial, fun _ => hb⟩
            · intro x wx hG
              have f3 := hG.old 3 (by decide +kernel)
              have g11 : (x.tmps.getD 32 undef) = .agg (dotC (withD m s5 (1 + n12))) := hG.claims 11 _ rfl (by decide +kernel) (by decide +kernel)
              have hp := hG.pre (by decide +kernel)
              have hg := hG.good
              clear hG
              have hg := hp
              have hM := M.out.below hp
              have HMX := Lib.hid hM
              clear hM hp
              refine wpList_store_row rfl 203 (.tmp 3) (.tmp 32) rfl (w.heap.size + 1) (dotC (withD m s5 (1 + n12))) f3 g11 203 (dotC m) HMX.out.d HI2.out (by simp [dotC_size]) (dotC_one _) ?_
              go_wp2
              exact ⟨undef, rfl, HMX.out.put, trivial, fun h => absurd rfl h⟩
          · intro vals w4 hg hF
            obtain ⟨g0, g1, g2, g3, g4, g5, g6, g7, g8, g9, g10, g11, g12, -⟩ := hF
            have e0 : vals 0 = .agg (dotC m) := g0 rfl
            have e1 : vals 1 = .slice (some ⟨b2, off2, none⟩) l.length uc := g1 rfl
            have e2 : vals 2 = .pointer (some ⟨b2, off2, none⟩) := g2 rfl
            have e3 : vals 3 = .int .i64 x0 := g3 rfl
            have e4 : vals 4 = .int .i64 (s5 : Nat) := g4 rfl
            have e5 : vals 5 = .slice (some ⟨b2, off2, none⟩) l.length uc := g5 rfl
            have e6 : vals 6 = .pointer (some ⟨b2, off2 + 1, none⟩) := g6 rfl
            have e7 : vals 7 = .int .i64 x1 := g7 rfl
            have e8 : vals 8 = .int .i64 (n12 : Nat) := g8 rfl
            have e9 : vals 9 = .int .i64 (1 + (n12 : Int)) := g9 rfl
            have e10 : vals 10 = .agg #[.int .i64 (s5 : Nat), .int .i64 (1 + (n12 : Int))] := g10 rfl
            have e11 : vals 11 = .agg (dotC (withD m s5 (1 + n12))) := g11 rfl
            replace g12 : StSt (withD m s5 (1 + n12)) w w4 := g12 rfl
            simp only [Cl.puts, e0, e1, e2, e3, e4, e5, e6, e7, e8, e9, e10, e11]
            clear e0 e1 e2 e3 e4 e5 e6 e7 e8 e9 e10 e11 g0 g1 g2 g3 g4 g5 g6 g7 g8 g9 g10 g11
            go_simp
            have HN := Lib.hid g12
            clear g12
            go_wp2
            go_roundw
            case rel => exact ⟨j + 1, by omega, by go_num, by rw [HT.out, HSM.out]; exact HN.out⟩
            case measure => simp [intOf] <;> omega
        · have HSM := Lib.hid (show stepM m l = m by
            have : rowDot l = none := by
              match l, hl1 with
              | [], _ => rfl
              | [_], _ => rfl
              | _ :: _ :: _, h => simp at h
            unfold stepM; rw [this])
          go_wp2
          go_roundw
          case rel => exact ⟨j + 1, by omega, by go_num, by rw [HT.out, HSM.out]; exact M.out⟩
          case measure => simp [intOf] <;> omega
      · obtain rfl : j = t := by omega
        have HSP := Lib.hid (show setP ls = predD (setM (ls.take j)) by unfold setP; rw [HTK.out])
        have HMW := Lib.hid (setM_word (ls.take j))
        generalize setM (ls.take j) = m at *
        have HD := Lib.hid M.out.d
        have HI := Lib.hid (DotsTy.size m)
        go_wp2_with (with_reducible refine wpList_load_row rfl 203 (.tmp 3) rfl (w.heap.size + 1) rfl 203 (dotC m) (0, 0) _ HD.out Try.underlying203 rfl HI.out ?_)
        go_wp2_with fail
        (with_reducible refine (dform_c m _ HMW.out).mono ?_)
        rintro e w5 ⟨u, x, rfl, ho5, hb5⟩
        have M5 := Lib.hid (M.out.below hb5)
        obtain ⟨ua, uc, hu⟩ := owns_slice ho5.vec
        obtain ⟨xa, xc, hx⟩ := owns_slice ho5.more
        subst hu hx
        have HO5 := Lib.hid (ho5.mono (base' := w.heap.size) (by exact M.out.bel.size))
        have r0 := cell_of_block (j := 0) M5.out.o rfl
        have r1 := cell_of_block (j := 1) M5.out.o rfl
        have f0 := free_of_block (j := 0) M5.out.o
        have f1 := free_of_block (j := 1) M5.out.o
        have hRl := hlt_of M5.out.o
        clear M HD HI ho5 hb5
        go_wp2
        refine bodyPost_ret (v := .agg #[_, _]) (by simp [results, Try.results104, go_sem, *]; exact ⟨rfl, rfl⟩) rfl ?_
        refine ⟨_, _, rfl, ?_, ?_⟩
        · rw [HSP.out]
          exact KnOwn.below ⟨own_set (own_set HO5.out.vec M5.out.o (by decide)) (heap_set_same M5.out.o) (by decide), own_set (own_set HO5.out.more M5.out.o (by decide)) (heap_set_same M5.out.o) (by decide)⟩ (bal _)
        · exact ((M5.out.bel.setCell (by exact Nat.le_refl _) _).setCell (by exact Nat.le_refl _) _).alloc (by simpa using M5.out.bel.size) _
end Go.Proofs.Ythnkmjjldggecaa
