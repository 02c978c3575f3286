/- What filter.Check and filter.tabled do. -/
import Derived.Test.YtcanefjjpeoikaaChecked
import Derived.Test.YtcanefjjpeoikaaFilterPure
import Derived.Test.YtcanefjjpeoikaaClaims
import Derived.Deep.QuietTactic
import Derived.BigQuiet
namespace Go.Proofs.Ytcanefjjpeoikaa
open Go.RowKit

set_option maxRecDepth 100000 in
set_option maxHeartbeats 1000000 in
theorem fChk_c (v : Value) (l : Bxs) (w : World) (hs : BxsAt w v l) :
    Calls Try.prog 22 #[v] w fun e w' => e = .returned (.int .i64 (fChk l)) ∧ Below w.heap.size w w' := by
  have HBX := Lib.hid hs
  obtain ⟨a, cap, rfl, hcap, hm, -, hl⟩ := hs.open_
  clear hs
  by_cases h40 : 40 < l.length
  · have H := Lib.hid (show fChk l = 2 by simp [fChk, h40])
    clear hl
    go_enter Try.func22, Try.ntmps22
    go_wp2
    go_ret
    exact ⟨ret_int H.out.symm, Below.refl _ _⟩
  have HF := Lib.hid (show fChk l = bxsFrom (l.drop 0) by rw [fChk, if_neg h40]; rfl)
  go_enter Try.func22, Try.ntmps22
  go_wp2
  go_loopw [12] (fun i wr => ∃ k : Nat, k ≤ l.length ∧ i = .int .i64 k ∧ fChk l = bxsFrom (l.drop k) ∧ Below w.heap.size w wr) (fun i _ => l.length - (intOf i).toNat)
  case atStart => exact ⟨0, Nat.zero_le _, rfl, HF.out, Below.refl _ _⟩
  case round =>
    obtain ⟨k, hk, rfl, hno, hbl⟩ := hrel
    have HN := Lib.hid hno
    clear hno HF
    by_cases hlt : k < l.length
    · rcases hl with rfl | ⟨b, off, rfl, hb, hc⟩
      · simp at hlt
      obtain ⟨u, d1, d2, d3, hsp⟩ := hc k hlt
      replace d1 := (hbl.cell (p := ⟨b, off + k * 3, none⟩) hb).trans d1
      replace d2 := (hbl.cell (p := ⟨b, off + k * 3 + 1, none⟩) hb).trans d2
      replace d3 := (hbl.cell (p := ⟨b, off + k * 3 + 2, none⟩) hb).trans d3
      have HOK := Lib.hid (fun h => HN.out.trans (bxsFrom_ok l k hlt h))
      have HBAD := Lib.hid (fun h => HN.out.trans (bxsFrom_bad l k hlt h))
      obtain ⟨ua, uc, rfl⟩ := hsp.shape
      replace hsp := hsp.below hbl
      clear hc
      generalize hx : l[k] = bx at *
      obtain ⟨y, n, sp⟩ := bx
      simp only at d1 d2 d3 hsp
      clear hx
      have HC := Lib.hid (fun (w1 : World) (h : Below (wr.alloc (.cells #[.int .i64 y, .int .i64 n, .slice ua sp.length uc] 52)).heap.size (wr.alloc (.cells #[.int .i64 y, .int .i64 n, .slice ua sp.length uc] 52)) w1) =>
        (show w1.cell? ⟨wr.heap.size, 2, none⟩ = some (.slice ua sp.length uc) ∧ Below w.heap.size w w1 ∧ SpansAt w1 (.slice ua sp.length uc) sp from
          ⟨ckeep h (cat _ _ _ 2 _ rfl _ rfl), bstep hbl (ba1 h), hsp.below (ba1 h)⟩))
      go_wp2_with fail
      (with_reducible refine (cubeChk_c _ _ _).mono ?_)
      rintro e w1 ⟨rfl, hb1⟩
      obtain ⟨c2, hbl1, hsp1⟩ := HC.out _ hb1
      clear HC hb1 hbl hsp d1 d2 d3
      cases hc : (cubeChk y n == 0)
      · have h' : (cubeChk y n != 0) = true := by simp [bne, hc]
        have hv : bxChk ⟨y, n, sp⟩ = cubeChk y n := by simp at hc; simp [bxChk, hc]
        have H := Lib.hid ((HBAD.out (by rw [hv]; simpa using hc)).trans hv)
        clear HOK HBAD hv hc
        go_wp2
        go_ret
        exact ⟨ret_int H.out.symm, hbl1⟩
      have h0 : cubeChk y n = 0 := by simpa using hc
      have hv : bxChk ⟨y, n, sp⟩ = spansChk sp := by simp [bxChk, h0]
      rw [h0]
      rw [hv] at HOK HBAD
      clear h0 hc hv
      go_wp2_with fail
      (with_reducible refine (spanChk_c _ sp _ hsp1).mono ?_)
      rintro e w2 ⟨rfl, hb2⟩
      replace hbl1 := bstep hbl1 hb2
      clear c2 hsp1
      cases hc : (spansChk sp == 0)
      · have h' : (spansChk sp != 0) = true := by simp [bne, hc]
        have H := Lib.hid (HBAD.out (by simpa using hc))
        clear HOK HBAD hc
        go_wp2
        go_ret
        exact ⟨ret_int H.out.symm, hbl1⟩
      have h0 : spansChk sp = 0 := by simpa using hc
      have H := Lib.hid (HOK.out h0)
      rw [h0]
      clear HOK HBAD hc h0
      go_wp2
      go_roundw
      case rel => exact ⟨k + 1, by omega, by go_num, H.out, hbl1⟩
      case measure => simp [intOf]; omega
    · obtain rfl : k = l.length := by omega
      go_wp2
      go_ret
      exact ⟨ret_int (by rw [HN.out]; simp [bxsFrom]), hbl⟩

/-- A table's cells. -/
def tabC (q : Nat → Nat) : Array Value := ((List.range 16).map fun k => Value.int .u32 (q k)).toArray
theorem tabC_size (q : Nat → Nat) : (tabC q).size = 16 := by simp [tabC]
theorem tabC_get (q : Nat → Nat) (k : Nat) (h : k < 16) : (tabC q)[k]? = some (.int .u32 (q k)) := by simp [tabC, h]
theorem tabC_set (q : Nat → Nat) (k : Nat) (x : Nat) : (tabC q).setIfInBounds k (.int .u32 x) = tabC (fun j => if j = k then x else q j) := by
  apply Array.ext
  · simp [tabC]
  · intro i h1 h2
    simp only [Array.size_setIfInBounds, tabC_size] at h1
    by_cases h : k = i
    · subst h; simp [tabC]
    · rw [Array.getElem_setIfInBounds_ne (by simpa [tabC] using h1) h]
      simp [tabC, show ¬ i = k from fun e => h e.symm]
theorem tabC_zero : tabC (fun _ => 0) = Array.replicate 16 (.int .u32 0) := by
  apply Array.ext
  · simp [tabC]
  · intro i h1 h2; simp [tabC]

theorem mask_mod (f t : Nat) (h : f ≤ t) (h2 : t ≤ 32) : ((2 : Int) ^ t - 2 ^ f) % 4294967296 = ((2 ^ t - 2 ^ f : Nat) : Int) := by
  have h1 : 2 ^ f ≤ 2 ^ t := Nat.pow_le_pow_right (by decide) h
  have h3 := mask_lt f t h2
  rw [show ((2 : Int) ^ t - 2 ^ f) = ((2 ^ t - 2 ^ f : Nat) : Int) from by rw [Int.ofNat_sub h1]; simp]
  omega
set_option maxRecDepth 100000 in
set_option maxHeartbeats 1000000 in
theorem tabled_c (v : Value) (l : Bxs) (w : World) (hs : BxsAt w v l) (hok : ∀ b ∈ l, bxChk b = 0) :
    Calls Try.prog 62 #[v] w fun e w' => e = .returned (.agg (tabC (tabN l))) ∧ Below w.heap.size w w' := by
  obtain ⟨a, cap, rfl, hcap, hm, -, hl⟩ := hs.open_
  clear hs
  go_enter Try.func62, Try.ntmps62
  go_wp2
  go_loopw [12] (fun i wr => ∃ k : Nat, k ≤ l.length ∧ i = .int .i64 k ∧ wr.heap[w.heap.size + 1]? = some (.cells (tabC (tabN (l.take k))) 98 (0, 0)) ∧ wr.heap[w.heap.size]? = some (.cells (tabC fun _ => 0) 98 (0, 0)) ∧ Below w.heap.size w wr) (fun i _ => l.length - (intOf i).toNat)
  case atStart =>
    have e0 : tabC (tabN (l.take 0)) = tabC fun _ => 0 := by rw [List.take_zero]; rfl
    have e1 : tabC (fun _ => 0) = #[Value.int IntKind.u32 0, Value.int IntKind.u32 0, Value.int IntKind.u32 0, Value.int IntKind.u32 0,
          Value.int IntKind.u32 0, Value.int IntKind.u32 0, Value.int IntKind.u32 0, Value.int IntKind.u32 0,
          Value.int IntKind.u32 0, Value.int IntKind.u32 0, Value.int IntKind.u32 0, Value.int IntKind.u32 0,
          Value.int IntKind.u32 0, Value.int IntKind.u32 0, Value.int IntKind.u32 0, Value.int IntKind.u32 0] := by rw [tabC_zero]; rfl
    refine ⟨0, Nat.zero_le _, rfl, ?_, ?_, (bal _).alloc (by simp) _⟩
    · rw [e0, e1]; have h := fun (o1 o2 : Obj) => heap_alloc_new (w.alloc o1) o2; simp only [World.size_alloc] at h; exact h _ _
    · rw [e1]; exact (heap_alloc_old _ _ (by simp)).trans (heap_alloc_new _ _)
  case round =>
    obtain ⟨k, hk, rfl, hT, hZ, hbl⟩ := hrel
    have HT := Lib.hid hT
    have HZ := Lib.hid hZ
    clear hT hZ
    by_cases hlt : k < l.length
    · rcases hl with rfl | ⟨b, off, rfl, hb, hc⟩
      · simp at hlt
      obtain ⟨u, d1, d2, d3, hsp⟩ := hc k hlt
      replace d1 := (hbl.cell (p := ⟨b, off + k * 3, none⟩) hb).trans d1
      replace d2 := (hbl.cell (p := ⟨b, off + k * 3 + 1, none⟩) hb).trans d2
      replace d3 := (hbl.cell (p := ⟨b, off + k * 3 + 2, none⟩) hb).trans d3
      have hok1 := (bxChk_zero.1 (hok _ (List.getElem_mem hlt)))
      have HTK := Lib.hid (show ∀ q, tabN (l.take (k + 1)) q = if cubeIn l[k].y l[k].n q then tabN (l.take k) q ||| spN 0 l[k].sp else tabN (l.take k) q from fun q => by rw [List.take_succ_eq_append_getElem hlt, tabN_snoc])
      have HTB := Lib.hid (fun q => (tabN_good (l.take k) q fun b hb => hok b (List.mem_of_mem_take hb)).1)
      obtain ⟨ua, uc, rfl⟩ := hsp.shape
      replace hsp := hsp.below hbl
      clear hc
      generalize hx : l[k] = bx at *
      obtain ⟨y, n, sp⟩ := bx
      simp only at d1 d2 d3 hsp hok1 HTK
      clear hx
      obtain ⟨hok1, hok2⟩ := hok1
      have hbd := (spansChk_bounds hok2).2
      have HOK := Lib.hid (show spN 0 sp < 4294967296 from spN_lt sp 0 (by decide) hbd)
      obtain ⟨wo, hwo⟩ : ∃ wo, wo = wr := ⟨_, rfl⟩
      subst hwo
      go_wp2
      obtain ⟨w5, hw5⟩ : ∃ w5, w5 = wo.alloc (.cells #[.int .i64 y, .int .i64 n, .slice ua sp.length uc] 52) := ⟨_, rfl⟩
      rw [← hw5]
      have hb5 : Below wo.heap.size wo w5 := by rw [hw5]; exact bal _
      have hz5 : wo.heap.size < w5.heap.size := by rw [hw5]; simp
      have q0 : w5.cell? ⟨wo.heap.size, 0, none⟩ = some (.int .i64 y) := by rw [hw5]; exact cat _ _ _ 0 _ rfl _ rfl
      have q1 : w5.cell? ⟨wo.heap.size, 1, none⟩ = some (.int .i64 n) := by rw [hw5]; exact cat _ _ _ 1 _ rfl _ rfl
      obtain ⟨a', c', hv, hcap', hm', hsl⟩ := (hsp.below hb5).open_
      simp only [Value.slice.injEq] at hv
      obtain ⟨rfl, -, rfl⟩ := hv
      clear hw5 d1 d2 d3 hsp
      have Q0 := Lib.hid q0
      have Q1 := Lib.hid q1
      clear q0 q1
      go_loopw [6, 19] (fun nn i wr => ∃ j : Nat, j ≤ sp.length ∧ i = .int .i64 j ∧ nn = .int .u32 (spN 0 (sp.take j) : Nat) ∧ Below w5.heap.size w5 wr) (fun _ i _ => sp.length - (intOf i).toNat)
      case atStart => exact ⟨0, Nat.zero_le _, rfl, rfl, Below.refl _ _⟩
      case round =>
        obtain ⟨j, hj, rfl, rfl, hbj⟩ := hrel
        by_cases hjl : j < sp.length
        · rcases hsl with rfl | ⟨b2, off2, rfl, hb2, hc2⟩
          · simp at hjl
          obtain ⟨g1, g2⟩ := hc2 j hjl
          replace g1 := (hbj.cell (p := ⟨b2, off2 + j * 2, none⟩) hb2).trans g1
          replace g2 := (hbj.cell (p := ⟨b2, off2 + j * 2 + 1, none⟩) hb2).trans g2
          obtain ⟨r1, r2, r3⟩ := hbd _ (List.getElem_mem hjl)
          have HS := Lib.hid (show spN 0 (sp.take (j + 1)) = spN 0 (sp.take j) ||| (2 ^ sp[j].2.toNat - 2 ^ sp[j].1.toNat) from by rw [List.take_succ_eq_append_getElem hjl, spN_append]; rfl)
          have HL := Lib.hid (show spN 0 (sp.take j) < 4294967296 from spN_lt _ 0 (by decide) fun s hs => hbd s (List.mem_of_mem_take hs))
          clear hc2
          generalize sp[j] = s at *
          obtain ⟨s1, s2⟩ := s
          simp only at g1 g2 r1 r2 r3 HS
          obtain ⟨f, rfl⟩ := Int.eq_ofNat_of_zero_le r1
          obtain ⟨t, rfl⟩ := Int.eq_ofNat_of_zero_le (show 0 ≤ s2 by omega)
          simp only [Int.toNat_natCast] at HS
          generalize spN 0 (sp.take j) = acc at *
          go_wp2
          go_quiet (fail)
          go_wp2
          go_roundw
          case rel => exact ⟨j + 1, by omega, by go_num, by rw [HS.out, mask_mod f t (by omega) (by omega), u32_or_nat _ _ HL.out (mask_lt _ _ (by omega))], below_drewN (hbj.alloc hbj.size _) _⟩
          case measure => simp [intOf]; omega
        · obtain rfl : j = sp.length := by omega
          rw [List.take_length]
          have hbw := bstep hb5 hbj
          have hbl2 := bstep hbl hbw
          have HT2 := Lib.hid ((hbw.block (w.heap.size + 1) (by have := HT.out; exact (Array.getElem?_eq_some_iff.1 this).1)).trans HT.out)
          have HZ2 := Lib.hid ((hbw.block w.heap.size (by have := HZ.out; exact (Array.getElem?_eq_some_iff.1 this).1)).trans HZ.out)
          have Q2 := Lib.hid (ckeep hbj Q0.out)
          have Q3 := Lib.hid (ckeep hbj Q1.out)
          have hT2 : w.heap.size + 1 < wo.heap.size := (Array.getElem?_eq_some_iff.1 HT.out).1
          have hz6 : wo.heap.size < wr.heap.size := blt Q2.out
          clear HT HZ Q0 Q1 hbl hbw hbj hsl hb5
          obtain ⟨w6, hw6⟩ : ∃ w6, w6 = wr := ⟨_, rfl⟩
          subst hw6
          have HNN := HOK
          generalize spN 0 sp = nn at *
          go_wp2
          go_loopw [33] (fun i wr => ∃ j : Nat, j ≤ 16 ∧ i = .int .i64 j ∧ wr.heap[w.heap.size + 1]? = some (.cells (tabC fun q => if q < j then (if cubeIn y n q then tabN (l.take k) q ||| nn else tabN (l.take k) q) else tabN (l.take k) q) 98 (0, 0)) ∧ wr.heap[w.heap.size]? = some (.cells (tabC fun _ => 0) 98 (0, 0)) ∧ Below w.heap.size w wr ∧ wr.cell? ⟨wo.heap.size, 0, none⟩ = some (.int .i64 y) ∧ wr.cell? ⟨wo.heap.size, 1, none⟩ = some (.int .i64 n)) (fun i _ => 16 - (intOf i).toNat)
          case atStart => exact ⟨0, by omega, rfl, by simpa using HT2.out, HZ2.out, hbl2, Q2.out, Q3.out⟩
          case round =>
            obtain ⟨j, hj, rfl, hT, hZ, hbl, q0, q1⟩ := hrel
            have HT := Lib.hid hT
            have HZ := Lib.hid hZ
            clear hT hZ
            by_cases hjl : j < 16
            · go_wp2_with fail
              (with_reducible refine (cubeIn_c _ _ _ _).mono ?_)
              rintro e w7 ⟨rfl, hb7⟩
              replace hbl := bstep hbl hb7
              replace q0 := ckeep hb7 q0
              replace q1 := ckeep hb7 q1
              replace HT := Lib.hid ((hb7.block (w.heap.size + 1) (by have := HT.out; exact (Array.getElem?_eq_some_iff.1 this).1)).trans HT.out)
              replace HZ := Lib.hid ((hb7.block w.heap.size (by have := HZ.out; exact (Array.getElem?_eq_some_iff.1 this).1)).trans HZ.out)
              clear hb7
              have HB := Lib.hid (HTB.out j)
              cases hin : cubeIn y n j
              · have HI := Lib.hid hin
                clear hin
                go_wp2
                go_roundw
                case rel =>
                  refine ⟨j + 1, by omega, by go_num, ?_, HZ.out, hbl, q0, q1⟩
                  rw [HT.out]; congr 3; funext q
                  by_cases e1 : q = j
                  · subst e1; simp [HI.out]
                  · by_cases e2 : q < j
                    · simp [e2, show q < j + 1 by omega]
                    · simp [e2, show ¬ q < j + 1 by omega]
                case measure => simp [intOf]; omega
              · have HI := Lib.hid hin
                have cT := cell_of_block (j := j) HT.out (by rw [tabC_get _ _ hjl, if_neg (Nat.lt_irrefl _)])
                have fT := free_of_block (j := j) HT.out
                clear hin
                go_wp2
                go_roundw
                case rel =>
                  rw [u32_or_nat _ _ HB.out HNN.out]
                  refine ⟨j + 1, by omega, by go_num, ?_, (heap_set_other (by omega)).trans HZ.out, hbl.setCell (by simp) _, (cell_set_other (by omega)).trans q0, (cell_set_other (by omega)).trans q1⟩
                  rw [heap_set_same HT.out, tabC_set]; congr 3; funext q
                  by_cases e1 : q = j
                  · subst e1; simp [HI.out]
                  · by_cases e2 : q < j
                    · simp [e1, e2, show q < j + 1 by omega]
                    · simp [e1, e2, show ¬ q < j + 1 by omega]
                case measure => simp [intOf]; omega
            · obtain rfl : j = 16 := by omega
              go_wp2
              go_roundw
              case rel =>
                refine ⟨k + 1, by omega, by go_num, ?_, HZ.out, hbl⟩
                rw [HT.out]; congr 2; unfold tabC; congr 1
                refine List.map_congr_left fun q hq => ?_
                simp only [List.mem_range.1 hq, if_true, HTK.out]
              case measure => simp [intOf]; omega
    · obtain rfl : k = l.length := by omega
      rw [List.take_length] at HT
      have hi := Lib.hid (show (Try.prog.info? 98).map (·.size) = some (tabC (tabN l)).size by rw [tabC_size]; kernel_rfl)
      go_wp2_with (first | (with_reducible refine wpList_load_row rfl 98 (.tmp 3) rfl (w.heap.size + 1) rfl 98 (tabC (tabN l)) (0, 0) _ HT.out Try.underlying98 rfl hi.out ?_) | (with_reducible refine wpList_store_row rfl 98 (.tmp 2) (.tmp 48) rfl w.heap.size (tabC (tabN l)) rfl rfl 98 _ HZ.out hi.out ?sz ?one ?_))
      case sz => simp [tabC_size]
      case one => simp [tabC, Value.oneCell']
      exact bodyPost_ret (results_cell_row rfl _ _ w.heap.size 98 (tabC (tabN l)) (0, 0) _ rfl (setRow_heap _ _ _ _ _ _ HZ.out) Try.underlying98 rfl hi.out) rfl ⟨rfl, below_setRow hbl (Nat.le_refl _) _⟩
end Go.Proofs.Ytcanefjjpeoikaa
