/- What filter.Copied does. -/
import Derived.Test.YtcanefjjpeoikaaFilter6
import Derived.Test.YtcanefjjpeoikaaSpanClone
namespace Go.Proofs.Ytcanefjjpeoikaa
open Go.RowKit

set_option maxRecDepth 100000 in
set_option maxHeartbeats 2000000 in
theorem copied_c (v : Value) (l : Bxs) (w : World) (hs : BxsAt w v l) (hc : fChk l = 0) :
    Calls Try.prog 72 #[v] w fun e w' => ∃ v', e = .returned v' ∧ BxsOwn w' w.heap.size 52 59 v' l ∧ Below w.heap.size w w' := by
  obtain ⟨a, cap, rfl, hcap, hm, -, hl⟩ := hs.open_
  obtain ⟨hlen, hok⟩ := fChk_zero.1 hc
  clear hs hc
  go_enter Try.func72, Try.ntmps72
  go_wp2
  go_loopw [3, 8] (fun vo i wr => ∃ k : Nat, k ≤ l.length ∧ i = .int .i64 k ∧ BxsOwn wr w.heap.size 52 59 vo (l.take k) ∧ Below w.heap.size w wr) (fun _ i _ => l.length - (intOf i).toNat)
  case atStart => exact ⟨0, Nat.zero_le _, rfl, BxsOwn.nil _ _ _ _, Below.refl _ _⟩
  case round =>
    obtain ⟨k, hk, rfl, hown, hbl⟩ := hrel
    by_cases hlt : k < l.length
    · rcases hl with rfl | ⟨b, off, rfl, hb, hcc⟩
      · simp at hlt
      obtain ⟨u, d1, d2, d3, hsp⟩ := hcc k hlt
      replace d1 := (hbl.cell (p := ⟨b, off + k * 3, none⟩) hb).trans d1
      replace d2 := (hbl.cell (p := ⟨b, off + k * 3 + 1, none⟩) hb).trans d2
      replace d3 := (hbl.cell (p := ⟨b, off + k * 3 + 2, none⟩) hb).trans d3
      replace hsp := hsp.below hbl
      have hsl := (spansChk_bounds (bxChk_zero.1 (hok _ (List.getElem_mem hlt))).2).1
      have HTK := Lib.hid (List.take_succ_eq_append_getElem hlt)
      clear hcc
      generalize hx : l[k] = bx at *
      obtain ⟨y, n, sp⟩ := bx
      simp only at d1 d2 d3 hsp hsl
      clear hx
      have hcl : CellsAt (wr.alloc (.cells #[.int .i64 y, .int .i64 n, u] 52)) u sp.length (spansCells sp) := hsp.below (bal _)
      have HCL := Lib.hid hcl
      obtain ⟨ua, uc, rfl⟩ := hsp.shape
      have HO := Lib.hid hown
      clear hsp hcl hown
      go_wp2_with fail
      (with_reducible refine (SpanClone_c _ sp.length (spansCells sp) _ HCL.out (spansCells_length sp) (spansCells_one sp) (by omega)).mono ?_)
      rintro e w1 ⟨v1, rfl, ho1, hb1⟩
      have hz1 : wr.heap.size < w1.heap.size := by have := hb1.size; simp at this; omega
      have c0 := ckeep hb1 (cat wr #[.int .i64 y, .int .i64 n, .slice ua sp.length uc] 52 0 _ rfl _ rfl)
      have c1 := ckeep hb1 (cat wr #[.int .i64 y, .int .i64 n, .slice ua sp.length uc] 52 1 _ rfl _ rfl)
      have c2 := ckeep hb1 (cat wr #[.int .i64 y, .int .i64 n, .slice ua sp.length uc] 52 2 _ rfl _ rfl)
      have f2 := fkeep hb1 (cat wr #[.int .i64 y, .int .i64 n, .slice ua sp.length uc] 52 2 _ rfl _ rfl) (fat _ _ _ 2 _ rfl)
      obtain ⟨ra, rc, hv⟩ := owns_slice ho1
      subst hv
      rw [World.size_alloc] at ho1
      have HO1 := Lib.hid ho1
      have hbw : Below wr.heap.size wr w1 := ba1 hb1
      have HBW := Lib.hid hbw
      clear ho1 hb1 hbw HCL
      obtain ⟨us, o1, o2, o3⟩ := HO.out
      have hk2 : (l.take k).length = k := by simp; omega
      have hB2 : Below wr.heap.size wr ((w1.setCell ⟨wr.heap.size, 2, none⟩ (.slice ra sp.length rc)).alloc (.cells #[.int .i64 y, .int .i64 n, .slice ra sp.length rc] 52)) :=
        (HBW.out.setCell (p := ⟨wr.heap.size, 2, none⟩) (Nat.le_refl _) _).alloc (by simp; omega) _
      have O1 := Lib.hid o1
      have O2 := Lib.hid (owns_below o2 hB2)
      have O3 := Lib.hid (fun i hi hi' => owns_below (o3 i hi hi') hB2)
      have U := Lib.hid ((own_low (j := 2) (u := .slice ra sp.length rc) HO1.out (Nat.lt_succ_self _)).alloc (.cells #[.int .i64 y, .int .i64 n, .slice ra sp.length rc] 52))
      have ROW := Lib.hid (CellsAt.mk (w := (w1.setCell ⟨wr.heap.size, 2, none⟩ (.slice ra sp.length rc)).alloc (.cells #[.int .i64 y, .int .i64 n, .slice ra sp.length rc] 52)) (b := w1.heap.size) (off := 0) (n := 1) (cap := 1) (xs := [.int .i64 y, .int .i64 n, .slice ra sp.length rc]) (Nat.le_refl _) (by decide) (by simp) (fun j x hj => by
        rw [Nat.zero_add, World.cell?_alloc_at _ _ _ _ (by simp)]; simpa using hj))
      have HB2 := Lib.hid hB2
      have hws := hbl.size
      have HK2 := Lib.hid hk2
      obtain ⟨za, zc, hz⟩ := owns_slice o2
      rw [hk2] at hz
      subst hz
      clear o1 o2 o3 hB2 HO hk2
      go_wp2_with (at_builtin; refine wpList_append_cells2 rfl (.tmp 16) (.tmp 18) 36 rfl w.heap.size 52 _ 3 40 Try.underlying36 BoxTy.info rfl (by decide) _ (l.take k).length _ rfl O2.out _ 1 _ rfl ROW.out rfl (by intro z hz; simp at hz; rcases hz with rfl | rfl | rfl <;> rfl) (by have := HB2.out.size; omega) (by rw [HK2.out]; unfold maxLen; omega) (by rw [HK2.out]; omega) ?_)
      intro v9 w9 ho hgr
      have HN := Lib.hid (BxsOwn.push (b := ⟨y, n, sp⟩) (by decide) O1.out O2.out O3.out (owns_mono U.out (by omega)) (by rw [HK2.out]; exact ho) hgr)
      have HG := Lib.hid hgr
      obtain ⟨qa, qc, hq⟩ := owns_slice ho
      subst hq
      clear ho hgr
      go_wp2
      go_roundw
      case rel =>
        refine ⟨k + 1, by omega, by go_num, ?_, (hbl.trans (HB2.out.mono hws)).grown HG.out (by have := HB2.out.size; omega) (fun q hq => (O2.out.lt q hq).1)⟩
        rw [HTK.out]; exact HN.out
      case measure => first | (simp [intOf]; done) | (simp [intOf]; omega)
    · obtain rfl : k = l.length := by omega
      rw [List.take_length] at hown
      obtain ⟨va, vc, hv⟩ := hown.shape
      subst hv
      have HO := Lib.hid hown
      clear hown
      go_wp2
      go_ret
      exact ⟨_, rfl, HO.out, hbl⟩
end Go.Proofs.Ytcanefjjpeoikaa
