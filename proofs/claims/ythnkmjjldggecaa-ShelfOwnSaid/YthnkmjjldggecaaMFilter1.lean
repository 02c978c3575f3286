/- What filter.Check and filter.tabled do. What filter.boxes does. What filter.both, and what stands on it, do. Written by a small program (gen/filter3.py). -/
import Derived.Test.YthnkmjjldggecaaChecked
import Derived.Test.YthnkmjjldggecaaMFilterP
import Derived.Test.YthnkmjjldggecaaMClaims
import Derived.Deep.QuietTactic
import Derived.BigQuiet
import Derived.Test.YthnkmjjldggecaaMixed
import Derived.Test.YthnkmjjldggecaaMSpan
namespace Go.Proofs.Ythnkmjjldggecaa
open Go.RowKit

set_option maxRecDepth 100000 in
set_option maxHeartbeats 1000000 in
theorem fChk_c (v : Value) (l : Bxs) (w : World) (hs : BxsAt w v l) :
    Calls Try.prog 78 #[v] w fun e w' => e = .returned (.int .i64 (fChk l)) ∧ Below w.heap.size w w' := by
  have HBX := Lib.hid hs
  obtain ⟨a, cap, rfl, hcap, hm, -, hl⟩ := hs.open_
  clear hs
  by_cases h40 : 40 < l.length
  · have H := Lib.hid (show fChk l = 2 by simp [fChk, h40])
    clear hl
    go_enter Try.func78, Try.ntmps78
    go_wp2
    go_ret
    exact ⟨ret_int H.out.symm, Below.refl _ _⟩
  have HF := Lib.hid (show fChk l = bxsFrom (l.drop 0) by rw [fChk, if_neg h40]; rfl)
  go_enter Try.func78, Try.ntmps78
  go_wp2
  go_loopw [12] (fun i wr => ∃ k : Nat, k ≤ l.length ∧ i = .int .i64 k ∧ fChk l = bxsFrom (l.drop k) ∧ Below w.heap.size w wr) (fun i _ => l.length - (intOf i).toNat)
  case atStart => exact ⟨0, Nat.zero_le _, rfl, HF.out, Below.refl _ _⟩
  case round =>
    obtain ⟨k, hk, rfl, hno, hbl⟩ := hrel
    have HN := Lib.hid hno
    clear hno HF
    by_cases hlt : k < l.length
    · rcases hl with rfl | ⟨b, off, rfl, hb, hc⟩
      · simp at hlt
      obtain ⟨u, d1, d2, d3, hsp⟩ := hc k hlt
      replace d1 := (hbl.cell (p := ⟨b, off + k * 3, none⟩) hb).trans d1
      replace d2 := (hbl.cell (p := ⟨b, off + k * 3 + 1, none⟩) hb).trans d2
      replace d3 := (hbl.cell (p := ⟨b, off + k * 3 + 2, none⟩) hb).trans d3
      have HOK := Lib.hid (fun h => HN.out.trans (bxsFrom_ok l k hlt h))
      have HBAD := Lib.hid (fun h => HN.out.trans (bxsFrom_bad l k hlt h))
      obtain ⟨ua, uc, rfl⟩ := hsp.shape
      replace hsp := hsp.below hbl
      clear hc
      generalize hx : l[k] = bx at *
      obtain ⟨y, n, sp⟩ := bx
      simp only at d1 d2 d3 hsp
      clear hx
      have HC := Lib.hid (fun (w1 : World) (h : Below (wr.alloc (.cells #[.int .i64 y, .int .i64 n, .slice ua sp.length uc] 125)).heap.size (wr.alloc (.cells #[.int .i64 y, .int .i64 n, .slice ua sp.length uc] 125)) w1) =>
        (show w1.cell? ⟨wr.heap.size, 2, none⟩ = some (.slice ua sp.length uc) ∧ Below w.heap.size w w1 ∧ SpansAt w1 (.slice ua sp.length uc) sp from
          ⟨ckeep h (cat _ _ _ 2 _ rfl _ rfl), bstep hbl (ba1 h), hsp.below (ba1 h)⟩))
      go_wp2_with fail
      (with_reducible refine (cubeChk_c _ _ _).mono ?_)
      rintro e w1 ⟨rfl, hb1⟩
      obtain ⟨c2, hbl1, hsp1⟩ := HC.out _ hb1
      clear HC hb1 hbl hsp d1 d2 d3
      cases hc : (cubeChk y n == 0)
      · have h' : (cubeChk y n != 0) = true := by simp [bne, hc]
        have hv : bxChk ⟨y, n, sp⟩ = cubeChk y n := by simp at hc; simp [bxChk, hc]
        have H := Lib.hid ((HBAD.out (by rw [hv]; simpa using hc)).trans hv)
        clear HOK HBAD hv hc
        go_wp2
        go_ret
        exact ⟨ret_int H.out.symm, hbl1⟩
      have h0 : cubeChk y n = 0 := by simpa using hc
      have hv : bxChk ⟨y, n, sp⟩ = spansChk sp := by simp [bxChk, h0]
      rw [h0]
      rw [hv] at HOK HBAD
      clear h0 hc hv
      go_wp2_with fail
      (with_reducible refine (spanChk_c _ sp _ hsp1).mono ?_)
      rintro e w2 ⟨rfl, hb2⟩
      replace hbl1 := bstep hbl1 hb2
      clear c2 hsp1
      cases hc : (spansChk sp == 0)
      · have h' : (spansChk sp != 0) = true := by simp [bne, hc]
        have H := Lib.hid (HBAD.out (by simpa using hc))
        clear HOK HBAD hc
        go_wp2
        go_ret
        exact ⟨ret_int H.out.symm, hbl1⟩
      have h0 : spansChk sp = 0 := by simpa using hc
      have H := Lib.hid (HOK.out h0)
      rw [h0]
      clear HOK HBAD hc h0
      go_wp2
      go_roundw
      case rel => exact ⟨k + 1, by omega, by go_num, H.out, hbl1⟩
      case measure => simp [intOf]; omega
    · obtain rfl : k = l.length := by omega
      go_wp2
      go_ret
      exact ⟨ret_int (by rw [HN.out]; simp [bxsFrom]), hbl⟩

end Go.Proofs.Ythnkmjjldggecaa
namespace Go.Proofs.Ythnkmjjldggecaa
open Go.RowKit

set_option maxRecDepth 100000 in
theorem BoxTy.info : (Try.prog.info? 125).map (fun i => (i.zero, i.size, i.bytes)) = some (some (.agg #[.int .i64 0, .int .i64 0, .slice none 0 0]), 3, 40) := by kernel_rfl

theorem own_low {W : World} {base e size n g j : Nat} {v u : Value} {xs : List Value} (h : W.ownsRow base e size v n xs) (hg : g < base) : (W.setCell ⟨g, j, none⟩ u).ownsRow base e size v n xs := by
  refine ⟨h.1, ?_⟩
  rcases h.2 with hn | ⟨k, cap, cur, rfl, hk, hh, rest⟩
  · exact .inl hn
  · exact .inr ⟨k, cap, cur, rfl, hk, by rw [heap_set_other (by omega)]; exact hh, rest⟩
theorem BxsOwn.low {W : World} {base eB eS g j : Nat} {v u : Value} {l : Bxs} (h : BxsOwn W base eB eS v l) (hg : g < base) : BxsOwn (W.setCell ⟨g, j, none⟩ u) base eB eS v l := by
  obtain ⟨us, h1, h2, h3⟩ := h
  exact ⟨us, h1, own_low h2 hg, fun i hi hi' => own_low (h3 i hi hi') hg⟩
theorem BxsOwn.push {w w' : World} {base eB eS : Nat} {v v' u : Value} {l : Bxs} {b : Bx} {us : List Value} (hne : eB ≠ eS) (h1 : us.length = l.length) (h2 : w.ownsRow base eB 3 v l.length (bxCells l us)) (h3 : ∀ i (h : i < l.length) (h' : i < us.length), w.ownsRow base eS 2 us[i] l[i].sp.length (spansCells l[i].sp))
    (hu : w.ownsRow base eS 2 u b.sp.length (spansCells b.sp)) (hn : w'.ownsRow base eB 3 v' (l.length + 1) (bxCells l us ++ [.int .i64 b.y, .int .i64 b.n, u])) (hg : w.grownBy w' v.ownBlock) : BxsOwn w' base eB eS v' (l ++ [b]) := by
  refine ⟨us ++ [u], by simp [h1], ?_, fun i hi hi' => ?_⟩
  · rw [bxCells_append _ _ _ _ h1, List.length_append, List.length_singleton]; exact hn
  · by_cases e : i < l.length
    · simp only [List.getElem_append_left e, List.getElem_append_left (show i < us.length by omega)]
      exact own_other hne h2 (h3 i e (by omega)) hg
    · have e2 : i = l.length := by simp at hi; omega
      subst e2
      simp only [List.getElem_append_right (Nat.le_refl _), List.getElem_append_right (show us.length ≤ l.length by omega), Nat.sub_self, h1, List.getElem_singleton]
      exact own_other hne h2 hu hg
end Go.Proofs.Ythnkmjjldggecaa
namespace Go.Proofs.Ythnkmjjldggecaa
open Go.RowKit

theorem BxsOwn.mono {w : World} {base base' eB eS : Nat} {v : Value} {l : Bxs} (h : BxsOwn w base eB eS v l) (hb : base' ≤ base) : BxsOwn w base' eB eS v l := by
  obtain ⟨us, h1, h2, h3⟩ := h
  exact ⟨us, h1, owns_mono h2 hb, fun i hi hi' => owns_mono (h3 i hi hi') hb⟩
end Go.Proofs.Ythnkmjjldggecaa
