/- Slices of parts; what part.Check does. -/
import Derived.Test.YthnkmjjldggecaaPartPure
import Derived.Test.YthnkmjjldggecaaMFilter1
import Derived.Test.YthnkmjjldggecaaMFilterP
import Derived.Test.YthnkmjjldggecaaMSpan
import Derived.Test.YthnkmjjldggecaaMForm
import Derived.Test.YthnkmjjldggecaaKnow3
import Derived.Test.YthnkmjjldggecaaMElt
namespace Go.Proofs.Ythnkmjjldggecaa
open Go.RowKit
theorem SpansAt.sub {w w' : World} {v : Value} {l : Spans} (h : SpansAt w v l) (hs : Sub w w') : SpansAt w' v l := CellsAt.sub h hs
theorem BxsAt.sub {w w' : World} {v : Value} {l : Bxs} (h : BxsAt w v l) (hs : Sub w w') : BxsAt w' v l := by
  obtain ⟨us, h1, h2, h3⟩ := h
  exact ⟨us, h1, h2.sub hs, fun i hi hi' => (h3 i hi hi').sub hs⟩
/-- Slices of parts. -/
def partE : Elt Pt where
  size := 3
  El w p cs := ∃ f u x, cs = [f, u, x] ∧ BxsAt w f p.f ∧ KnAt w u x p.k
  len := by rintro w p cs ⟨f, u, x, rfl, -⟩; rfl
  one := by
    rintro w p cs ⟨f, u, x, rfl, h0, h⟩ z hz
    obtain ⟨a, c, rfl⟩ := h.vec.shape
    obtain ⟨b, d, rfl⟩ := h.more.shape
    obtain ⟨a', c', rfl⟩ := h0.shape
    simp only [List.mem_cons, List.not_mem_nil, or_false] at hz
    rcases hz with rfl | rfl | rfl <;> rfl
  sub := by rintro w w' v cs ⟨f, u, x, rfl, h0, h⟩ hs; exact ⟨f, u, x, rfl, h0.sub hs, h.sub hs⟩
  pos := by decide
set_option maxRecDepth 100000 in
theorem PartTy.info : (Try.prog.info? 83).map (fun i => (i.zero, i.size, i.bytes)) = some (some (.agg #[.slice none 0 0, .slice none 0 0, .slice none 0 0]), 3, 72) := by kernel_rfl
theorem row3 {w : World} {b off i : Nat} {c : List Value} (h : ∀ (j : Nat) (x : Value), c[j]? = some x → w.cell? ⟨b, off + (i * 3 + j), none⟩ = some x) {j : Nat} {x : Value} (hx : c[j]? = some x) : w.cell? ⟨b, off + i * 3 + j, none⟩ = some x := by
  rw [Nat.add_assoc]; exact h j x hx
/-- The i-th part of a row: its three cells. -/
theorem part_cells {w wr : World} {b off i : Nat} {p : Pt} {c : List Value} (hb : b < w.heap.size) (hbl : Below w.heap.size w wr) (hE : partE.El w p c) (hc : ∀ j x, c[j]? = some x → w.cell? ⟨b, off + (i * partE.size + j), none⟩ = some x) :
    ∃ f u x, wr.cell? ⟨b, off + i * 3, none⟩ = some f ∧ wr.cell? ⟨b, off + i * 3 + 1, none⟩ = some u ∧ wr.cell? ⟨b, off + i * 3 + 2, none⟩ = some x ∧ BxsAt wr f p.f ∧ KnAt wr u x p.k := by
  obtain ⟨f, u, x, rfl, h0, h1⟩ := hE
  have hk := fun (j : Nat) (y : Value) (hy : [f, u, x][j]? = some y) => row3 (w := wr) (b := b) (off := off) (i := i) (fun j y hy => (hbl.cell (p := ⟨b, off + (i * 3 + j), none⟩) hb).trans (hc j y hy)) hy
  have c0 := hk 0 _ rfl
  rw [Nat.add_zero] at c0
  exact ⟨f, u, x, c0, hk 1 _ rfl, hk 2 _ rfl, h0.below hbl, h1.below hbl⟩
set_option maxRecDepth 100000 in
set_option maxHeartbeats 2000000 in
theorem ptsChk_c (v : Value) (l : List Pt) (w : World) (hs : RowAt partE w v l) :
    Calls Try.prog 44 #[v] w fun e w' => e = .returned (.int .i64 (ptsChk l)) ∧ Below w.heap.size w w' := by
  obtain ⟨a, cap, rfl, hcap, hm, -, hl⟩ := hs.open_
  clear hs
  by_cases h30 : 30 < l.length
  · have H := Lib.hid (show ptsChk l = 2 by simp [ptsChk, h30])
    clear hl
    go_enter Try.func44, Try.ntmps44
    go_wp2
    go_ret
    exact ⟨ret_int H.out.symm, Below.refl _ _⟩
  have HF := Lib.hid (show ptsChk l = ptsFrom (l.drop 0) by rw [ptsChk, if_neg h30]; rfl)
  have HL := Lib.hid hl
  clear hl
  go_enter Try.func44, Try.ntmps44
  go_wp2
  go_loopw [12] (fun i wr => ∃ k : Nat, k ≤ l.length ∧ i = .int .i64 k ∧ ptsChk l = ptsFrom (l.drop k) ∧ Below w.heap.size w wr) (fun i _ => l.length - (intOf i).toNat)
  case atStart => exact ⟨0, Nat.zero_le _, rfl, HF.out, Below.refl _ _⟩
  case round =>
    obtain ⟨k, hk, rfl, hno, hbl⟩ := hrel
    have HN := Lib.hid hno
    clear hno HF
    by_cases hlt : k < l.length
    · rcases HL.out with hnil | ⟨b, off, rfl, hb, hc⟩
      · rw [hnil] at hlt; simp at hlt
      obtain ⟨c, hE, hcc⟩ := hc k hlt
      obtain ⟨f, u, x, d1, d2, d3, hf, hkn⟩ := part_cells hb hbl hE hcc
      have HOK := Lib.hid (fun h => HN.out.trans (ptsFrom_ok l k hlt h))
      have HBAD := Lib.hid (fun h => HN.out.trans (ptsFrom_bad l k hlt h))
      clear hc hE hcc
      generalize l[k] = p at *
      obtain ⟨pf, pk⟩ := p
      simp only at hf hkn
      obtain ⟨fa, fc, rfl⟩ := hf.shape
      obtain ⟨ua, uc, rfl⟩ := hkn.vec.shape
      obtain ⟨xa, xc, rfl⟩ := hkn.more.shape
      have hbx := bal (W := wr) (.cells #[.slice fa pf.length fc, .slice ua pk.vec.length uc, .slice xa pk.more.length xc] 83)
      have HNB := Lib.hid (alloc_new wr #[.slice fa pf.length fc, .slice ua pk.vec.length uc, .slice xa pk.more.length xc] 83 _ rfl)
      have HFC := Lib.hid (fChk_c _ pf _ (hf.below hbx))
      have HKN := Lib.hid (hkn.below hbx)
      have HBX := Lib.hid (bstep hbl hbx)
      clear hf hkn hbx hbl
      go_wp2_with fail
      (with_reducible refine (HFC.out).mono ?_)
      rintro e w1 ⟨rfl, hb1⟩
      have hB1 := below_keep hb1 HNB.out
      have hkn1 := HKN.out.below hb1
      have hbl1 := bstep HBX.out hb1
      clear HFC HNB HKN HBX hb1 d1 d2 d3
      have c1 := cell_of_block (j := 1) hB1 rfl
      have c2 := cell_of_block (j := 2) hB1 rfl
      clear hB1
      by_cases h0 : fChk pf = 0
      rotate_left
      · have hv : ptChk ⟨pf, pk⟩ = fChk pf := by simp only [ptChk, if_neg h0]
        have H := Lib.hid ((HBAD.out (by rw [hv]; exact h0)).trans hv)
        have hne : decide (fChk pf = 0) = false := by simpa using h0
        have hnb : (fChk pf != 0) = true := bne_iff_ne.2 h0
        clear HOK HBAD hv h0 hkn1
        generalize fChk pf = sc at *
        go_wp2
        go_ret
        exact ⟨ret_int H.out.symm, hbl1⟩
      have hv : ptChk ⟨pf, pk⟩ = knChk pk := by simp only [ptChk, if_pos h0]
      rw [h0]
      rw [hv] at HOK HBAD
      have HKC := Lib.hid (knChk_c _ _ pk _ hkn1)
      clear h0 hv hkn1
      go_wp2_with fail
      (with_reducible refine (HKC.out).mono ?_)
      rintro e w2 ⟨rfl, hb2⟩
      replace hbl1 := bstep hbl1 hb2
      clear c1 c2 HKC hb2
      by_cases h0 : knChk pk = 0
      rotate_left
      · have H := Lib.hid (HBAD.out h0)
        have hne : decide (knChk pk = 0) = false := by simpa using h0
        have hnb : (knChk pk != 0) = true := bne_iff_ne.2 h0
        clear HOK HBAD h0
        generalize knChk pk = sc at *
        go_wp2
        go_ret
        exact ⟨ret_int H.out.symm, hbl1⟩
      have H := Lib.hid (HOK.out h0)
      rw [h0]
      clear HOK HBAD h0
      go_wp2
      go_roundw
      case rel => exact ⟨k + 1, by omega, by go_num, H.out, hbl1⟩
      case measure => simp [intOf] <;> omega
    · obtain rfl : k = l.length := by omega
      go_wp2
      go_ret
      exact ⟨ret_int (by rw [HN.out]; simp [ptsFrom]), hbl⟩
end Go.Proofs.Ythnkmjjldggecaa
