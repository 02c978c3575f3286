/- What slices.Reverse does to a row of versions of the call's own. Written by a small program (gen/rev.py). -/
import Derived.Test.YtliieljmfncmjaaMShelf11
import Derived.Test.YtliieljmfncmjaaMClaims
namespace Go.Proofs.Ytliieljmfncmjaa
open Go.RowKit
theorem RowBut.trans {w w1 w2 : World} {g : Nat} (h : RowBut w w1 g) (k : RowBut w1 w2 g) : RowBut w w2 g := ⟨k.os.trans h.os, k.tape.trans h.tape, k.output.trans h.output, k.size.trans h.size, fun i hi => (k.other i hi).trans (h.other i hi)⟩
theorem Els.reverse {α : Type} {E : Elt α} {w : World} : ∀ {l : List α} {cs : List (List Value)}, Els E w l cs → Els E w l.reverse cs.reverse
  | [], [], _ => trivial
  | a :: l, c :: cs, h => by
    rw [List.reverse_cons, List.reverse_cons]
    exact (Els.reverse h.2).append (Els.single h.1)
  | [], _ :: _, h => h.elim
  | _ :: _, [], h => h.elim
theorem splice_get {L C : List Value} {a : Nat} (h : a + C.length ≤ L.length) (x : Nat) : (splice L a C)[x]? = if a ≤ x ∧ x < a + C.length then C[x - a]? else L[x]? := by
  unfold splice
  by_cases h1 : x < a
  · rw [if_neg (by omega), List.getElem?_append_left (by rw [List.length_take]; omega), List.getElem?_take_of_lt h1]
  · rw [List.getElem?_append_right (by rw [List.length_take]; omega), List.length_take, Nat.min_eq_left (by omega)]
    by_cases h2 : x < a + C.length
    · rw [if_pos ⟨by omega, h2⟩, List.getElem?_append_left (by omega)]
    · rw [if_neg (by omega), List.getElem?_append_right (by omega), List.getElem?_drop]
      congr 1; omega
/-- Which element stands at k when i have been swapped. -/
def revP (n i k : Nat) : Nat := if k < i ∨ n - 1 - k < i then n - 1 - k else k
structure RevSt (w0 : World) (g cap n : Nat) (css : List (List Value)) (i : Nat) (wr : World) : Prop where
  ex : ∃ cur : List Value, wr.heap[g]? = some (.cells cur.toArray 57 (0, 0)) ∧ cur.length = cap * 8 ∧ ∀ k, k < n → ∀ q, q < 8 → cur[k * 8 + q]? = (css.getD (revP n i k) [])[q]?
  bel : Below w0.heap.size w0 wr
theorem rev_step {cap n i j : Nat} {css : List (List Value)} {cur ci cj : List Value} (hn : n ≤ cap) (hij : i + j + 1 = n) (hlt : i < j) (hl : cur.length = cap * 8) (hci : css.getD i [] = ci) (hcj : css.getD j [] = cj) (h8i : ci.length = 8) (h8j : cj.length = 8)
    (h : ∀ k, k < n → ∀ q, q < 8 → cur[k * 8 + q]? = (css.getD (revP n i k) [])[q]?) : ∀ k, k < n → ∀ q, q < 8 → (splice (splice cur (i * 8) cj) (j * 8) ci)[k * 8 + q]? = (css.getD (revP n (i + 1) k) [])[q]? := by
  intro k hk q hq
  have hl1 : (splice cur (i * 8) cj).length = cap * 8 := by rw [length_splice _ _ _ (by omega), hl]
  rw [splice_get (by omega), splice_get (by omega)]
  by_cases hkj : k = j
  · subst hkj
    rw [if_pos ⟨by omega, by omega⟩, show k * 8 + q - k * 8 = q by omega]
    have : revP n (i + 1) k = i := by unfold revP; rw [if_pos (by omega)]; omega
    rw [this, hci]
  · rw [if_neg (by omega)]
    by_cases hki : k = i
    · subst hki
      rw [if_pos ⟨by omega, by omega⟩, show k * 8 + q - k * 8 = q by omega]
      have : revP n (k + 1) k = j := by unfold revP; rw [if_pos (by omega)]; omega
      rw [this, hcj]
    · rw [if_neg (by omega), h k hk q hq]
      have : revP n (i + 1) k = revP n i k := by
        unfold revP
        by_cases h1 : k < i ∨ n - 1 - k < i
        · rw [if_pos h1, if_pos (by omega)]
        · rw [if_neg h1, if_neg (by omega)]
      rw [this]
theorem rev_done {w0 : World} {cap n i : Nat} {l : List Ver} {css : List (List Value)} {cur : List Value} (hels : Els verE w0 l css) (hn : l.length = n) (hcap : n ≤ cap) (hl : cur.length = cap * 8) (hi : n ≤ 2 * i + 1)
    (h : ∀ k, k < n → ∀ q, q < 8 → cur[k * 8 + q]? = (css.getD (revP n i k) [])[q]?) : cur.take (n * 8) = css.reverse.flatten := by
  have hr := hels.reverse
  have hfl : css.reverse.flatten.length = n * 8 := by rw [hr.flat, List.length_reverse, hn]; rfl
  have hlc : css.length = n := by rw [hels.length, hn]
  apply List.ext_getElem?
  intro x
  by_cases hx : x < n * 8
  · rw [List.getElem?_take_of_lt hx]
    have hk : x / 8 < n := by omega
    have hxe : x = x / 8 * 8 + x % 8 := by omega
    have e1 := h (x / 8) hk (x % 8) (by omega)
    rw [← hxe] at e1
    obtain ⟨c, hE, hc, hcc⟩ := hr.cell (x / 8) (by rw [List.length_reverse, hn]; exact hk)
    have hlen : c.length = 8 := verE.len hE
    have e2 := hcc (x % 8) (c[x % 8]'(by omega)) (List.getElem?_eq_getElem _)
    change css.reverse.flatten[x / 8 * 8 + x % 8]? = _ at e2
    rw [← hxe] at e2
    have hp : revP n i (x / 8) = n - 1 - x / 8 := by
      unfold revP
      by_cases h1 : x / 8 < i ∨ n - 1 - x / 8 < i
      · rw [if_pos h1]
      · rw [if_neg h1]; omega
    rw [List.getElem?_reverse (by omega), hlc] at hc
    rw [e1, e2, hp, List.getD_eq_getElem?_getD, hc, Option.getD_some]
    exact List.getElem?_eq_getElem _
  · rw [List.getElem?_eq_none (by rw [List.length_take]; omega), List.getElem?_eq_none (by omega)]
set_option maxRecDepth 100000 in
set_option maxHeartbeats 4000000 in
theorem vrev_c (w0 w : World) (s : Value) (l : List Ver) (hbl : Below w0.heap.size w0 w) (hown : RowOwn verE w0 w w0.heap.size 57 s l) (hn : l.length ≤ 1000) :
    Calls Try.prog 31 #[s] w fun e w' => e = .returned (.tuple #[]) ∧ RowOwn verE w0 w' w0.heap.size 57 s l.reverse ∧ Below w0.heap.size w0 w' := by
  obtain ⟨css, hels, hrow⟩ := hown
  replace hrow : w.ownsRow w0.heap.size 57 8 s l.length css.flatten := hrow
  rcases hrow.2 with ⟨rfl, h0⟩ | ⟨g, cap, cur, rfl, hbg, hg, hnc, hcm, hcs, htake⟩
  · obtain rfl : l = [] := List.eq_nil_of_length_eq_zero h0
    have HBL := Lib.hid hbl
    clear hels hrow h0 hbl
    go_enter Try.func31, Try.ntmps31
    go_wp2
    go_loopw [2, 3] (fun iv jv wr => iv = .int .i64 0 ∧ jv = .int .i64 (-1) ∧ wr = w) (fun _ _ _ => 0)
    case atStart => exact ⟨rfl, rfl, rfl⟩
    case round =>
      obtain ⟨rfl, rfl, rfl⟩ := hrel
      go_wp2
      refine bodyPost_end (v := .tuple #[]) ?_ rfl ?_
      · simp [results, Try.results31, go_sem]
      · exact ⟨rfl, RowOwn.nil _ _ _ _, HBL.out⟩
  obtain ⟨cur0, hcur⟩ : ∃ c : List Value, c = cur.toList := ⟨_, rfl⟩
  have hg' : w.heap[g]? = some (.cells cur0.toArray 57 (0, 0)) := by rw [hcur]; simpa using hg
  have hcl : cur0.length = cap * 8 := by rw [hcur]; simpa using hcs
  rw [← hcur] at htake
  generalize hln : l.length = n at *
  have hst : RevSt w0 g cap n css 0 w := by
    refine ⟨⟨cur0, hg', hcl, fun k hk q hq => ?_⟩, hbl⟩
    obtain ⟨c, hE, hc, hcc⟩ := hels.cell k (by omega)
    have hlen : c.length = 8 := verE.len hE
    have e2 := hcc q (c[q]'(by omega)) (List.getElem?_eq_getElem _)
    change css.flatten[k * 8 + q]? = _ at e2
    rw [← htake, List.getElem?_take_of_lt (by omega)] at e2
    have hp : revP n 0 k = k := by unfold revP; rw [if_neg (by omega)]
    rw [e2, hp, List.getD_eq_getElem?_getD, hc, Option.getD_some]
    exact (List.getElem?_eq_getElem _).symm
  have HST := Lib.hid hst
  have HEL := Lib.hid hels
  have HLN := Lib.hid hln
  clear hst hels hrow hg hg' hcs hcur htake hbl hcl hln
  have hw1 : IntKind.i64.wrap ((n : Int) - 1) = (n : Int) - 1 := by rw [IntKind.wrap_i64]; omega
  go_enter Try.func31, Try.ntmps31
  go_wp2
  go_loopw [2, 3] (fun iv jv wr => ∃ i : Nat, 2 * i ≤ n ∧ iv = .int .i64 i ∧ jv = .int .i64 ((n : Int) - 1 - i) ∧ RevSt w0 g cap n css i wr) (fun iv _ _ => n - (intOf iv).toNat)
  case atStart => exact ⟨0, by omega, rfl, by go_num, HST.out⟩
  case round =>
    clear HST
    obtain ⟨i, hi, rfl, rfl, hS⟩ := hrel
    have S := Lib.hid hS
    clear hS
    by_cases hlt : 2 * i + 1 < n
    · obtain ⟨j, hj⟩ : ∃ j : Nat, i + j + 1 = n := ⟨n - 1 - i, by omega⟩
      have hje : (n : Int) - 1 - (i : Int) = (j : Int) := by omega
      rw [hje]
      have hij : i < j := by omega
      have hjn : j < n := by omega
      have hin : i < n := by omega
      obtain ⟨cur, hgc, hcl, hall⟩ := S.out.ex
      have hll : l.length = n := HLN.out
      obtain ⟨ci, ⟨ui, xi, rfl, hki⟩, hci, -⟩ := HEL.out.cell i (by omega)
      obtain ⟨cj, ⟨uj, xj, rfl, hkj⟩, hcj, -⟩ := HEL.out.cell j (by omega)
      generalize l[i]'(by omega) = vi at *
      generalize l[j]'(by omega) = vj at *
      have hpi : revP n i i = i := by unfold revP; rw [if_neg (by omega)]
      have hpj : revP n i j = j := by unfold revP; rw [if_neg (by omega)]
      have hgi : css.getD i [] = (verC vi ui xi).toList := by rw [List.getD_eq_getElem?_getD, hci]; rfl
      have hgj : css.getD j [] = (verC vj uj xj).toList := by rw [List.getD_eq_getElem?_getD, hcj]; rfl
      have hcelli := fun (q : Nat) (y : Value) (hq : q < 8) (hy : (verC vi ui xi).toList[q]? = some y) => (show wr.cell? ⟨g, i * 8 + q, none⟩ = some y from cell_of_block hgc (by rw [List.getElem?_toArray, hall i hin q hq, hpi, hgi]; exact hy))
      have hcellj := fun (q : Nat) (y : Value) (hq : q < 8) (hy : (verC vj uj xj).toList[q]? = some y) => (show wr.cell? ⟨g, j * 8 + q, none⟩ = some y from cell_of_block hgc (by rw [List.getElem?_toArray, hall j hjn q hq, hpj, hgj]; exact hy))
      have A0 := Lib.hid (hcelli 0 _ (by decide) rfl)
      have B0 := Lib.hid (hcellj 0 _ (by decide) rfl)
      have A1 := Lib.hid (hcelli 1 _ (by decide) rfl)
      have B1 := Lib.hid (hcellj 1 _ (by decide) rfl)
      have A2 := Lib.hid (hcelli 2 _ (by decide) rfl)
      have B2 := Lib.hid (hcellj 2 _ (by decide) rfl)
      have A3 := Lib.hid (hcelli 3 _ (by decide) rfl)
      have B3 := Lib.hid (hcellj 3 _ (by decide) rfl)
      have A4 := Lib.hid (hcelli 4 _ (by decide) rfl)
      have B4 := Lib.hid (hcellj 4 _ (by decide) rfl)
      have A5 := Lib.hid (hcelli 5 _ (by decide) rfl)
      have B5 := Lib.hid (hcellj 5 _ (by decide) rfl)
      have A6 := Lib.hid (hcelli 6 _ (by decide) rfl)
      have B6 := Lib.hid (hcellj 6 _ (by decide) rfl)
      have A7 := Lib.hid (hcelli 7 _ (by decide) rfl)
      have B7 := Lib.hid (hcellj 7 _ (by decide) rfl)
      rw [Nat.add_zero] at A0 B0
      have HALL := Lib.hid (rev_step hnc hj hij hcl hgi hgj rfl rfl hall)
      have HGC := Lib.hid hgc
      have HCL := Lib.hid hcl
      have HB := Lib.hid S.out.bel
      have hel_i : verE.El w0 vi (verC vi ui xi).toList := ⟨ui, xi, rfl, hki⟩
      have hel_j : verE.El w0 vj (verC vj uj xj).toList := ⟨uj, xj, rfl, hkj⟩
      have H1I := Lib.hid (verE.one hel_i)
      have H1J := Lib.hid (verE.one hel_j)
      obtain ⟨ua, uc, rfl⟩ := hki.vec.shape
      obtain ⟨xa, xc, rfl⟩ := hki.more.shape
      obtain ⟨ub, ud, rfl⟩ := hkj.vec.shape
      obtain ⟨xb, xd, rfl⟩ := hkj.more.shape
      clear hgc hall hcl hki hkj hci hcj hgi hgj hpi hpj hcelli hcellj hel_i hel_j S
      have hltb : decide ((i : Int) < (j : Int)) = true := by simp; omega
      have hib : decide ((i : Int) < (n : Int)) = true := by simp; omega
      have hjb : decide ((j : Int) < (n : Int)) = true := by simp; omega
      go_wp2_with fail
      refine Cl.region0 28 rfl [13, 15] (fun ww => Below wr.heap.size wr ww) (fun jq => match jq with | 13 => [15] | _ => []) (fun jq v ww => match jq with | 0 => v = .slice (some ⟨g, 0, none⟩) n cap | 1 => v = .int .i64 (i : Nat) | 2 => v = .slice (some ⟨g, 0, none⟩) n cap | 3 => v = .int .i64 (j : Nat) | 4 => v = .slice (some ⟨g, 0, none⟩) n cap | 5 => v = .int .i64 (j : Nat) | 6 => v = .pointer (some ⟨g, j * 8, none⟩) | 7 => v = .agg #[.string vj.id, .int .i64 vj.ds, .int .i64 vj.dc, .int .i64 vj.tg, .int .i64 vj.nm, .int .i64 vj.bd, .slice ub vj.past.vec.length ud, .slice xb vj.past.more.length xd] | 8 => v = .slice (some ⟨g, 0, none⟩) n cap | 9 => v = .int .i64 (i : Nat) | 10 => v = .pointer (some ⟨g, i * 8, none⟩) | 11 => v = .agg #[.string vi.id, .int .i64 vi.ds, .int .i64 vi.dc, .int .i64 vi.tg, .int .i64 vi.nm, .int .i64 vi.bd, .slice ua vi.past.vec.length uc, .slice xa vi.past.more.length xc] | 12 => v = .pointer (some ⟨g, i * 8, none⟩) | 13 => ww.heap[g]? = some (Obj.cells (splice cur (i * 8) (verC vj (.slice ub vj.past.vec.length ud) (.slice xb vj.past.more.length xd)).toList).toArray 57 (0, 0)) | 14 => v = .pointer (some ⟨g, j * 8, none⟩) | 15 => ww.heap[g]? = some (Obj.cells (splice (splice cur (i * 8) (verC vj (.slice ub vj.past.vec.length ud) (.slice xb vj.past.more.length xd)).toList) (j * 8) (verC vi (.slice ua vi.past.vec.length uc) (.slice xa vi.past.more.length xc)).toList).toArray 57 (0, 0)) | _ => True) (fun ww => RowBut wr ww g) (fun jq ww ww' => jq ≠ 13 → jq ≠ 15 → Below ww.heap.size ww ww') Try.mixed (by decide +kernel) ⟨rfl, rfl, rfl, rfl, fun _ _ => rfl⟩ ((Below.refl _ _).drew) ?_ (fun jq ww ww' hk h hR => bstep h (hR (by simp at hk; exact hk.1) (by simp at hk; exact hk.2))) ?_ ?_
      · intro qq r v w w' hne hk hlt h hR
        match r, hk, hlt, h, hne with
        | 0, _, _, h, _ => exact h
        | 1, _, _, h, _ => exact h
        | 2, _, _, h, _ => exact h
        | 3, _, _, h, _ => exact h
        | 4, _, _, h, _ => exact h
        | 5, _, _, h, _ => exact h
        | 6, _, _, h, _ => exact h
        | 7, _, _, h, _ => exact h
        | 8, _, _, h, _ => exact h
        | 9, _, _, h, _ => exact h
        | 10, _, _, h, _ => exact h
        | 11, _, _, h, _ => exact h
        | 12, _, _, h, _ => exact h
        | 13, hk, _, h, hne => exact below_keep (hR (by exact hne) (by simpa using hk)) h
        | 14, _, _, h, _ => exact h
        | 15, _, hlt, h, hne => exact below_keep (hR (by intro e; subst e; exact absurd hlt (by decide +kernel)) (by exact hne)) h
        | _ + 16, _, _, _, _ => trivial
      · refine ⟨?_, ?_, ?_, ?_, ?_, ?_, ?_, ?_, ?_, ?_, ?_, ?_, ?_, ?_, ?_, ?_, trivial⟩
        · intro x wx hG
          have f0 := hG.old 0 (by decide +kernel)
          have hg := hG.good
          clear hG
          go_wp2
          exact ⟨_, rfl, rfl, hg, fun _ _ => Below.refl _ _⟩
        · intro x wx hG
          have f2 := hG.old 2 (by decide +kernel)
          have hg := hG.good
          clear hG
          go_wp2
          exact ⟨_, rfl, rfl, hg, fun _ _ => Below.refl _ _⟩
        · intro x wx hG
          have f0 := hG.old 0 (by decide +kernel)
          have hg := hG.good
          clear hG
          go_wp2
          exact ⟨_, rfl, rfl, hg, fun _ _ => Below.refl _ _⟩
        · intro x wx hG
          have f3 := hG.old 3 (by decide +kernel)
          have hg := hG.good
          clear hG
          go_wp2
          exact ⟨_, rfl, rfl, hg, fun _ _ => Below.refl _ _⟩
        · intro x wx hG
          have f0 := hG.old 0 (by decide +kernel)
          have hg := hG.good
          clear hG
          go_wp2
          exact ⟨_, rfl, rfl, hg, fun _ _ => Below.refl _ _⟩
        · intro x wx hG
          have f3 := hG.old 3 (by decide +kernel)
          have hg := hG.good
          clear hG
          go_wp2
          exact ⟨_, rfl, rfl, hg, fun _ _ => Below.refl _ _⟩
        · intro x wx hG
          have g4 : (x.tmps.getD 18 undef) = .slice (some ⟨g, 0, none⟩) n cap := hG.claims 4 _ rfl (by decide +kernel) (by decide +kernel)
          have g5 : (x.tmps.getD 19 undef) = .int .i64 (j : Nat) := hG.claims 5 _ rfl (by decide +kernel) (by decide +kernel)
          have hg := hG.good
          clear hG
          go_wp2
          exact ⟨_, rfl, rfl, hg, fun _ _ => Below.refl _ _⟩
        · intro x wx hG
          have g6 : (x.tmps.getD 20 undef) = .pointer (some ⟨g, j * 8, none⟩) := hG.claims 6 _ rfl (by decide +kernel) (by decide +kernel)
          have hp := hG.pre (by decide +kernel)
          have hg := hG.good
          clear hG
          have hg0 := hg
          have hg := hp
          have c_B0 := ckeep hg B0.out
          have c_B1 := ckeep hg B1.out
          have c_B2 := ckeep hg B2.out
          have c_B3 := ckeep hg B3.out
          have c_B4 := ckeep hg B4.out
          have c_B5 := ckeep hg B5.out
          have c_B6 := ckeep hg B6.out
          have c_B7 := ckeep hg B7.out
          go_wp2
          exact ⟨_, rfl, rfl, hg0, fun _ _ => Below.refl _ _⟩
        · intro x wx hG
          have f0 := hG.old 0 (by decide +kernel)
          have hg := hG.good
          clear hG
          go_wp2
          exact ⟨_, rfl, rfl, hg, fun _ _ => Below.refl _ _⟩
        · intro x wx hG
          have f2 := hG.old 2 (by decide +kernel)
          have hg := hG.good
          clear hG
          go_wp2
          exact ⟨_, rfl, rfl, hg, fun _ _ => Below.refl _ _⟩
        · intro x wx hG
          have g8 : (x.tmps.getD 22 undef) = .slice (some ⟨g, 0, none⟩) n cap := hG.claims 8 _ rfl (by decide +kernel) (by decide +kernel)
          have g9 : (x.tmps.getD 23 undef) = .int .i64 (i : Nat) := hG.claims 9 _ rfl (by decide +kernel) (by decide +kernel)
          have hg := hG.good
          clear hG
          go_wp2
          exact ⟨_, rfl, rfl, hg, fun _ _ => Below.refl _ _⟩
        · intro x wx hG
          have g10 : (x.tmps.getD 24 undef) = .pointer (some ⟨g, i * 8, none⟩) := hG.claims 10 _ rfl (by decide +kernel) (by decide +kernel)
          have hp := hG.pre (by decide +kernel)
          have hg := hG.good
          clear hG
          have hg0 := hg
          have hg := hp
          have c_A0 := ckeep hg A0.out
          have c_A1 := ckeep hg A1.out
          have c_A2 := ckeep hg A2.out
          have c_A3 := ckeep hg A3.out
          have c_A4 := ckeep hg A4.out
          have c_A5 := ckeep hg A5.out
          have c_A6 := ckeep hg A6.out
          have c_A7 := ckeep hg A7.out
          go_wp2
          exact ⟨_, rfl, rfl, hg0, fun _ _ => Below.refl _ _⟩
        · intro x wx hG
          have g0 : (x.tmps.getD 14 undef) = .slice (some ⟨g, 0, none⟩) n cap := hG.claims 0 _ rfl (by decide +kernel) (by decide +kernel)
          have g1 : (x.tmps.getD 15 undef) = .int .i64 (i : Nat) := hG.claims 1 _ rfl (by decide +kernel) (by decide +kernel)
          have hg := hG.good
          clear hG
          go_wp2
          exact ⟨_, rfl, rfl, hg, fun _ _ => Below.refl _ _⟩
        · intro x wx hG
          have g12 : (x.tmps.getD 26 undef) = .pointer (some ⟨g, i * 8, none⟩) := hG.claims 12 _ rfl (by decide +kernel) (by decide +kernel)
          have g7 : (x.tmps.getD 21 undef) = .agg #[.string vj.id, .int .i64 vj.ds, .int .i64 vj.dc, .int .i64 vj.tg, .int .i64 vj.nm, .int .i64 vj.bd, .slice ub vj.past.vec.length ud, .slice xb vj.past.more.length xd] := hG.claims 7 _ rfl (by decide +kernel) (by decide +kernel)
          have hp := hG.pre (by decide +kernel)
          have hg := hG.good
          clear hG
          have hgx := below_keep hp HGC.out
          have HGX := Lib.hid hgx
          clear hgx hp
          refine wpList_store_at rfl 57 (.tmp 26) (.tmp 21) rfl g (i * 8) (verC vj (.slice ub vj.past.vec.length ud) (.slice xb vj.past.more.length xd)) g12 g7 57 cur HGX.out VTy.size (by rw [HCL.out]; show i * 8 + 8 ≤ _; omega) H1J.out ?_
          intro w9 h9 hr9
          go_wp2
          exact ⟨undef, rfl, h9.out, hg.trans hr9, fun h _ => absurd rfl h⟩
        · intro x wx hG
          have g2 : (x.tmps.getD 16 undef) = .slice (some ⟨g, 0, none⟩) n cap := hG.claims 2 _ rfl (by decide +kernel) (by decide +kernel)
          have g3 : (x.tmps.getD 17 undef) = .int .i64 (j : Nat) := hG.claims 3 _ rfl (by decide +kernel) (by decide +kernel)
          have hg := hG.good
          clear hG
          go_wp2
          exact ⟨_, rfl, rfl, hg, fun _ _ => Below.refl _ _⟩
        · intro x wx hG
          have g14 : (x.tmps.getD 27 undef) = .pointer (some ⟨g, j * 8, none⟩) := hG.claims 14 _ rfl (by decide +kernel) (by decide +kernel)
          have g11 : (x.tmps.getD 25 undef) = .agg #[.string vi.id, .int .i64 vi.ds, .int .i64 vi.dc, .int .i64 vi.tg, .int .i64 vi.nm, .int .i64 vi.bd, .slice ua vi.past.vec.length uc, .slice xa vi.past.more.length xc] := hG.claims 11 _ rfl (by decide +kernel) (by decide +kernel)
          have g13 : wx.heap[g]? = some (Obj.cells (splice cur (i * 8) (verC vj (.slice ub vj.past.vec.length ud) (.slice xb vj.past.more.length xd)).toList).toArray 57 (0, 0)) := hG.claims 13 _ rfl (by decide +kernel) (by decide +kernel)
          have hg := hG.good
          clear hG
          have HGX := Lib.hid g13
          clear g13
          refine wpList_store_at rfl 57 (.tmp 27) (.tmp 25) rfl g (j * 8) (verC vi (.slice ua vi.past.vec.length uc) (.slice xa vi.past.more.length xc)) g14 g11 57 _ HGX.out VTy.size (by rw [length_splice _ _ _ (by rw [HCL.out]; show i * 8 + 8 ≤ _; omega), HCL.out]; show j * 8 + 8 ≤ _; omega) H1I.out ?_
          intro w9 h9 hr9
          go_wp2
          exact ⟨undef, rfl, h9.out, hg.trans hr9, fun _ h => absurd rfl h⟩
      · intro vals w4 hg hF
        obtain ⟨g0, g1, g2, g3, g4, g5, g6, g7, g8, g9, g10, g11, g12, g13, g14, g15, -⟩ := hF
        have e0 : vals 0 = .slice (some ⟨g, 0, none⟩) n cap := g0 rfl
        have e1 : vals 1 = .int .i64 (i : Nat) := g1 rfl
        have e2 : vals 2 = .slice (some ⟨g, 0, none⟩) n cap := g2 rfl
        have e3 : vals 3 = .int .i64 (j : Nat) := g3 rfl
        have e4 : vals 4 = .slice (some ⟨g, 0, none⟩) n cap := g4 rfl
        have e5 : vals 5 = .int .i64 (j : Nat) := g5 rfl
        have e6 : vals 6 = .pointer (some ⟨g, j * 8, none⟩) := g6 rfl
        have e7 : vals 7 = .agg #[.string vj.id, .int .i64 vj.ds, .int .i64 vj.dc, .int .i64 vj.tg, .int .i64 vj.nm, .int .i64 vj.bd, .slice ub vj.past.vec.length ud, .slice xb vj.past.more.length xd] := g7 rfl
        have e8 : vals 8 = .slice (some ⟨g, 0, none⟩) n cap := g8 rfl
        have e9 : vals 9 = .int .i64 (i : Nat) := g9 rfl
        have e10 : vals 10 = .pointer (some ⟨g, i * 8, none⟩) := g10 rfl
        have e11 : vals 11 = .agg #[.string vi.id, .int .i64 vi.ds, .int .i64 vi.dc, .int .i64 vi.tg, .int .i64 vi.nm, .int .i64 vi.bd, .slice ua vi.past.vec.length uc, .slice xa vi.past.more.length xc] := g11 rfl
        have e12 : vals 12 = .pointer (some ⟨g, i * 8, none⟩) := g12 rfl
        have e14 : vals 14 = .pointer (some ⟨g, j * 8, none⟩) := g14 rfl
        replace g15 : w4.heap[g]? = some (Obj.cells (splice (splice cur (i * 8) (verC vj (.slice ub vj.past.vec.length ud) (.slice xb vj.past.more.length xd)).toList) (j * 8) (verC vi (.slice ua vi.past.vec.length uc) (.slice xa vi.past.more.length xc)).toList).toArray 57 (0, 0)) := g15 rfl
        simp only [Cl.puts, e0, e1, e2, e3, e4, e5, e6, e7, e8, e9, e10, e11, e12, e14]
        clear e0 e1 e2 e3 e4 e5 e6 e7 e8 e9 e10 e11 e12 e14 g0 g1 g2 g3 g4 g5 g6 g7 g8 g9 g10 g11 g12 g13 g14
        go_simp
        have HN := Lib.hid (show RevSt w0 g cap n css (i + 1) w4 from ⟨⟨_, g15, by rw [length_splice _ _ _ (by rw [length_splice _ _ _ (by rw [HCL.out]; show i * 8 + 8 ≤ _; omega), HCL.out]; show j * 8 + 8 ≤ _; omega), length_splice _ _ _ (by rw [HCL.out]; show i * 8 + 8 ≤ _; omega), HCL.out], HALL.out⟩, hg.below HB.out hbg⟩)
        clear g15 hg HALL HGC HB A0 A1 A2 A3 A4 A5 A6 A7 B0 B1 B2 B3 B4 B5 B6 B7
        have hjm : (j : Int) - 1 = (n : Int) - 1 - ((i + 1 : Nat) : Int) := by omega
        go_wp2
        go_roundw
        case rel => exact ⟨i + 1, by omega, by go_num, by go_num, HN.out⟩
        case measure => simp [intOf] <;> omega
    · obtain ⟨cur, hgc, hcl, hall⟩ := S.out.ex
      have hd := rev_done HEL.out HLN.out hnc hcl (by omega) hall
      have HFIN := Lib.hid (show RowOwn verE w0 wr w0.heap.size 57 (.slice (some ⟨g, 0, none⟩) n cap) l.reverse from
        ⟨css.reverse, HEL.out.reverse, by rw [HEL.out.reverse.flat], .inr ⟨g, cap, _, by rw [List.length_reverse, HLN.out], hbg, hgc, by rw [List.length_reverse, HLN.out]; exact hnc, hcm, by rw [List.size_toArray, hcl]; rfl, by rw [List.toList_toArray, List.length_reverse, HLN.out]; exact hd⟩⟩)
      have HB := Lib.hid S.out.bel
      have hltb : decide ((i : Int) < (n : Int) - 1 - (i : Int)) = false := by simp; omega
      clear hgc hcl hall hd S
      go_wp2
      refine bodyPost_end (v := .tuple #[]) ?_ rfl ?_
      · simp [results, Try.results31, go_sem]
      · exact ⟨rfl, HFIN.out, HB.out⟩
end Go.Proofs.Ytliieljmfncmjaa
