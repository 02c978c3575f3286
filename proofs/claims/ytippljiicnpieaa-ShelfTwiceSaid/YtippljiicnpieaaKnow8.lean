/- What know.Add does. Written by a small program (gen/know8.py). -/
import Derived.Test.YtippljiicnpieaaKnow6
namespace Go.Proofs.Ytippljiicnpieaa
open Go.RowKit
def addP (P : DPred) (s c : Int) : DPred := fun s' c' => P s' c' || decide ((s', c') = (s, c))
theorem add_mem (k : Kn) (s c : Int) : DEq (fun s' c' => decide (c' ≤ vmaxAt [k.vec] s') || decide ((s', c') ∈ k.more ++ [(s, c)])) (addP (knIn k) s c) := by
  intro s' c' _ _ h1 _
  rw [Bool.eq_iff_iff]
  simp only [addP, knIn, Bool.or_eq_true, decide_eq_true_eq, List.mem_append, List.mem_singleton]
  rw [show vmaxAt [k.vec] s' = max 0 (vecAt k.vec s') from rfl]
  have e : (c' ≤ max 0 (vecAt k.vec s')) ↔ (c' ≤ vecAt k.vec s') := by omega
  rw [e, or_assoc]
def addE (k : Kn) (s c : Int) : Int := if knChk k = 0 then (if dotOk (s, c) = true then kE (formK (addP (knIn k) s c)) else 1) else knChk k
theorem vecsOk1 {a : Kn} (ha : KnOk a) : ∀ l ∈ [a.vec], vecOk l := by
  intro l hl
  simp only [List.mem_singleton] at hl
  rw [hl]
  exact ⟨ha.len, ha.bd⟩
theorem dotsOk1 {a : Kn} {d : Int × Int} (ha : KnOk a) (hd : dotOk d = true) : ∀ x ∈ a.more ++ [d], dotOk x = true := by
  intro x hx
  rcases List.mem_append.1 hx with h | h
  · exact (ha.dots x h).1
  · simp only [List.mem_singleton] at h; rw [h]; exact hd
theorem rowOf1 {w : World} {g : Nat} {u : Value} {l : List Int} {t : TypeId} (h : w.heap[g]? = some (Obj.cells #[u] t (0, 0))) (hu : IsAt w u l) : RowAt vecE w (.slice (some ⟨g, 0, none⟩) 1 1) [l] := by
  refine ⟨[[u]], ⟨⟨_, rfl, hu⟩, trivial⟩, CellsAt.mk (Nat.le_refl _) (by decide) (hlt_of h) fun j x hj => ?_⟩
  rw [Nat.zero_add]
  exact cell_of_block h (by simpa using hj)
set_option maxRecDepth 100000 in
set_option maxHeartbeats 4000000 in
theorem kadd_c (ua va : Value) (k : Kn) (s c : Int) (w : World) (ha : KnAt w ua va k) :
    Calls Try.prog 58 #[.agg #[ua, va], .agg #[.int .i64 s, .int .i64 c]] w fun e w' => ∃ (x y : Value), e = .returned (.tuple #[.agg #[x, y], .int .i64 (addE k s c)]) ∧ KnRes w' w.heap.size x y (addE k s c) (formK (addP (knIn k) s c)) ∧ Below w.heap.size w w' := by
  obtain ⟨xa, ca, hua⟩ := ha.vec.shape
  obtain ⟨ya, da, hva⟩ := ha.more.shape
  subst hua hva
  obtain ⟨W, hW⟩ : ∃ W, W = ((w.alloc (.cells #[.slice xa k.vec.length ca, .slice ya k.more.length da] 30)).alloc (.cells #[.int .i64 s, .int .i64 c] 24)).alloc (.cells #[.slice none 0 0, .slice none 0 0] 30) := ⟨_, rfl⟩
  have hbW : Below w.heap.size w W := by rw [hW]; exact ((bal _).alloc (by simp) _).alloc (by simp; omega) _
  have A := Lib.hid (show W.heap[w.heap.size]? = some (Obj.cells #[.slice xa k.vec.length ca, .slice ya k.more.length da] 30 (0, 0)) by rw [hW]; exact alloc_keep _ (alloc_keep _ (alloc_new _ _ _ _ rfl)))
  have B := Lib.hid (show W.heap[w.heap.size + 1]? = some (Obj.cells #[.int .i64 s, .int .i64 c] 24 (0, 0)) by rw [hW]; exact alloc_keep _ (alloc_new _ _ _ _ (by simp)))
  have R := Lib.hid (show W.heap[w.heap.size + 2]? = some (Obj.cells #[.slice none 0 0, .slice none 0 0] 30 (0, 0)) by rw [hW]; exact alloc_new _ _ _ _ (by simp))
  have HA := Lib.hid (ha.below hbW)
  have HBW := Lib.hid hbW
  clear hbW ha
  go_enter Try.func58, Try.ntmps58
  go_wp2_with fail
  rw [show w.heap.size + 1 + 1 = w.heap.size + 2 from rfl, ← hW]
  clear hW
  (with_reducible refine (knChk_c _ _ k _ HA.out).mono ?_)
  rintro e w1 ⟨rfl, hb1⟩
  have A1 := Lib.hid (below_keep hb1 A.out)
  have B1 := Lib.hid (below_keep hb1 B.out)
  have R1 := Lib.hid (below_keep hb1 R.out)
  have HA1 := Lib.hid (HA.out.below hb1)
  have hbl := HBW.out.trans (hb1.mono HBW.out.size)
  clear hb1 A B R HA HBW
  cases hx : (knChk k == 0)
  · have H0 := Lib.hid (show knChk k ≠ 0 by simpa using hx)
    have H := Lib.hid (show addE k s c = knChk k by unfold addE; rw [if_neg H0.out])
    have h' : (knChk k != 0) = true := by simp [bne, hx]
    have r0 := cell_of_block (j := 0) R1.out rfl
    have r1 := cell_of_block (j := 1) R1.out rfl
    have f0 := free_of_block (j := 0) R1.out
    have f1 := free_of_block (j := 1) R1.out
    have hRl := hlt_of R1.out
    clear hx
    go_wp2
    refine bodyPost_ret (v := .tuple #[.agg #[_, _], _]) (by simp [results, Try.results58, go_sem, *]; exact ⟨⟨rfl, rfl⟩, rfl⟩) rfl ?_
    exact ⟨_, _, by rw [H.out], .inr ⟨by rw [H.out]; exact H0.out, rfl, rfl⟩, (hbl.setCell (by simp) _).setCell (by simp) _⟩
  have h0 : knChk k = 0 := by simpa using hx
  have H0 := Lib.hid h0
  have OA := Lib.hid (knChk_zero.1 h0)
  rw [h0]
  clear hx h0
  have b0 := cell_of_block (j := 0) B1.out rfl
  have b1 := cell_of_block (j := 1) B1.out rfl
  go_wp2_with fail
  (with_reducible refine (dot_c s c _).mono ?_)
  rintro e w2 ⟨rfl, hb1⟩
  replace A1 := Lib.hid (below_keep hb1 A1.out)
  replace B1 := Lib.hid (below_keep hb1 B1.out)
  replace R1 := Lib.hid (below_keep hb1 R1.out)
  replace HA1 := Lib.hid (HA1.out.below hb1)
  replace hbl := hbl.trans (hb1.mono hbl.size)
  clear hb1 b0 b1
  cases hd : dotOk (s, c)
  · have H := Lib.hid (show addE k s c = 1 by unfold addE; rw [if_pos H0.out, hd]; rfl)
    have r0 := cell_of_block (j := 0) R1.out rfl
    have r1 := cell_of_block (j := 1) R1.out rfl
    have f0 := free_of_block (j := 0) R1.out
    have f1 := free_of_block (j := 1) R1.out
    have hRl := hlt_of R1.out
    clear hd
    go_wp2
    refine bodyPost_ret (v := .tuple #[.agg #[_, _], _]) (by simp [results, Try.results58, go_sem, *]; exact ⟨⟨rfl, rfl⟩, rfl⟩) rfl ?_
    exact ⟨_, _, by rw [H.out], .inr ⟨by rw [H.out]; decide, rfl, rfl⟩, (hbl.setCell (by simp) _).setCell (by simp) _⟩
  have HD := Lib.hid hd
  have HE := Lib.hid (show addE k s c = kE (formK (addP (knIn k) s c)) by unfold addE; rw [if_pos H0.out, if_pos hd])
  clear hd
  go_wp2_with fail
  have CA0 := Lib.hid (cell_of_block (j := 0) A1.out rfl)
  have CA1 := Lib.hid (cell_of_block (j := 1) A1.out rfl)
  have CB0 := Lib.hid (cell_of_block (j := 0) B1.out rfl)
  have CB1 := Lib.hid (cell_of_block (j := 1) B1.out rfl)
  have hml := OA.out.2
  refine Cl.region0 30 rfl [13] (fun ww => Below w2.heap.size w2 ww) (fun jq => match jq with | 2 => [13] | 5 => [13, 8] | 7 => [13, 8] | 8 => [13] | 9 => [13] | 10 => [13] | 11 => [13] | _ => []) (fun jq v ww => match jq with | 0 => v = .pointer (some ⟨w.heap.size, 0, none⟩) | 1 => v = .slice xa k.vec.length ca | 2 => ∃ g, v = .slice (some ⟨g, 0, none⟩) 1 1 ∧ ww.heap[g]? = some (Obj.cells #[.slice xa k.vec.length ca] 27 (0, 0)) | 3 => v = .pointer (some ⟨w.heap.size, 1, none⟩) | 4 => v = .slice ya k.more.length da | 5 => ∃ a cc, v = .slice a k.more.length cc ∧ ww.ownsRow w2.heap.size 24 2 (.slice a k.more.length cc) k.more.length (spansCells k.more) | 6 => v = .agg #[.int .i64 s, .int .i64 c] | 7 => CellsAt ww v 1 [.int .i64 s, .int .i64 c] | 8 => ∃ a cc, v = .slice a (k.more.length + 1) cc ∧ ww.ownsRow w2.heap.size 24 2 (.slice a (k.more.length + 1) cc) (k.more.length + 1) (spansCells (k.more ++ [(s, c)])) | 9 => ∃ X Y, v = .agg #[X, Y] ∧ KnOwn ww w.heap.size X Y (formK (addP (knIn k) s c)) | 10 => ∃ X Y, v = .tuple #[.agg #[X, Y], .int .i64 (kE (formK (addP (knIn k) s c)))] ∧ KnRes ww w.heap.size X Y (kE (formK (addP (knIn k) s c))) (formK (addP (knIn k) s c)) | 11 => ∃ X Y, v = .agg #[X, Y] ∧ KnRes ww w.heap.size X Y (kE (formK (addP (knIn k) s c))) (formK (addP (knIn k) s c)) | 12 => v = .int .i64 (kE (formK (addP (knIn k) s c))) | 13 => ∃ X Y, ww.heap[w.heap.size + 2]? = some (Obj.cells #[X, Y] 30 (0, 0)) ∧ KnRes ww w.heap.size X Y (kE (formK (addP (knIn k) s c))) (formK (addP (knIn k) s c)) ∧ Below w.heap.size w ww | 14 => v = .int .i64 (kE (formK (addP (knIn k) s c))) | _ => True) (fun ww => True) (fun jq ww ww' => (jq ≠ 13 → jq ≠ 8 → Below ww.heap.size ww ww') ∧ (jq = 8 → AppR w2.heap.size 24 2 ww ww')) Try.mixed (by decide +kernel) trivial ((Below.refl _ _).drew) ?_ (fun jq ww ww' hk h hR => by by_cases hq : jq = 8; (exact (hR.2 hq).below h (Nat.le_refl _) h.size); exact bstep h (hR.1 (by simpa using hk) hq)) ?_ ?_
  · intro q r v w w' hne hk hlt h hR
    match r, hk, hlt, h, hne with
    | 0, _, _, h, _ => exact h
    | 1, _, _, h, _ => exact h
    | 2, hk, _, h, _ =>
      obtain ⟨g, h1, h2⟩ := h
      by_cases hq : q = 8
      · exact ⟨g, h1, (hR.2 hq).keep h2 (by decide)⟩
      · exact ⟨g, h1, below_keep (hR.1 (by simpa using hk) hq) h2⟩
    | 3, _, _, h, _ => exact h
    | 4, _, _, h, _ => exact h
    | 5, hk, _, h, _ =>
      simp only [List.mem_cons, List.not_mem_nil, or_false, not_or] at hk
      have hb := hR.1 hk.1 hk.2
      exact (let ⟨a, cc, h1, h2⟩ := h; ⟨a, cc, h1, owns_below h2 hb⟩)
    | 6, _, _, h, _ => exact h
    | 7, hk, _, h, _ =>
      simp only [List.mem_cons, List.not_mem_nil, or_false, not_or] at hk
      have hb := hR.1 hk.1 hk.2
      exact (h.below hb)
    | 8, hk, hlt, h, hne =>
      have hb := hR.1 (by simpa using hk) (by exact hne)
      exact (let ⟨a, cc, h1, h2⟩ := h; ⟨a, cc, h1, owns_below h2 hb⟩)
    | 9, hk, hlt, h, hne =>
      have hb := hR.1 (by simpa using hk) (by intro e; subst e; exact absurd hlt (by decide +kernel))
      exact (let ⟨x, y, h1, h2⟩ := h; ⟨x, y, h1, h2.below hb⟩)
    | 10, hk, hlt, h, hne =>
      have hb := hR.1 (by simpa using hk) (by intro e; subst e; exact absurd hlt (by decide +kernel))
      exact (let ⟨x, y, h1, h2⟩ := h; ⟨x, y, h1, h2.below hb⟩)
    | 11, hk, hlt, h, hne =>
      have hb := hR.1 (by simpa using hk) (by intro e; subst e; exact absurd hlt (by decide +kernel))
      exact (let ⟨x, y, h1, h2⟩ := h; ⟨x, y, h1, h2.below hb⟩)
    | 12, _, _, h, _ => exact h
    | 13, hk, hlt, h, hne =>
      have hb := hR.1 (by exact hne) (by intro e; subst e; exact absurd hlt (by decide +kernel))
      exact (let ⟨x, y, h1, h2, h3⟩ := h; ⟨x, y, below_keep hb h1, h2.below hb, bstep2 h3 hb⟩)
    | 14, _, _, h, _ => exact h
    | _ + 15, _, _, _, _ => trivial
  · refine ⟨?_, ?_, ?_, ?_, ?_, ?_, ?_, ?_, ?_, ?_, ?_, ?_, ?_, ?_, ?_, trivial⟩
    · intro x wx hG
      have f2 := hG.old 2 (by decide +kernel)
      have hp := hG.pre (by decide +kernel)
      have hg := hG.good
      clear hG
      have hg := hp
      go_wp2
      exact ⟨_, rfl, rfl, trivial, ⟨fun _ _ => Below.refl _ _, fun h => absurd h (by decide)⟩⟩
    · intro x wx hG
      have g0 : (x.tmps.getD 17 undef) = .pointer (some ⟨w.heap.size, 0, none⟩) := hG.claims 0 _ rfl (by decide +kernel) (by decide +kernel)
      have hp := hG.pre (by decide +kernel)
      have hg := hG.good
      clear hG
      have hg := hp
      have c_CA0 := ckeep hg CA0.out
      go_wp2
      exact ⟨_, rfl, rfl, trivial, ⟨fun _ _ => Below.refl _ _, fun h => absurd h (by decide)⟩⟩
    · intro x wx hG
      have g1 : (x.tmps.getD 18 undef) = .slice xa k.vec.length ca := hG.claims 1 _ rfl (by decide +kernel) (by decide +kernel)
      have g1b := g1
      rw [Array.getD_eq_getD_getElem?] at g1b
      have hp := hG.pre (by decide +kernel)
      have hg := hG.good
      clear hG
      have hg := hp
      go_wp2
      exact ⟨_, rfl, ⟨_, rfl, alloc_new _ _ _ _ rfl⟩, trivial, ⟨fun _ _ => bal _, fun h => absurd h (by decide)⟩⟩
    · intro x wx hG
      have f2 := hG.old 2 (by decide +kernel)
      have hp := hG.pre (by decide +kernel)
      have hg := hG.good
      clear hG
      have hg := hp
      go_wp2
      exact ⟨_, rfl, rfl, trivial, ⟨fun _ _ => Below.refl _ _, fun h => absurd h (by decide)⟩⟩
    · intro x wx hG
      have g3 : (x.tmps.getD 20 undef) = .pointer (some ⟨w.heap.size, 1, none⟩) := hG.claims 3 _ rfl (by decide +kernel) (by decide +kernel)
      have hp := hG.pre (by decide +kernel)
      have hg := hG.good
      clear hG
      have hg := hp
      have c_CA1 := ckeep hg CA1.out
      go_wp2
      exact ⟨_, rfl, rfl, trivial, ⟨fun _ _ => Below.refl _ _, fun h => absurd h (by decide)⟩⟩
    · intro x wx hG
      have g4 : (x.tmps.getD 21 undef) = .slice ya k.more.length da := hG.claims 4 _ rfl (by decide +kernel) (by decide +kernel)
      have hp := hG.pre (by decide +kernel)
      have hg := hG.good
      clear hG
      have hg := hp
      have hdx : CellsAt wx (.slice ya k.more.length da) k.more.length (spansCells k.more) := HA1.out.more.below hg
      have HDX := Lib.hid hdx
      clear hdx
      go_wp2_with fail
      (with_reducible refine (DcClone_c _ k.more.length (spansCells k.more) _ HDX.out (spansCells_length _) (spansCells_one _) (by omega)).mono ?_)
      rintro e wq ⟨v9, rfl, h9, hb⟩
      obtain ⟨za, zc, hz⟩ := owns_slice h9
      subst hz
      have H9 := Lib.hid (owns_mono h9 (base' := w2.heap.size) hg.size)
      clear h9
      go_wp2
      exact ⟨_, rfl, ⟨_, _, rfl, H9.out⟩, trivial, ⟨fun _ _ => hb, fun h => absurd h (by decide)⟩⟩
    · intro x wx hG
      have f3 := hG.old 3 (by decide +kernel)
      have hp := hG.pre (by decide +kernel)
      have hg := hG.good
      clear hG
      have hg := hp
      have c_CB0 := ckeep hg CB0.out
      have c_CB1 := ckeep hg CB1.out
      go_wp2
      exact ⟨_, rfl, rfl, trivial, ⟨fun _ _ => Below.refl _ _, fun h => absurd h (by decide)⟩⟩
    · intro x wx hG
      have g6 : (x.tmps.getD 23 undef) = .agg #[.int .i64 s, .int .i64 c] := hG.claims 6 _ rfl (by decide +kernel) (by decide +kernel)
      have g6b := g6
      rw [Array.getD_eq_getD_getElem?] at g6b
      have hp := hG.pre (by decide +kernel)
      have hg := hG.good
      clear hG
      have hg := hp
      go_wp2
      exact ⟨_, rfl, CellsAt.mk (Nat.le_refl _) (by decide) (by simp) (fun j z hj => by rw [Nat.zero_add, World.cell?_alloc_at _ _ _ _ rfl]; simpa using hj), trivial, ⟨fun _ _ => bal _, fun h => absurd h (by decide)⟩⟩
    · intro x wx hG
      have g5 : ∃ a cc, (x.tmps.getD 22 undef) = .slice a k.more.length cc ∧ wx.ownsRow w2.heap.size 24 2 (.slice a k.more.length cc) k.more.length (spansCells k.more) := hG.claims 5 _ rfl (by decide +kernel) (by decide +kernel)
      have g7 : CellsAt wx (x.tmps.getD 24 undef) 1 [.int .i64 s, .int .i64 c] := hG.claims 7 _ rfl (by decide +kernel) (by decide +kernel)
      have hp := hG.pre (by decide +kernel)
      have hg := hG.good
      clear hG
      have hg := hp
      obtain ⟨za, zc, hz, h9⟩ := g5
      have hzb := hz
      rw [Array.getD_eq_getD_getElem?] at hzb
      have H9 := Lib.hid h9
      have G7 := Lib.hid g7
      clear h9 g7
      have hbs := hg.size
      go_wp2_with (at_builtin; refine wpList_append_cells2 rfl (.tmp 22) (.tmp 24) 28 rfl w2.heap.size 24 _ 2 16 Try.underlying28 DcTy.info rfl (by decide) _ k.more.length _ hz H9.out _ 1 _ rfl G7.out rfl (by intro u hu; simp at hu; rcases hu with rfl | rfl <;> rfl) hbs (by unfold maxLen; omega) (by omega) ?_)
      intro v' wq ho hgr
      obtain ⟨qa, qc, hq⟩ := owns_slice ho
      subst hq
      have HO := Lib.hid ho
      have HGR := Lib.hid hgr
      clear ho hgr
      go_wp2
      exact ⟨_, rfl, ⟨_, _, rfl, by rw [spansCells_append]; exact HO.out⟩, trivial, ⟨fun _ h => absurd rfl h, fun _ => AppR.mk H9.out HGR.out⟩⟩
    · intro x wx hG
      have g2 : ∃ g, (x.tmps.getD 19 undef) = .slice (some ⟨g, 0, none⟩) 1 1 ∧ wx.heap[g]? = some (Obj.cells #[.slice xa k.vec.length ca] 27 (0, 0)) := hG.claims 2 _ rfl (by decide +kernel) (by decide +kernel)
      have g8 : ∃ a cc, (x.tmps.getD 25 undef) = .slice a (k.more.length + 1) cc ∧ wx.ownsRow w2.heap.size 24 2 (.slice a (k.more.length + 1) cc) (k.more.length + 1) (spansCells (k.more ++ [(s, c)])) := hG.claims 8 _ rfl (by decide +kernel) (by decide +kernel)
      have hp := hG.pre (by decide +kernel)
      have hg := hG.good
      clear hG
      have hg := hp
      obtain ⟨g9, hg1, hg2⟩ := g2
      obtain ⟨za, zc, hz, h9⟩ := g8
      have G2 := Lib.hid (rowOf1 hg2 (HA1.out.vec.below hg))
      have hat : DsAt wx (.slice za (k.more.length + 1) zc) (k.more ++ [(s, c)]) := by have := CellsAt.of_owns h9 (by omega); unfold DsAt; rw [List.length_append, List.length_singleton]; exact this
      have G8 := Lib.hid hat
      clear hg2 h9 hat
      go_wp2_with fail
      (with_reducible refine (made_f _ _ _ _ (addP (knIn k) s c) _ G2.out G8.out (vecsOk1 OA.out.1) (dotsOk1 OA.out.1 HD.out) (by simp only [List.length_append, List.length_singleton]; omega) (add_mem k s c)).mono ?_)
      rintro e wq ⟨u9, v9, rfl, h9, hb⟩
      have H9 := Lib.hid (h9.mono (base' := w.heap.size) (by have := hbl.size; have := hg.size; omega))
      clear h9
      go_wp2
      exact ⟨_, rfl, ⟨_, _, rfl, H9.out⟩, trivial, ⟨fun _ _ => hb, fun h => absurd h (by decide)⟩⟩
    · intro x wx hG
      have g9 : ∃ X Y, (x.tmps.getD 26 undef) = .agg #[X, Y] ∧ KnOwn wx w.heap.size X Y (formK (addP (knIn k) s c)) := hG.claims 9 _ rfl (by decide +kernel) (by decide +kernel)
      have hp := hG.pre (by decide +kernel)
      have hg := hG.good
      clear hG
      have hg := hp
      obtain ⟨x9, y9, hx9, h9⟩ := g9
      have H9 := Lib.hid h9
      clear h9
      go_wp2_with fail
      (with_reducible refine (told_c _ _ _ _ _ H9.out (by have := formM_len (addP (knIn k) s c); omega)).mono ?_)
      rintro e wq ⟨u9, v9, rfl, h8, hb⟩
      have H8 := Lib.hid h8
      clear h8
      go_wp2
      exact ⟨_, rfl, ⟨_, _, rfl, H8.out⟩, trivial, ⟨fun _ _ => hb, fun h => absurd h (by decide)⟩⟩
    · intro x wx hG
      have g10 : ∃ X Y, (x.tmps.getD 27 undef) = .tuple #[.agg #[X, Y], .int .i64 (kE (formK (addP (knIn k) s c)))] ∧ KnRes wx w.heap.size X Y (kE (formK (addP (knIn k) s c))) (formK (addP (knIn k) s c)) := hG.claims 10 _ rfl (by decide +kernel) (by decide +kernel)
      have hp := hG.pre (by decide +kernel)
      have hg := hG.good
      clear hG
      have hg := hp
      obtain ⟨x9, y9, hx9, h9⟩ := g10
      have H9 := Lib.hid h9
      clear h9
      go_wp2
      exact ⟨_, rfl, ⟨_, _, rfl, H9.out⟩, trivial, ⟨fun _ _ => Below.refl _ _, fun h => absurd h (by decide)⟩⟩
    · intro x wx hG
      have g10 : ∃ X Y, (x.tmps.getD 27 undef) = .tuple #[.agg #[X, Y], .int .i64 (kE (formK (addP (knIn k) s c)))] ∧ KnRes wx w.heap.size X Y (kE (formK (addP (knIn k) s c))) (formK (addP (knIn k) s c)) := hG.claims 10 _ rfl (by decide +kernel) (by decide +kernel)
      have hp := hG.pre (by decide +kernel)
      have hg := hG.good
      clear hG
      have hg := hp
      obtain ⟨x9, y9, hx9, h9⟩ := g10
      clear h9
      go_wp2
      exact ⟨_, rfl, rfl, trivial, ⟨fun _ _ => Below.refl _ _, fun h => absurd h (by decide)⟩⟩
    · intro x wx hG
      have f4 := hG.old 4 (by decide +kernel)
      have g11 : ∃ X Y, (x.tmps.getD 28 undef) = .agg #[X, Y] ∧ KnRes wx w.heap.size X Y (kE (formK (addP (knIn k) s c))) (formK (addP (knIn k) s c)) := hG.claims 11 _ rfl (by decide +kernel) (by decide +kernel)
      have hp := hG.pre (by decide +kernel)
      have hg := hG.good
      clear hG
      have hg := hp
      obtain ⟨x9, y9, hx9, h9⟩ := g11
      obtain ⟨qa, qn, qc, qb, qm, qd, hq1, hq2⟩ := h9.shape
      subst hq1 hq2
      have H9 := Lib.hid h9
      have hR := hp.block (w.heap.size + 2) (hlt_of R1.out)
      rw [R1.out] at hR
      have HR := Lib.hid hR
      have r0 := cell_of_block (j := 0) hR rfl
      have r1 := cell_of_block (j := 1) hR rfl
      have f0 := free_of_block (j := 0) hR
      have f1 := free_of_block (j := 1) hR
      have hRl := hlt_of hR
      have HBLX := Lib.hid (hbl.trans (hp.mono hbl.size))
      clear h9 hR
      go_wp2
      exact ⟨undef, rfl, ⟨_, _, by rw [heap_set_same (heap_set_same HR.out)]; rfl, (H9.out.set HR.out).set (heap_set_same HR.out), (HBLX.out.setCell (by simp) _).setCell (by simp) _⟩, trivial, ⟨fun h => absurd rfl h, fun h => absurd h (by decide)⟩⟩
    · intro x wx hG
      have g12 : (x.tmps.getD 29 undef) = .int .i64 (kE (formK (addP (knIn k) s c))) := hG.claims 12 _ rfl (by decide +kernel) (by decide +kernel)
      have hg := hG.good
      clear hG
      go_wp2
      exact ⟨_, rfl, rfl, trivial, ⟨fun _ _ => Below.refl _ _, fun h => absurd h (by decide)⟩⟩
  · intro vals w3 hg hF
    obtain ⟨g0, g1, g2, g3, g4, g5, g6, g7, g8, g9, g10, g11, g12, g13, g14, -⟩ := hF
    have e0 : vals 0 = .pointer (some ⟨w.heap.size, 0, none⟩) := g0 rfl
    have e1 : vals 1 = .slice xa k.vec.length ca := g1 rfl
    have e3 : vals 3 = .pointer (some ⟨w.heap.size, 1, none⟩) := g3 rfl
    have e4 : vals 4 = .slice ya k.more.length da := g4 rfl
    have e6 : vals 6 = .agg #[.int .i64 s, .int .i64 c] := g6 rfl
    have e12 : vals 12 = .int .i64 (kE (formK (addP (knIn k) s c))) := g12 rfl
    replace g13 : ∃ X Y, w3.heap[w.heap.size + 2]? = some (Obj.cells #[X, Y] 30 (0, 0)) ∧ KnRes w3 w.heap.size X Y (kE (formK (addP (knIn k) s c))) (formK (addP (knIn k) s c)) ∧ Below w.heap.size w w3 := g13 rfl
    have e14 : vals 14 = .int .i64 (kE (formK (addP (knIn k) s c))) := g14 rfl
    simp only [Cl.puts, e0, e1, e3, e4, e6, e12, e14]
    clear e0 e1 e3 e4 e6 e12 e14 g0 g1 g2 g3 g4 g5 g6 g7 g8 g9 g10 g11 g12 g14
    go_simp
    obtain ⟨x9, y9, h1, h2, h3⟩ := g13
    obtain ⟨qa, qn, qc, qb, qm, qd, hq1, hq2⟩ := h2.shape
    subst hq1 hq2
    have r0 := cell_of_block (j := 0) h1 rfl
    have r1 := cell_of_block (j := 1) h1 rfl
    have H2 := Lib.hid h2
    clear h1 h2
    go_wp2
    refine bodyPost_ret (v := .tuple #[.agg #[_, _], _]) (by simp [results, Try.results58, go_sem, *]; exact ⟨⟨rfl, rfl⟩, rfl⟩) rfl ?_
    exact ⟨_, _, by rw [HE.out], by rw [HE.out]; exact H2.out, h3⟩
end Go.Proofs.Ytippljiicnpieaa
