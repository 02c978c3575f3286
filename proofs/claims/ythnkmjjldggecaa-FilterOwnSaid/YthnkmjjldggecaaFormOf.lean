/- What formula.Of does. -/
import Derived.Test.YthnkmjjldggecaaFormOf0
import Derived.Test.YthnkmjjldggecaaMForm
import Derived.Test.YthnkmjjldggecaaMFilter1
import Derived.Test.YthnkmjjldggecaaNodeClone
import Derived.Test.YthnkmjjldggecaaBase3
import Derived.Outline
namespace Go.Proofs.Ythnkmjjldggecaa
open Go.RowKit
/-- The captured variable in block g holds the nodes l, in rows of the call's own from block B on. -/
def LSt (w : World) (B g : Nat) (l : Nds) : Prop := ∃ v, w.heap[g]? = some (.cells #[v] 24 (0, 0)) ∧ w.ownsRow B 30 3 v l.length (ndCells l)
/-- What a call of add leaves alone. -/
structure OKeep (B : Nat) (w w' : World) : Prop where
  bel : Below B w w'
  size : w.heap.size ≤ w'.heap.size
  other : ∀ (k : Nat) (cs : Array Value) (t : TypeId) (r : Nat × Nat), w.heap[k]? = some (Obj.cells cs t r) → t ≠ 24 → t ≠ 30 → w'.heap[k]? = some (Obj.cells cs t r)
theorem OKeep.trans {B : Nat} {w w1 w2 : World} (h : OKeep B w w1) (k : OKeep B w1 w2) : OKeep B w w2 :=
  ⟨h.bel.trans k.bel, Nat.le_trans h.size k.size, fun q cs t r hq h1 h2 => k.other q cs t r (h.other q cs t r hq h1 h2) h1 h2⟩

theorem add_end {W w1 w2 : World} {B g : Nat} {v v' : Value} {l : Nds} {x : Nd} (h0 : W.heap.size ≤ w1.heap.size) (hk : ∀ k, k < W.heap.size → w1.heap[k]? = W.heap[k]?) (ho : w1.os = W.os ∧ w1.tape = W.tape ∧ w1.output = W.output) (hB : B ≤ g) (hBW : B ≤ W.heap.size)
    (h1 : W.heap[g]? = some (Obj.cells #[v] 24 (0, 0))) (h2 : W.ownsRow B 30 3 v l.length (ndCells l)) (hw : w2.ownsRow B 30 3 v' (l.length + 1) (ndCells l ++ [.int .i64 x.k, .int .i64 x.a, .int .i64 x.b])) (hg : w1.grownBy w2 v.ownBlock) :
    LSt (w2.setCell ⟨g, 0, none⟩ v') B g (l ++ [x]) ∧ OKeep B W (w2.setCell ⟨g, 0, none⟩ v') := by
  have hgl : g < W.heap.size := (Array.getElem?_eq_some_iff.1 h1).1
  have hoff := own_off h2 h1 (by decide)
  have g1 : w2.heap[g]? = some (Obj.cells #[v] 24 (0, 0)) := by rw [hg.block g (by omega) (fun e => hoff e.symm), hk g hgl]; exact h1
  have hoff2 := own_off hw g1 (by decide)
  refine ⟨⟨v', by rw [heap_set_same g1]; rfl, ?_⟩, ⟨?_, ?_, ?_⟩⟩
  · rw [List.length_append, ndCells_append]
    exact hw.kept (grown_set _ _ _ _) (.inr hoff2)
  · refine ⟨hg.os.trans ho.1, hg.tape.trans ho.2.1, hg.output.trans ho.2.2, by have := hg.size; simp; omega, fun k hk2 => ?_⟩
    rw [heap_set_other (by omega), hg.block k (by omega) (fun e => by have := (h2.lt k e.symm).1; omega), hk k (by omega)]
  · have := hg.size; simp; omega
  · intro k cs t r hkk ht1 ht2
    have hlt : k < W.heap.size := (Array.getElem?_eq_some_iff.1 hkk).1
    have hne : k ≠ g := by rintro rfl; rw [h1] at hkk; simp only [Option.some.injEq, Obj.cells.injEq] at hkk; exact ht1 hkk.2.1.symm
    rw [heap_set_other hne, hg.block k (by omega) (fun e => own_off h2 hkk ht2 e.symm), hk k hlt]; exact hkk

set_option maxRecDepth 100000 in
set_option maxHeartbeats 1000000 in
theorem add_c (x : Nd) (l : Nds) (g B : Nat) (W : World) (hB : B ≤ g) (hL : LSt W B g l) (hl : l.length ≤ 5000) :
    Calls Try.prog 79 #[.agg #[.int .i64 x.k, .int .i64 x.a, .int .i64 x.b], .pointer (some ⟨g, 0, none⟩)] W fun e w' => e = .returned (.int .i64 (l.length : Nat)) ∧ LSt w' B g (l ++ [x]) ∧ OKeep B W w' := by
  obtain ⟨v, h1, h2⟩ := hL
  have hg : g < W.heap.size := (Array.getElem?_eq_some_iff.1 h1).1
  obtain ⟨va, vc, rfl⟩ := owns_slice h2
  have c1 := cell_of_block (j := 0) h1 rfl
  have f1 := free_of_block (j := 0) h1
  have H1 := Lib.hid h1
  have H2 := Lib.hid h2
  clear h1 h2
  go_enter Try.func79, Try.ntmps79
  have hBW : B ≤ W.heap.size := by omega
  have HO := Lib.hid ((H2.out.alloc (.cells #[.int .i64 x.k, .int .i64 x.a, .int .i64 x.b] 30)).alloc (.cells #[.int .i64 x.k, .int .i64 x.a, .int .i64 x.b] 30))
  have ROW := Lib.hid (CellsAt.mk (w := (W.alloc (.cells #[.int .i64 x.k, .int .i64 x.a, .int .i64 x.b] 30)).alloc (.cells #[.int .i64 x.k, .int .i64 x.a, .int .i64 x.b] 30)) (b := W.heap.size + 1) (off := 0) (n := 1) (cap := 1) (xs := [.int .i64 x.k, .int .i64 x.a, .int .i64 x.b]) (Nat.le_refl _) (by decide) (by simp) (fun j z hj => by rw [Nat.zero_add, World.cell?_alloc_at _ _ _ _ (by simp)]; simpa using hj))
  go_wp2_with (at_builtin; refine wpList_append_cells2 rfl (.tmp 4) (.tmp 6) 24 rfl B 30 _ 3 24 Try.underlying24 NodeTy.info rfl (by decide) _ l.length _ rfl HO.out _ 1 _ rfl ROW.out rfl (by intro z hz; simp at hz; rcases hz with rfl | rfl | rfl <;> rfl) (by simp; omega) (by unfold maxLen; omega) (by omega) ?_)
  intro v' w2 ho hgr
  have hE := add_end (W := W) (w1 := (W.alloc (.cells #[.int .i64 x.k, .int .i64 x.a, .int .i64 x.b] 30)).alloc (.cells #[.int .i64 x.k, .int .i64 x.a, .int .i64 x.b] 30)) (by simp; omega) (fun k hk => by rw [heap_alloc_old _ _ (by simp; omega), heap_alloc_old _ _ hk]) ⟨rfl, rfl, rfl⟩ hB hBW H1.out H2.out ho hgr
  have g1 : w2.heap[g]? = some (Obj.cells #[.slice va l.length vc] 24 (0, 0)) := by
    rw [hgr.block g (by simp; omega) (fun e => own_off H2.out H1.out (by decide) e.symm), heap_alloc_old _ _ (by simp; omega), heap_alloc_old _ _ hg]; exact H1.out
  have c2 := cell_of_block (j := 0) g1 rfl
  have f2 := free_of_block (j := 0) g1
  obtain ⟨qa, qc, hq⟩ := owns_slice ho
  subst hq
  have HE := Lib.hid hE
  have hlt : l.length + 1 ≤ 5001 := by omega
  clear c1 f1 g1 ho hgr hE HO ROW H1 H2
  go_wp2
  go_ret
  exact ⟨rfl, HE.out.1, HE.out.2⟩

theorem LSt.alloc {w : World} {B g : Nat} {l : Nds} (h : LSt w B g l) (o : Obj) : LSt (w.alloc o) B g l := by
  obtain ⟨v, h1, h2⟩ := h
  exact ⟨v, by rw [heap_alloc_old _ _ (Array.getElem?_eq_some_iff.1 h1).1]; exact h1, h2.alloc _⟩
theorem OKeep.refl (B : Nat) (w : World) : OKeep B w w := ⟨Below.refl _ _, Nat.le_refl _, fun _ _ _ _ h _ _ => h⟩
theorem OKeep.alloc {B : Nat} {w : World} (h : B ≤ w.heap.size) (o : Obj) : OKeep B w (w.alloc o) :=
  ⟨(Below.refl _ _).alloc h _, by simp, fun k cs t r hk _ _ => by rw [heap_alloc_old _ _ (Array.getElem?_eq_some_iff.1 hk).1]; exact hk⟩
set_option maxRecDepth 100000 in
theorem add3 (k a b : Int) (l : Nds) (g B : Nat) (W : World) (hB : B ≤ g) (hL : LSt W B g l) (hl : l.length ≤ 5000) :
    Calls Try.prog 79 #[.agg #[.int .i64 k, .int .i64 a, .int .i64 b], .pointer (some ⟨g, 0, none⟩)] W fun e w' => e = .returned (.int .i64 (l.length : Nat)) ∧ LSt w' B g (l ++ [⟨k, a, b⟩]) ∧ OKeep B W w' :=
  add_c ⟨k, a, b⟩ l g B W hB hL hl
theorem OKeep.cellOf {B : Nat} {w w' : World} {c : Nat} {cs : Array Value} {t : TypeId} (h : OKeep B w w') (hc : w.heap[c]? = some (Obj.cells cs t (0, 0))) (h1 : t ≠ 24) (h2 : t ≠ 30) : w'.heap[c]? = some (Obj.cells cs t (0, 0)) := h.other _ _ _ _ hc h1 h2
set_option maxRecDepth 100000 in
set_option maxHeartbeats 4000000 in
theorem formOf_c (v : Value) (f : Bxs) (w : World) (hs : BxsAt w v f) :
    Calls Try.prog 19 #[v] w fun e w' => ∃ u, e = .returned (.tuple #[u, .int .i64 (ofE f)]) ∧ (ofE f = 0 → w'.ownsRow w.heap.size 30 3 u (ofL f).length (ndCells (ofL f))) ∧ (ofE f ≠ 0 → u = .slice none 0 0) ∧ Below w.heap.size w w' := by
  obtain ⟨a, cap, rfl, hcap, hm, -, hl⟩ := hs.open_
  go_enter Try.func19, Try.ntmps19
  go_wp2_with fail
  (with_reducible refine (fChk_c _ f _ hs).mono ?_)
  rintro e w1 ⟨rfl, hb1⟩
  clear hs
  cases hx : (fChk f == 0)
  · have H := Lib.hid (show ofE f = fChk f ∧ fChk f ≠ 0 by simp at hx; simp [ofE, hx])
    have h' : (fChk f != 0) = true := by simp [bne, hx]
    clear hx
    go_wp2
    go_ret2
    exact ⟨.slice none 0 0, ret_ve H.out.1.symm, fun h => absurd (H.out.1 ▸ h) H.out.2, fun _ => rfl, hb1⟩
  have h0 : fChk f = 0 := by simpa using hx
  rw [h0]
  obtain ⟨h40, hok⟩ := fChk_zero.1 h0
  have HOK := Lib.hid hok
  have HE := Lib.hid (show ofE f = if 30 < (ofAll f).1.length then 2 else 0 by simp [ofE, h0])
  clear h0 hx hok
  go_wp2
  have hg1 := hb1.size
  have L0 := Lib.hid (show LSt ((w1.alloc (.cells #[.int .i64 1, .int .i64 0, .int .i64 0, .int .i64 4, .int .i64 0, .int .i64 0] 30)).alloc (.cells #[.slice (some ⟨w1.heap.size, 0, none⟩) 2 2] 24)) w.heap.size (w1.heap.size + 1) (ofAll []).1 from by
    refine ⟨.slice (some ⟨w1.heap.size, 0, none⟩) 2 2, ?_, ?_⟩
    · have h := heap_alloc_new (w1.alloc (.cells #[.int .i64 1, .int .i64 0, .int .i64 0, .int .i64 4, .int .i64 0, .int .i64 0] 30)) (.cells #[.slice (some ⟨w1.heap.size, 0, none⟩) 2 2] 24)
      simpa using h
    · exact (litOwn w1 w.heap.size 3 _ _ 2 _ rfl hg1 (by decide) rfl).alloc _)
  generalize hB : w.heap.size = B at *
  generalize hgg : w1.heap.size + 1 = g at *
  have hBg : B ≤ g := by omega
  have hm : ∀ args W, (callFunc 79 args).run Try.prog W = .ok (.enter 79 args) W := fun _ _ => by kernel_rfl
  go_loopw [7, 28] (fun sm i wr => ∃ k : Nat, k ≤ f.length ∧ i = .int .i64 k ∧ sm = .int .i64 ((ofAll (f.take k)).2 : Nat) ∧ LSt wr B g (ofAll (f.take k)).1 ∧ Below B w wr ∧ B ≤ wr.heap.size) (fun _ i _ => f.length - (intOf i).toNat)
  case atStart => exact ⟨0, Nat.zero_le _, rfl, rfl, L0.out, (hb1.alloc hg1 _).alloc (by simp; omega) _, by simp; omega⟩
  case round =>
    obtain ⟨k, hk, rfl, rfl, hL, hbl, hBw⟩ := hrel
    obtain ⟨wo, hwo⟩ : ∃ wo, wo = wr := ⟨_, rfl⟩
    subst hwo
    have HL := Lib.hid hL
    clear hL
    by_cases hlt : k < f.length
    · rcases hl with rfl | ⟨b, off, rfl, hb, hc⟩
      · simp at hlt
      obtain ⟨u, d1, d2, d3, hsp⟩ := hc k hlt
      replace d1 := (hbl.cell (p := ⟨b, off + k * 3, none⟩) hb).trans d1
      replace d2 := (hbl.cell (p := ⟨b, off + k * 3 + 1, none⟩) hb).trans d2
      replace d3 := (hbl.cell (p := ⟨b, off + k * 3 + 2, none⟩) hb).trans d3
      have hsl := (spansChk_bounds (bxChk_zero.1 (HOK.out _ (List.getElem_mem hlt))).2).1
      have hlen := ofAll_len (f.take k) fun x hx => HOK.out x (List.mem_of_mem_take hx)
      have HTK := Lib.hid (show ofAll (f.take (k + 1)) = ofBox (ofAll (f.take k)) f[k] by rw [List.take_succ_eq_append_getElem hlt, ofAll_snoc])
      have hk40 : (f.take k).length ≤ 40 := by simp; omega
      clear hc
      generalize ofAll (f.take k) = st at *
      obtain ⟨l0, sm⟩ := st
      simp only at HL hlen
      generalize hx : f[k] = bx at *
      obtain ⟨y, n, sp⟩ := bx
      simp only at d1 d2 d3 hsp hsl
      clear hx
      obtain ⟨ua, uc, rfl⟩ := hsp.shape
      have HSP := Lib.hid hsp.open_
      clear hsp
      have hl0 : l0.length ≤ 1842 := by omega
      clear hlen hk40
      have BK := Lib.hid (show (wo.alloc (.cells #[.int .i64 y, .int .i64 n, .slice ua sp.length uc] 125)).heap[wo.heap.size]? = some (Obj.cells #[.int .i64 y, .int .i64 n, .slice ua sp.length uc] 125 (0, 0)) from heap_alloc_new _ _)
      have L5 := Lib.hid (HL.out.alloc (.cells #[.int .i64 y, .int .i64 n, .slice ua sp.length uc] 125))
      have HBL := Lib.hid hbl
      have hz5 : wo.heap.size < (wo.alloc (.cells #[.int .i64 y, .int .i64 n, .slice ua sp.length uc] 125)).heap.size := by simp
      have HB5 := Lib.hid (hbl.alloc hBw (.cells #[.int .i64 y, .int .i64 n, .slice ua sp.length uc] 125))
      have HS5 := Lib.hid (show B ≤ (wo.alloc (.cells #[.int .i64 y, .int .i64 n, .slice ua sp.length uc] 125)).heap.size by simp; omega)
      clear hbl
      go_wp2
      clear d1 d2 d3
      generalize hw5 : wo.alloc (.cells #[.int .i64 y, .int .i64 n, .slice ua sp.length uc] 125) = w5 at *
      generalize hcc : wo.heap.size = c at *
      clear hw5 HL
      go_loopw [10, 32] (fun q t wr => ∃ j : Nat, j ≤ 4 ∧ t = .int .i64 j ∧ q = .int .i64 ((ofTags y n (l0, 0) j).2 : Nat) ∧ LSt wr B g (ofTags y n (l0, 0) j).1 ∧ OKeep B w5 wr) (fun _ t _ => 4 - (intOf t).toNat)
      case atStart => exact ⟨0, by omega, rfl, rfl, L5.out, OKeep.refl _ _⟩
      case round =>
        obtain ⟨j, hj, rfl, rfl, hL, hK⟩ := hrel
        have BKj := Lib.hid (hK.cellOf BK.out (by decide) (by decide))
        have HL := Lib.hid hL
        have HK := Lib.hid hK
        clear hL hK
        by_cases hjl : j < 4
        · have hlen := (ofTags_len y n (l0, 0) j).2
          have HT := Lib.hid (ofTags_succ y n (l0, 0) j)
          generalize ofTags y n (l0, 0) j = st at *
          obtain ⟨l, q⟩ := st
          simp only at HL hlen
          have hll : l.length ≤ 1860 := by omega
          clear hlen
          have c0 := cell_of_block (j := 0) BKj.out rfl
          have c1 := cell_of_block (j := 1) BKj.out rfl
          have hzj := hlt_of BKj.out
          cases h1 : tagNone y n j
          · have H1 := Lib.hid h1
            unfold tagNone at h1
            go_wp2_with fail
            (with_reducible refine (add3 2 j 0 _ g B _ hBg HL.out (by first | omega | (simp only [List.length_append, List.length_singleton]; omega))).mono ?_)
            rintro e w6 ⟨rfl, l6, k6⟩
            have L6 := Lib.hid l6
            have K6 := Lib.hid (HK.out.trans k6)
            have BK6 := Lib.hid (k6.cellOf BKj.out (by decide) (by decide))
            have c0 := cell_of_block (j := 0) BK6.out rfl
            have c1 := cell_of_block (j := 1) BK6.out rfl
            have hz6 := hlt_of BK6.out
            clear l6 k6
            clear h1
            cases h2 : tagNo n j
            · have H2 := Lib.hid h2
              unfold tagNo at h2
              go_wp2_with fail
              (with_reducible refine (add3 5 q (l.length : Nat) _ g B _ hBg L6.out (by first | omega | (simp only [List.length_append, List.length_singleton]; omega))).mono ?_)
              rintro e w7 ⟨rfl, l7, k7⟩
              have L7 := Lib.hid l7
              have K7 := Lib.hid (K6.out.trans k7)
              have BK7 := Lib.hid (k7.cellOf BK6.out (by decide) (by decide))
              have c0 := cell_of_block (j := 0) BK7.out rfl
              have c1 := cell_of_block (j := 1) BK7.out rfl
              have hz7 := hlt_of BK7.out
              clear l7 k7
              clear h2 c0 c1
              go_wp2
              go_roundw
              case rel =>
                have e : ofTag y n (l, q) j = ((l ++ [⟨2, j, 0⟩]) ++ [⟨5, q, l.length⟩], l.length + 1) := by unfold ofTag; rw [H1.out, H2.out]; rfl
                refine ⟨j + 1, by omega, by go_num, ?_, ?_, K7.out⟩
                · rw [HT.out, e]; simp
                · rw [HT.out, e]; exact L7.out
              case measure => simp [intOf]; omega
            · have H2 := Lib.hid h2
              unfold tagNo at h2
              go_wp2_with fail
              (with_reducible refine (add3 4 (l.length : Nat) 0 _ g B _ hBg L6.out (by first | omega | (simp only [List.length_append, List.length_singleton]; omega))).mono ?_)
              rintro e w7 ⟨rfl, l7, k7⟩
              have L7 := Lib.hid l7
              have K7 := Lib.hid (K6.out.trans k7)
              have BK7 := Lib.hid (k7.cellOf BK6.out (by decide) (by decide))
              have c0 := cell_of_block (j := 0) BK7.out rfl
              have c1 := cell_of_block (j := 1) BK7.out rfl
              have hz7 := hlt_of BK7.out
              clear l7 k7
              clear h2
              go_wp2_with fail
              (with_reducible refine (add3 5 q ((l.length : Int) + 1) _ g B _ hBg L7.out (by first | omega | (simp only [List.length_append, List.length_singleton]; omega))).mono ?_)
              rintro e w8 ⟨rfl, l8, k8⟩
              have L8 := Lib.hid l8
              have K8 := Lib.hid (K7.out.trans k8)
              have BK8 := Lib.hid (k8.cellOf BK7.out (by decide) (by decide))
              have c0 := cell_of_block (j := 0) BK8.out rfl
              have c1 := cell_of_block (j := 1) BK8.out rfl
              have hz8 := hlt_of BK8.out
              clear l8 k8
              clear c0 c1
              go_wp2
              go_roundw
              case rel =>
                have e : ofTag y n (l, q) j = (((l ++ [⟨2, j, 0⟩]) ++ [⟨4, l.length, 0⟩]) ++ [⟨5, q, (l.length + 1 : Nat)⟩], l.length + 2) := by unfold ofTag; rw [H1.out, H2.out]; rfl
                refine ⟨j + 1, by omega, by go_num, ?_, ?_, K8.out⟩
                · rw [HT.out, e]; simp
                · rw [HT.out, e]; simpa using L8.out
              case measure => simp [intOf]; omega
          · have H1 := Lib.hid h1
            unfold tagNone at h1
            go_wp2
            go_roundw
            case rel =>
              have e : ofTag y n (l, q) j = (l, q) := by unfold ofTag; rw [H1.out]; rfl
              refine ⟨j + 1, by omega, by go_num, ?_, ?_, HK.out⟩
              · rw [HT.out, e]
              · rw [HT.out, e]; exact HL.out
            case measure => simp [intOf]; omega
        · obtain rfl : j = 4 := by omega
          rw [show ((4 : Nat) : Int) = 4 from rfl]
          have hlen := (ofTags_len y n (l0, 0) 4).2
          have HBX := Lib.hid (show ofBox (l0, sm) ⟨y, n, sp⟩ = (((ofSpans ((ofTags y n (l0, 0) 4).1, 1) sp).1 ++ [⟨5, (ofTags y n (l0, 0) 4).2, (ofSpans ((ofTags y n (l0, 0) 4).1, 1) sp).2⟩]) ++ [⟨6, sm, (ofSpans ((ofTags y n (l0, 0) 4).1, 1) sp).1.length⟩], (ofSpans ((ofTags y n (l0, 0) 4).1, 1) sp).1.length + 1) from rfl)
          generalize ofTags y n (l0, 0) 4 = st at *
          obtain ⟨la, qa⟩ := st
          simp only at HL hlen HBX
          have hla : la.length ≤ 1860 := by omega
          clear hlen
          have hK8 := Lib.hid (⟨HB5.out.trans HK.out.bel, HK.out.size⟩ : Below B w wr ∧ w5.heap.size ≤ wr.heap.size)
          have c2 := cell_of_block (j := 2) BKj.out rfl
          have hzj := hlt_of BKj.out
          obtain ⟨w8, hw8⟩ : ∃ w8, w8 = wr := ⟨_, rfl⟩
          subst hw8
          go_wp2
          clear c2 hzj
          go_loopw [13, 70] (fun q t wr => ∃ j : Nat, j ≤ sp.length ∧ t = .int .i64 j ∧ q = .int .i64 ((ofSpans (la, 1) (sp.take j)).2 : Nat) ∧ LSt wr B g (ofSpans (la, 1) (sp.take j)).1 ∧ OKeep B w8 wr) (fun _ t _ => sp.length - (intOf t).toNat)
          case atStart => exact ⟨0, by omega, rfl, rfl, HL.out, OKeep.refl _ _⟩
          case round =>
            obtain ⟨j, hj, rfl, rfl, hL, hK⟩ := hrel
            have HL := Lib.hid hL
            have HK := Lib.hid hK
            clear hL hK
            by_cases hjl : j < sp.length
            · have hlen := ofSpans_len (la, 1) (sp.take j)
              have htl : (sp.take j).length = j := by simp; omega
              have HT := Lib.hid (show ofSpans (la, 1) (sp.take (j + 1)) = ofSpan (ofSpans (la, 1) (sp.take j)) sp[j] by rw [List.take_succ_eq_append_getElem hjl, ofSpans_snoc])
              obtain ⟨a', c', hv, -, -, hl2⟩ := HSP.out
              simp only [Value.slice.injEq] at hv
              obtain ⟨rfl, -, rfl⟩ := hv
              rcases hl2 with rfl | ⟨b2, off2, rfl, hb2, hc2⟩
              · simp at hjl
              obtain ⟨g1, g2⟩ := hc2 j hjl
              have hBl := hK8.out.1.trans HK.out.bel
              rw [hB] at hb2
              replace g1 := (hBl.cell (p := ⟨b2, off2 + j * 2, none⟩) hb2).trans g1
              replace g2 := (hBl.cell (p := ⟨b2, off2 + j * 2 + 1, none⟩) hb2).trans g2
              clear hc2 hBl
              generalize ofSpans (la, 1) (sp.take j) = st at *
              obtain ⟨l, q⟩ := st
              simp only at HL hlen
              have hll : l.length ≤ 1900 := by omega
              clear hlen htl
              generalize sp[j] = s at *
              obtain ⟨s1, s2⟩ := s
              simp only at g1 g2
              have hB8 : B ≤ wr.heap.size := by have := HK.out.size; have := hK8.out.2; have := HS5.out; omega
              have L9 := Lib.hid (HL.out.alloc (.cells #[.int .i64 s1, .int .i64 s2] 50))
              have K9 := Lib.hid (HK.out.trans (OKeep.alloc hB8 (.cells #[.int .i64 s1, .int .i64 s2] 50)))
              go_wp2_with fail
              (with_reducible refine (add3 3 s1 s2 _ g B _ hBg L9.out (by omega)).mono ?_)
              rintro e wA ⟨rfl, lA, kA⟩
              have LA := Lib.hid lA
              have KA := Lib.hid (K9.out.trans kA)
              clear lA kA g1 g2
              go_wp2_with fail
              (with_reducible refine (add3 6 q (l.length : Nat) _ g B _ hBg LA.out (by first | omega | (simp only [List.length_append, List.length_singleton]; omega))).mono ?_)
              rintro e wB ⟨rfl, lA, kA⟩
              have LB := Lib.hid lA
              have KB := Lib.hid (KA.out.trans kA)
              clear lA kA
              go_wp2
              go_roundw
              case rel =>
                refine ⟨j + 1, by omega, by go_num, ?_, ?_, KB.out⟩
                · rw [HT.out]; simp [ofSpan]
                · rw [HT.out]; exact LB.out
              case measure => simp [intOf]; omega
            · obtain rfl : j = sp.length := by omega
              rw [List.take_length] at HL ⊢
              have hlen := ofSpans_len (la, 1) sp
              generalize ofSpans (la, 1) sp = st at *
              obtain ⟨l, q⟩ := st
              simp only at HL hlen HBX
              have hll : l.length ≤ 1900 := by omega
              clear hlen
              have KK := Lib.hid (hK8.out.1.trans HK.out.bel)
              have hsz : B ≤ wr.heap.size := by have := HK.out.size; have := hK8.out.2; have := HS5.out; omega
              go_wp2_with fail
              (with_reducible refine (add3 5 (qa : Nat) (q : Nat) _ g B _ hBg HL.out (by omega)).mono ?_)
              rintro e wA ⟨rfl, lA, kA⟩
              have LA := Lib.hid lA
              have KA := Lib.hid kA
              clear lA kA
              go_wp2_with fail
              (with_reducible refine (add3 6 (sm : Nat) (l.length : Nat) _ g B _ hBg LA.out (by first | omega | (simp only [List.length_append, List.length_singleton]; omega))).mono ?_)
              rintro e wB ⟨rfl, lA, kA⟩
              have LB := Lib.hid lA
              have KB := Lib.hid (KA.out.trans kA)
              clear lA kA
              go_wp2
              go_roundw
              case rel =>
                refine ⟨k + 1, by omega, by go_num, ?_, ?_, KK.out.trans KB.out.bel, by have := KB.out.size; omega⟩
                · rw [HTK.out, HBX.out]; simp
                · rw [HTK.out, HBX.out]; exact LB.out
              case measure => simp [intOf]; omega
    · obtain rfl : k = f.length := by omega
      rw [List.take_length] at HL ⊢
      obtain ⟨v, h1, h2⟩ := HL.out
      obtain ⟨va, vc, rfl⟩ := owns_slice h2
      have c0 := cell_of_block (j := 0) h1 rfl
      have hz := hlt_of h1
      have H2 := Lib.hid h2
      have HBL := Lib.hid hbl
      clear h1 h2 hbl HL L0
      have hlen := ofAll_len f HOK.out
      have HLL := Lib.hid (show ofE f = 0 → ofL f = (ofAll f).1 from fun h => by unfold ofL; rw [if_pos h])
      generalize (ofAll f).1 = l at *
      cases hx : decide (30 < l.length)
      · have h30 : ¬ 30 < l.length := by simpa using hx
        have HE0 := Lib.hid (show ofE f = 0 by rw [HE.out, if_neg h30])
        go_wp2
        go_ret2
        refine ⟨.slice va l.length vc, ret_ve HE0.out.symm, fun h => by rw [HLL.out h, hB]; exact H2.out, fun h => absurd HE0.out h, by rw [hB]; exact HBL.out⟩
      · have h30 : 30 < l.length := by simpa using hx
        have HE0 := Lib.hid (show ofE f = 2 by rw [HE.out, if_pos h30])
        go_wp2
        go_ret2
        refine ⟨.slice none 0 0, ret_ve HE0.out.symm, fun h => by rw [HE0.out] at h; exact absurd h (by decide), fun _ => rfl, by rw [hB]; exact HBL.out⟩
end Go.Proofs.Ythnkmjjldggecaa
