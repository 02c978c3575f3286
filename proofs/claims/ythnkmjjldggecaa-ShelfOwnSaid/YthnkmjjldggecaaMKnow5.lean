/- What know.Made does. What know.told, Join, Add do. Written by a small program (gen/know6.py). -/
import Derived.Test.YthnkmjjldggecaaMPure
import Derived.Test.YthnkmjjldggecaaMKnow1
import Derived.Test.YthnkmjjldggecaaMElt
import Derived.Test.YthnkmjjldggecaaMClone
import Derived.Test.YthnkmjjldggecaaKnowSort
import Derived.Test.YthnkmjjldggecaaKnow3
import Derived.Test.YthnkmjjldggecaaChecked
import Derived.Lib.AppendZeros
namespace Go.Proofs.Ythnkmjjldggecaa
open Go.RowKit
/-- Slices of slices of integers. -/
def vecE : Elt (List Int) where
  size := 1
  El w a cs := ∃ u, cs = [u] ∧ IsAt w u a
  len := by rintro w a cs ⟨u, rfl, -⟩; rfl
  one := by
    rintro w a cs ⟨u, rfl, h⟩ z hz
    simp only [List.mem_singleton] at hz
    subst hz
    obtain ⟨x, c, rfl⟩ := h.shape; rfl
  sub := by rintro w w' a cs ⟨u, rfl, h⟩ hs; exact ⟨u, rfl, h.sub hs⟩
  pos := by decide
/-- The greatest count of a site. -/
def vmaxAt (vs : List (List Int)) (s : Int) : Int := vs.foldl (fun m l => max m (vecAt l s)) 0
theorem vmaxAt_snoc (vs : List (List Int)) (l : List Int) (s : Int) : vmaxAt (vs ++ [l]) s = max (vmaxAt vs s) (vecAt l s) := by simp [vmaxAt]
theorem own_full {w : World} {base e g n : Nat} {xs : List Value} (h : w.ownsRow base e 1 (.slice (some ⟨g, 0, none⟩) n n) n xs) (_hn : 0 < n) : w.heap[g]? = some (Obj.cells xs.toArray e (0, 0)) := by
  rcases h.2 with ⟨h0, -⟩ | ⟨g', cap, cur, hv, -, hg, -, -, hs, ht⟩
  · simp at h0
  · simp only [Value.slice.injEq, Option.some.injEq, Addr.mk.injEq, true_and, and_true] at hv
    obtain ⟨rfl, rfl⟩ := hv
    rw [hg]; congr 2
    rw [← ht, List.take_of_length_le (by rw [Array.length_toList]; omega)]
theorem intsC_get {v : List Int} {j : Nat} (h : j < v.length) : (intsC v).toArray[j]? = some (.int .i64 v[j]) := by simp [intsC, h]
theorem intsC_set (v : List Int) (j : Nat) (x : Int) : (intsC v).toArray.setIfInBounds j (.int .i64 x) = (intsC (v.set j x)).toArray := by
  apply Array.ext'
  simp [intsC, List.map_set]
theorem vecAt_nat {v : List Int} {j : Nat} (h : j < v.length) : vecAt v (j : Int) = v[j] := by
  unfold vecAt; rw [Int.toNat_natCast, List.getD_eq_getElem?_getD, List.getElem?_eq_getElem h]; rfl
theorem vecAt_out {v : List Int} {s : Int} (h : v.length ≤ s) : vecAt v s = 0 := by
  unfold vecAt; rw [List.getD_eq_getElem?_getD, List.getElem?_eq_none (by omega)]; rfl
/-- The vector on the way: five counts, each in its bounds. -/
structure V5 (v : List Int) : Prop where
  len : v.length = 5
  bd : ∀ n ∈ v, 0 ≤ n ∧ n ≤ 1000
theorem V5.set {v : List Int} (h : V5 v) (j : Nat) {x : Int} (h0 : 0 ≤ x) (h1 : x ≤ 1000) : V5 (v.set j x) :=
  ⟨by simp [h.len], fun n hn => by rcases List.mem_or_eq_of_mem_set hn with hn | rfl; exact h.bd n hn; exact ⟨h0, h1⟩⟩
theorem V5.get {v : List Int} (h : V5 v) {j : Nat} (hj : j < 5) : 0 ≤ v[j]'(by rw [h.len]; exact hj) ∧ v[j]'(by rw [h.len]; exact hj) ≤ 1000 := h.bd _ (List.getElem_mem _)
/-- A set of dots of the call's own. -/
structure KnOwn (w : World) (base : Nat) (u v : Value) (k : Kn) : Prop where
  vec : w.ownsRow base 3 1 u k.vec.length (intsC k.vec)
  more : w.ownsRow base 92 2 v k.more.length (spansCells k.more)
theorem KnOwn.at_ {w : World} {base : Nat} {u v : Value} {k : Kn} (h : KnOwn w base u v k) (h1 : k.vec.length ≤ 5) (h2 : k.more.length ≤ 1000000) : KnAt w u v k := ⟨CellsAt.of_owns h.vec (by omega), CellsAt.of_owns h.more (by omega)⟩
theorem KnOwn.below {w w' : World} {base : Nat} {u v : Value} {k : Kn} (h : KnOwn w base u v k) (hb : Below w.heap.size w w') : KnOwn w' base u v k := ⟨owns_below h.vec hb, owns_below h.more hb⟩
theorem KnOwn.mono {w : World} {base base' : Nat} {u v : Value} {k : Kn} (h : KnOwn w base u v k) (hb : base' ≤ base) : KnOwn w base' u v k := ⟨owns_mono h.vec hb, owns_mono h.more hb⟩
theorem cells_take {w : World} {G n c : Nat} {v : List Int} (h : w.heap[G]? = some (Obj.cells (intsC v).toArray 3 (0, 0))) (hn : n ≤ v.length) (hc : v.length ≤ c) (hm : v.length ≤ 1000) : CellsAt w (.slice (some ⟨G, 0, none⟩) n c) n (intsC (v.take n)) := by
  refine ⟨_, _, rfl, by omega, by omega, fun h => by simp at h, .inr ⟨G, 0, rfl, hlt_of h, fun j x hj => ?_⟩⟩
  rw [Nat.zero_add]
  refine cell_of_block h ?_
  have hj2 : j < n ∧ j < v.length := by have := (List.getElem?_eq_some_iff.1 hj).1; rw [intsC_length, List.length_take] at this; omega
  simp only [intsC, List.getElem?_map, List.getElem?_take, hj2.1, if_true] at hj
  simpa [intsC] using hj
def vecOk (l : List Int) : Prop := l.length ≤ 5 ∧ ∀ n ∈ l, 0 ≤ n ∧ n ≤ 1000
theorem own_drewN {w : World} {base e size n : Nat} {v : Value} {xs : List Value} (h : w.ownsRow base e size v n xs) (k : Nat) : (w.drewN k).ownsRow base e size v n xs := h
set_option maxRecDepth 100000 in
/-- '==' on two dots. -/
theorem eqDot (a b c d : Int) (w : World) : (Op.equalIn 10000 92 (.agg #[.int .i64 a, .int .i64 b]) (.agg #[.int .i64 c, .int .i64 d])).run Try.prog w = .ok (a == c && b == d) w := by
  have u3 := Try.underlying3
  have a3 := Try.isAgg3
  have z3 := Try.sizeOf3
  rw [show (10000 : Nat) = 9999 + 1 from rfl, run_equalIn_agg w 9999 92 _ _ (by kernel_rfl) (by kernel_rfl)]
  simp only [Program.fieldsOf, Try.underlying92]
  go_simp
  by_cases h1 : a = c <;> by_cases h2 : b = d <;> simp [h1, h2]
set_option maxRecDepth 100000 in
theorem eqGuardDot : Try.prog.eqGuardType Try.prog.depth 92 = false := by kernel_rfl
/-- What stands in memory while the dots are gone through. -/
structure MSt (w wr : World) (base B3 G R O : Nat) (v : List Int) (more es : Dots) (mv v3 : Value) : Prop where
  g : wr.heap[G]? = some (Obj.cells (intsC v).toArray 3 (0, 0))
  r : wr.heap[R]? = some (Obj.cells #[.slice none 0 0, .slice none 0 0] 81 (0, 0))
  o : wr.heap[O]? = some (Obj.cells #[.slice none 0 0, mv] 81 (0, 0))
  own : wr.ownsRow B3 92 2 mv more.length (spansCells more)
  row : wr.ownsRow base 92 2 v3 es.length (spansCells es)
  low : ∀ k, v3.ownBlock = some k → k < B3
  bel : Below w.heap.size w wr
  sz : B3 ≤ wr.heap.size
section
variable {w wr : World} {base B3 G R O : Nat} {v : List Int} {more es : Dots} {mv v3 : Value}
theorem MSt.drewN (h : MSt w wr base B3 G R O v more es mv v3) (n : Nat) : MSt w (wr.drewN n) base B3 G R O v more es mv v3 :=
  ⟨h.g, h.r, h.o, own_drewN h.own n, own_drewN h.row n, h.low, below_drewN h.bel n, h.sz⟩
theorem MSt.alloc (h : MSt w wr base B3 G R O v more es mv v3) (o : Obj) : MSt w (wr.alloc o) base B3 G R O v more es mv v3 :=
  ⟨alloc_keep _ h.g, alloc_keep _ h.r, alloc_keep _ h.o, h.own.alloc _, h.row.alloc _, h.low, h.bel.alloc h.bel.size _, by have := h.sz; simp; omega⟩
theorem MSt.setG (h : MSt w wr base B3 G R O v more es mv v3) (hGR : G ≠ R) (hGO : G ≠ O) (hG : w.heap.size ≤ G) (j : Nat) (x : Int) : MSt w (wr.setCell ⟨G, j, none⟩ (.int .i64 x)) base B3 G R O (v.set j x) more es mv v3 :=
  ⟨by rw [heap_set_same h.g, intsC_set], (heap_set_other hGR.symm).trans h.r, (heap_set_other hGO.symm).trans h.o, own_set h.own h.g (by decide), own_set h.row h.g (by decide), h.low, h.bel.setCell hG _, by have := h.sz; simp; omega⟩
theorem MSt.push {w2 : World} {mv' : Value} {d : Int × Int} (h : MSt w wr base B3 G R O v more es mv v3) (hRO : R ≠ O) (hGO : G ≠ O) (hO : w.heap.size ≤ O) (hB : w.heap.size ≤ B3) (ho : w2.ownsRow B3 92 2 mv' (more.length + 1) (spansCells more ++ [.int .i64 d.1, .int .i64 d.2])) (hg : wr.grownBy w2 mv.ownBlock) :
    MSt w (w2.setCell ⟨O, 1, none⟩ mv') base B3 G R O v (more ++ [d]) es mv' v3 := by
  have g2 := grown_keep h.own hg h.g (by decide)
  have r2 := grown_keep h.own hg h.r (by decide)
  have o2 := grown_keep h.own hg h.o (by decide)
  have row2 : w2.ownsRow base 92 2 v3 es.length (spansCells es) := h.row.kept hg (by
    cases hv : v3.ownBlock with
    | none => exact .inl rfl
    | some k => right; intro e; have h1 := h.low k hv; have h2 := (h.own.lt k e.symm).1; omega)
  refine ⟨(heap_set_other hGO).trans g2, (heap_set_other hRO).trans r2, by rw [heap_set_same o2]; rfl, ?_, own_set row2 o2 (by decide), h.low, (h.bel.grown hg h.bel.size fun k hk => by have := (h.own.lt k hk).1; omega).setCell hO _, by have := hg.size; have := h.sz; simp; omega⟩
  rw [List.length_append, spansCells_append]
  exact own_set ho o2 (by decide)
/-- A cell of a row of the call's own. -/
theorem row_cell {W : World} {bs : Nat} {l : Dots} {u : Value} (h : W.ownsRow bs 92 2 u l.length (spansCells l)) {q : Nat} (hq : q < l.length) : ∃ b cap, u = .slice (some ⟨b, 0, none⟩) l.length cap ∧ W.cell? ⟨b, q * 2, none⟩ = some (.int .i64 l[q].1) ∧ W.cell? ⟨b, q * 2 + 1, none⟩ = some (.int .i64 l[q].2) := by
  rcases h.2 with ⟨-, h0⟩ | ⟨b, cap, cur, hv, -, -, -⟩
  · omega
  · obtain ⟨g1, g2⟩ := spansCells_get l q hq
    subst hv
    exact ⟨b, cap, rfl, by have := h.cells (g := b) rfl _ _ g1; rwa [Addr.add_lit, Nat.zero_add] at this, by have := h.cells (g := b) rfl _ _ g2; rwa [Addr.add_lit, Nat.zero_add] at this⟩
end
set_option maxRecDepth 100000 in
set_option maxHeartbeats 8000000 in
theorem made_c (vv dv : Value) (vs : List (List Int)) (ds : Dots) (w : World) (hv : RowAt vecE w vv vs) (hd : DsAt w dv ds) (hvs : ∀ l ∈ vs, vecOk l) (hds : ∀ d ∈ ds, dotOk d = true) (hlen : ds.length ≤ 1000000) :
    Calls Try.prog 111 #[vv, dv] w fun e w' => ∃ (k : Kn) (u v : Value), e = .returned (.agg #[u, v]) ∧ KnOwn w' w.heap.size u v k ∧ KnOk k ∧ k.more.length ≤ ds.length ∧ (∀ s c : Int, 0 ≤ s → s < 5 → 1 ≤ c → knIn k s c = (decide (c ≤ vmaxAt vs s) || decide ((s, c) ∈ ds))) ∧ Below w.heap.size w w' := by
  obtain ⟨xa, xc, rfl, -, hvm, -, hvl⟩ := hv.open_
  obtain ⟨ya, yc, hyv⟩ := hd.shape
  subst hyv
  obtain ⟨w2, hmk, hown, hbm⟩ := mk_slice (P := Try.prog) (w.alloc (.cells #[.slice none 0 0, .slice none 0 0] 81)) 23 3 (.int .i64 0) 1 8 Try.underlying23 IcTy.info 5 (by omega) (by unfold maxLen; omega)
  rw [madeCells_one _ rfl] at hown
  have hG0 := own_full hown (by decide)
  rw [World.size_alloc] at hG0
  have hR0 := below_keep hbm (alloc_new w #[.slice none 0 0, .slice none 0 0] 81 _ rfl)
  have hmk5 : (Instr.makeSlice 23 (.int .i64 5) (.int .i64 5)).run Try.prog (w.alloc (.cells #[.slice none 0 0, .slice none 0 0] 81)) = .ok (.slice (some ⟨w.heap.size + 1, 0, none⟩) 5 5) w2 := by rw [World.size_alloc] at hmk; exact hmk
  have hG : w2.heap[w.heap.size + 1]? = some (Obj.cells (intsC [0, 0, 0, 0, 0]).toArray 3 (0, 0)) := hG0
  have HG := Lib.hid hG
  have HR := Lib.hid hR0
  have HB2 := Lib.hid (ba1 hbm)
  have HD := Lib.hid hd
  clear hown hG0 hR0 hmk hG hbm hv hd
  go_enter Try.func111, Try.ntmps111
  go_wp2
  clear hmk5
  go_loopw [16] (fun i wr => ∃ (q : Nat) (v : List Int), q ≤ vs.length ∧ i = .int .i64 q ∧ V5 v ∧ (∀ s : Int, 0 ≤ s → s < 5 → vecAt v s = vmaxAt (vs.take q) s) ∧ wr.heap[w.heap.size + 1]? = some (Obj.cells (intsC v).toArray 3 (0, 0)) ∧ wr.heap[w.heap.size]? = some (Obj.cells #[.slice none 0 0, .slice none 0 0] 81 (0, 0)) ∧ Below w.heap.size w wr) (fun i _ => vs.length - (intOf i).toNat)
  case atStart =>
    refine ⟨0, [0, 0, 0, 0, 0], Nat.zero_le _, rfl, ⟨rfl, by simp⟩, fun s h0 h5 => ?_, HG.out, HR.out, HB2.out⟩
    have : s = 0 ∨ s = 1 ∨ s = 2 ∨ s = 3 ∨ s = 4 := by omega
    rcases this with rfl | rfl | rfl | rfl | rfl <;> rfl
  case round =>
    clear HG HR HB2
    obtain ⟨q, v0, hq, rfl, h5, hm, hG, hR, hbl⟩ := hrel
    obtain ⟨wo, hwo⟩ : ∃ wo, wo = wr := ⟨_, rfl⟩
    subst hwo
    have HM := Lib.hid hm
    have H5 := Lib.hid h5
    have HG := Lib.hid hG
    have HR := Lib.hid hR
    clear hm h5 hG hR
    by_cases hlt : q < vs.length
    · rcases hvl with hnil | ⟨b, off, rfl, hb, hc⟩
      · rw [hnil] at hlt; simp at hlt
      obtain ⟨c, ⟨u, rfl, hu⟩, hcc⟩ := hc q hlt
      have c1 : wo.cell? ⟨b, off + q, none⟩ = some u := (hbl.cell (p := ⟨b, off + q, none⟩) hb).trans (by have := hcc 0 u rfl; simpa [vecE] using this)
      obtain ⟨hl5, hlb⟩ := hvs _ (List.getElem_mem hlt)
      have HT := Lib.hid (show ∀ s, vmaxAt (vs.take (q + 1)) s = max (vmaxAt (vs.take q) s) (vecAt vs[q] s) from fun s => by rw [List.take_succ_eq_append_getElem hlt, vmaxAt_snoc])
      have HLB := Lib.hid hlb
      clear hc hcc hlb
      generalize vs[q] = l at *
      obtain ⟨ua, uc, rfl, -, hum, -, hul⟩ := hu.open_
      clear hu
      go_wp2
      clear c1
      go_loopw [22] (fun i wr => ∃ (j : Nat) (v : List Int), j ≤ l.length ∧ i = .int .i64 j ∧ V5 v ∧ (∀ s : Int, 0 ≤ s → s < 5 → vecAt v s = if s < j then max (vecAt v0 s) (vecAt l s) else vecAt v0 s) ∧ wr.heap[w.heap.size + 1]? = some (Obj.cells (intsC v).toArray 3 (0, 0)) ∧ wr.heap[w.heap.size]? = some (Obj.cells #[.slice none 0 0, .slice none 0 0] 81 (0, 0)) ∧ Below w.heap.size w wr) (fun i _ => l.length - (intOf i).toNat)
      case atStart => exact ⟨0, v0, Nat.zero_le _, rfl, H5.out, fun s h0 h5 => by rw [if_neg (by omega)], HG.out, HR.out, hbl⟩
      case round =>
        clear hbl
        obtain ⟨j, v, hj, rfl, h5, hm, hG, hR, hbl⟩ := hrel
        have HMJ := Lib.hid hm
        have HV5 := Lib.hid h5
        have HGJ := Lib.hid hG
        have HRJ := Lib.hid hR
        clear hm h5 hG hR
        by_cases hlj : j < l.length
        · rcases hul with hnil | ⟨b2, off2, rfl, hb2, hc2⟩
          · rw [hnil] at hlj; simp at hlj
          have c1 := (hbl.cell (p := ⟨b2, off2 + j, none⟩) hb2).trans (hc2 j hlj)
          have hj5 : j < v.length := by rw [HV5.out.len]; omega
          have g1 := cell_of_block (j := j) HGJ.out (intsC_get hj5)
          have f1 := free_of_block (j := j) HGJ.out
          have HLJ := Lib.hid (show vecAt l (j : Int) = l[j] from vecAt_nat hlj)
          have HVJ := Lib.hid (show vecAt v (j : Int) = v[j] from vecAt_nat hj5)
          obtain ⟨x0, x1⟩ := HLB.out _ (List.getElem_mem hlj)
          obtain ⟨y0, y1⟩ := HV5.out.bd _ (List.getElem_mem hj5)
          have hjj : (j : Int) < 5 := by omega
          clear hc2
          generalize l[j] = x at *
          generalize v[j] = y at *
          go_wp2
          go_roundw
          case rel =>
            have hM : (if y < x then x else y) = max y x := by by_cases hyx : y < x; rw [if_pos hyx]; omega; rw [if_neg hyx]; omega
            try rw [hM]
            refine ⟨j + 1, v.set j (max y x), by omega, by go_num, HV5.out.set j (by omega) (by omega), fun s h0 h5 => ?_, by rw [heap_set_same HGJ.out, intsC_set], (heap_set_other (by omega)).trans HRJ.out, hbl.setCell (by exact Nat.le_succ _) _⟩
            have e := vecAt_set (v := v) (s := (j : Int)) (r := s) (x := max y x) (by omega) (by have := HV5.out.len; omega) h0
            rw [Int.toNat_natCast] at e
            rw [e]
            by_cases e1 : s = j
            · subst e1
              rw [if_pos rfl, if_pos (by omega), HLJ.out]
              have := HMJ.out (j : Int) (by omega) (by omega)
              rw [if_neg (by omega), HVJ.out] at this
              rw [← this]
            · rw [if_neg e1, HMJ.out s h0 h5]
              by_cases e2 : s < j
              · rw [if_pos e2, if_pos (by omega)]
              · rw [if_neg e2, if_neg (by omega)]
          case measure => simp [intOf]; omega
        · obtain rfl : j = l.length := by omega
          have HF := Lib.hid (show ∀ s : Int, 0 ≤ s → s < 5 → vecAt v s = max (vmaxAt (vs.take q) s) (vecAt l s) from fun s h0 h5 => by
            rw [HMJ.out s h0 h5, HM.out s h0 h5]
            split
            · rfl
            · rw [vecAt_out (v := l) (by omega)]
              have := H5.out
              have hp : 0 ≤ vecAt v0 s := by
                by_cases hs : s.toNat < v0.length
                · unfold vecAt; rw [List.getD_eq_getElem?_getD, List.getElem?_eq_getElem hs]; exact (this.bd _ (List.getElem_mem hs)).1
                · rw [vecAt_out (by omega)]; omega
              rw [HM.out s h0 h5] at hp
              omega)
          go_wp2
          go_roundw
          case rel => exact ⟨q + 1, v, by omega, by go_num, HV5.out, fun s h0 h5 => by rw [HT.out]; exact HF.out s h0 h5, HGJ.out, HRJ.out, hbl⟩
          case measure => simp [intOf]; omega
    · obtain rfl : q = vs.length := by omega
      rw [List.take_length] at HM
      clear hvl
      have hdx : CellsAt wo (.slice ya ds.length yc) ds.length (spansCells ds) := HD.out.below hbl
      have HDX := Lib.hid hdx
      clear hdx
      have hpost : ds.length * 16 ≤ 140737488355328 := by omega
      go_wp2_with fail
      (with_reducible refine (DcClone_c _ ds.length (spansCells ds) _ HDX.out (spansCells_length ds) (spansCells_one ds) hpost).mono ?_)
      rintro e w3 ⟨v3, rfl, ho3, hb3⟩
      obtain ⟨za, zc, hz3⟩ := owns_slice ho3
      subst hz3
      have HG3 := Lib.hid (below_keep hb3 HG.out)
      have HR3 := Lib.hid (below_keep hb3 HR.out)
      have HB3 := Lib.hid (hbl.trans (hb3.mono hbl.size))
      have hws : w.heap.size + 1 < wo.heap.size := hlt_of HG.out
      have ho3' := owns_mono ho3 (base' := w.heap.size) (by omega)
      have HO3 := Lib.hid ho3
      clear hb3 ho3 ho3' hbl HG HR HDX
      go_wp2_with fail
      (with_reducible refine (dsort_c _ ds _ _ HO3.out hds hlen).mono ?_)
      rintro e w4 ⟨rfl, es, hel, hem, hes, ho4, hg4⟩
      have hoff : ∀ k, Value.ownBlock (.slice za ds.length zc) = some k → wo.heap.size ≤ k := fun k hk => (HO3.out.lt k hk).1
      have HG4 := Lib.hid (show w4.heap[w.heap.size + 1]? = some (Obj.cells (intsC v0).toArray 3 (0, 0)) by rw [hg4.block _ (hlt_of HG3.out) (fun e => by have := hoff _ e.symm; omega)]; exact HG3.out)
      have HR4 := Lib.hid (show w4.heap[w.heap.size]? = some (Obj.cells #[.slice none 0 0, .slice none 0 0] 81 (0, 0)) by rw [hg4.block _ (hlt_of HR3.out) (fun e => by have := hoff _ e.symm; omega)]; exact HR3.out)
      have HB4 := Lib.hid (HB3.out.grown hg4 HB3.out.size (fun k hk => by have := hoff k hk; omega))
      have HO4 := Lib.hid ho4
      have HES := Lib.hid hes
      have HEM := Lib.hid hem
      have H5v := H5
      have HVM := HM
      have hel2 := hel
      clear hg4 ho4 hes hem HG3 HR3 HB3 HO3 hoff
      go_wp2
      have hla := HO4.out.lt
      have hz4 : w.heap.size + 1 < w4.heap.size := hlt_of HG4.out
      have M0 := Lib.hid (show MSt w (w4.alloc (.cells #[.slice none 0 0, .slice none 0 0] 81)) wo.heap.size (w4.heap.size + 1) (w.heap.size + 1) w.heap.size w4.heap.size v0 [] es (.slice none 0 0) (.slice za ds.length zc) from
        ⟨alloc_keep _ HG4.out, alloc_keep _ HR4.out, alloc_new _ _ _ _ rfl, World.ownsRow_nil _ _ _ _, by rw [hel2]; exact HO4.out.alloc _, fun k hk => by have := (hla k hk).2; omega, HB4.out.alloc HB4.out.size _, by simp⟩)
      clear HG4 HR4 HB4 HO4 hla
      generalize hO : w4.heap.size = O at *
      go_loopw [44] (fun i wr => ∃ (q : Nat) (mv : Value), q ≤ ds.length ∧ i = .int .i64 q ∧ V5 (madeAll v0 (es.take q)).1 ∧ MSt w wr wo.heap.size (O + 1) (w.heap.size + 1) w.heap.size O (madeAll v0 (es.take q)).1 (madeAll v0 (es.take q)).2 es mv (.slice za ds.length zc)) (fun i _ => ds.length - (intOf i).toNat)
      case atStart => exact ⟨0, .slice none 0 0, Nat.zero_le _, rfl, H5.out, M0.out⟩
      case round =>
        clear M0
        obtain ⟨q, mv, hq, rfl, h5, hM⟩ := hrel
        have HM := Lib.hid hM
        have H5 := Lib.hid h5
        clear hM h5
        by_cases hlt : q < ds.length
        · have hlt2 : q < es.length := by omega
          obtain ⟨b, cap, hvz, c1, c2⟩ := row_cell HM.out.row hlt2
          rw [hel2] at hvz
          simp only [Value.slice.injEq, true_and] at hvz
          obtain ⟨rfl, rfl⟩ := hvz
          have HT := Lib.hid (show madeAll v0 (es.take (q + 1)) = madeStep (madeAll v0 (es.take q)) es[q] by rw [List.take_succ_eq_append_getElem hlt2, madeAll_snoc])
          have hmlen : (madeAll v0 (es.take q)).2.length ≤ q := by
            have := (made_st (v0 := v0) H5v.out.len H5v.out.bd (es.take q) (fun d hd => hds d ((HEM.out d).1 (List.mem_of_mem_take hd))) (HES.out.sublist (List.take_sublist _ _))).mlen
            simp at this; omega
          obtain ⟨⟨d0, d5⟩, d1, d2⟩ := dotOk_iff.1 (hds es[q] ((HEM.out _).1 (List.getElem_mem hlt2)))
          generalize es[q] = d at *
          obtain ⟨s, c⟩ := d
          simp only at c1 c2 d0 d5 d1 d2
          obtain ⟨s, rfl⟩ := Int.eq_ofNat_of_zero_le d0
          generalize madeAll v0 (es.take q) = st at *
          obtain ⟨v, more⟩ := st
          simp only at HM H5 hmlen
          have hs5 : s < v.length := by rw [H5.out.len]; omega
          have HVA := Lib.hid (vecAt_nat hs5)
          obtain ⟨y0, y1⟩ := H5.out.bd _ (List.getElem_mem hs5)
          have g1 := cpast (.cells #[.int .i64 s, .int .i64 c] 92) (cell_of_block (j := s) HM.out.g (intsC_get hs5))
          have x0 := cat wr #[.int .i64 (s : Int), .int .i64 c] 92 0 _ rfl _ rfl
          have x1 := cat wr #[.int .i64 (s : Int), .int .i64 c] 92 1 _ rfl _ rfl
          have MA := Lib.hid (HM.out.alloc (.cells #[.int .i64 s, .int .i64 c] 92))
          have X0 := Lib.hid x0
          have X1 := Lib.hid x1
          have hbnd : wr.heap.size < (wr.alloc (.cells #[.int .i64 s, .int .i64 c] 92)).heap.size := by simp
          have hGl : w.heap.size + 1 < (wr.alloc (.cells #[.int .i64 s, .int .i64 c] 92)).heap.size := hlt_of MA.out.g
          have hGl2 : w.heap.size + 1 < wr.heap.size := hlt_of HM.out.g
          have hs5' : (s : Int) < 5 := by omega
          clear x0 x1
          generalize hY : v[s] = y at *
          clear hY
          by_cases hA : c ≤ y
          · have HA := Lib.hid (show madeStep (v, more) ((s : Int), c) = (v, more) by unfold madeStep; simp only; rw [HVA.out, if_pos hA])
            go_wp2
            go_quiet (fail)
            go_wp2
            go_roundw
            case rel =>
              refine ⟨q + 1, mv, by omega, by go_num, ?_, ?_⟩
              · rw [HT.out, HA.out]; exact H5.out
              · rw [HT.out, HA.out]; exact MA.out.drewN _
            case measure => simp [intOf]; omega
          have hsum : IntKind.i64.wrap (y + 1) = y + 1 := IntWalk.i64_in _ (by omega)
          by_cases hB : c = y + 1
          · have HA := Lib.hid (show madeStep (v, more) ((s : Int), c) = (v.set s (y + 1), more) by unfold madeStep; simp only; rw [HVA.out, if_neg hA, if_pos hB, Int.toNat_natCast])
            have hB' : (c == y + 1) = true := by simp [hB]
            have HBB := Lib.hid hB
            have f1 := free_of_block (j := s) MA.out.g
            clear hB
            go_wp2
            go_quiet (fail)
            go_wp2
            go_quiet (fail)
            go_wp2
            go_roundw
            case rel =>
              refine ⟨q + 1, mv, by omega, by go_num, ?_, ?_⟩
              · rw [HT.out, HA.out]; exact H5.out.set s (by omega) (by have := HBB.out; omega)
              · rw [HT.out, HA.out]; exact ((MA.out.drewN _).setG (by omega) (by omega) (by omega) s (y + 1))
            case measure => simp [intOf]; omega
          have hB' : (c == y + 1) = false := by simp [hB]
          have HSTEP := Lib.hid (show madeStep (v, more) ((s : Int), c) = if more.getLast? = some ((s : Int), c) then (v, more) else (v, more ++ [((s : Int), c)]) by unfold madeStep; simp only; rw [HVA.out, if_neg hA, if_neg hB])
          have o1 := cell_of_block (j := 1) MA.out.o rfl
          have o1f := free_of_block (j := 1) MA.out.o
          have hOl : O < (wr.alloc (.cells #[.int .i64 s, .int .i64 c] 92)).heap.size := hlt_of MA.out.o
          obtain ⟨ma, mc, hmv⟩ := owns_slice MA.out.own
          clear hB
          rcases List.eq_nil_or_concat more with hnil | ⟨l, z, hcc⟩
          focus
            have HST := Lib.hid (show madeStep (v, more) ((s : Int), c) = (v, more ++ [((s : Int), c)]) by rw [HSTEP.out, if_neg (by rw [hnil]; simp)])
            rw [hnil] at hmv
            simp only [List.length_nil] at hmv
            subst hmv
            have HL0 := Lib.hid (show more.length = 0 by rw [hnil]; rfl)
            clear hnil
            go_wp2
            go_quiet (fail)
            go_wp2
            go_quiet (fail)
            go_wp2
            go_quiet (fail)
          rotate_left
          focus
            rw [List.concat_eq_append] at hcc
            clear hmv
            obtain ⟨bm, mcap, hvm2, z1, z2⟩ := row_cell (q := l.length) MA.out.own (by rw [hcc]; simp)
            have hz : more[l.length]'(by rw [hcc]; simp) = z := by simp [hcc]
            rw [hz] at z1 z2
            have hml : more.length = l.length + 1 := by rw [hcc]; simp
            rw [hml] at hvm2
            have hlb : l.length ≤ 1000000 := by omega
            have HML := Lib.hid hml
            clear hml
            subst hvm2
            have heqs := eqDot
            have heqg := eqGuardDot
            have hml0 : ((l.length : Int) + 1 == 0) = false := by simp; omega
            have hw1 : IntKind.i64.wrap (l.length : Int) = l.length := IntWalk.i64_in _ (by omega)
            have hll : (l.length : Int) < (l.length : Int) + 1 := by omega
            by_cases hzd : z = ((s : Int), c)
            · have HST := Lib.hid (show madeStep (v, more) ((s : Int), c) = (v, more) by rw [HSTEP.out, if_pos (by rw [hcc, hzd]; simp)])
              rw [hzd] at z1 z2
              clear hz hcc
              go_wp2
              go_quiet (fail)
              go_wp2
              go_quiet (fail)
              go_wp2
              go_quiet (fail)
              go_wp2
              go_roundw
              case rel =>
                refine ⟨q + 1, .slice (some ⟨bm, 0, none⟩) (l.length + 1) mcap, by omega, by go_num, ?_, ?_⟩
                · rw [HT.out, HST.out]; exact H5.out
                · rw [HT.out, HST.out]; exact MA.out.drewN _
              case measure => simp [intOf]; omega
            have HST := Lib.hid (show madeStep (v, more) ((s : Int), c) = (v, more ++ [((s : Int), c)]) by rw [HSTEP.out, if_neg (by rw [hcc]; simpa using hzd)])
            have hzb : (z.1 == (s : Int) && z.2 == c) = false := by
              rw [Bool.eq_false_iff]; intro h; apply hzd; simp at h; exact Prod.ext h.1 h.2
            clear hz hcc hzd
            go_wp2
            go_quiet (fail)
            go_wp2
            go_quiet (fail)
            go_wp2
            go_quiet (fail)
          all_goals
            have HOWN := Lib.hid (fun n => ((MA.out.drewN n).alloc (.cells #[.int .i64 s, .int .i64 c] 92)).own)
            have ROW := Lib.hid (fun n => CellsAt.mk (w := ((wr.alloc (.cells #[.int .i64 s, .int .i64 c] 92)).drewN n).alloc (.cells #[.int .i64 s, .int .i64 c] 92)) (b := wr.heap.size + 1) (off := 0) (n := 1) (cap := 1) (xs := [.int .i64 s, .int .i64 c]) (Nat.le_refl _) (by decide) (by simp) (fun j z hj => by rw [Nat.zero_add, World.cell?_alloc_at _ _ _ _ (by simp)]; simpa using hj))
            have hsz := MA.out.sz
            simp only [World.size_alloc] at hsz
            go_wp2_with (at_builtin; refine wpList_append_cells2 rfl (.tmp 92) (.tmp 94) 79 rfl (O + 1) 92 _ 2 16 Try.underlying79 DcTy.info rfl (by decide) _ more.length _ rfl (HOWN.out _) _ 1 _ rfl (ROW.out _) rfl (by intro u hu; simp at hu; rcases hu with rfl | rfl <;> rfl) (by simp; omega) (by unfold maxLen; omega) (by omega) ?_)
            intro v' w2 ho hgr
            obtain ⟨qa, qc, hq⟩ := owns_slice ho
            subst hq
            have HP := Lib.hid (MSt.push (d := ((s : Int), c)) ((MA.out.drewN _).alloc _) (by omega) (by omega) (by omega) (by omega) ho hgr)
            have o2 := grown_keep (HOWN.out _) hgr ((MA.out.drewN _).alloc _).o (by decide)
            have o3 := cell_of_block (j := 1) o2 rfl
            have o3f := free_of_block (j := 1) o2
            have hO2 := hlt_of o2
            clear o2 ho hgr HOWN ROW o1 o1f g1 c1 c2
            go_wp2
            go_roundw
            case rel =>
              refine ⟨q + 1, .slice qa (more.length + 1) qc, by omega, by go_num, ?_, ?_⟩
              · rw [HT.out, HST.out]; exact H5.out
              · rw [HT.out, HST.out]; exact HP.out
            case measure => simp [intOf]; omega
        · obtain rfl : q = ds.length := by omega
          rw [show es.take ds.length = es by rw [← hel2, List.take_length]] at HM H5
          generalize hst : madeAll v0 es = st at *
          obtain ⟨v, more⟩ := st
          simp only at HM H5
          have HST := Lib.hid hst
          have h55 := H5.out.len
          clear hst
          go_wp2
          go_loop [5] (fun t => ∃ n : Nat, n ≤ 5 ∧ t = .slice (some ⟨w.heap.size + 1, 0, none⟩) n 5 ∧ trimZ (v.take n) = trimZ v) (fun t => match t with | .slice _ n _ => n | _ => 0)
          case atStart => exact ⟨5, Nat.le_refl _, rfl, by rw [List.take_of_length_le (by omega)]⟩
          case round =>
            obtain ⟨n, hn, rfl, htr⟩ := hrel
            have HTR := Lib.hid htr
            clear htr
            have hG := HM.out.g
            have hGl := hlt_of HM.out.g
            rcases n with - | n
            rotate_left
            focus
              have hnl : n < v.length := by omega
              have g1 := cell_of_block (j := n) HM.out.g (intsC_get hnl)
              have HTS := Lib.hid (show trimZ (v.take (n + 1)) = if v[n] = 0 then trimZ (v.take n) else v.take (n + 1) by rw [List.take_succ_eq_append_getElem hnl, trimZ_snoc])
              have hw1 : IntKind.i64.wrap (n : Int) = n := IntWalk.i64_in _ (by omega)
              have hn5 : (n : Int) < 5 := by omega
              generalize v[n] = x at *
              by_cases hx : x = 0
              · have HX := Lib.hid hx
                have hx' : (x == 0) = true := by simp [hx]
                clear hx hG
                go_wp2
                go_roundw
                case rel => exact ⟨n, by omega, rfl, by rw [← HTR.out, HTS.out, if_pos HX.out]⟩
                case measure => simp
              have HFIN := Lib.hid (show v.take (n + 1) = trimZ v by rw [← HTR.out, HTS.out, if_neg hx])
              have hx' : (x == 0) = false := by simp [hx]
              have HG := Lib.hid hG
              have HNN := Lib.hid (rfl : n + 1 = n + 1)
              have HCL := Lib.hid (show CellsAt wr (.slice (some ⟨w.heap.size + 1, 0, none⟩) (n + 1) 5) (n + 1) (intsC (trimZ v)) by rw [← HFIN.out]; exact cells_take hG (by omega) (by omega) (by omega))
              have HLN := Lib.hid (show (intsC (trimZ v)).length = (n + 1) * 1 by rw [← HFIN.out, intsC_length, List.length_take]; omega)
              clear hx hG hnl HTR HTS
              go_wp2_with fail
            rotate_left
            focus
              have HFIN := Lib.hid (show v.take 0 = trimZ v by rw [← HTR.out]; simp [trimZ])
              have HG := Lib.hid hG
              have HCL := Lib.hid (show CellsAt wr (.slice (some ⟨w.heap.size + 1, 0, none⟩) 0 5) 0 (intsC (trimZ v)) by rw [← HFIN.out]; exact cells_take hG (by omega) (by omega) (by omega))
              have HLN := Lib.hid (show (intsC (trimZ v)).length = 0 * 1 by rw [← HFIN.out]; rfl)
              clear hG HTR
              go_wp2_with fail
            all_goals
              (with_reducible refine (IcClone_c _ _ (intsC (trimZ v)) _ HCL.out HLN.out (intsC_one _) (by omega)).mono ?_)
              rintro e w5 ⟨u, rfl, ho5, hb5⟩
              obtain ⟨ua, uc, hu⟩ := owns_slice ho5
              subst hu
              have hO5 := below_keep hb5 HM.out.o
              have hR5 := below_keep hb5 HM.out.r
              have o0 := cell_of_block (j := 0) hO5 rfl
              have o1 := cell_of_block (j := 1) hO5 rfl
              have o0f := free_of_block (j := 0) hO5
              have r0 := cell_of_block (j := 0) hR5 rfl
              have r1 := cell_of_block (j := 1) hR5 rfl
              have r0f := free_of_block (j := 0) hR5
              have r1f := free_of_block (j := 1) hR5
              have hOl := hlt_of hO5
              have hRl := hlt_of hR5
              have hne : O ≠ w.heap.size := by omega
              have hne2 : w.heap.size ≠ O := by omega
              obtain ⟨ma, mc, hmv⟩ := owns_slice HM.out.own
              have HO5 := Lib.hid hO5
              have HR5 := Lib.hid hR5
              have HOW := Lib.hid (owns_below HM.out.own hb5)
              have HU5 := Lib.hid ho5
              have HBL := Lib.hid (HM.out.bel.trans (hb5.mono HM.out.bel.size))
              have hws := HM.out.bel.size
              subst hmv
              clear hO5 hR5 ho5 hb5
              go_wp2
              refine bodyPost_ret (v := .agg #[_, _]) (by simp [results, Try.results111, go_sem, *]; exact ⟨rfl, rfl⟩) rfl ⟨⟨trimZ v, more⟩, _, _, rfl, ?_⟩
              have hlen : (trimZ v).length * 1 = (intsC (trimZ v)).length := by rw [intsC_length]; omega
              rw [HLN.out] at hlen
              have e5 : ∀ x, (w5.setCell ⟨O, 0, none⟩ x).heap[w.heap.size]? = some (Obj.cells #[.slice none 0 0, .slice none 0 0] 81 (0, 0)) := fun x => (heap_set_other hne2).trans HR5.out
              have mk := made_ok (v0 := v0) H5v.out.len H5v.out.bd (ds := es) (fun d hd => hds d ((HEM.out d).1 hd)) HES.out
              have ms := made_st (v0 := v0) H5v.out.len H5v.out.bd es (fun d hd => hds d ((HEM.out d).1 hd)) HES.out
              rw [HST.out] at mk ms
              refine ⟨⟨?_, ?_⟩, mk.1, by have := ms.mlen; simp only at this ⊢; omega, fun s c h0 h5 h1 => ?_, ?_⟩
              · have q := fun x y z => own_set (j := 1) (u := z) (own_set (j := 0) (u := y) (own_set (j := 0) (u := x) HU5.out HO5.out (by decide)) (e5 x) (by decide)) (heap_set_same (e5 x)) (by decide)
                simp only
                rw [show (trimZ v).length = _ from by rw [← Nat.mul_one (trimZ v).length, hlen, Nat.mul_one]]
                exact owns_mono (q _ _ _) hws
              · exact owns_mono (own_set (j := 1) (own_set (j := 0) (own_set (j := 0) HOW.out HO5.out (by decide)) (e5 _) (by decide)) (heap_set_same (e5 _)) (by decide)) (by omega)
              · rw [mk.2 s c h0 h5 h1, HVM.out s h0 h5]
                congr 1
                simp only [HEM.out]
              · exact ((HBL.out.setCell (p := ⟨O, 0, none⟩) (by simp only; omega) _).setCell (p := ⟨w.heap.size, 0, none⟩) (Nat.le_refl _) _).setCell (p := ⟨w.heap.size, 1, none⟩) (Nat.le_refl _) _
end Go.Proofs.Ythnkmjjldggecaa
namespace Go.Proofs.Ythnkmjjldggecaa
open Go.RowKit
set_option maxRecDepth 100000 in
theorem made_f (vv dv : Value) (vs : List (List Int)) (ds : Dots) (P : DPred) (w : World) (hv : RowAt vecE w vv vs) (hd : DsAt w dv ds) (hvs : ∀ l ∈ vs, vecOk l) (hds : ∀ d ∈ ds, dotOk d = true) (hlen : ds.length ≤ 1000000)
    (hP : DEq (fun s c => decide (c ≤ vmaxAt vs s) || decide ((s, c) ∈ ds)) P) :
    Calls Try.prog 111 #[vv, dv] w fun e w' => ∃ (u v : Value), e = .returned (.agg #[u, v]) ∧ KnOwn w' w.heap.size u v (formK P) ∧ Below w.heap.size w w' := by
  refine (made_c vv dv vs ds w hv hd hvs hds hlen).mono ?_
  rintro e w' ⟨k, u, v, rfl, ho, hok, -, hm, hb⟩
  have : k = formK P := formK_uniq hok fun s c h0 h5 h1 h2 => by rw [hm s c h0 h5 h1]; exact hP s c h0 h5 h1 h2
  subst this
  exact ⟨u, v, rfl, ho, hb⟩
/-- A set that was answered: it is the call's own; or an error. -/
def KnRes (w : World) (base : Nat) (u v : Value) (E : Int) (k : Kn) : Prop := (E = 0 ∧ KnOwn w base u v k) ∨ (E ≠ 0 ∧ u = .slice none 0 0 ∧ v = .slice none 0 0)
theorem KnRes.below {w w' : World} {base : Nat} {u v : Value} {E : Int} {k : Kn} (h : KnRes w base u v E k) (hb : Below w.heap.size w w') : KnRes w' base u v E k := h.imp (fun h => ⟨h.1, h.2.below hb⟩) id
theorem KnRes.mono {w : World} {base base' : Nat} {u v : Value} {E : Int} {k : Kn} (h : KnRes w base u v E k) (hb : base' ≤ base) : KnRes w base' u v E k := h.imp (fun h => ⟨h.1, h.2.mono hb⟩) id
theorem KnRes.shape {w : World} {base : Nat} {u v : Value} {E : Int} {k : Kn} (h : KnRes w base u v E k) : ∃ a n c b m d, u = .slice a n c ∧ v = .slice b m d := by
  rcases h with ⟨-, h⟩ | ⟨-, rfl, rfl⟩
  · obtain ⟨a, c, rfl⟩ := owns_slice h.vec; obtain ⟨b, d, rfl⟩ := owns_slice h.more; exact ⟨_, _, _, _, _, _, rfl, rfl⟩
  · exact ⟨none, 0, 0, none, 0, 0, rfl, rfl⟩
theorem KnRes.set {w : World} {base g j : Nat} {u v x : Value} {E : Int} {k : Kn} {cs : Array Value} (h : KnRes w base u v E k) (hg : w.heap[g]? = some (Obj.cells cs 81 (0, 0))) : KnRes (w.setCell ⟨g, j, none⟩ x) base u v E k :=
  h.imp (fun h => ⟨h.1, own_set h.2.vec hg (by decide), own_set h.2.more hg (by decide)⟩) id
theorem bstep2 {w w1 w2 : World} (h : Below w.heap.size w w1) (k : Below w1.heap.size w1 w2) : Below w.heap.size w w2 := bstep h k
end Go.Proofs.Ythnkmjjldggecaa
