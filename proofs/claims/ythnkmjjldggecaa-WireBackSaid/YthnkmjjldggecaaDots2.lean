/- The reference's Form: the form of a set of dots. Written by a small program (gen/dots2.py). -/
import Derived.Test.YthnkmjjldggecaaDots1
import Derived.Test.YthnkmjjldggecaaKnow6
import Derived.Test.YthnkmjjldggecaaMElt
namespace Go.Proofs.Ythnkmjjldggecaa
open Go.RowKit
def predD (m : Nat → Nat) : DPred := fun s c => memD m s.toNat c.toNat
theorem predD_nat (m : Nat → Nat) (s : Nat) : (fun (c : Nat) => predD m (s : Int) (c : Int)) = memD m s := by funext c; simp [predD]
def vecD (m : Nat → Nat) (q : Nat) : List Int := (List.range q).map fun (s : Nat) => (vecOf (memD m s) : Int)
def moreD (m : Nat → Nat) (q : Nat) : Dots := (List.range q).flatMap fun (s : Nat) => (restOf (memD m s)).map fun (c : Nat) => ((s : Int), (c : Int))
theorem formK_pred (m : Nat → Nat) : formK (predD m) = ⟨trimZ (vecD m 5), moreD m 5⟩ := by
  unfold formK formV formM vecD moreD
  simp only [predD_nat]
theorem vecD_succ (m : Nat → Nat) (q : Nat) : vecD m (q + 1) = vecD m q ++ [(vecOf (memD m q) : Int)] := by simp [vecD, List.range_succ]
theorem moreD_succ (m : Nat → Nat) (q : Nat) : moreD m (q + 1) = moreD m q ++ (restOf (memD m q)).map fun (c : Nat) => ((q : Int), (c : Int)) := by simp [moreD, List.range_succ]
theorem vecD_len (m : Nat → Nat) (q : Nat) : (vecD m q).length = q := by simp [vecD]
def restUp (p : Nat → Bool) (n k : Nat) : List Nat := (List.range k).filter fun c => decide (n + 2 ≤ c) && p c
theorem restUp_start (p : Nat → Bool) (n : Nat) : restUp p n (n + 2) = [] := by
  unfold restUp
  rw [List.filter_eq_nil_iff]
  intro a ha
  have := List.mem_range.1 ha
  simp only [Bool.and_eq_true, decide_eq_true_eq, not_and]
  intro h; omega
theorem restUp_succ (p : Nat → Bool) (n k : Nat) (h : n + 2 ≤ k) : restUp p n (k + 1) = if p k = true then restUp p n k ++ [k] else restUp p n k := by
  unfold restUp
  rw [List.range_succ, List.filter_append]
  by_cases hp : p k = true
  · rw [if_pos hp, List.filter_cons_of_pos (by simp [hp, h]), List.filter_nil]
  · rw [if_neg hp, List.filter_cons_of_neg (by simp [hp]), List.filter_nil, List.append_nil]
theorem restUp_end (p : Nat → Bool) (n k : Nat) (hn : vecOf p = n) (h : k = 1001 ∨ (k = 1002 ∧ n = 1000)) : restUp p n k = restOf p := by
  unfold restOf restUp
  rw [hn]
  rcases h with rfl | ⟨rfl, rfl⟩
  · rfl
  · rw [List.range_succ, List.filter_append, List.filter_cons_of_neg (by simp), List.filter_nil, List.append_nil]
theorem restUp_len (p : Nat → Bool) (n k : Nat) : (restUp p n k).length ≤ k := by
  have := List.length_filter_le (fun c => decide (n + 2 ≤ c) && p c) (List.range k)
  rw [List.length_range] at this
  exact this
theorem vecOf_uniq (p : Nat → Bool) (n : Nat) (h1 : ∀ c, 0 < c → c ≤ n → p c = true) (h2 : n ≤ 1000) (h3 : n = 1000 ∨ p (n + 1) = false) : vecOf p = n := by
  obtain ⟨-, r2, r3, r4⟩ := runN_spec p 1000 0
  rw [Nat.zero_add] at r2 r4
  change vecOf p ≤ 1000 at r2
  change ∀ c, 0 < c → c ≤ vecOf p → p c = true at r3
  change vecOf p < 1000 → p (vecOf p + 1) = false at r4
  generalize vecOf p = N at *
  rcases Nat.lt_trichotomy N n with h | h | h
  · have := r4 (by omega)
    rw [h1 (N + 1) (by omega) (by omega)] at this
    exact absurd this (by decide)
  · exact h
  · rcases h3 with h3 | h3
    · omega
    · rw [r3 (n + 1) (by omega) (by omega)] at h3
      exact absurd h3 (by decide)
theorem moreD_len (m : Nat → Nat) : ∀ q, (moreD m q).length ≤ 1001 * q
  | 0 => by simp [moreD]
  | q + 1 => by
    have := moreD_len m q
    have h := restOf_len (memD m q)
    rw [moreD_succ, List.length_append, List.length_map]
    omega
theorem own_kept2 {w w' : World} {b1 b2 e1 e2 s1 s2 n k : Nat} {u v : Value} {xs ys : List Value} (h1 : w.ownsRow b1 e1 s1 u n xs) (h2 : w.ownsRow b2 e2 s2 v k ys) (hne : e1 ≠ e2) (hg : w.grownBy w' v.ownBlock) : w'.ownsRow b1 e1 s1 u n xs := by
  rcases h1.2 with ⟨rfl, -⟩ | ⟨g, cap, cur, rfl, -, hg1, -⟩
  · exact h1.kept hg (.inl rfl)
  · exact h1.kept hg (.inr (own_off h2 hg1 hne).symm)
theorem own_take {w : World} {b e n k c : Nat} {a : Option Addr} {xs : List Value} (h : w.ownsRow b e 1 (.slice a n c) n xs) (hk : k ≤ n) : w.ownsRow b e 1 (.slice a k c) k (xs.take k) := by
  refine ⟨by rw [List.length_take, h.1]; omega, ?_⟩
  rcases h.2 with ⟨h1, h2⟩ | ⟨g, cap, cur, h1, h2, h3, h4, h5, h6, h7⟩
  · simp only [Value.slice.injEq] at h1
    obtain ⟨rfl, -, rfl⟩ := h1
    obtain rfl : k = 0 := by omega
    exact .inl ⟨rfl, rfl⟩
  · simp only [Value.slice.injEq] at h1
    obtain ⟨rfl, -, rfl⟩ := h1
    refine .inr ⟨g, c, cur, rfl, h2, h3, by omega, h5, h6, ?_⟩
    rw [← h7, List.take_take]
    congr 1; omega
/-- What stands in memory while the form is made. -/
structure FmSt (m : Nat → Nat) (w wr : World) (uv uw : Value) (vs : List Int) (ds : Dots) : Prop where
  d : wr.heap[w.heap.size]? = some (Obj.cells (dotC m) 203 (0, 0))
  o : wr.heap[w.heap.size + 1]? = some (Obj.cells #[.slice none 0 0, .slice none 0 0] 81 (0, 0))
  k : wr.heap[w.heap.size + 2]? = some (Obj.cells #[uv, uw] 81 (0, 0))
  vec : wr.ownsRow w.heap.size 3 1 uv vs.length (intsC vs)
  more : wr.ownsRow w.heap.size 92 2 uw ds.length (spansCells ds)
  bel : Below w.heap.size w wr
section
variable {m : Nat → Nat} {w wr : World} {uv uw : Value} {vs : List Int} {ds : Dots}
theorem FmSt.below {w2 : World} (h : FmSt m w wr uv uw vs ds) (hb : Below wr.heap.size wr w2) : FmSt m w w2 uv uw vs ds :=
  ⟨below_keep hb h.d, below_keep hb h.o, below_keep hb h.k, owns_below h.vec hb, owns_below h.more hb, h.bel.trans (hb.mono h.bel.size)⟩
theorem FmSt.alloc (h : FmSt m w wr uv uw vs ds) (x : Obj) : FmSt m w (wr.alloc x) uv uw vs ds := h.below (bal _)
theorem FmSt.drewN (h : FmSt m w wr uv uw vs ds) (n : Nat) : FmSt m w (wr.drewN n) uv uw vs ds := h.below (below_drewN (Below.refl _ _) n)
theorem FmSt.pushV {w2 : World} {uv' : Value} {x : Int} (h : FmSt m w wr uv uw vs ds) (ho : w2.ownsRow w.heap.size 3 1 uv' (vs.length + 1) (intsC vs ++ [.int .i64 x])) (hg : wr.grownBy w2 uv.ownBlock) : FmSt m w (w2.setCell ⟨w.heap.size + 2, 0, none⟩ uv') uv' uw (vs ++ [x]) ds := by
  have k := grown_keep h.vec hg h.k (by decide)
  refine ⟨(heap_set_other (by omega)).trans (grown_keep h.vec hg h.d (by decide)), (heap_set_other (by omega)).trans (grown_keep h.vec hg h.o (by decide)), heap_set_same k, ?_, own_set (own_kept2 h.more h.vec (by decide) hg) k (by decide), (h.bel.grown hg h.bel.size fun k hk => (h.vec.lt k hk).1).setCell (by simp) _⟩
  rw [List.length_append, intsC_append]
  exact own_set ho k (by decide)
theorem FmSt.pushD {w2 : World} {uw' : Value} {d : Int × Int} (h : FmSt m w wr uv uw vs ds) (ho : w2.ownsRow w.heap.size 92 2 uw' (ds.length + 1) (spansCells ds ++ [.int .i64 d.1, .int .i64 d.2])) (hg : wr.grownBy w2 uw.ownBlock) : FmSt m w (w2.setCell ⟨w.heap.size + 2, 1, none⟩ uw') uv uw' vs (ds ++ [d]) := by
  have k := grown_keep h.more hg h.k (by decide)
  refine ⟨(heap_set_other (by omega)).trans (grown_keep h.more hg h.d (by decide)), (heap_set_other (by omega)).trans (grown_keep h.more hg h.o (by decide)), heap_set_same k, own_set (own_kept2 h.vec h.more (by decide) hg) k (by decide), ?_, (h.bel.grown hg h.bel.size fun k hk => (h.more.lt k hk).1).setCell (by simp) _⟩
  rw [List.length_append, spansCells_append]
  exact own_set ho k (by decide)
theorem FmSt.cut {a : Option Addr} {n c k : Nat} (h : FmSt m w wr (.slice a n c) uw vs ds) (hn : n = vs.length) (hk : k ≤ n) : FmSt m w (wr.setCell ⟨w.heap.size + 2, 0, none⟩ (.slice a k c)) (.slice a k c) uw (vs.take k) ds := by
  subst hn
  refine ⟨(heap_set_other (by omega)).trans h.d, (heap_set_other (by omega)).trans h.o, heap_set_same h.k, ?_, own_set h.more h.k (by decide), h.bel.setCell (by simp) _⟩
  have := own_take h.vec hk
  rw [show (vs.take k).length = k by rw [List.length_take]; omega, show intsC (vs.take k) = (intsC vs).take k by simp [intsC, List.map_take]]
  exact own_set this h.k (by decide)
end
theorem own_nilI (w : World) (base : Nat) : w.ownsRow base 3 1 (.slice none 0 0) ([] : List Int).length (intsC []) := World.ownsRow_nil _ _ _ _
theorem own_nilE (w : World) (base : Nat) : w.ownsRow base 92 2 (.slice none 0 0) ([] : Dots).length (spansCells []) := World.ownsRow_nil _ _ _ _
/-- A load of a whole row, guarded. -/
theorem wpList_load_row_g {P : Program} {ops : Array Oper} {rest : List Oper} {o : Oper} {a : Act} {w : World} {Q : Exit → Act → World → Prop} (hgd : Region.wanted o (yielded ops a.tmps) = true) (ty : TypeId) (x : Operand) (ho : o.op = .load ty x)
    (g : Nat) (hx : a.eval x = .pointer (some ⟨g, 0, none⟩)) (t : TypeId) (cs : Array Value) (fr : Nat × Nat) (d : TypeDesc) (hg : w.heap[g]? = some (.cells cs t fr))
    (hu : P.underlying ty = some d) (hd : (match d with | .struct _ | .array _ _ => true | _ => false) = true) (hi : (P.info? ty).map (·.size) = some cs.size)
    (h : wpList P ops Q rest (a.put o.dst (.agg cs)) w) : wpList P ops Q (o :: rest) a w :=
  wpList_step fun K hK => by rw [if_pos hgd]; exact wp_load_row ty x ho g hx t cs fr d hg hu hd hi (hK _ _ h)
def fmN (b : Nat) (wr : World) : Nat := match wr.cell? ⟨b, 0, none⟩ with | some (.slice _ n _) => n | _ => 0
theorem fmN_at {m : Nat → Nat} {w wr : World} {uw : Value} {vs : List Int} {ds : Dots} {a : Option Addr} {n c : Nat} (h : FmSt m w wr (.slice a n c) uw vs ds) : fmN (w.heap.size + 2) wr = n := by
  unfold fmN
  rw [cell_of_block (j := 0) (v := .slice a n c) h.k rfl]
set_option maxRecDepth 100000 in
set_option maxHeartbeats 4000000 in
theorem dform_c (m : Nat → Nat) (w : World) (hm : DWord m) :
    Calls Try.prog 148 #[.agg (dotC m)] w fun e w' => ∃ u v, e = .returned (.tuple #[.agg #[u, v], .bool (decide ((formK (predD m)).more.length ≤ 60))]) ∧ KnOwn w' w.heap.size u v (formK (predD m)) ∧ Below w.heap.size w w' := by
  obtain ⟨W, hW⟩ : ∃ W, W = ((w.alloc (.cells (dotC m) 203)).alloc (.cells #[.slice none 0 0, .slice none 0 0] 81)).alloc (.cells #[.slice none 0 0, .slice none 0 0] 81) := ⟨_, rfl⟩
  have M0 := Lib.hid (show FmSt m w W (.slice none 0 0) (.slice none 0 0) (vecD m 0) (moreD m 0) by
    rw [hW]
    exact ⟨alloc_keep _ (alloc_keep _ (alloc_new _ _ _ _ rfl)), alloc_keep _ (alloc_new _ _ _ _ (by simp)), alloc_new _ _ _ _ (by simp), own_nilI _ _, own_nilE _ _, ((bal _).alloc (by simp) _).alloc (by simp; omega) _⟩)
  have HI := Lib.hid (DotsTy.size m)
  have HMW := Lib.hid hm
  have HF := Lib.hid (formK_pred m)
  clear hm
  go_enter Try.func148, Try.ntmps148
  go_wp2_with fail
  rw [show w.heap.size + 1 + 1 = w.heap.size + 2 from rfl, ← hW]
  clear hW
  go_loopw [9] (fun i wr => ∃ (q : Nat) (uv uw : Value), q ≤ 5 ∧ i = .int .i64 q ∧ FmSt m w wr uv uw (vecD m q) (moreD m q)) (fun i _ => 5 - (intOf i).toNat)
  case atStart => exact ⟨0, _, _, by omega, rfl, M0.out⟩
  case round =>
    clear M0
    obtain ⟨q, uv, uw, hq, rfl, hM⟩ := hrel
    obtain ⟨wo, hwo⟩ : ∃ wo, wo = wr := ⟨_, rfl⟩
    subst hwo
    have M := Lib.hid hM
    clear hM
    by_cases hlt : q < 5
    · have hltb : decide ((q : Int) < 5) = true := by simp; omega
      go_wp2
      go_loopw [6] (fun i wr => ∃ (n : Nat), n ≤ 1000 ∧ i = .int .i64 n ∧ (∀ c : Nat, 0 < c → c ≤ n → memD m q c = true) ∧ FmSt m w wr uv uw (vecD m q) (moreD m q)) (fun i _ => 1000 - (intOf i).toNat)
      case atStart => exact ⟨0, by omega, rfl, fun c h1 h2 => by omega, M.out⟩
      case round =>
        clear M
        obtain ⟨n, hn, rfl, hall, hM⟩ := hrel
        have HALL := Lib.hid hall
        have M := Lib.hid hM
        have HMD := Lib.hid M.out.d
        clear hall hM
        by_cases hln : n < 1000
        · go_wp2_with (with_reducible refine wpList_load_row_g ?hw 203 (.tmp 1) rfl w.heap.size rfl 203 (dotC m) (0, 0) _ HMD.out Try.underlying203 rfl HI.out ?_)
          case hw => omega
          have HC := Lib.hid (fun w2 => (show Calls Try.prog 172 #[.agg (dotC m), .agg #[.int .i64 q, .int .i64 ((n : Int) + 1)]] w2 fun e w' => e = .returned (.bool (memD m q (n + 1))) ∧ Below w2.heap.size w2 w' from dhas_c m q (n + 1) w2 HMW.out hlt (by omega)))
          go_wp2_with fail
          (with_reducible refine (HC.out _).mono ?_)
          rintro e w3 ⟨rfl, hb3⟩
          have M3 := Lib.hid (M.out.below hb3)
          clear hb3 HMD M HC
          cases hmem : memD m q (n + 1)
          · have HV := Lib.hid (vecOf_uniq (memD m q) n HALL.out hn (.inr hmem))
            have HN := Lib.hid hn
            clear hmem
            obtain ⟨ua, uc, hu⟩ := owns_slice M3.out.vec
            subst hu
            obtain ⟨wa, wc, hw⟩ := owns_slice M3.out.more
            subst hw
            have MA := Lib.hid (M3.out.alloc (.cells #[.int .i64 (n)] 3))
            have r0 := cell_of_block (j := 0) M3.out.k rfl
            have HOWN := Lib.hid MA.out.vec
            have hsz := MA.out.bel.size
            have hvl : (vecD m q).length ≤ 5 := by rw [vecD_len]; omega
            have ROW := Lib.hid (fun j u (hj : ([.int .i64 (n)] : List Value)[j]? = some u) => (show (w3.alloc (.cells #[.int .i64 (n)] 3)).cell? ((⟨w3.heap.size, 0, none⟩ : Addr).add j) = some u by
              rw [show (⟨w3.heap.size, 0, none⟩ : Addr).add j = ⟨w3.heap.size, j, none⟩ from by simp [Addr.add]; exact fun h => h.symm, World.cell?_alloc_at _ _ _ _ rfl]; simpa using hj))
            go_wp2_with (at_builtin; refine wpList_append_own' rfl (.tmp 25) (.tmp 27) 23 rfl w.heap.size 3 _ 1 8 Try.underlying23 IcTy.info rfl (by decide) _ (vecD m q).length _ rfl HOWN.out _ 1 1 [.int .i64 (n)] rfl rfl ROW.out (by intro u hu; simp at hu; rcases hu with rfl; rfl) (by unfold maxLen; omega) (by omega) hsz ?_)
            intro v' w7 ho hgr _
            obtain ⟨qa, qc, hq7⟩ := owns_slice ho
            subst hq7
            have k7 := grown_keep MA.out.vec hgr MA.out.k (by decide)
            have g0 := cell_of_block (j := 0) k7 rfl
            have gf := free_of_block (j := 0) k7
            have gl := hlt_of k7
            have HP := Lib.hid (MA.out.pushV ho hgr)
            clear ho hgr k7 HOWN ROW MA r0 M3
            generalize (vecD m q).length + 1 = vl at *
            go_wp2
            clear g0 gf gl
            go_loopw [7] (fun i wr => ∃ (k : Nat) (uw : Value), n + 2 ≤ k ∧ (k ≤ 1001 ∨ (k = 1002 ∧ n = 1000)) ∧ i = .int .i64 k ∧ FmSt m w wr (.slice qa vl qc) uw (vecD m q ++ [((n : Nat) : Int)]) (moreD m q ++ (restUp (memD m q) n k).map fun (c : Nat) => ((q : Int), (c : Int)))) (fun i _ => 1002 - (intOf i).toNat)
            case atStart =>
              refine ⟨n + 2, .slice wa (moreD m q).length wc, Nat.le_refl _, by have := HN.out; omega, by go_num, ?_⟩
              rw [restUp_start, List.map_nil, List.append_nil]
              exact HP.out
            case round =>
              clear HP
              obtain ⟨k, uw, hk1, hk2, rfl, hM⟩ := hrel
              have M := Lib.hid hM
              clear hM
              by_cases hlk : k ≤ 1000
              · have MA := Lib.hid (M.out.alloc (.cells #[.int .i64 (q : Int), .int .i64 (k : Int)] 92))
                have HMD := Lib.hid MA.out.d
                have x0 := cat wr #[.int .i64 (q : Int), .int .i64 (k : Int)] 92 0 _ rfl _ rfl
                have x1 := cat wr #[.int .i64 (q : Int), .int .i64 (k : Int)] 92 1 _ rfl _ rfl
                have HSC := Lib.hid (restUp_succ (memD m q) n k hk1)
                have hrl := restUp_len (memD m q) n k
                have hml := moreD_len m q
                clear M
                go_wp2_with (with_reducible refine wpList_load_row rfl 203 (.tmp 1) rfl w.heap.size rfl 203 (dotC m) (0, 0) _ HMD.out Try.underlying203 rfl HI.out ?_)
                go_wp2_with fail
                (with_reducible refine (dhas_c m q k _ HMW.out hlt (by omega)).mono ?_)
                rintro e w8 ⟨rfl, hb8⟩
                have M8 := Lib.hid (MA.out.below hb8)
                have y0 := ckeep hb8 x0
                have y1 := ckeep hb8 x1
                clear hb8 HMD MA x0 x1
                cases hmem8 : memD m q k
                · have HX := Lib.hid hmem8
                  clear hmem8
                  go_wp2
                  go_roundw
                  case rel =>
                    refine ⟨k + 1, uw, by omega, by omega, by go_num, ?_⟩
                    rw [HSC.out, if_neg (by rw [HX.out]; decide)]
                    exact M8.out
                  case measure => simp [intOf] <;> omega
                · have HX := Lib.hid hmem8
                  obtain ⟨wa, wc, hw⟩ := owns_slice M8.out.more
                  subst hw
                  have MB := Lib.hid (M8.out.alloc (.cells #[.int .i64 (q : Int), .int .i64 (k : Int)] 92))
                  have r1 := cell_of_block (j := 1) M8.out.k rfl
                  have HOWN := Lib.hid MB.out.more
                  have hsz := MB.out.bel.size
                  have hll : (moreD m q ++ (restUp (memD m q) n k).map fun (c : Nat) => ((q : Int), (c : Int))).length ≤ 1001 * q + k := by rw [List.length_append, List.length_map]; omega
                  have ROW := Lib.hid (fun j u (hj : ([.int .i64 (q : Int), .int .i64 (k : Int)] : List Value)[j]? = some u) => (show (w8.alloc (.cells #[.int .i64 (q : Int), .int .i64 (k : Int)] 92)).cell? ((⟨w8.heap.size, 0, none⟩ : Addr).add j) = some u by
                    rw [show (⟨w8.heap.size, 0, none⟩ : Addr).add j = ⟨w8.heap.size, j, none⟩ from by simp [Addr.add]; exact fun h => h.symm, World.cell?_alloc_at _ _ _ _ rfl]; simpa using hj))
                  clear hmem8 M8
                  generalize hds : moreD m q ++ (restUp (memD m q) n k).map (fun (c : Nat) => ((q : Int), (c : Int))) = ds at *
                  have HDS := Lib.hid hds
                  clear hds
                  go_wp2_with (at_builtin; refine wpList_append_own' rfl (.tmp 43) (.tmp 45) 79 rfl w.heap.size 92 _ 2 16 Try.underlying79 DcTy.info rfl (by decide) _ ds.length _ rfl HOWN.out _ 1 1 [.int .i64 (q : Int), .int .i64 (k : Int)] rfl rfl ROW.out (by intro u hu; simp at hu; rcases hu with rfl | rfl <;> rfl) (by unfold maxLen; omega) (by omega) hsz ?_)
                  intro v' w9 ho hgr _
                  obtain ⟨qa9, qc9, hq9⟩ := owns_slice ho
                  subst hq9
                  have k9 := grown_keep MB.out.more hgr MB.out.k (by decide)
                  have g1 := cell_of_block (j := 1) k9 rfl
                  have gf := free_of_block (j := 1) k9
                  have gl := hlt_of k9
                  have HP := Lib.hid (MB.out.pushD (d := ((q : Int), (k : Int))) ho hgr)
                  clear ho hgr k9 HOWN ROW MB r1 y0 y1
                  go_wp2
                  go_roundw
                  case rel =>
                    refine ⟨k + 1, .slice qa9 (ds.length + 1) qc9, by omega, by omega, by go_num, ?_⟩
                    rw [HSC.out, if_pos HX.out, List.map_append, List.map_cons, List.map_nil, ← List.append_assoc, HDS.out]
                    exact HP.out
                  case measure => simp [intOf] <;> omega
              · have HQ := Lib.hid (show FmSt m w wr (.slice qa vl qc) uw (vecD m (q + 1)) (moreD m (q + 1)) by
                  rw [vecD_succ, moreD_succ, HV.out, ← restUp_end (memD m q) n k HV.out (by omega)]
                  exact M.out)
                clear M
                go_wp2
                go_roundw
                case rel => exact ⟨q + 1, .slice qa vl qc, uw, by omega, by go_num, HQ.out⟩
                case measure => simp [intOf] <;> omega
          · have HMEM := Lib.hid hmem
            clear hmem
            go_wp2
            go_roundw
            case rel =>
              refine ⟨n + 1, by omega, by go_num, fun c h1 h2 => ?_, M3.out⟩
              by_cases h : c = n + 1
              · rw [h]; exact HMEM.out
              · exact HALL.out c h1 (by omega)
            case measure => simp [intOf] <;> omega
        · obtain rfl : n = 1000 := by omega
          have h1000 : ((1000 : Nat) : Int) = 1000 := rfl
          have HV := Lib.hid (vecOf_uniq (memD m q) 1000 HALL.out hn (.inl rfl))
          have HN := Lib.hid hn
          have M3 := M
          clear M HMD
          obtain ⟨ua, uc, hu⟩ := owns_slice M3.out.vec
          subst hu
          obtain ⟨wa, wc, hw⟩ := owns_slice M3.out.more
          subst hw
          have MA := Lib.hid (M3.out.alloc (.cells #[.int .i64 (1000)] 3))
          have r0 := cell_of_block (j := 0) M3.out.k rfl
          have HOWN := Lib.hid MA.out.vec
          have hsz := MA.out.bel.size
          have hvl : (vecD m q).length ≤ 5 := by rw [vecD_len]; omega
          have ROW := Lib.hid (fun j u (hj : ([.int .i64 (1000)] : List Value)[j]? = some u) => (show (wr.alloc (.cells #[.int .i64 (1000)] 3)).cell? ((⟨wr.heap.size, 0, none⟩ : Addr).add j) = some u by
            rw [show (⟨wr.heap.size, 0, none⟩ : Addr).add j = ⟨wr.heap.size, j, none⟩ from by simp [Addr.add]; exact fun h => h.symm, World.cell?_alloc_at _ _ _ _ rfl]; simpa using hj))
          go_wp2_with (at_builtin; refine wpList_append_own' rfl (.tmp 25) (.tmp 27) 23 rfl w.heap.size 3 _ 1 8 Try.underlying23 IcTy.info rfl (by decide) _ (vecD m q).length _ rfl HOWN.out _ 1 1 [.int .i64 (1000)] rfl rfl ROW.out (by intro u hu; simp at hu; rcases hu with rfl; rfl) (by unfold maxLen; omega) (by omega) hsz ?_)
          intro v' w7 ho hgr _
          obtain ⟨qa, qc, hq7⟩ := owns_slice ho
          subst hq7
          have k7 := grown_keep MA.out.vec hgr MA.out.k (by decide)
          have g0 := cell_of_block (j := 0) k7 rfl
          have gf := free_of_block (j := 0) k7
          have gl := hlt_of k7
          have HP := Lib.hid (MA.out.pushV ho hgr)
          clear ho hgr k7 HOWN ROW MA r0 M3
          generalize (vecD m q).length + 1 = vl at *
          go_wp2
          clear g0 gf gl
          go_loopw [7] (fun i wr => ∃ (k : Nat) (uw : Value), 1000 + 2 ≤ k ∧ (k ≤ 1001 ∨ (k = 1002 ∧ 1000 = 1000)) ∧ i = .int .i64 k ∧ FmSt m w wr (.slice qa vl qc) uw (vecD m q ++ [((1000 : Nat) : Int)]) (moreD m q ++ (restUp (memD m q) 1000 k).map fun (c : Nat) => ((q : Int), (c : Int)))) (fun i _ => 1002 - (intOf i).toNat)
          case atStart =>
            refine ⟨1000 + 2, .slice wa (moreD m q).length wc, Nat.le_refl _, by have := HN.out; omega, by go_num, ?_⟩
            rw [restUp_start, List.map_nil, List.append_nil]
            exact HP.out
          case round =>
            clear HP
            obtain ⟨k, uw, hk1, hk2, rfl, hM⟩ := hrel
            have M := Lib.hid hM
            clear hM
            by_cases hlk : k ≤ 1000
            · exfalso; omega
            · have HQ := Lib.hid (show FmSt m w wr (.slice qa vl qc) uw (vecD m (q + 1)) (moreD m (q + 1)) by
                rw [vecD_succ, moreD_succ, HV.out, ← restUp_end (memD m q) 1000 k HV.out (by omega)]
                exact M.out)
              clear M
              go_wp2
              go_roundw
              case rel => exact ⟨q + 1, .slice qa vl qc, uw, by omega, by go_num, HQ.out⟩
              case measure => simp [intOf] <;> omega
    · obtain rfl : q = 5 := by omega
      have hq5 : ((5 : Nat) : Int) = 5 := rfl
      have hvl := vecD_len m 5
      have hml := moreD_len m 5
      have HVL := Lib.hid hvl
      have HF2 := Lib.hid (show (formK (predD m)).vec = trimZ (vecD m 5) ∧ (formK (predD m)).more = moreD m 5 by rw [HF.out]; exact ⟨rfl, rfl⟩)
      generalize vecD m 5 = vs at *
      generalize moreD m 5 = ds at *
      clear hvl hlt
      go_wp2
      go_loopw [63] (fun _ wr => ∃ (n : Nat) (uv : Value), n ≤ 5 ∧ FmSt m w wr uv uw (vs.take n) ds ∧ trimZ (vs.take n) = trimZ vs) (fun _ wr => fmN (w.heap.size + 2) wr)
      case atStart => exact ⟨5, uv, Nat.le_refl _, by rw [List.take_of_length_le (by rw [HVL.out]; exact Nat.le_refl _)]; exact M.out, by rw [List.take_of_length_le (by rw [HVL.out]; exact Nat.le_refl _)]⟩
      case round =>
        clear M
        obtain ⟨n, uv, hn, hM, htr⟩ := hrel
        have M := Lib.hid hM
        have HTR := Lib.hid htr
        clear hM htr
        have hnl : (vs.take n).length = n := by rw [List.length_take, HVL.out]; omega
        obtain ⟨ua, uc, hu⟩ := owns_slice M.out.vec
        rw [hnl] at hu
        obtain ⟨wa, wc, hw⟩ := owns_slice M.out.more
        subst hu hw
        have HFN := Lib.hid (fmN_at M.out)
        have r0 := cell_of_block (j := 0) M.out.k rfl
        have HNL := Lib.hid hnl
        clear hnl
        rcases n with - | n
        · have HFIN := Lib.hid (show vs.take 0 = trimZ vs by rw [← HTR.out]; simp [trimZ])
          clear hn
          have ME := Lib.hid (show FmSt m w wr (.slice ua 0 uc) (.slice wa ds.length wc) (trimZ vs) ds by rw [← HFIN.out]; exact M.out)
          have HLN := Lib.hid (show (trimZ vs).length = 0 by rw [← HFIN.out]; exact HNL.out)
          have C0 := Lib.hid (cell_of_block (j := 0) ME.out.k rfl)
          have C1 := Lib.hid (cell_of_block (j := 1) ME.out.k rfl)
          have HBL := Lib.hid ME.out.bel
          have HO := Lib.hid ME.out.o
          have HKO := Lib.hid (show KnOwn wr w.heap.size (.slice ua 0 uc) (.slice wa ds.length wc) (formK (predD m)) by rw [HF.out]; exact ⟨ME.out.vec, ME.out.more⟩)
          clear M HFN HTR HNL hml
          go_wp2
          clear r0
          refine Cl.region0 77 rfl [5] (fun ww => Below wr.heap.size wr ww) (fun _ => []) (fun jq v ww => match jq with | 0 => v = .agg #[.slice ua 0 uc, .slice wa ds.length wc] | 1 => v = .pointer (some ⟨w.heap.size + 2, 1, none⟩) | 2 => v = .slice wa ds.length wc | 3 => v = .int .i64 (ds.length : Nat) | 4 => v = .bool (decide (ds.length ≤ 60)) | 5 => KnOwn ww w.heap.size (.slice ua 0 uc) (.slice wa ds.length wc) (formK (predD m)) ∧ ww.heap[w.heap.size + 1]? = some (Obj.cells #[.slice ua 0 uc, .slice wa ds.length wc] 81 (0, 0)) ∧ Below w.heap.size w ww | 6 => v = .bool (decide (ds.length ≤ 60)) | _ => True) (fun ww => ww.heap[w.heap.size + 2]? = some (Obj.cells #[.slice ua 0 uc, .slice wa ds.length wc] 81 (0, 0))) (fun jq ww ww' => jq ≠ 5 → Below ww.heap.size ww ww') Try.mixed (by decide +kernel) ME.out.k ((Below.refl _ _).drew) ?_ (fun jq ww ww' hk h hR => bstep h (hR (by simpa using hk))) ?_ ?_
          · intro q r v w w' hne hk hlt h hR
            match r, hk, hlt, h, hne with
            | 0, _, _, h, _ => exact h
            | 1, _, _, h, _ => exact h
            | 2, _, _, h, _ => exact h
            | 3, _, _, h, _ => exact h
            | 4, _, _, h, _ => exact h
            | 5, _, _, h, hne => obtain ⟨h1, h2, h3⟩ := h; exact ⟨h1.below (hR (by exact hne)), below_keep (hR (by exact hne)) h2, bstep2 h3 (hR (by exact hne))⟩
            | 6, _, _, h, _ => exact h
            | _ + 7, _, _, _, _ => trivial
          · refine ⟨?_, ?_, ?_, ?_, ?_, ?_, ?_, trivial⟩
            · intro x wx hG
              have f4 := hG.old 4 (by decide +kernel)
              have hg := hG.good
              clear hG
              have c_C0 := cell_of_block (j := 0) hg rfl
              have c_C1 := cell_of_block (j := 1) hg rfl
              go_wp2
              exact ⟨_, rfl, rfl, hg, fun _ => Below.refl _ _⟩
            · intro x wx hG
              have f4 := hG.old 4 (by decide +kernel)
              have hg := hG.good
              clear hG
              go_wp2
              exact ⟨_, rfl, rfl, hg, fun _ => Below.refl _ _⟩
            · intro x wx hG
              have g1 : (x.tmps.getD 73 undef) = .pointer (some ⟨w.heap.size + 2, 1, none⟩) := hG.claims 1 _ rfl (by decide +kernel) (by decide +kernel)
              have hg := hG.good
              clear hG
              have c_C0 := cell_of_block (j := 0) hg rfl
              have c_C1 := cell_of_block (j := 1) hg rfl
              go_wp2
              exact ⟨_, rfl, rfl, hg, fun _ => Below.refl _ _⟩
            · intro x wx hG
              have g2 : (x.tmps.getD 74 undef) = .slice wa ds.length wc := hG.claims 2 _ rfl (by decide +kernel) (by decide +kernel)
              have hg := hG.good
              clear hG
              go_wp2
              exact ⟨_, rfl, rfl, hg, fun _ => Below.refl _ _⟩
            · intro x wx hG
              have g3 : (x.tmps.getD 75 undef) = .int .i64 (ds.length : Nat) := hG.claims 3 _ rfl (by decide +kernel) (by decide +kernel)
              have hg := hG.good
              clear hG
              go_wp2
              rw [show decide ((ds.length : Int) ≤ 60) = decide (ds.length ≤ 60) from by rw [decide_eq_decide]; omega]
              exact ⟨_, rfl, rfl, hg, fun _ => Below.refl _ _⟩
            · intro x wx hG
              have f2 := hG.old 2 (by decide +kernel)
              have g0 : (x.tmps.getD 72 undef) = .agg #[.slice ua 0 uc, .slice wa ds.length wc] := hG.claims 0 _ rfl (by decide +kernel) (by decide +kernel)
              have hp := hG.pre (by decide +kernel)
              have hg := hG.good
              clear hG
              have hR := below_keep hp HO.out
              have r0 := cell_of_block (j := 0) hR rfl
              have r1 := cell_of_block (j := 1) hR rfl
              have f0 := free_of_block (j := 0) hR
              have f1 := free_of_block (j := 1) hR
              have hRl := hlt_of hR
              have HR := Lib.hid hR
              have HK := Lib.hid (HKO.out.below hp)
              have HBX := Lib.hid (HBL.out.trans (hp.mono HBL.out.size))
              have HG := Lib.hid hg
              clear hR hp hg
              go_wp2
              exact ⟨undef, rfl, ⟨⟨own_set (own_set HK.out.vec HR.out (by decide)) (heap_set_same HR.out) (by decide), own_set (own_set HK.out.more HR.out (by decide)) (heap_set_same HR.out) (by decide)⟩, by rw [heap_set_same (heap_set_same HR.out)]; rfl, (HBX.out.setCell (by simp) _).setCell (by simp) _⟩, (heap_set_other (by omega)).trans ((heap_set_other (by omega)).trans HG.out), fun h => absurd rfl h⟩
            · intro x wx hG
              have g4 : (x.tmps.getD 76 undef) = .bool (decide (ds.length ≤ 60)) := hG.claims 4 _ rfl (by decide +kernel) (by decide +kernel)
              have hg := hG.good
              clear hG
              go_wp2
              exact ⟨_, rfl, rfl, hg, fun _ => Below.refl _ _⟩
          · intro vals w9 hg hF
            obtain ⟨g0, g1, g2, g3, g4, g5, g6, -⟩ := hF
            have e0 : vals 0 = .agg #[.slice ua 0 uc, .slice wa ds.length wc] := g0 rfl
            have e1 : vals 1 = .pointer (some ⟨w.heap.size + 2, 1, none⟩) := g1 rfl
            have e2 : vals 2 = .slice wa ds.length wc := g2 rfl
            have e3 : vals 3 = .int .i64 (ds.length : Nat) := g3 rfl
            have e4 : vals 4 = .bool (decide (ds.length ≤ 60)) := g4 rfl
            replace g5 : KnOwn w9 w.heap.size (.slice ua 0 uc) (.slice wa ds.length wc) (formK (predD m)) ∧ w9.heap[w.heap.size + 1]? = some (Obj.cells #[.slice ua 0 uc, .slice wa ds.length wc] 81 (0, 0)) ∧ Below w.heap.size w w9 := g5 rfl
            have e6 : vals 6 = .bool (decide (ds.length ≤ 60)) := g6 rfl
            simp only [Cl.puts, e0, e1, e2, e3, e4, e6]
            clear e0 e1 e2 e3 e4 e6 g0 g1 g2 g3 g4 g6
            go_simp
            obtain ⟨h1, h2, h3⟩ := g5
            have H2 := Lib.hid h2
            have r0 := cell_of_block (j := 0) h2 rfl
            have r1 := cell_of_block (j := 1) h2 rfl
            clear h2
            go_wp2
            refine bodyPost_ret (v := .tuple #[.agg #[_, _], _]) (by simp [results, Try.results148, go_sem, *]; exact ⟨⟨rfl, rfl⟩, rfl⟩) rfl ?_
            exact ⟨_, _, by rw [HF2.out.2], h1, h3⟩
        · have hw1 : IntKind.i64.wrap (n : Int) = n := IntWalk.i64_in _ (by omega)
          have hn5 : (n : Int) < 5 := by omega
          have hnv : n < vs.length := by rw [HVL.out]; omega
          have HTS := Lib.hid (show trimZ (vs.take (n + 1)) = if vs[n] = 0 then trimZ (vs.take n) else vs.take (n + 1) by rw [List.take_succ_eq_append_getElem hnv, trimZ_snoc])
          obtain ⟨g, hg, hcap, hc⟩ : ∃ g, ua = some ⟨g, 0, none⟩ ∧ n + 1 ≤ uc ∧ wr.cell? ⟨g, n, none⟩ = some (.int .i64 vs[n]) := by
            rcases M.out.vec.2 with ⟨h1, h2⟩ | ⟨g, cap, cur, h1, h2, h3, h4⟩
            · rw [HNL.out] at h2; omega
            · simp only [Value.slice.injEq] at h1
              obtain ⟨rfl, -, rfl⟩ := h1
              refine ⟨g, rfl, by have := h4.1; rw [HNL.out] at this; exact this, ?_⟩
              have := M.out.vec.cells (g := g) rfl n (.int .i64 vs[n]) (by simp [intsC, hnv])
              by_cases h0 : n = 0
              · subst h0; simpa [Addr.add] using this
              · simpa [Addr.add, h0] using this
          subst hg
          generalize vs[n] = x at *
          by_cases hx : x = 0
          · have HX := Lib.hid hx
            have hx' : (x == 0) = true := by simp [hx]
            have f0 := free_of_block (j := 0) M.out.k
            have hkl := hlt_of M.out.k
            have HC := M.out.cut (k := n) HNL.out.symm (by omega)
            rw [List.take_take, show min n (n + 1) = n by omega] at HC
            have HC := HC
            clear hx
            go_wp2
            go_roundw
            case rel => exact ⟨n, .slice (some ⟨g, 0, none⟩) n uc, by omega, HC, by rw [← HTR.out, HTS.out, if_pos HX.out]⟩
            case measure => rw [fmN_at HC, HFN.out]; omega
          · have hx' : (x == 0) = false := by simp [hx]
            have HFIN := Lib.hid (show vs.take (n + 1) = trimZ vs by rw [← HTR.out, HTS.out, if_neg hx])
            have HNN := Lib.hid (rfl : n + 1 = n + 1)
            clear hx
            have ME := Lib.hid (show FmSt m w wr (.slice (some ⟨g, 0, none⟩) (n + 1) uc) (.slice wa ds.length wc) (trimZ vs) ds by rw [← HFIN.out]; exact M.out)
            have HLN := Lib.hid (show (trimZ vs).length = (n + 1) by rw [← HFIN.out]; exact HNL.out)
            have C0 := Lib.hid (cell_of_block (j := 0) ME.out.k rfl)
            have C1 := Lib.hid (cell_of_block (j := 1) ME.out.k rfl)
            have HBL := Lib.hid ME.out.bel
            have HO := Lib.hid ME.out.o
            have HKO := Lib.hid (show KnOwn wr w.heap.size (.slice (some ⟨g, 0, none⟩) (n + 1) uc) (.slice wa ds.length wc) (formK (predD m)) by rw [HF.out]; exact ⟨ME.out.vec, ME.out.more⟩)
            clear M HFN HTR HNL hml
            go_wp2
            clear r0
            refine Cl.region0 77 rfl [5] (fun ww => Below wr.heap.size wr ww) (fun _ => []) (fun jq v ww => match jq with | 0 => v = .agg #[.slice (some ⟨g, 0, none⟩) (n + 1) uc, .slice wa ds.length wc] | 1 => v = .pointer (some ⟨w.heap.size + 2, 1, none⟩) | 2 => v = .slice wa ds.length wc | 3 => v = .int .i64 (ds.length : Nat) | 4 => v = .bool (decide (ds.length ≤ 60)) | 5 => KnOwn ww w.heap.size (.slice (some ⟨g, 0, none⟩) (n + 1) uc) (.slice wa ds.length wc) (formK (predD m)) ∧ ww.heap[w.heap.size + 1]? = some (Obj.cells #[.slice (some ⟨g, 0, none⟩) (n + 1) uc, .slice wa ds.length wc] 81 (0, 0)) ∧ Below w.heap.size w ww | 6 => v = .bool (decide (ds.length ≤ 60)) | _ => True) (fun ww => ww.heap[w.heap.size + 2]? = some (Obj.cells #[.slice (some ⟨g, 0, none⟩) (n + 1) uc, .slice wa ds.length wc] 81 (0, 0))) (fun jq ww ww' => jq ≠ 5 → Below ww.heap.size ww ww') Try.mixed (by decide +kernel) ME.out.k ((Below.refl _ _).drew) ?_ (fun jq ww ww' hk h hR => bstep h (hR (by simpa using hk))) ?_ ?_
            · intro q r v w w' hne hk hlt h hR
              match r, hk, hlt, h, hne with
              | 0, _, _, h, _ => exact h
              | 1, _, _, h, _ => exact h
              | 2, _, _, h, _ => exact h
              | 3, _, _, h, _ => exact h
              | 4, _, _, h, _ => exact h
              | 5, _, _, h, hne => obtain ⟨h1, h2, h3⟩ := h; exact ⟨h1.below (hR (by exact hne)), below_keep (hR (by exact hne)) h2, bstep2 h3 (hR (by exact hne))⟩
              | 6, _, _, h, _ => exact h
              | _ + 7, _, _, _, _ => trivial
            · refine ⟨?_, ?_, ?_, ?_, ?_, ?_, ?_, trivial⟩
              · intro x wx hG
                have f4 := hG.old 4 (by decide +kernel)
                have hg := hG.good
                clear hG
                have c_C0 := cell_of_block (j := 0) hg rfl
                have c_C1 := cell_of_block (j := 1) hg rfl
                go_wp2
                exact ⟨_, rfl, rfl, hg, fun _ => Below.refl _ _⟩
              · intro x wx hG
                have f4 := hG.old 4 (by decide +kernel)
                have hg := hG.good
                clear hG
                go_wp2
                exact ⟨_, rfl, rfl, hg, fun _ => Below.refl _ _⟩
              · intro x wx hG
                have g1 : (x.tmps.getD 73 undef) = .pointer (some ⟨w.heap.size + 2, 1, none⟩) := hG.claims 1 _ rfl (by decide +kernel) (by decide +kernel)
                have hg := hG.good
                clear hG
                have c_C0 := cell_of_block (j := 0) hg rfl
                have c_C1 := cell_of_block (j := 1) hg rfl
                go_wp2
                exact ⟨_, rfl, rfl, hg, fun _ => Below.refl _ _⟩
              · intro x wx hG
                have g2 : (x.tmps.getD 74 undef) = .slice wa ds.length wc := hG.claims 2 _ rfl (by decide +kernel) (by decide +kernel)
                have hg := hG.good
                clear hG
                go_wp2
                exact ⟨_, rfl, rfl, hg, fun _ => Below.refl _ _⟩
              · intro x wx hG
                have g3 : (x.tmps.getD 75 undef) = .int .i64 (ds.length : Nat) := hG.claims 3 _ rfl (by decide +kernel) (by decide +kernel)
                have hg := hG.good
                clear hG
                go_wp2
                rw [show decide ((ds.length : Int) ≤ 60) = decide (ds.length ≤ 60) from by rw [decide_eq_decide]; omega]
                exact ⟨_, rfl, rfl, hg, fun _ => Below.refl _ _⟩
              · intro x wx hG
                have f2 := hG.old 2 (by decide +kernel)
                have g0 : (x.tmps.getD 72 undef) = .agg #[.slice (some ⟨g, 0, none⟩) (n + 1) uc, .slice wa ds.length wc] := hG.claims 0 _ rfl (by decide +kernel) (by decide +kernel)
                have hp := hG.pre (by decide +kernel)
                have hg := hG.good
                clear hG
                have hR := below_keep hp HO.out
                have r0 := cell_of_block (j := 0) hR rfl
                have r1 := cell_of_block (j := 1) hR rfl
                have f0 := free_of_block (j := 0) hR
                have f1 := free_of_block (j := 1) hR
                have hRl := hlt_of hR
                have HR := Lib.hid hR
                have HK := Lib.hid (HKO.out.below hp)
                have HBX := Lib.hid (HBL.out.trans (hp.mono HBL.out.size))
                have HG := Lib.hid hg
                clear hR hp hg
                go_wp2
                exact ⟨undef, rfl, ⟨⟨own_set (own_set HK.out.vec HR.out (by decide)) (heap_set_same HR.out) (by decide), own_set (own_set HK.out.more HR.out (by decide)) (heap_set_same HR.out) (by decide)⟩, by rw [heap_set_same (heap_set_same HR.out)]; rfl, (HBX.out.setCell (by simp) _).setCell (by simp) _⟩, (heap_set_other (by omega)).trans ((heap_set_other (by omega)).trans HG.out), fun h => absurd rfl h⟩
              · intro x wx hG
                have g4 : (x.tmps.getD 76 undef) = .bool (decide (ds.length ≤ 60)) := hG.claims 4 _ rfl (by decide +kernel) (by decide +kernel)
                have hg := hG.good
                clear hG
                go_wp2
                exact ⟨_, rfl, rfl, hg, fun _ => Below.refl _ _⟩
            · intro vals w9 hg hF
              obtain ⟨g0, g1, g2, g3, g4, g5, g6, -⟩ := hF
              have e0 : vals 0 = .agg #[.slice (some ⟨g, 0, none⟩) (n + 1) uc, .slice wa ds.length wc] := g0 rfl
              have e1 : vals 1 = .pointer (some ⟨w.heap.size + 2, 1, none⟩) := g1 rfl
              have e2 : vals 2 = .slice wa ds.length wc := g2 rfl
              have e3 : vals 3 = .int .i64 (ds.length : Nat) := g3 rfl
              have e4 : vals 4 = .bool (decide (ds.length ≤ 60)) := g4 rfl
              replace g5 : KnOwn w9 w.heap.size (.slice (some ⟨g, 0, none⟩) (n + 1) uc) (.slice wa ds.length wc) (formK (predD m)) ∧ w9.heap[w.heap.size + 1]? = some (Obj.cells #[.slice (some ⟨g, 0, none⟩) (n + 1) uc, .slice wa ds.length wc] 81 (0, 0)) ∧ Below w.heap.size w w9 := g5 rfl
              have e6 : vals 6 = .bool (decide (ds.length ≤ 60)) := g6 rfl
              simp only [Cl.puts, e0, e1, e2, e3, e4, e6]
              clear e0 e1 e2 e3 e4 e6 g0 g1 g2 g3 g4 g6
              go_simp
              obtain ⟨h1, h2, h3⟩ := g5
              have H2 := Lib.hid h2
              have r0 := cell_of_block (j := 0) h2 rfl
              have r1 := cell_of_block (j := 1) h2 rfl
              clear h2
              go_wp2
              refine bodyPost_ret (v := .tuple #[.agg #[_, _], _]) (by simp [results, Try.results148, go_sem, *]; exact ⟨⟨rfl, rfl⟩, rfl⟩) rfl ?_
              exact ⟨_, _, by rw [HF2.out.2], h1, h3⟩
end Go.Proofs.Ythnkmjjldggecaa
