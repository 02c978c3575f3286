/- What slices.DeleteFunc does to a row of versions of the call's own. -/
import Derived.Test.YtippljiicnpieaaShelf3
import Derived.Test.YtippljiicnpieaaShelf11
namespace Go.Proofs.Ytippljiicnpieaa
open Go.RowKit
theorem PredV.below {D : Ver → Prop} {g : FuncId} {caps : Array Value} {p : Ver → Bool} {w W : World} (h : PredV D g caps p w) (hb : Below w.heap.size w W) : PredV D g caps p W :=
  ⟨h.1, fun v u x W' hD hb' hk => h.2 v u x W' hD (bstep hb hb') hk⟩
/-- The cells of those that stay. -/
def filtC (p : Ver → Bool) : List Ver → List (List Value) → List (List Value)
  | v :: l, c :: cs => if p v = true then c :: filtC p l cs else filtC p l cs
  | _, _ => []
theorem filtC_els {w : World} (p : Ver → Bool) : ∀ {l : List Ver} {cs : List (List Value)}, Els verE w l cs → Els verE w (l.filter p) (filtC p l cs)
  | [], [], _ => trivial
  | v :: l, c :: cs, h => by
    unfold filtC
    cases hp : p v
    · rw [List.filter_cons_of_neg (by rw [hp]; decide), if_neg (by decide)]; exact filtC_els p h.2
    · rw [List.filter_cons_of_pos hp, if_pos rfl]; exact ⟨h.1, filtC_els p h.2⟩
  | [], _ :: _, h => h.elim
  | _ :: _, [], h => h.elim
theorem filtC_append (p : Ver → Bool) : ∀ {l : List Ver} {cs : List (List Value)} {m : List Ver} {ds : List (List Value)}, l.length = cs.length → filtC p (l ++ m) (cs ++ ds) = filtC p l cs ++ filtC p m ds
  | [], [], _, _, _ => by simp [filtC]
  | v :: l, c :: cs, m, ds, h => by
    have ih := filtC_append p (l := l) (cs := cs) (m := m) (ds := ds) (by simpa using h)
    simp only [List.cons_append, filtC]
    split
    · rw [ih]; rfl
    · exact ih
  | [], _ :: _, _, _, h => by simp at h
  | _ :: _, [], _, _, h => by simp at h
theorem filtC_all (p : Ver → Bool) : ∀ {l : List Ver} {cs : List (List Value)}, l.length = cs.length → (∀ v ∈ l, p v = true) → filtC p l cs = cs
  | [], [], _, _ => rfl
  | v :: l, c :: cs, h, hp => by
    unfold filtC
    rw [if_pos (hp v (by simp)), filtC_all p (by simpa using h) fun x hx => hp x (by simp [hx])]
  | [], _ :: _, h, _ => by simp at h
  | _ :: _, [], h, _ => by simp at h
theorem filtC_step (p : Ver → Bool) {l : List Ver} {cs : List (List Value)} {q : Nat} {c : List Value} (hl : l.length = cs.length) (hq : q < l.length) (hc : cs[q]? = some c) :
    filtC p (l.take (q + 1)) (cs.take (q + 1)) = filtC p (l.take q) (cs.take q) ++ if p l[q] = true then [c] else [] := by
  obtain ⟨hq2, rfl⟩ := List.getElem?_eq_some_iff.1 hc
  rw [List.take_succ_eq_append_getElem hq, List.take_succ_eq_append_getElem hq2, filtC_append p (by rw [List.length_take, List.length_take, hl])]
  congr 1
theorem firstI_spec {p : Ver → Bool} {l : List Ver} : (firstI p l = -1 ∧ ∀ v ∈ l, p v = false) ∨ ∃ i : Nat, firstI p l = i ∧ ∃ h : i < l.length, p l[i] = true ∧ ∀ j (hj : j < i), p (l[j]'(by omega)) = false := by
  unfold firstI
  cases h : l.findIdx? p with
  | none =>
    rw [List.findIdx?_eq_none_iff] at h
    exact .inl ⟨rfl, h⟩
  | some i =>
    rw [List.findIdx?_eq_some_iff_getElem] at h
    obtain ⟨h1, h2, h3⟩ := h
    exact .inr ⟨i, rfl, h1, h2, fun j hj => by simpa using h3 j hj⟩
/-- Where the move down stands. -/
structure DSt (w0 : World) (g cap : Nat) (cur0 X : List Value) (k q : Nat) (wr : World) : Prop where
  ex : ∃ cur : List Value, wr.heap[g]? = some (.cells cur.toArray 32 (0, 0)) ∧ cur.length = cap * 8 ∧ cur.take (k * 8) = X ∧ cur.drop (q * 8) = cur0.drop (q * 8)
  bel : Below w0.heap.size w0 wr
theorem splice_take {L C : List Value} {a : Nat} (h : a + C.length ≤ L.length) : (splice L a C).take (a + C.length) = L.take a ++ C := by
  unfold splice
  rw [← List.append_assoc, List.take_append_of_le_length (by rw [List.length_append, List.length_take]; omega), List.take_of_length_le (by rw [List.length_append, List.length_take]; omega)]
theorem splice_drop {L C : List Value} {a b : Nat} (h : a + C.length ≤ b) (hl : a + C.length ≤ L.length) : (splice L a C).drop b = L.drop b := by
  unfold splice
  rw [← List.append_assoc, List.drop_append, List.drop_of_length_le (by rw [List.length_append, List.length_take]; omega), List.nil_append, List.drop_drop, List.length_append, List.length_take]
  congr 1; omega
theorem splice_take0 {L C : List Value} {a : Nat} (h : a ≤ L.length) : (splice L a C).take a = L.take a := by
  unfold splice
  rw [List.take_append_of_le_length (by rw [List.length_take]; omega), List.take_take]; congr 1; omega
theorem get_of_drop {L M : List Value} {a j : Nat} (h : L.drop a = M.drop a) : L[a + j]? = M[a + j]? := by
  have := congrArg (·[j]?) h
  simpa [List.getElem?_drop] using this
set_option maxRecDepth 100000 in
set_option maxHeartbeats 4000000 in
theorem vdel_c (D : Ver → Prop) (w0 w : World) (s : Value) (l : List Ver) (g0 : FuncId) (caps : Array Value) (p : Ver → Bool) (hbl : Below w0.heap.size w0 w) (hown : RowOwn verE w0 w w0.heap.size 32 s l) (hn : l.length ≤ 1000) (hD : ∀ v ∈ l, D v) (hp : PredV D g0 caps p w0) :
    Calls Try.prog 99 #[s, .func (.func g0) #[] caps] w fun e w' => ∃ s', e = .returned s' ∧ RowOwn verE w0 w' w0.heap.size 32 s' (l.filter fun v => !p v) ∧ Below w0.heap.size w0 w' := by
  have hp1 := hp.below hbl
  have hat := hown.at_ (Sub.of_below hbl) (by omega)
  have HI := Lib.hid (indexV_c D s l g0 caps p w hat hD hp1)
  have HP := Lib.hid hp.2
  have hcall := hp.1
  have HD := Lib.hid hD
  obtain ⟨css, hels, hrow⟩ := hown
  replace hrow : w.ownsRow w0.heap.size 32 8 s l.length css.flatten := hrow
  have hlc : l.length = css.length := hels.length.symm
  clear hat hp hp1 hD
  rcases firstI_spec (p := p) (l := l) with ⟨h1, hall⟩ | ⟨i, h1, hi, hpi, hpj⟩
  · have hfl : (l.filter fun v => !p v) = l := List.filter_eq_self.2 fun v hv => by rw [hall v hv]; rfl
    rw [hfl]
    rw [h1] at HI
    have HROW := Lib.hid (show RowOwn verE w0 w w0.heap.size 32 s l from ⟨css, hels, hrow⟩)
    have HBL := Lib.hid hbl
    obtain ⟨a, cap, rfl⟩ := owns_slice hrow
    clear hels hrow hall hbl hcall hlc
    go_enter Try.func99, Try.ntmps99
    go_wp2_with fail
    (with_reducible refine (HI.out).mono ?_)
    rintro e w1 ⟨rfl, hb1⟩
    have hr := HROW.out.below hb1
    have hb := bstep HBL.out hb1
    clear hb1
    go_wp2
    go_ret
    exact ⟨_, rfl, hr, hb⟩
  · rw [h1] at HI
    rcases hrow.2 with ⟨-, h0⟩ | ⟨g, cap, cur, rfl, hbg, hg, hnc, hcm, hcs, htake⟩
    · omega
    obtain ⟨cur0, hcur⟩ : ∃ c : List Value, c = cur.toList := ⟨_, rfl⟩
    have hg' : w.heap[g]? = some (.cells cur0.toArray 32 (0, 0)) := by rw [hcur]; simpa using hg
    have hcl : cur0.length = cap * 8 := by rw [hcur]; simpa using hcs
    rw [← hcur] at htake
    have hlens := hels.lens
    have HT := Lib.hid (fun (q : Nat) (hq : q ≤ l.length) => (show (css.take q).flatten = cur0.take (q * 8) by
      rw [css_take (n := 8) hlens, ← htake, List.take_take]; congr 1; show min (q * 8) (l.length * 8) = q * 8; omega))
    have HTK := Lib.hid htake
    have hst : DSt w0 g cap cur0 (filtC (fun v => !p v) (l.take (i + 1)) (css.take (i + 1))).flatten i (i + 1) w := by
      refine ⟨⟨cur0, hg', hcl, ?_, rfl⟩, hbl⟩
      obtain ⟨c, -, hc, -⟩ := hels.cell i hi
      rw [filtC_step _ hlc hi hc, if_neg (by rw [hpi]; decide), List.append_nil, filtC_all _ (by rw [List.length_take, List.length_take, hlc]) (fun v hv => by
        obtain ⟨j, hj, rfl⟩ := List.getElem_of_mem hv
        rw [List.length_take] at hj
        rw [List.getElem_take, hpj j (by omega)]; rfl), HT.out i (by omega)]
    have hki : ((l.take (i + 1)).filter fun v => !p v).length = i := by
      rw [List.take_succ_eq_append_getElem hi, List.filter_append, List.filter_cons_of_neg (by rw [hpi]; decide), List.filter_nil, List.append_nil, List.filter_eq_self.2 fun v hv => by
        obtain ⟨j, hj, rfl⟩ := List.getElem_of_mem hv
        rw [List.length_take] at hj
        rw [List.getElem_take, hpj j (by omega)]; rfl]
      rw [List.length_take]; omega
    have HST := Lib.hid hst
    have HKI := Lib.hid hki
    have HEL := Lib.hid hels
    have HLC := Lib.hid hlc
    have HCL := Lib.hid hcl
    have HFE := Lib.hid (fun (X : List (List Value)) => show X = X from rfl)
    clear hst hki hels hrow hlens hg hg' hcs hcur hpj htake hbl hlc hcl
    have hw1 : IntKind.i64.wrap ((i : Int) + 1) = (i : Int) + 1 := by rw [IntKind.wrap_i64]; omega
    have hm1 : ((i : Int) == -1) = false := by rw [beq_eq_false_iff_ne]; omega
    go_enter Try.func99, Try.ntmps99
    go_wp2_with fail
    (with_reducible refine (HI.out).mono ?_)
    rintro e w1 ⟨rfl, hb1⟩
    have HST1 := Lib.hid (show DSt w0 g cap cur0 (filtC (fun v => !p v) (l.take (i + 1)) (css.take (i + 1))).flatten i (i + 1) w1 by
      obtain ⟨⟨cur, h2, h3⟩, h4⟩ := HST.out
      exact ⟨⟨cur, below_keep hb1 h2, h3⟩, bstep h4 hb1⟩)
    clear HST hb1 HI
    go_wp2
    go_loopw [5, 6] (fun iv jv wr => ∃ k q : Nat, iv = .int .i64 k ∧ jv = .int .i64 q ∧ k + 1 ≤ q ∧ q ≤ l.length ∧ ((l.take q).filter fun v => !p v).length = k ∧ DSt w0 g cap cur0 (filtC (fun v => !p v) (l.take q) (css.take q)).flatten k q wr) (fun _ jv _ => l.length - (intOf jv).toNat)
    case atStart => exact ⟨i, i + 1, rfl, by go_num, Nat.le_refl _, by omega, HKI.out, HST1.out⟩
    case round =>
      obtain ⟨k, q, rfl, rfl, hkq, hq, hkl, hst⟩ := hrel
      have HKL := Lib.hid hkl
      have HSR := Lib.hid hst
      clear hkl hst HST1
      by_cases hlt : q < l.length
      · obtain ⟨c, ⟨u, x, rfl, hk2⟩, hcq, hcc⟩ := HEL.out.cell q hlt
        obtain ⟨⟨cur, hgc, hcl, htk, hdr⟩, hbel⟩ := HSR.out
        have hcell := fun (j : Nat) (y : Value) (hj : j < 8) (hy : (verC l[q] u x).toList[j]? = some y) => (show wr.cell? ⟨g, q * 8 + j, none⟩ = some y from
          cell_of_block hgc (by
            have e1 := hcc j y hy
            have e2 : cur[q * 8 + j]? = cur0[q * 8 + j]? := get_of_drop hdr
            have e3 : cur0[q * 8 + j]? = css.flatten[q * 8 + j]? := by rw [← HTK.out, List.getElem?_take_of_lt (by omega)]
            rw [List.getElem?_toArray, e2, e3]; exact e1))
        have c0 := hcell 0 _ (by decide) rfl
        have c1 := hcell 1 _ (by decide) rfl
        have c2 := hcell 2 _ (by decide) rfl
        have c3 := hcell 3 _ (by decide) rfl
        have c4 := hcell 4 _ (by decide) rfl
        have c5 := hcell 5 _ (by decide) rfl
        have c6 := hcell 6 _ (by decide) rfl
        have c7 := hcell 7 _ (by decide) rfl
        rw [Nat.add_zero] at c0
        obtain ⟨ua, uc, rfl⟩ := hk2.vec.shape
        obtain ⟨xa, xc, rfl⟩ := hk2.more.shape
        have hbx := bal (W := wr) (.cells (verC l[q] (.slice ua l[q].past.vec.length uc) (.slice xa l[q].past.more.length xc)) 32)
        have HV := Lib.hid (HP.out l[q] (.slice ua l[q].past.vec.length uc) (.slice xa l[q].past.more.length xc) _ (HD.out _ (List.getElem_mem hlt)) (bstep hbel hbx) ((hk2.below hbel).below hbx))
        have HNB := Lib.hid (alloc_new wr (verC l[q] (.slice ua l[q].past.vec.length uc) (.slice xa l[q].past.more.length xc)) 32 _ rfl)
        have HBX := Lib.hid hbx
        have HGC := Lib.hid hgc
        have HBEL := Lib.hid hbel
        have HS1 := Lib.hid (filtC_step (fun v => !p v) HLC.out hlt hcq)
        have HF1 := Lib.hid (show ((l.take (q + 1)).filter fun v => !p v) = ((l.take q).filter fun v => !p v) ++ [l[q]].filter fun v => !p v by rw [List.take_succ_eq_append_getElem hlt, List.filter_append])
        have hD8 := Lib.hid (show cur.drop ((q + 1) * 8) = cur0.drop ((q + 1) * 8) by
          have e : (q + 1) * 8 = q * 8 + 8 := by omega
          rw [e, ← List.drop_drop, ← List.drop_drop, hdr])
        clear hcell hcc hk2 hbx hgc hbel hdr
        generalize hvq : l[q] = v1 at *
        have HTKK := Lib.hid htk
        have HCLL := Lib.hid hcl
        clear htk hcl hcq HSR
        unfold verC at HV
        have hltb : decide ((q : Int) < (l.length : Int)) = true := by simp; omega
        go_wp2_with fail
        refine (HV.out).mono ?_
        rintro e w2 ⟨rfl, hb2⟩
        have hB2 := below_keep hb2 HNB.out
        have hG2 := Lib.hid (below_keep hb2 (alloc_keep (.cells (verC v1 (.slice ua v1.past.vec.length uc) (.slice xa v1.past.more.length xc)) 32) HGC.out))
        have HB2 := Lib.hid (bstep (bstep HBEL.out HBX.out) hb2)
        clear hb2 HBX HV c0 c1 c2 c3 c4 c5 c6 c7
        cases hpv : p v1
        · have e0 := cell_of_block (j := 0) hB2 rfl
          have e1 := cell_of_block (j := 1) hB2 rfl
          have e2 := cell_of_block (j := 2) hB2 rfl
          have e3 := cell_of_block (j := 3) hB2 rfl
          have e4 := cell_of_block (j := 4) hB2 rfl
          have e5 := cell_of_block (j := 5) hB2 rfl
          have e6 := cell_of_block (j := 6) hB2 rfl
          have e7 := cell_of_block (j := 7) hB2 rfl
          have hkn : decide ((k : Int) < (l.length : Int)) = true := by simp; omega
          clear hB2
          go_wp2_with (refine wpList_store_at rfl 32 _ _ rfl g (k * 8) (verC v1 (.slice ua v1.past.vec.length uc) (.slice xa v1.past.more.length xc)) rfl rfl 32 cur hG2.out (by kernel_rfl) (by rw [HCLL.out]; show k * 8 + 8 ≤ _; omega) (by intro z hz; simp only [verC, List.mem_cons, List.not_mem_nil, or_false] at hz; rcases hz with rfl | rfl | rfl | rfl | rfl | rfl | rfl | rfl <;> rfl) ?_)
          intro w3 h3 hr3
          have HN1 := Lib.hid (show ((l.take (q + 1)).filter fun v => !p v).length = k + 1 by
            rw [HF1.out, List.length_append, HKL.out, List.filter_cons_of_pos (by rw [hpv]; rfl)]; rfl)
          have HX1 := Lib.hid (show DSt w0 g cap cur0 (filtC (fun v => !p v) (l.take (q + 1)) (css.take (q + 1))).flatten (k + 1) (q + 1) w3 by
            have e8 : (verC v1 (.slice ua v1.past.vec.length uc) (.slice xa v1.past.more.length xc)).toList.length = 8 := rfl
            refine ⟨⟨_, h3.out, by rw [length_splice _ _ _ (by rw [e8, HCLL.out]; omega), HCLL.out], ?_, ?_⟩, hr3.below HB2.out hbg⟩
            · rw [show (k + 1) * 8 = k * 8 + (verC v1 (.slice ua v1.past.vec.length uc) (.slice xa v1.past.more.length xc)).toList.length by rw [e8]; omega, splice_take (by rw [e8, HCLL.out]; omega), HTKK.out, HS1.out, if_pos (by rw [hpv]; rfl), List.flatten_append, List.flatten_cons, List.flatten_nil, List.append_nil]
            · rw [splice_drop (by rw [e8]; omega) (by rw [e8, HCLL.out]; omega)]; exact hD8.out)
          clear h3 hr3 hpv e0 e1 e2 e3 e4 e5 e6 e7
          go_wp2
          go_roundw
          case rel => exact ⟨k + 1, q + 1, by go_num, by go_num, by omega, by omega, HN1.out, HX1.out⟩
          case measure => simp [intOf] <;> omega
        · have HN1 := Lib.hid (show ((l.take (q + 1)).filter fun v => !p v).length = k by
            rw [HF1.out, List.length_append, HKL.out, List.filter_cons_of_neg (by rw [hpv]; decide)]; rfl)
          have HX1 := Lib.hid (show DSt w0 g cap cur0 (filtC (fun v => !p v) (l.take (q + 1)) (css.take (q + 1))).flatten k (q + 1) w2 from
            ⟨⟨_, hG2.out, HCLL.out, by rw [HTKK.out, HS1.out, if_neg (by rw [hpv]; decide), List.append_nil], hD8.out⟩, HB2.out⟩)
          clear hpv hB2
          go_wp2
          go_roundw
          case rel => exact ⟨k, q + 1, rfl, by go_num, by omega, by omega, HN1.out, HX1.out⟩
          case measure => simp [intOf] <;> omega
      · obtain rfl : q = l.length := by omega
        rw [List.take_length] at HKL
        have hct : css.take l.length = css := by rw [HLC.out, List.take_length]
        rw [List.take_length, hct] at HSR
        obtain ⟨⟨cur, hgc, hcl, htk, -⟩, hbel⟩ := HSR.out
        have HGC := Lib.hid hgc
        have HBEL := Lib.hid hbel
        have HTKK := Lib.hid htk
        have HCLL := Lib.hid hcl
        clear hgc hbel htk hcl hct HSR
        have hkc : ¬ (cap = k) := by omega
        go_wp2_with (refine wpList_clearS rfl _ 22 rfl 32 _ 8 104 Try.underlying22 VTy.info rfl (by decide) g (k * 8) (l.length - k) (cap - k) (some ⟨g, k * 8, none⟩) (fun _ => rfl) rfl cur _ HGC.out (by rw [HCLL.out]; omega) ?_)
        intro w3 zs h3 hz hr3
        have hFIN := Lib.hid (show RowOwn verE w0 w3 w0.heap.size 32 (.slice (some ⟨g, 0, none⟩) k cap) (l.filter fun v => !p v) by
          refine ⟨_, filtC_els _ HEL.out, ?_⟩
          rw [HKL.out]
          have hfl := (filtC_els (fun v => !p v) HEL.out).flat
          rw [HKL.out] at hfl
          refine ⟨hfl, .inr ⟨g, cap, _, rfl, hbg, h3.out, by omega, hcm, by rw [List.size_toArray, length_splice _ _ _ (by rw [hz, HCLL.out]; omega), HCLL.out]; rfl, ?_⟩⟩
          rw [List.toList_toArray]
          show (splice cur (k * 8) zs).take (k * 8) = _
          rw [splice_take0 (by rw [HCLL.out]; omega), HTKK.out])
        have HB3 := Lib.hid (hr3.below HBEL.out hbg)
        clear h3 hr3
        go_wp2
        go_ret
        exact ⟨_, rfl, hFIN.out, HB3.out⟩
end Go.Proofs.Ytippljiicnpieaa
