/- Pure vectors: what the closure in KnowVectors makes of an array. -/
import Derived.Test.YtippljiicnpieaaKnowLaw1
namespace Go.Proofs.Ytippljiicnpieaa
open Go.RowKit
/-- An array of five counts, of which the first k are there. -/
def upV (f : Nat → Int) (k : Nat) : List Int := (List.range 5).map fun s => if s < k then f s else 0
theorem upV_len (f : Nat → Int) (k : Nat) : (upV f k).length = 5 := by simp [upV]
theorem upV_get (f : Nat → Int) (k j : Nat) (hj : j < 5) : (upV f k)[j]? = some (if j < k then f j else 0) := by simp [upV, hj]
theorem upV_set (f : Nat → Int) (k : Nat) (hk : k < 5) : (upV f k).set k (f k) = upV f (k + 1) := by
  apply List.ext_getElem?
  intro j
  by_cases hj : j < 5
  · rw [List.getElem?_set, upV_get f (k + 1) j hj, upV_len]
    by_cases e : k = j
    · subst e; rw [if_pos rfl, if_pos hk, if_pos (by omega)]
    · rw [if_neg e, upV_get f k j hj]
      by_cases h : j < k
      · rw [if_pos h, if_pos (by omega)]
      · rw [if_neg h, if_neg (by omega)]
  · rw [List.getElem?_eq_none (by rw [List.length_set, upV_len]; omega), List.getElem?_eq_none (by rw [upV_len]; omega)]
theorem upV_skip (f : Nat → Int) (k : Nat) (h : f k = 0) : upV f k = upV f (k + 1) := by
  unfold upV
  refine List.map_congr_left fun s _ => ?_
  by_cases h1 : s < k
  · rw [if_pos h1, if_pos (by omega)]
  · rw [if_neg h1]
    by_cases h2 : s = k
    · rw [if_pos (by omega), h2, h]
    · rw [if_neg (by omega)]
theorem upV_zero (f : Nat → Int) : upV f 0 = [0, 0, 0, 0, 0] := rfl
theorem upV_at (f : Nat → Int) (s : Int) (h0 : 0 ≤ s) (h5 : s < 5) : vecAt (upV f 5) s = f s.toNat := by
  unfold vecAt
  rw [List.getD_eq_getElem?_getD, upV_get f 5 _ (by omega), if_pos (by omega)]; rfl
def vecK (v : List Int) : Kn := ⟨trimZ v, []⟩
theorem vecK_in (v : List Int) (s c : Int) : knIn (vecK v) s c = decide (c ≤ vecAt v s) := by
  show (decide (c ≤ vecAt (trimZ v) s) || decide ((s, c) ∈ ([] : Dots))) = _
  rw [Bool.eq_iff_iff]; simp [trimZ_vecAt]
theorem vecK_ok {v : List Int} (h5 : v.length ≤ 5) (hb : ∀ n ∈ v, 0 ≤ n ∧ n ≤ 1000) : KnOk (vecK v) := by
  obtain ⟨t1, t2⟩ := trimZ_sub v
  exact ⟨Nat.le_trans t1 h5, fun n hn => hb n (t2 n hn), trimZ_last v, by simp [vecK], by simp [vecK]⟩
def FB (f : Nat → Int) : Prop := ∀ s, 0 ≤ f s ∧ f s ≤ 49
theorem upV_bd {f : Nat → Int} (h : FB f) (k : Nat) : ∀ n ∈ upV f k, 0 ≤ n ∧ n ≤ 1000 := by
  intro n hn
  unfold upV at hn
  obtain ⟨s, -, rfl⟩ := List.mem_map.1 hn
  have := h s
  split <;> omega
theorem vecK_up {f : Nat → Int} (h : FB f) : KnOk (vecK (upV f 5)) := vecK_ok (by rw [upV_len]; decide) (upV_bd h 5)
theorem join_vec {f g : Nat → Int} (hf : FB f) (hg : FB g) : formK (orK (knIn (vecK (upV f 5))) (knIn (vecK (upV g 5)))) = vecK (upV (fun s => max (f s) (g s)) 5) := by
  refine (formK_uniq (vecK_up fun s => by have := hf s; have := hg s; (try simp only); omega) fun s c h0 h5 _ _ => ?_).symm
  rw [vecK_in, upV_at _ s h0 h5]
  simp only [orK, vecK_in, upV_at _ s h0 h5]
  rw [Bool.eq_iff_iff]; simp only [Bool.or_eq_true, decide_eq_true_eq]; omega
theorem meet_vec {f g : Nat → Int} (hf : FB f) (hg : FB g) : formK (andK (knIn (vecK (upV f 5))) (knIn (vecK (upV g 5)))) = vecK (upV (fun s => min (f s) (g s)) 5) := by
  refine (formK_uniq (vecK_up fun s => by have := hf s; have := hg s; (try simp only); omega) fun s c h0 h5 _ _ => ?_).symm
  rw [vecK_in, upV_at _ s h0 h5]
  simp only [andK, vecK_in, upV_at _ s h0 h5]
  rw [Bool.eq_iff_iff]; simp only [Bool.and_eq_true, decide_eq_true_eq]; omega
def withinN (f g : Nat → Int) (k : Nat) : Bool := (List.range k).all fun s => decide (f s ≤ g s)
theorem withinN_succ (f g : Nat → Int) (k : Nat) : withinN f g (k + 1) = (withinN f g k && decide (f k ≤ g k)) := by simp [withinN, List.range_succ]
theorem chk_vec {f : Nat → Int} (h : FB f) : knChk (vecK (upV f 5)) = 0 := knChk_zero.2 ⟨vecK_up h, Nat.zero_le _⟩
theorem two_vec {f g : Nat → Int} (hf : FB f) (hg : FB g) : knTwo (vecK (upV f 5)) (vecK (upV g 5)) = 0 := knTwo_zero.2 ⟨chk_vec hf, chk_vec hg⟩
theorem within_vec {f g : Nat → Int} (hf : FB f) (hg : FB g) : knWithinB (vecK (upV f 5)) (vecK (upV g 5)) = withinN f g 5 := by
  unfold knWithinB knWithin
  rw [if_pos (two_vec hf hg), join_vec hf hg, Bool.eq_iff_iff, decide_eq_true_eq]
  have hm : FB fun s => max (f s) (g s) := fun s => by have := hf s; have := hg s; simp only; omega
  unfold withinN
  rw [List.all_eq_true]
  simp only [List.mem_range, decide_eq_true_eq]
  constructor
  · intro h s hs
    have := congrArg (fun k => knIn k (s : Int) (f s)) h
    simp only [vecK_in, upV_at _ (s : Int) (by omega) (by omega), Int.toNat_natCast, decide_eq_decide] at this
    have h3 := this.1 (by omega)
    exact h3
  · intro h
    refine kn_ext (vecK_up hm) (vecK_up hg) fun s c h0 h5 _ _ => ?_
    rw [vecK_in, vecK_in, upV_at _ s h0 h5, upV_at _ s h0 h5, decide_eq_decide]
    have := h s.toNat (by omega)
    omega
theorem cells_takeT {w : World} {G n c : Nat} {v : List Int} {t : TypeId} (h : w.heap[G]? = some (Obj.cells (intsC v).toArray t (0, 0))) (hn : n ≤ v.length) (hc : v.length ≤ c) (hm : v.length ≤ 1000) : CellsAt w (.slice (some ⟨G, 0, none⟩) n c) n (intsC (v.take n)) := by
  refine ⟨_, _, rfl, by omega, by omega, fun h => by simp at h, .inr ⟨G, 0, rfl, hlt_of h, fun j x hj => ?_⟩⟩
  rw [Nat.zero_add]
  refine cell_of_block h ?_
  have hj2 : j < n ∧ j < v.length := by have := (List.getElem?_eq_some_iff.1 hj).1; rw [intsC_length, List.length_take] at this; omega
  simp only [intsC, List.getElem?_map, List.getElem?_take, hj2.1, if_true] at hj
  simpa [intsC] using hj
set_option maxRecDepth 100000 in
theorem arr5 : Try.prog.underlying 83 = some (.array (Try.prog.arrayLen 83) (Try.prog.elem 83)) := by kernel_rfl
set_option maxRecDepth 100000 in
theorem arr5_len : Try.prog.arrayLen 83 = 5 := by kernel_rfl
set_option maxRecDepth 100000 in
theorem arr5_elem : Try.prog.elem 83 = 3 := by kernel_rfl
set_option maxRecDepth 100000 in
theorem slice5 (w : World) (B k : Nat) (hk : k ≤ 5) : (Instr.sliceAt 83 (.pointer (some ⟨B, 0, none⟩)) none (some (.int .i64 (k : Int))) none).run Try.prog w = .ok (.slice (some ⟨B, 0, none⟩) k 5) w := by
  rw [run_sliceAt_array_h w 83 ⟨B, 0, none⟩ arr5 .i64 (k : Int) (by omega) (by rw [arr5_len]; omega), arr5_elem, arr5_len]
  have hi := IcTy.info
  obtain ⟨i, h1, h2⟩ := Option.map_eq_some_iff.1 hi
  simp [sizeOf, typeInfo, h1, slicedAt, Addr.add]
set_option maxRecDepth 100000 in
set_option maxHeartbeats 1000000 in
theorem vmade_c (v : List Int) (w : World) (hv : v.length = 5) :
    Calls Try.prog 55 #[.agg (intsC v).toArray] w fun e w' => ∃ (a : Option Addr) (c : Nat), e = .returned (.agg #[.slice a (trimZ v).length c, .slice none 0 0]) ∧ KnAt w' (.slice a (trimZ v).length c) (.slice none 0 0) (vecK v) ∧ Below w.heap.size w w' := by
  obtain ⟨W, hW⟩ : ∃ W, W = (w.alloc (.cells (intsC v).toArray 83)).alloc (.cells #[.slice none 0 0, .slice none 0 0] 30) := ⟨_, rfl⟩
  have G := Lib.hid (show W.heap[w.heap.size]? = some (Obj.cells (intsC v).toArray 83 (0, 0)) by rw [hW]; exact alloc_keep _ (alloc_new _ _ _ _ rfl))
  have R := Lib.hid (show W.heap[w.heap.size + 1]? = some (Obj.cells #[.slice none 0 0, .slice none 0 0] 30 (0, 0)) by rw [hW]; exact alloc_new _ _ _ _ (by simp))
  have HB := Lib.hid (show Below w.heap.size w W by rw [hW]; exact (bal _).alloc (by simp) _)
  have HV := Lib.hid hv
  clear hv
  go_enter Try.func55, Try.ntmps55
  go_wp2_with fail
  rw [← hW]
  clear hW
  go_wp2
  go_loopw [3] (fun i wr => ∃ n : Nat, n ≤ 5 ∧ i = .int .i64 n ∧ trimZ (v.take n) = trimZ v ∧ wr = W) (fun i _ => (intOf i).toNat)
  case atStart => exact ⟨5, Nat.le_refl _, rfl, by rw [List.take_of_length_le (by rw [HV.out]; exact Nat.le_refl _)], rfl⟩
  case round =>
    obtain ⟨n, hn, rfl, htr, rfl⟩ := hrel
    have HTR := Lib.hid htr
    clear htr
    rcases n with - | n
    rotate_left
    focus
      have hnl : n < v.length := by rw [HV.out]; omega
      have g1 := cell_of_block (j := n) G.out (intsC_get hnl)
      have HTS := Lib.hid (show trimZ (v.take (n + 1)) = if v[n] = 0 then trimZ (v.take n) else v.take (n + 1) by rw [List.take_succ_eq_append_getElem hnl, trimZ_snoc])
      have hw1 : IntKind.i64.wrap (n : Int) = n := IntWalk.i64_in _ (by omega)
      have hn5 : (n : Int) < 5 := by omega
      generalize v[n] = x at *
      by_cases hx : x = 0
      · have HX := Lib.hid hx
        have hx' : (x == 0) = true := by simp [hx]
        clear hx
        go_wp2
        go_roundw
        case rel => exact ⟨n, by omega, by go_num, by rw [← HTR.out, HTS.out, if_pos HX.out], trivial⟩
        case measure => simp [intOf] <;> omega
      have HFIN := Lib.hid (show v.take (n + 1) = trimZ v by rw [← HTR.out, HTS.out, if_neg hx])
      have hx' : (x == 0) = false := by simp [hx]
      have HCL := Lib.hid (show CellsAt wr (.slice (some ⟨w.heap.size, 0, none⟩) (n + 1) 5) (n + 1) (intsC (trimZ v)) by rw [← HFIN.out]; exact cells_takeT G.out (by omega) (by rw [HV.out]; exact Nat.le_refl _) (by rw [HV.out]; decide))
      have HLN := Lib.hid (show (intsC (trimZ v)).length = (n + 1) * 1 by rw [← HFIN.out, intsC_length, List.length_take]; omega)
      have hsl : (Instr.sliceAt 83 (.pointer (some ⟨w.heap.size, 0, none⟩)) none (some (.int .i64 ((n : Int) + 1))) none).run Try.prog wr = .ok (.slice (some ⟨w.heap.size, 0, none⟩) (n + 1) 5) wr := slice5 wr w.heap.size (n + 1) (by omega)
      clear hx hnl HTR HTS
      go_wp2_with fail
    rotate_left
    focus
      have HFIN := Lib.hid (show v.take 0 = trimZ v by rw [← HTR.out]; simp [trimZ])
      have HCL := Lib.hid (show CellsAt wr (.slice (some ⟨w.heap.size, 0, none⟩) 0 5) 0 (intsC (trimZ v)) by rw [← HFIN.out]; exact cells_takeT G.out (by omega) (by rw [HV.out]; exact Nat.le_refl _) (by rw [HV.out]; decide))
      have HLN := Lib.hid (show (intsC (trimZ v)).length = 0 * 1 by rw [← HFIN.out]; rfl)
      have hsl : (Instr.sliceAt 83 (.pointer (some ⟨w.heap.size, 0, none⟩)) none (some (.int .i64 0)) none).run Try.prog wr = .ok (.slice (some ⟨w.heap.size, 0, none⟩) 0 5) wr := slice5 wr w.heap.size 0 (by omega)
      clear HTR
      go_wp2_with fail
    all_goals
      (with_reducible refine (IcClone_c _ _ (intsC (trimZ v)) _ HCL.out HLN.out (intsC_one _) (by omega)).mono ?_)
      rintro e w5 ⟨u, rfl, ho5, hb5⟩
      obtain ⟨ua, uc, hu⟩ := owns_slice ho5
      subst hu
      have hR5 := below_keep hb5 R.out
      have r0 := cell_of_block (j := 0) hR5 rfl
      have r1 := cell_of_block (j := 1) hR5 rfl
      have r0f := free_of_block (j := 0) hR5
      have r1f := free_of_block (j := 1) hR5
      have hRl := hlt_of hR5
      have HU5 := Lib.hid ho5
      have HR5 := Lib.hid hR5
      have HBL := Lib.hid (HB.out.trans (hb5.mono HB.out.size))
      have hlt5 := (trimZ_sub v).1
      clear ho5 hb5 hR5
      go_wp2
      refine bodyPost_ret (v := .agg #[_, _]) (by simp [results, Try.results55, go_sem, *]; exact ⟨rfl, rfl⟩) rfl ?_
      have hlen := HLN.out
      rw [intsC_length, Nat.mul_one] at hlen
      rw [hlen]
      refine ⟨ua, uc, rfl, ⟨?_, CellsAt.nil _⟩, (HBL.out.setCell (by simp only; omega) _).setCell (by simp only; omega) _⟩
      show IsAt _ _ (trimZ v)
      unfold IsAt
      rw [hlen]
      exact CellsAt.of_owns (own_set (own_set HU5.out HR5.out (by decide)) (heap_set_same HR5.out) (by decide)) (by omega)
end Go.Proofs.Ytippljiicnpieaa
