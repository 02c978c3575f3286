/- What slices.Insert does to a row of versions of the call's own, one version put in. -/
import Derived.Test.YtippljiicnpieaaChecked
import Derived.Test.YtippljiicnpieaaBase3
import Derived.Test.YtippljiicnpieaaRowOps
import Derived.Test.YtippljiicnpieaaAppWhere
import Derived.Lib.Walk
import Derived.Deep.RegionLaw
namespace Go.Proofs.Ytippljiicnpieaa
open Go.RowKit
set_option maxRecDepth 100000 in
theorem VTy.info : (Try.prog.info? 32).map (fun i => (i.zero, i.size, i.bytes)) = some (some (.agg #[.string ByteArray.empty, .int .i64 0, .int .i64 0, .int .i64 0, .int .i64 0, .int .i64 0, .slice none 0 0, .slice none 0 0]), 8, 104) := by kernel_rfl
set_option maxRecDepth 100000 in
theorem VTy.size : (Try.prog.info? 32).map (·.size) = some 8 := by kernel_rfl
set_option maxRecDepth 100000 in
set_option maxHeartbeats 2000000 in
theorem vins_end (B : Nat) (w0 w : World) (s : Value) (n : Nat) (xs : List Value) (vb : Nat) (c : List Value) (tb : TypeId) (hbl : Below B w0 w) (hB : B ≤ w.heap.size) (hown : w.ownsRow B 32 8 s n xs) (hn : n ≤ 1000)
    (hvb : w.heap[vb]? = some (.cells c.toArray tb (0, 0))) (hc8 : c.length = 8) (h1c : ∀ u ∈ c, u.oneCell' = true) :
    Calls Try.prog 98 #[s, .int .i64 n, .slice (some ⟨vb, 0, none⟩) 1 1] w fun e w' => ∃ s', e = .returned s' ∧ w'.ownsRow B 32 8 s' (n + 1) (xs ++ c) ∧ Below B w0 w' := by
  have HV := Lib.hid (fun j u (hj : c[j]? = some u) => (show w.cell? ((⟨vb, 0, none⟩ : Addr).add j) = some u by rw [Addr.add_lit, Nat.zero_add]; exact cell_of_block hvb (by simpa using hj)))
  have HO := Lib.hid hown
  have HBL := Lib.hid hbl
  have HBS := Lib.hid hB
  have HBN := Lib.hid (fun w' (hg : w.grownBy w' s.ownBlock) => hbl.grown hg hB fun k hk => (hown.lt k hk).1)
  obtain ⟨a, cap, rfl⟩ := owns_slice hown
  clear hbl hB hown hvb
  by_cases hcn : n = cap
  · subst hcn
    go_enter Try.func98, Try.ntmps98
    go_wp2_with (at_builtin; refine wpList_append_own' rfl _ _ 22 rfl B 32 _ 8 104 Try.underlying22 VTy.info rfl (by decide) _ n xs rfl HO.out ⟨vb, 0, none⟩ 1 1 c rfl (by rw [hc8]) HV.out h1c (by unfold maxLen; omega) (by omega) HBS.out ?_)
    intro s' w' h1 h2 h3
    have h4 := HBN.out w' h2
    clear h2 h3
    go_wp2
    go_ret
    exact ⟨_, rfl, h1, h4⟩
  · have hcn2 : ¬ cap = n := fun e => hcn e.symm
    go_enter Try.func98, Try.ntmps98
    go_wp2_with (at_builtin; refine wpList_append_own' rfl _ _ 22 rfl B 32 _ 8 104 Try.underlying22 VTy.info rfl (by decide) _ n xs rfl HO.out ⟨vb, 0, none⟩ 1 1 c rfl (by rw [hc8]) HV.out h1c (by unfold maxLen; omega) (by omega) HBS.out ?_)
    intro s' w' h1 h2 h3
    have h4 := HBN.out w' h2
    clear h2 h3
    go_wp2
    go_ret
    exact ⟨_, rfl, h1, h4⟩
set_option maxRecDepth 100000 in
set_option maxHeartbeats 2000000 in
theorem vins_grow (B : Nat) (w0 w : World) (g n cap i : Nat) (cur : List Value) (vb : Nat) (c : List Value) (tb : TypeId) (hbl : Below B w0 w) (hB : B ≤ w.heap.size) (hi : i < n) (hn : n ≤ 1000) (hnc : n ≤ cap) (hroom : cap < n + 1)
    (hg : w.heap[g]? = some (.cells cur.toArray 32 (0, 0))) (hcl : cur.length = cap * 8) (h1x : ∀ u ∈ cur.take (n * 8), u.oneCell' = true)
    (hvb : w.heap[vb]? = some (.cells c.toArray tb (0, 0))) (hc8 : c.length = 8) (h1c : ∀ u ∈ c, u.oneCell' = true) :
    Calls Try.prog 98 #[.slice (some ⟨g, 0, none⟩) n cap, .int .i64 i, .slice (some ⟨vb, 0, none⟩) 1 1] w fun e w' => ∃ s', e = .returned s' ∧ w'.ownsRow B 32 8 s' (n + 1) (cur.take (i * 8) ++ c ++ (cur.take (n * 8)).drop (i * 8)) ∧ Below B w0 w' := by
  obtain ⟨D, hD⟩ : ∃ D, D = (cur.take (n * 8)).drop (i * 8) := ⟨_, rfl⟩
  have hDl : D.length = (n - i) * 8 := by rw [hD, List.length_drop, List.length_take]; omega
  have hD1 : ∀ u ∈ D, u.oneCell' = true := fun u hu => h1x u (by rw [hD] at hu; exact List.mem_of_mem_drop hu)
  obtain ⟨X, hX⟩ : ∃ X, X = cur.take (i * 8) := ⟨_, rfl⟩
  have hXl : X.length = i * 8 := by rw [hX, List.length_take]; omega
  have hgl := hlt_of hg
  have hvl := hlt_of hvb
  have HXC := Lib.hid (fun j u (hj : X[j]? = some u) => (show w.cell? ((⟨g, 0, none⟩ : Addr).add j) = some u by
    rw [Addr.add_lit, Nat.zero_add]
    rw [hX, List.getElem?_take] at hj
    split at hj
    · exact cell_of_block hg (by simpa using hj)
    · simp at hj))
  have HDC := Lib.hid (fun (W : World) (hW : W.heap[g]? = w.heap[g]?) j u (hj : D[j]? = some u) => (show W.cell? ((⟨g, i * 8, none⟩ : Addr).add j) = some u by
    rw [Addr.add_lit]
    rw [hD, List.getElem?_drop, List.getElem?_take] at hj
    split at hj
    · exact cell_of_block (hW.trans hg) (by simpa using hj)
    · simp at hj))
  have HVC := Lib.hid (fun (W : World) (hW : W.heap[vb]? = w.heap[vb]?) j u (hj : c[j]? = some u) => (show W.cell? ((⟨vb, 0, none⟩ : Addr).add j) = some u by
    rw [Addr.add_lit, Nat.zero_add]; exact cell_of_block (hW.trans hvb) (by simpa using hj)))
  have HBL := Lib.hid hbl
  have HBS := Lib.hid hB
  have HXL := Lib.hid hXl
  have HDL := Lib.hid hDl
  rw [← hX, ← hD]
  clear hX hD hg hvb hbl hB hcl h1x hXl hDl
  obtain ⟨N, hN⟩ : ∃ N, N = w.heap.size := ⟨_, rfl⟩
  have hw1 : IntKind.i64.wrap ((n : Int) + 1) = (n : Int) + 1 := by rw [IntKind.wrap_i64]; omega
  have hw2 : IntKind.i64.wrap ((n : Int) + 1 - (i : Int)) = (n : Int) + 1 - (i : Int) := by rw [IntKind.wrap_i64]; omega
  have hw3 : IntKind.i64.wrap ((i : Int) + 1) = (i : Int) + 1 := by rw [IntKind.wrap_i64]; omega
  have hne : decide ((i : Int) = (n : Int)) = false := by simp; omega
  have hgr : decide ((cap : Int) < (n : Int) + 1) = true := by simp; omega
  have hz2 : ¬ ((i : Int) = (n : Int)) := by omega
  have hci : ¬ (cap = i) := by omega
  go_enter Try.func98, Try.ntmps98
  go_wp2_with (at_builtin; refine wpList_append_zeros rfl _ _ 22 3 rfl 32 _ 8 104 Try.underlying22 Try.underlying3 VTy.info rfl (by decide) ⟨g, 0, none⟩ i (n + 1 - i) cap ((n : Int) + 1 - (i : Int)) rfl rfl (by omega) X HXL.out HXC.out (by omega) (by omega) (by omega) (by omega) ?_)
  intro w1 G cur1 h1 ht1 hl1 hG1 hG2 hb1
  have hb1' := hb1
  have hgN0 : g < N := by omega
  have hvN0 : vb < N := by omega
  rw [← hN] at h1 hb1
  rw [show i + (n + 1 - i) = n + 1 by omega, ← hN]
  rw [show i + (n + 1 - i) = n + 1 by omega] at hG1
  have HN := Lib.hid hN
  clear hN hb1'
  have hGi : ¬ (G = i) := by omega
  have hGi1 : ¬ (G = i + 1) := by omega
  go_wp2_with (refine wpList_copyS rfl _ _ 22 22 rfl 32 8 Try.underlying22 VTy.size (some ⟨N, i * 8, none⟩) (some ⟨vb, 0, none⟩) (n + 1 - i) (G - i) 1 1 rfl rfl N (i * 8) cur1 _ h1.out 1 c (by simp only [Nat.min_def]; split <;> omega) (by omega) (fun _ => ⟨rfl, _, rfl, HVC.out _ (hb1.block vb hvN0)⟩) (by omega) h1c ?_)
  intro w2 h2 hr2
  have hgN : g ≠ N := by omega
  have hgk : w2.heap[g]? = w.heap[g]? := (hr2.other g hgN).trans (hb1.block g hgN0)
  have hsl : (splice cur1 (i * 8) c).length = G * 8 := by rw [length_splice _ _ _ (by omega), hl1]
  have hb3 : (i : Int) ≤ (n : Int) := by omega
  have htn : ((i : Int) + 1).toNat = i + 1 := by omega
  have hb2 : (0 : Int) ≤ (i : Int) + 1 := by omega
  go_wp2_with fail
  go_region_law (refine step_copyS rfl _ _ 22 22 rfl 32 8 Try.underlying22 VTy.size (some ⟨N, (i + 1) * 8, none⟩) (some ⟨g, i * 8, none⟩) (n + 1 - (i + 1)) (G - (i + 1)) (n - i) (cap - i) (by simp [Act.eval, Act.put]) (by simp [Act.eval, Act.put]) N ((i + 1) * 8) (splice cur1 (i * 8) c) _ h2.out (n - i) D (by simp only [Nat.min_def]; split <;> omega) HDL.out (fun _ => ⟨rfl, _, rfl, HDC.out _ hgk⟩) (by rw [hsl, HDL.out]; omega) hD1 ?_; intro w3 h3 hr3)
  have hr3' : RowBut w2 w3 N := ⟨hr3.os, hr3.tape, hr3.output, hr3.size, hr3.other⟩
  have hB2 : B ≤ N := by have := HN.out; have := HBS.out; omega
  have hend := splice_mid2 cur1 X c D (i * 8) HXL.out ht1 (by rw [hc8, HDL.out, hl1]; omega)
  rw [hc8, HDL.out, show i * 8 + 8 = (i + 1) * 8 by omega, show (i + 1) * 8 + (n - i) * 8 = (n + 1) * 8 by omega] at hend
  have HEND := Lib.hid hend
  have HFB := Lib.hid (hr3'.below (hr2.below (HBL.out.trans (hb1.mono hB2)) hB2) hB2)
  clear hend hr3 hr3' hr2 hb1
  go_wp2
  go_ret
  refine ⟨_, rfl, ⟨by rw [List.length_append, List.length_append, HXL.out, hc8, HDL.out]; omega, .inr ⟨N, G, _, rfl, hB2, h3.out, hG1, hG2, by rw [List.size_toArray, length_splice _ _ _ (by rw [hsl, HDL.out]; omega), hsl], ?_⟩⟩, HFB.out⟩
  rw [List.toList_toArray]; exact HEND.out
set_option maxRecDepth 100000 in
set_option maxHeartbeats 2000000 in
theorem vins_shift (B : Nat) (w0 w : World) (g n cap i : Nat) (cur : List Value) (vb : Nat) (c : List Value) (tb : TypeId) (hbl : Below B w0 w) (hB : B ≤ g) (hi : i < n) (hn : n ≤ 1000) (hroom : n + 1 ≤ cap) (hcm : cap ≤ maxLen)
    (hg : w.heap[g]? = some (.cells cur.toArray 32 (0, 0))) (hcl : cur.length = cap * 8) (h1x : ∀ u ∈ cur.take (n * 8), u.oneCell' = true)
    (hvb : w.heap[vb]? = some (.cells c.toArray tb (0, 0))) (hc8 : c.length = 8) (h1c : ∀ u ∈ c, u.oneCell' = true) :
    Calls Try.prog 98 #[.slice (some ⟨g, 0, none⟩) n cap, .int .i64 i, .slice (some ⟨vb, 0, none⟩) 1 1] w fun e w' => ∃ s', e = .returned s' ∧ w'.ownsRow B 32 8 s' (n + 1) (cur.take (i * 8) ++ c ++ (cur.take (n * 8)).drop (i * 8)) ∧ Below B w0 w' := by
  have hgv : vb ≠ g := by
    rintro rfl
    rw [hvb] at hg
    simp only [Option.some.injEq, Obj.cells.injEq] at hg
    have := congrArg Array.size hg.1
    simp only [List.size_toArray] at this
    omega
  obtain ⟨D, hD⟩ : ∃ D, D = (cur.take (n * 8)).drop (i * 8) := ⟨_, rfl⟩
  have hDl : D.length = (n - i) * 8 := by rw [hD, List.length_drop, List.length_take]; omega
  have hD1 : ∀ u ∈ D, u.oneCell' = true := fun u hu => h1x u (by rw [hD] at hu; exact List.mem_of_mem_drop hu)
  obtain ⟨X, hX⟩ : ∃ X, X = cur.take (i * 8) := ⟨_, rfl⟩
  have hXl : X.length = i * 8 := by rw [hX, List.length_take]; omega
  have HDC := Lib.hid (fun (W : World) (hW : W.heap[g]? = w.heap[g]?) j u (hj : D[j]? = some u) => (show W.cell? ((⟨g, i * 8, none⟩ : Addr).add j) = some u by
    rw [Addr.add_lit]
    rw [hD, List.getElem?_drop, List.getElem?_take] at hj
    split at hj
    · exact cell_of_block (hW.trans hg) (by simpa using hj)
    · simp at hj))
  have HVC := Lib.hid (fun (W : World) (hW : W.heap[vb]? = w.heap[vb]?) j u (hj : c[j]? = some u) => (show W.cell? ((⟨vb, 0, none⟩ : Addr).add j) = some u by
    rw [Addr.add_lit, Nat.zero_add]; exact cell_of_block (hW.trans hvb) (by simpa using hj)))
  have hsa : w.shape? vb = some (tb, 8) := by simp [World.shape?, hvb, hc8]
  have hsb : w.shape? g = some (32, cap * 8) := by simp [World.shape?, hg, hcl]
  have hov : ∀ lb cb, (callFunc 172 #[.slice (some ⟨vb, 0, none⟩) 1 1, .slice (some ⟨g, (i + 1) * 8, none⟩) lb cb]).run Try.prog w = .ok (.value (.bool false)) w := fun lb cb => by
    rw [run_callFunc_extern Try.func172 (by kernel_rfl) (by kernel_rfl) (by kernel_rfl) (e := Extern.SlicesOverlaps.overlaps #[22, 22] #[4]) (by kernel_rfl),
      Lib.run_overlaps_apart w 22 4 32 Try.underlying22 8 (by
        intro w
        obtain ⟨inf, hi, hz0, hsize, hby⟩ := info_parts VTy.info
        simp [Go.sizeOf, typeInfo, hi, hsize]) ⟨vb, 0, none⟩ ⟨g, (i + 1) * 8, none⟩ 1 1 lb cb hgv tb 32 8 (cap * 8) hsa hsb (by omega) (free_of_block hvb) (free_of_block hvb)]
    rfl
  have HG := Lib.hid hg
  have HBL := Lib.hid hbl
  have HXL := Lib.hid hXl
  have HDL := Lib.hid hDl
  have HXE := Lib.hid hX.symm
  rw [← hX, ← hD]
  clear hX hD hg hvb hbl h1x hXl hDl hsa hsb
  have hw1 : IntKind.i64.wrap ((n : Int) + 1) = (n : Int) + 1 := by rw [IntKind.wrap_i64]; omega
  have hw3 : IntKind.i64.wrap ((i : Int) + 1) = (i : Int) + 1 := by rw [IntKind.wrap_i64]; omega
  have hne : decide ((i : Int) = (n : Int)) = false := by simp; omega
  have hcm2 : cap ≤ 9223372036854775807 := by unfold maxLen at hcm; omega
  have hgr : decide ((cap : Int) < (n : Int) + 1) = false := by simp; omega
  have hz2 : ¬ ((i : Int) = (n : Int)) := by omega
  have hci : ¬ (cap = i) := by omega
  have hci1 : ¬ (cap = i + 1) := by omega
  have htn1 : ((n : Int) + 1).toNat = n + 1 := by omega
  have htn : ((i : Int) + 1).toNat = i + 1 := by omega
  have hb2 : (0 : Int) ≤ (i : Int) + 1 := by omega
  have hb3 : (i : Int) ≤ (n : Int) := by omega
  have hb4 : (i : Int) ≤ (n : Int) + 1 := by omega
  have hb5 : (n : Int) + 1 ≤ (cap : Int) := by omega
  go_enter Try.func98, Try.ntmps98
  go_wp2_with (simp only [hov])
  go_region_law (refine step_copyS rfl _ _ 22 22 rfl 32 8 Try.underlying22 VTy.size (some ⟨g, (i + 1) * 8, none⟩) (some ⟨g, i * 8, none⟩) (n + 1 - (i + 1)) (cap - (i + 1)) (n + 1 - i) (cap - i) (by simp [Act.eval, Act.put]) (by simp [Act.eval, Act.put]) g ((i + 1) * 8) cur _ HG.out (n - i) D (by simp only [Nat.min_def]; split <;> omega) HDL.out (fun _ => ⟨rfl, _, rfl, HDC.out _ rfl⟩) (by rw [hcl, HDL.out]; omega) hD1 ?_; intro w2 h2 hr2)
  have hr2' : RowBut w w2 g := ⟨hr2.os, hr2.tape, hr2.output, hr2.size, hr2.other⟩
  have hsl : (splice cur ((i + 1) * 8) D).length = cap * 8 := by rw [length_splice _ _ _ (by rw [HDL.out]; omega), hcl]
  clear hr2 hov
  go_wp2_with (refine wpList_copyS rfl _ _ 22 22 rfl 32 8 Try.underlying22 VTy.size (some ⟨g, i * 8, none⟩) (some ⟨vb, 0, none⟩) (n + 1 - i) (cap - i) 1 1 rfl rfl g (i * 8) (splice cur ((i + 1) * 8) D) _ h2.out 1 c (by simp only [Nat.min_def]; split <;> omega) (by omega) (fun _ => ⟨rfl, _, rfl, HVC.out _ (hr2'.other vb hgv)⟩) (by rw [hsl]; omega) h1c ?_)
  intro w3 h3 hr3
  have hend := splice_mid cur X c D (i * 8) HXL.out HXE.out (by rw [hc8, HDL.out, hcl]; omega)
  rw [hc8, HDL.out, show i * 8 + 8 = (i + 1) * 8 by omega, show (i + 1) * 8 + (n - i) * 8 = (n + 1) * 8 by omega] at hend
  have HEND := Lib.hid hend
  have HFB := Lib.hid (hr3.below (hr2'.below HBL.out hB) hB)
  clear hend hr3 hr2'
  go_wp2
  go_ret
  refine ⟨_, rfl, ⟨by rw [List.length_append, List.length_append, HXL.out, hc8, HDL.out]; omega, .inr ⟨g, cap, _, rfl, hB, h3.out, hroom, hcm, by rw [List.size_toArray, length_splice _ _ _ (by rw [hsl]; omega), hsl], ?_⟩⟩, HFB.out⟩
  rw [List.toList_toArray]; exact HEND.out
set_option maxRecDepth 100000 in
/-- One version put in, in its place. -/
theorem vins_c (B : Nat) (w0 w : World) (s : Value) (n i : Nat) (xs : List Value) (vb : Nat) (c : List Value) (tb : TypeId) (hbl : Below B w0 w) (hB : B ≤ w.heap.size) (hown : w.ownsRow B 32 8 s n xs) (hi : i ≤ n) (hn : n ≤ 1000) (h1x : ∀ u ∈ xs, u.oneCell' = true)
    (hvb : w.heap[vb]? = some (.cells c.toArray tb (0, 0))) (hc8 : c.length = 8) (h1c : ∀ u ∈ c, u.oneCell' = true) :
    Calls Try.prog 98 #[s, .int .i64 i, .slice (some ⟨vb, 0, none⟩) 1 1] w fun e w' => ∃ s', e = .returned s' ∧ w'.ownsRow B 32 8 s' (n + 1) (xs.take (i * 8) ++ c ++ xs.drop (i * 8)) ∧ Below B w0 w' := by
  by_cases hin : i = n
  · subst hin
    have h := vins_end B w0 w s i xs vb c tb hbl hB hown hn hvb hc8 h1c
    have hl := hown.1
    rw [List.take_of_length_le (by omega), List.drop_of_length_le (by omega), List.append_nil]
    exact h
  · rcases hown.2 with ⟨-, rfl⟩ | ⟨g, cap, cur, rfl, hbg, hg, hnc, hcm, hcs, htake⟩
    · omega
    · have e : xs.take (i * 8) = cur.toList.take (i * 8) := by rw [← htake, List.take_take]; congr 1; omega
      have hg' : w.heap[g]? = some (.cells cur.toList.toArray 32 (0, 0)) := by simpa using hg
      rw [e, ← htake]
      by_cases hroom : n + 1 ≤ cap
      · exact vins_shift B w0 w g n cap i cur.toList vb c tb hbl hbg (by omega) hn hroom hcm hg' (by simpa using hcs) (by rw [htake]; exact h1x) hvb hc8 h1c
      · exact vins_grow B w0 w g n cap i cur.toList vb c tb hbl hB (by omega) hn hnc (by omega) hg' (by simpa using hcs) (by rw [htake]; exact h1x) hvb hc8 h1c
end Go.Proofs.Ytippljiicnpieaa
