/- What shelf.Copied does. -/
import Derived.Test.YtliieljmfncmjaaMShelf4
import Derived.Test.YtliieljmfncmjaaKnow10
import Derived.Test.YtliieljmfncmjaaMElt
import Derived.Test.YtliieljmfncmjaaDots2
namespace Go.Proofs.Ytliieljmfncmjaa
open Go.RowKit
set_option maxRecDepth 100000 in
theorem VerTy.info : (Try.prog.info? 57).map (fun i => (i.zero, i.size, i.bytes)) = some (some (.agg (verC ⟨ByteArray.empty, 0, 0, 0, 0, 0, ⟨[], []⟩⟩ (.slice none 0 0) (.slice none 0 0))), 8, 104) := by kernel_rfl
/-- Versions whose pasts are the call's own. -/
def VE (w : World) (base : Nat) : List Ver → List (List Value) → Prop
  | [], [] => True
  | v :: l, c :: cs => (∃ (a : Option Addr) (n d : Nat) (b : Option Addr) (m e : Nat), c = (verC v (.slice a n d) (.slice b m e)).toList ∧ KnOwn w base (.slice a n d) (.slice b m e) v.past) ∧ VE w base l cs
  | _, _ => False
theorem VE.map {w w' : World} {base : Nat} (h : ∀ u x k, KnOwn w base u x k → KnOwn w' base u x k) : ∀ {l : List Ver} {cs : List (List Value)}, VE w base l cs → VE w' base l cs
  | [], [], _ => trivial
  | _ :: _, _ :: _, ⟨⟨a, n, d, b, m, e, h1, h2⟩, h3⟩ => ⟨⟨a, n, d, b, m, e, h1, h _ _ _ h2⟩, VE.map h h3⟩
  | [], _ :: _, h3 => h3.elim
  | _ :: _, [], h3 => h3.elim
theorem VE.snoc {w : World} {base : Nat} : ∀ {l : List Ver} {cs : List (List Value)} {v : Ver} {c : List Value}, VE w base l cs → VE w base [v] [c] → VE w base (l ++ [v]) (cs ++ [c])
  | [], [], _, _, _, k => k
  | _ :: _, _ :: _, _, _, h, k => ⟨h.1, VE.snoc h.2 k⟩
  | [], _ :: _, _, _, h, _ => h.elim
  | _ :: _, [], _, _, h, _ => h.elim
theorem VE.els {w : World} {base : Nat} : ∀ {l : List Ver} {cs : List (List Value)}, VE w base l cs → (∀ v ∈ l, v.past.vec.length ≤ 5 ∧ v.past.more.length ≤ 60) → Els verE w l cs
  | [], [], _, _ => trivial
  | v :: _, _ :: _, ⟨⟨a, n, d, b, m, e, h1, h2⟩, h3⟩, hb => ⟨⟨_, _, h1, h2.at_ (hb v (by simp)).1 (by have := (hb v (by simp)).2; omega)⟩, VE.els h3 fun x hx => hb x (by simp [hx])⟩
  | [], _ :: _, h, _ => h.elim
  | _ :: _, [], h, _ => h.elim
/-- A shelf of the call's own. -/
def VOwn (w : World) (base : Nat) (vv : Value) (l : List Ver) : Prop := ∃ css, VE w base l css ∧ w.ownsRow base 57 8 vv l.length css.flatten
theorem VOwn.below {w w' : World} {base : Nat} {vv : Value} {l : List Ver} (h : VOwn w base vv l) (hb : Below w.heap.size w w') : VOwn w' base vv l := by
  obtain ⟨css, h1, h2⟩ := h; exact ⟨css, h1.map fun _ _ _ h => h.below hb, owns_below h2 hb⟩
theorem KnOwn.set1 {w : World} {base g j : Nat} {u x y : Value} {k : Kn} {cs : Array Value} (h : KnOwn w base u x k) (hg : w.heap[g]? = some (Obj.cells cs 57 (0, 0))) : KnOwn (w.setCell ⟨g, j, none⟩ y) base u x k :=
  ⟨own_set h.vec hg (by decide), own_set h.more hg (by decide)⟩
/-- A write into a block of a version that is not the row's own. -/
theorem VOwn.set1 {w : World} {base g j : Nat} {vv y : Value} {l : List Ver} {cs : Array Value} (h : VOwn w base vv l) (hg : w.heap[g]? = some (Obj.cells cs 57 (0, 0))) (hne : vv.ownBlock ≠ some g) : VOwn (w.setCell ⟨g, j, none⟩ y) base vv l := by
  obtain ⟨css, h1, h2⟩ := h
  refine ⟨css, h1.map fun _ _ _ h => h.set1 hg, ?_⟩
  exact h2.kept (grown_set _ _ _ _) (.inr hne)
theorem VE.flat {w : World} {base : Nat} : ∀ {l : List Ver} {cs : List (List Value)}, VE w base l cs → cs.flatten.length = l.length * 8
  | [], [], _ => by simp
  | v :: l, c :: cs, ⟨⟨a, n, d, b, m, e, h1, h2⟩, h3⟩ => by
    have := VE.flat h3
    rw [List.flatten_cons, List.length_append, this, h1, List.length_cons]
    simp [verC]; omega
  | [], _ :: _, h => h.elim
  | _ :: _, [], h => h.elim
theorem VOwn.at_ {w : World} {base : Nat} {vv : Value} {l : List Ver} (h : VOwn w base vv l) (hb : ∀ v ∈ l, v.past.vec.length ≤ 5 ∧ v.past.more.length ≤ 60) (hl : l.length ≤ 1000) : RowAt verE w vv l := by
  obtain ⟨css, h1, h2⟩ := h
  exact ⟨css, h1.els hb, CellsAt.of_owns h2 (by omega)⟩
theorem own_nilV (w : World) (base : Nat) : VOwn w base (.slice none 0 0) [] := ⟨[], trivial, World.ownsRow_nil _ _ _ _⟩
set_option maxRecDepth 100000 in
set_option maxHeartbeats 4000000 in
theorem vcopied_c (vv : Value) (l : List Ver) (w : World) (hv : RowAt verE w vv l) (hb : ∀ v ∈ l, v.past.vec.length ≤ 5 ∧ v.past.more.length ≤ 60) (hl : l.length ≤ 1000) :
    Calls Try.prog 113 #[vv] w fun e w' => ∃ ov, e = .returned ov ∧ VOwn w' w.heap.size ov l ∧ Below w.heap.size w w' := by
  obtain ⟨a, cap, rfl, hcap, hlen, -, hvl⟩ := hv.open_
  have HVL := Lib.hid hvl
  have HB := Lib.hid hb
  clear hv hvl hb
  go_enter Try.func113, Try.ntmps113
  go_wp2
  go_loopw [3, 8] (fun ov i wr => ∃ k : Nat, k ≤ l.length ∧ i = .int .i64 k ∧ VOwn wr w.heap.size ov (l.take k) ∧ Below w.heap.size w wr) (fun _ i _ => l.length - (intOf i).toNat)
  case atStart => exact ⟨0, Nat.zero_le _, rfl, own_nilV _ _, Below.refl _ _⟩
  case round =>
    obtain ⟨k, hk, rfl, hown, hbl⟩ := hrel
    have HOW := Lib.hid hown
    have HBL := Lib.hid hbl
    clear hown hbl
    by_cases hlt : k < l.length
    · rcases HVL.out with hnil | ⟨b, off, rfl, hb, hc⟩
      · rw [hnil] at hlt; simp at hlt
      obtain ⟨c, ⟨u, x, rfl, hk2⟩, hcc⟩ := hc k hlt
      have hcl := fun (j : Nat) (y : Value) (hy : (verC l[k] u x).toList[j]? = some y) => row8 (w := wr) (b := b) (off := off) (i := k) (fun j y hy => (HBL.out.cell (p := ⟨b, off + (k * verE.size + j), none⟩) hb).trans (hcc j y hy)) hy
      have c0 := hcl 0 _ rfl
      have c1 := hcl 1 _ rfl
      have c2 := hcl 2 _ rfl
      have c3 := hcl 3 _ rfl
      have c4 := hcl 4 _ rfl
      have c5 := hcl 5 _ rfl
      have c6 := hcl 6 _ rfl
      have c7 := hcl 7 _ rfl
      rw [Nat.add_zero] at c0
      obtain ⟨ua, uc, rfl⟩ := hk2.vec.shape
      obtain ⟨xa, xc, rfl⟩ := hk2.more.shape
      have hbx := bal (W := wr) (.cells (verC l[k] (.slice ua l[k].past.vec.length uc) (.slice xa l[k].past.more.length xc)) 57)
      have HKC := Lib.hid (kcopied_c _ _ l[k].past _ ((hk2.below HBL.out).below hbx) (HB.out _ (List.getElem_mem hlt)).1 (HB.out _ (List.getElem_mem hlt)).2)
      have HBX := Lib.hid hbx
      have HNB := Lib.hid (alloc_new wr (verC l[k] (.slice ua l[k].past.vec.length uc) (.slice xa l[k].past.more.length xc)) 57 _ rfl)
      have HT := Lib.hid (show l.take (k + 1) = l.take k ++ [l[k]] from List.take_succ_eq_append_getElem hlt)
      have htl : (l.take k).length = k := by rw [List.length_take]; omega
      have HTL := Lib.hid htl
      obtain ⟨oa, oc, hoo⟩ : ∃ oa oc, _ = Value.slice oa k oc := by
        obtain ⟨css, -, h2⟩ := HOW.out
        obtain ⟨oa, oc, h3⟩ := owns_slice h2
        rw [htl] at h3
        exact ⟨oa, oc, h3⟩
      subst hoo
      clear hc hcc hcl hk2 hbx htl
      generalize l[k] = v1 at *
      generalize l.take k = lk at *
      have hltb : decide ((k : Int) < (l.length : Int)) = true := by simp; omega
      unfold verC at HKC HBX
      go_wp2_with fail
      (with_reducible refine (HKC.out).mono ?_)
      rintro e w2 ⟨ka, kc, kb, kd, rfl, hko, hb2⟩
      have hB2 := below_keep hb2 HNB.out
      have hwsz : w.heap.size ≤ wr.heap.size := HBL.out.size
      obtain ⟨css, hve0, hrow0⟩ := HOW.out
      have hne : (Value.slice oa k oc).ownBlock ≠ some wr.heap.size := by
        intro e
        have := (hrow0.lt _ e).2
        omega
      have hov : VOwn wr w.heap.size (.slice oa k oc) lk := ⟨css, hve0, hrow0⟩
      have HO2 := VOwn.below (VOwn.below hov HBX.out) hb2
      have hB3 : ((w2.setCell ⟨wr.heap.size, 6, none⟩ (.slice ka v1.past.vec.length kc)).setCell ⟨wr.heap.size, 7, none⟩ (.slice kb v1.past.more.length kd)).heap[wr.heap.size]? = some (Obj.cells (verC v1 (.slice ka v1.past.vec.length kc) (.slice kb v1.past.more.length kd)) 57 (0, 0)) := by rw [heap_set_same (heap_set_same hB2)]; rfl
      have HO3 := (HO2.set1 (j := 6) (y := (.slice ka v1.past.vec.length kc)) hB2 hne).set1 (j := 7) (y := (.slice kb v1.past.more.length kd)) (heap_set_same hB2) hne
      have hko3 := ((hko.mono (base' := w.heap.size) (by simp only [World.size_alloc]; omega)).set1 (j := 6) (y := (.slice ka v1.past.vec.length kc)) hB2).set1 (j := 7) (y := (.slice kb v1.past.more.length kd)) (heap_set_same hB2)
      have hbl3 := ((bstep (bstep HBL.out HBX.out) hb2).setCell (p := ⟨wr.heap.size, 6, none⟩) hwsz (.slice ka v1.past.vec.length kc)).setCell (p := ⟨wr.heap.size, 7, none⟩) hwsz (.slice kb v1.past.more.length kd)
      have HROW := Lib.hid (fun j u (hj : ((verC v1 (.slice ka v1.past.vec.length kc) (.slice kb v1.past.more.length kd)).toList)[j]? = some u) => (show (((w2.setCell ⟨wr.heap.size, 6, none⟩ (.slice ka v1.past.vec.length kc)).setCell ⟨wr.heap.size, 7, none⟩ (.slice kb v1.past.more.length kd)).alloc (.cells (verC v1 (.slice ka v1.past.vec.length kc) (.slice kb v1.past.more.length kd)) 57)).cell? ((⟨w2.heap.size, 0, none⟩ : Addr).add j) = some u by
        rw [show (⟨w2.heap.size, 0, none⟩ : Addr).add j = ⟨w2.heap.size, j, none⟩ from by simp [Addr.add]; exact fun h => h.symm, World.cell?_alloc_at _ _ _ _ (by simp)]; simpa using hj))
      have r6 := cell_of_block (j := 6) hB2 rfl
      have r7 := cell_of_block (j := 7) hB2 rfl
      have f6 := free_of_block (j := 6) hB2
      have f7 := free_of_block (j := 7) hB2
      have hRl := hlt_of hB2
      have e0 := cell_of_block (j := 0) hB3 rfl
      have e1 := cell_of_block (j := 1) hB3 rfl
      have e2 := cell_of_block (j := 2) hB3 rfl
      have e3 := cell_of_block (j := 3) hB3 rfl
      have e4 := cell_of_block (j := 4) hB3 rfl
      have e5 := cell_of_block (j := 5) hB3 rfl
      have e6 := cell_of_block (j := 6) hB3 rfl
      have e7 := cell_of_block (j := 7) hB3 rfl
      have hbz := bal (W := (w2.setCell ⟨wr.heap.size, 6, none⟩ (.slice ka v1.past.vec.length kc)).setCell ⟨wr.heap.size, 7, none⟩ (.slice kb v1.past.more.length kd)) (.cells (verC v1 (.slice ka v1.past.vec.length kc) (.slice kb v1.past.more.length kd)) 57)
      have HO4 := Lib.hid (HO3.below hbz)
      have HK4 := Lib.hid (hko3.below hbz)
      have HB4 := Lib.hid (bstep hbl3 hbz)
      clear hov hB2 hB3 HO2 HO3 hko3 hbl3 hbz hko hve0 hrow0 hb2 HNB HBX c0 c1 c2 c3 c4 c5 c6 c7
      obtain ⟨css4, hve4, hrow4⟩ := HO4.out
      rw [HTL.out] at hrow4
      have HVE4 := Lib.hid hve4
      have HR4 := Lib.hid hrow4
      have hsz := HB4.out.size
      have HON := Lib.hid (show ∀ u ∈ (verC v1 (.slice ka v1.past.vec.length kc) (.slice kb v1.past.more.length kd)).toList, u.oneCell' = true by intro u hu; simp only [verC, List.mem_cons, List.not_mem_nil, or_false] at hu; rcases hu with rfl | rfl | rfl | rfl | rfl | rfl | rfl | rfl <;> rfl)
      clear hve4 hrow4 HO4
      have hk1000 : k ≤ 1000 := by omega
      unfold verC at *
      go_wp2_with (at_builtin; refine wpList_append_own' rfl (.tmp 16) (.tmp 18) 29 rfl w.heap.size 57 _ 8 104 Try.underlying29 VerTy.info rfl (by decide) _ k _ rfl HR4.out _ 1 1 _ rfl rfl HROW.out HON.out (by unfold maxLen; omega) (by omega) hsz ?_)
      intro v' w5 ho hgr _
      obtain ⟨qa, qc, hq⟩ := owns_slice ho
      subst hq
      have HP := Lib.hid (show VOwn w5 w.heap.size (.slice qa (k + 1) qc) (lk ++ [v1]) from ⟨css4 ++ [(verC v1 (.slice ka v1.past.vec.length kc) (.slice kb v1.past.more.length kd)).toList], VE.snoc (HVE4.out.map fun _ _ _ h => ⟨own_kept2 h.vec HR4.out (by decide) hgr, own_kept2 h.more HR4.out (by decide) hgr⟩) ⟨⟨_, _, _, _, _, _, rfl, ⟨own_kept2 HK4.out.vec HR4.out (by decide) hgr, own_kept2 HK4.out.more HR4.out (by decide) hgr⟩⟩, trivial⟩, by rw [List.flatten_append, List.length_append, HTL.out]; simpa [verC] using ho⟩)
      have HBF := Lib.hid (HB4.out.grown hgr HB4.out.size fun k hk => (HR4.out.lt k hk).1)
      clear ho hgr e0 e1 e2 e3 e4 e5 e6 e7 r6 r7 f6 f7 HR4 HVE4 HROW HON
      go_wp2
      go_roundw
      case rel => exact ⟨k + 1, by omega, by go_num, by rw [HT.out]; exact HP.out, HBF.out⟩
      case measure => simp [intOf] <;> omega
    · obtain rfl : k = l.length := by omega
      have hown := HOW.out
      have hbl := HBL.out
      rw [List.take_length] at hown
      have HON := Lib.hid hown
      clear hown HOW
      go_wp2
      go_ret
      exact ⟨_, rfl, HON.out, hbl⟩
end Go.Proofs.Ytliieljmfncmjaa
