/- The laws' parts: what reedkeep.parts and reedkeep.partBegun do. What the statements on parts want of what parts say. -/
import Derived.Test.YthnkmjjldggecaaMPart8
import Derived.Test.YthnkmjjldggecaaKnowLaw0
import Derived.Test.YthnkmjjldggecaaMFilter4
namespace Go.Proofs.Ythnkmjjldggecaa
open Go.RowKit
/-- Slices of filters. -/
def bxsE : Elt Bxs where
  size := 1
  El w f cs := ∃ v, cs = [v] ∧ BxsAt w v f
  len := by rintro w f cs ⟨v, rfl, -⟩; rfl
  one := by
    rintro w f cs ⟨v, rfl, h⟩ z hz
    obtain ⟨a, c, rfl⟩ := h.shape
    simp only [List.mem_singleton] at hz
    subst hz; rfl
  sub := by rintro w w' f cs ⟨v, rfl, h⟩ hs; exact ⟨v, rfl, h.sub hs⟩
  pos := by decide
/-- Slices of slices of slices of integers. -/
def vecsE : Elt (List (List Int)) where
  size := 1
  El w l cs := ∃ v, cs = [v] ∧ RowAt vecE w v l
  len := by rintro w f cs ⟨v, rfl, -⟩; rfl
  one := by
    rintro w f cs ⟨v, rfl, h⟩ z hz
    obtain ⟨a, c, rfl⟩ := h.shape
    simp only [List.mem_singleton] at hz
    subst hz; rfl
  sub := by rintro w w' f cs ⟨v, rfl, h⟩ hs; exact ⟨v, rfl, h.sub hs⟩
  pos := by decide
/-- Parts whose filters came in and whose sets of dots are the call's own. -/
def PM (w0 w : World) (base : Nat) : List Pt → List (List Value) → Prop
  | [], [] => True
  | p :: l, c :: cs => (∃ f u x : Value, c = [f, u, x] ∧ BxsAt w0 f p.f ∧ KnOwn w base u x p.k) ∧ PM w0 w base l cs
  | _, _ => False
theorem PM.map {w0 w w' : World} {base : Nat} (h : ∀ u x k, KnOwn w base u x k → KnOwn w' base u x k) : ∀ {l : List Pt} {cs : List (List Value)}, PM w0 w base l cs → PM w0 w' base l cs
  | [], [], _ => trivial
  | _ :: _, _ :: _, ⟨⟨f, u, x, h1, h2, h3⟩, h4⟩ => ⟨⟨f, u, x, h1, h2, h _ _ _ h3⟩, PM.map h h4⟩
  | [], _ :: _, h3 => h3.elim
  | _ :: _, [], h3 => h3.elim
theorem PM.snoc {w0 w : World} {base : Nat} : ∀ {l : List Pt} {cs : List (List Value)} {p : Pt} {c : List Value}, PM w0 w base l cs → PM w0 w base [p] [c] → PM w0 w base (l ++ [p]) (cs ++ [c])
  | [], [], _, _, _, k => k
  | _ :: _, _ :: _, _, _, h, k => ⟨h.1, PM.snoc h.2 k⟩
  | [], _ :: _, _, _, h, _ => h.elim
  | _ :: _, [], _, _, h, _ => h.elim
theorem PM.els {w0 w : World} {base : Nat} (hb : Below w0.heap.size w0 w) : ∀ {l : List Pt} {cs : List (List Value)}, PM w0 w base l cs → (∀ p ∈ l, PtOk p) → Els partE w l cs
  | [], [], _, _ => trivial
  | p :: _, _ :: _, ⟨⟨f, u, x, h1, h2, h3⟩, h4⟩, hk => ⟨⟨f, u, x, h1, h2.below hb, h3.at_ ((knChk_zero.1 (hk p (by simp)).k).1.len) (by have := (knChk_zero.1 (hk p (by simp)).k).2; omega)⟩, PM.els hb h4 fun x hx => hk x (by simp [hx])⟩
  | [], _ :: _, h, _ => h.elim
  | _ :: _, [], h, _ => h.elim
def PMO (w0 : World) (b0 : Nat) (w : World) (v : Value) (l : List Pt) : Prop := ∃ css, PM w0 w b0 l css ∧ w.ownsRow b0 83 3 v l.length css.flatten
theorem PMO.below {w0 w w' : World} {b0 : Nat} {v : Value} {l : List Pt} (h : PMO w0 b0 w v l) (hb : Below w.heap.size w w') : PMO w0 b0 w' v l := by
  obtain ⟨css, h1, h2⟩ := h; exact ⟨css, h1.map fun _ _ _ h => h.below hb, owns_below h2 hb⟩
theorem PMO.set {w0 w : World} {b0 : Nat} {v u : Value} {l : List Pt} {g j : Nat} {cs : Array Value} (h : PMO w0 b0 w v l) (hg : w.heap[g]? = some (Obj.cells cs 83 (0, 0))) (hne : v.ownBlock ≠ some g) : PMO w0 b0 (w.setCell ⟨g, j, none⟩ u) v l := by
  obtain ⟨css, h1, h2⟩ := h
  exact ⟨css, h1.map fun _ _ _ h => ⟨own_set h.vec hg (by decide), own_set h.more hg (by decide)⟩, h2.kept (grown_set _ _ _ _) (.inr hne)⟩
theorem PMO.push {w0 w w' : World} {b0 : Nat} {v v' f u x : Value} {l : List Pt} {css : List (List Value)} {p : Pt} (h1 : PM w0 w b0 l css) (h2 : w.ownsRow b0 83 3 v l.length css.flatten) (hf : BxsAt w0 f p.f) (hk : KnOwn w b0 u x p.k)
    (ho : w'.ownsRow b0 83 3 v' (l.length + 1) (css.flatten ++ [f, u, x])) (hg : w.grownBy w' v.ownBlock) : PMO w0 b0 w' v' (l ++ [p]) := by
  have hK : ∀ u x (k : Kn), KnOwn w b0 u x k → KnOwn w' b0 u x k := fun u x k h => ⟨own_kept2 h.vec h2 (by decide) hg, own_kept2 h.more h2 (by decide) hg⟩
  refine ⟨css ++ [[f, u, x]], PM.snoc (h1.map hK) ⟨⟨f, u, x, rfl, hf, hK _ _ _ hk⟩, trivial⟩, ?_⟩
  rw [List.flatten_append, List.length_append]
  simpa using ho
theorem nilKn (w : World) (base : Nat) : KnOwn w base (.slice none 0 0) (.slice none 0 0) ⟨[], []⟩ := ⟨World.ownsRow_nil _ _ _ _, World.ownsRow_nil _ _ _ _⟩
set_option maxRecDepth 100000 in
set_option maxHeartbeats 8000000 in
theorem parts_own (W0 : World) (fv av : Value) (fs : List Bxs) (als : List (List (List Int))) (w : World) (hW : Below W0.heap.size W0 w) (hf : RowAt bxsE W0 fv fs) (ha : RowAt vecsE w av als) :
    Calls Try.prog 43 #[fv, av] w fun e w' => ∃ (l : List Pt) (a : Option Addr) (c : Nat), e = .returned (.slice a l.length c) ∧ PMO W0 w.heap.size w' (.slice a l.length c) l ∧ (∀ x ∈ l, PtOk x) ∧ l.length ≤ 10 ∧ Below w.heap.size w w' := by
  obtain ⟨a, cap, rfl, hcap, hlen, -, hvl⟩ := hf.open_
  obtain ⟨a2, cap2, rfl, hcap2, hlen2, -, hvl2⟩ := ha.open_
  have HW := Lib.hid hW
  have HVL := Lib.hid hvl
  have HVL2 := Lib.hid hvl2
  clear hf ha hvl hvl2 hW
  obtain ⟨N, hN⟩ : ∃ N : Nat, N = min fs.length 10 := ⟨_, rfl⟩
  have hNf : N ≤ fs.length := by omega
  have hN10 : N ≤ 10 := by omega
  have hmin : min (fs.length : Int) 10 = (N : Int) := by omega
  have hNc : N ≤ cap := by omega
  clear hN
  go_enter Try.func43, Try.ntmps43
  go_wp2
  go_loopw [5, 15] (fun ov i wr => ∃ k : Nat, k ≤ N ∧ i = .int .i64 k ∧ (∃ lst : List Pt, lst.length ≤ k ∧ (∀ x ∈ lst, PtOk x) ∧ PMO W0 w.heap.size wr ov lst) ∧ Below w.heap.size w wr) (fun _ i _ => N - (intOf i).toNat)
  case atStart => exact ⟨0, Nat.zero_le _, rfl, ⟨[], Nat.le_refl _, by simp, ⟨[], trivial, World.ownsRow_nil _ _ _ _⟩⟩, Below.refl _ _⟩
  case round =>
    obtain ⟨k, hk, rfl, ⟨lst, hl1, hl2, hl3⟩, hbl⟩ := hrel
    have HL2 := Lib.hid hl2
    have HL3 := Lib.hid hl3
    have HBL := Lib.hid hbl
    clear hl2 hl3 hbl
    by_cases hlt : k < N
    · rcases HVL.out with hnil | ⟨b, off, rfl, hb, hc⟩
      · exfalso; rw [hnil] at hNf; simp at hNf; omega
      obtain ⟨c, ⟨f, rfl, hfw⟩, hcc⟩ := hc k (by omega)
      have d0 : wr.cell? ⟨b, off + k, none⟩ = some f := ((bstep HW.out HBL.out).cell (p := ⟨b, off + k, none⟩) hb).trans (by have := hcc 0 f rfl; simpa [bxsE] using this)
      obtain ⟨fa, fc, rfl⟩ := hfw.shape
      have HFW := Lib.hid hfw
      have HFC := Lib.hid (fChk_c _ fs[k] wr (hfw.below (bstep HW.out HBL.out)))
      have hkb : decide ((k : Int) < (N : Int)) = true := by simp; omega
      clear hc hcc hfw
      generalize fs[k] = ff at *
      go_wp2_with fail
      (with_reducible refine (HFC.out).mono ?_)
      rintro e w1 ⟨rfl, hb1⟩
      replace HL3 := Lib.hid (HL3.out.below hb1)
      replace HBL := Lib.hid (bstep HBL.out hb1)
      clear hb1 HFC d0
      by_cases h0 : fChk ff = 0
      rotate_left
      · have hne : (fChk ff == 0) = false := by simpa using h0
        have hne2 : decide (fChk ff = 0) = false := by simpa using h0
        generalize fChk ff = sc at *
        clear h0
        go_wp2
        go_roundw
        case rel => exact ⟨k + 1, by omega, by go_num, ⟨lst, by omega, HL2.out, HL3.out⟩, HBL.out⟩
        case measure => simp [intOf] <;> omega
      have HF0 := Lib.hid h0
      rw [h0]
      clear h0
      obtain ⟨BK, hBK⟩ : ∃ BK, BK = w1.heap.size := ⟨_, rfl⟩
      obtain ⟨w2, hw2⟩ : ∃ w2, w2 = w1.alloc (.cells #[.slice fa ff.length fc, .slice none 0 0, .slice none 0 0] 83) := ⟨_, rfl⟩
      have hbb : w.heap.size ≤ BK := by rw [hBK]; exact HBL.out.size
      have hb2 : Below w1.heap.size w1 w2 := by rw [hw2]; exact bal _
      have HB2 := Lib.hid (show w2.heap[BK]? = some (Obj.cells #[.slice fa ff.length fc, .slice none 0 0, .slice none 0 0] 83 (0, 0)) by rw [hw2]; exact alloc_new _ _ _ _ hBK)
      have HLOW := Lib.hid (show ∀ g, Value.ownBlock _ = some g → g < BK by
        intro g hg
        obtain ⟨css, -, hp2⟩ := HL3.out
        rw [hBK]; exact (hp2.lt g hg).2)
      replace HL3 := Lib.hid (HL3.out.below hb2)
      replace HBL := Lib.hid (bstep HBL.out hb2)
      clear hb2
      by_cases hka : k < als.length
      · rcases HVL2.out with hnil | ⟨b2, off2, rfl, hb22, hc2⟩
        · rw [hnil] at hka; simp at hka
        obtain ⟨c2, ⟨al, rfl, hal⟩, hcc2⟩ := hc2 k hka
        have d1 : w2.cell? ⟨b2, off2 + k, none⟩ = some al := (HBL.out.cell (p := ⟨b2, off2 + k, none⟩) hb22).trans (by have := hcc2 0 al rfl; simpa [vecsE] using this)
        have HSC := Lib.hid (set_c _ als[k] w2 (hal.below HBL.out))
        obtain ⟨aa, ac, rfl⟩ := hal.shape
        have hkab : decide ((k : Int) < (als.length : Int)) = true := by simp; omega
        have HKC := Lib.hid (chk_small (setP_sm als[k]))
        clear hc2 hcc2 hal
        generalize als[k] = al at *
        rw [hw2] at d1
        go_wp2_with fail
        rw [← hw2]
        (with_reducible refine (HSC.out).mono ?_)
        rintro e w3 ⟨u, x, rfl, hko, hb3⟩
        have hB3 := below_keep hb3 HB2.out
        have HK3 := Lib.hid (hko.mono HBL.out.size)
        replace HL3 := Lib.hid (HL3.out.below hb3)
        replace HBL := Lib.hid (bstep HBL.out hb3)
        obtain ⟨ua, uc, hu⟩ := owns_slice hko.vec
        obtain ⟨xa, xc, hx⟩ := owns_slice hko.more
        subst hu hx
        generalize formK (setP al) = kk at *
        rw [← hBK]
        have HB4 := Lib.hid (show ((w3.setCell ⟨BK, 1, none⟩ (.slice ua kk.vec.length uc)).setCell ⟨BK, 2, none⟩ (.slice xa kk.more.length xc)).heap[BK]? = some (Obj.cells #[.slice fa ff.length fc, .slice ua kk.vec.length uc, .slice xa kk.more.length xc] 83 (0, 0)) by rw [heap_set_same (heap_set_same hB3)]; rfl)
        have HKO := Lib.hid (show KnOwn ((w3.setCell ⟨BK, 1, none⟩ (.slice ua kk.vec.length uc)).setCell ⟨BK, 2, none⟩ (.slice xa kk.more.length xc)) w.heap.size (.slice ua kk.vec.length uc) (.slice xa kk.more.length xc) kk from ⟨own_set (own_set HK3.out.vec hB3 (by decide)) (heap_set_same hB3) (by decide), own_set (own_set HK3.out.more hB3 (by decide)) (heap_set_same hB3) (by decide)⟩)
        have HPM := Lib.hid (show PMO W0 w.heap.size ((w3.setCell ⟨BK, 1, none⟩ (.slice ua kk.vec.length uc)).setCell ⟨BK, 2, none⟩ (.slice xa kk.more.length xc)) _ lst from (HL3.out.set hB3 (fun e => by have := HLOW.out _ e; omega)).set (heap_set_same hB3) (fun e => by have := HLOW.out _ e; omega))
        replace HBL := Lib.hid ((HBL.out.setCell (p := ⟨BK, 1, none⟩) hbb (.slice ua kk.vec.length uc)).setCell (p := ⟨BK, 2, none⟩) hbb (.slice xa kk.more.length xc))
        have r1 := cell_of_block (j := 1) hB3 rfl
        have r2 := cell_of_block (j := 2) hB3 rfl
        have f1 := free_of_block (j := 1) hB3
        have f2 := free_of_block (j := 2) hB3
        have hBl3 := hlt_of hB3
        clear hB3 hko hb3 HSC HL3 HLOW hw2 hBK HB2 HK3 d1
        obtain ⟨css, hp1, hp2⟩ := HPM.out
        obtain ⟨oa, oc, hoo⟩ := owns_slice hp2
        subst hoo
        have e0 := cell_of_block (j := 0) HB4.out rfl
        have e1 := cell_of_block (j := 1) HB4.out rfl
        have e2 := cell_of_block (j := 2) HB4.out rfl
        have hBl := hlt_of HB4.out
        have hbx := bal (W := ((w3.setCell ⟨BK, 1, none⟩ (.slice ua kk.vec.length uc)).setCell ⟨BK, 2, none⟩ (.slice xa kk.more.length xc))) (.cells #[.slice fa ff.length fc, .slice ua kk.vec.length uc, .slice xa kk.more.length xc] 83)
        have HP1 := Lib.hid (hp1.map fun _ _ _ h => h.below hbx)
        have HP2 := Lib.hid (show (((w3.setCell ⟨BK, 1, none⟩ (.slice ua kk.vec.length uc)).setCell ⟨BK, 2, none⟩ (.slice xa kk.more.length xc)).alloc (.cells #[.slice fa ff.length fc, .slice ua kk.vec.length uc, .slice xa kk.more.length xc] 83)).ownsRow w.heap.size 83 3 (.slice oa lst.length oc) lst.length css.flatten from hp2.alloc _)
        have HK4 := Lib.hid (HKO.out.below hbx)
        have HC := Lib.hid (CellsAt.mk (w := ((w3.setCell ⟨BK, 1, none⟩ (.slice ua kk.vec.length uc)).setCell ⟨BK, 2, none⟩ (.slice xa kk.more.length xc)).alloc (.cells #[.slice fa ff.length fc, .slice ua kk.vec.length uc, .slice xa kk.more.length xc] 83)) (b := ((w3.setCell ⟨BK, 1, none⟩ (.slice ua kk.vec.length uc)).setCell ⟨BK, 2, none⟩ (.slice xa kk.more.length xc)).heap.size) (off := 0) (n := 1) (cap := 1) (xs := [.slice fa ff.length fc, .slice ua kk.vec.length uc, .slice xa kk.more.length xc]) (Nat.le_refl _) (by decide) (by simp) (fun j x hj => by
          rw [Nat.zero_add, World.cell?_alloc_at _ _ _ _ rfl]; simpa using hj))
        have HB5 := Lib.hid (bstep HBL.out hbx)
        have hsz := HB5.out.size
        clear hp1 hp2 hbx HPM HKO HB4
        simp only [World.size_setCell] at *
        go_wp2_with (at_builtin; refine wpList_append_cells2 rfl (.tmp 35) (.tmp 37) 62 rfl w.heap.size 83 _ 3 72 Try.underlying62 PartTy.info rfl (by decide) _ lst.length _ rfl HP2.out _ 1 _ rfl HC.out rfl (by intro z hz; simp only [List.mem_cons, List.not_mem_nil, or_false] at hz; rcases hz with rfl | rfl | rfl <;> rfl) hsz (by unfold maxLen; omega) (by omega) ?_)
        intro v' w9 ho hgr
        obtain ⟨qa, qc, hq⟩ := owns_slice ho
        subst hq
        have HR := Lib.hid (PMO.push (p := ⟨ff, kk⟩) HP1.out HP2.out HFW.out HK4.out ho hgr)
        have HBE := Lib.hid (HB5.out.grown hgr hsz fun k hk => (HP2.out.lt k hk).1)
        have HOK := Lib.hid (show ∀ z ∈ lst ++ [(⟨ff, kk⟩ : Pt)], PtOk z from fun z hz => by
          rcases List.mem_append.1 hz with hz | hz
          · exact HL2.out z hz
          · rw [List.mem_singleton] at hz; rw [hz]; exact ⟨HF0.out, HKC.out⟩)
        clear ho hgr e0 e1 e2
        go_wp2
        go_roundw
        case rel => exact ⟨k + 1, by omega, by go_num, ⟨lst ++ [⟨ff, kk⟩], by rw [List.length_append]; simp; omega, HOK.out, HR.out⟩, HBE.out⟩
        case measure => simp [intOf] <;> omega
      · have hkab : decide ((k : Int) < (als.length : Int)) = false := by simp; omega
        have HB4 := HB2
        have HPM := HL3
        have HKO := Lib.hid (nilKn w2 w.heap.size)
        have HKC := Lib.hid (show knChk ⟨[], []⟩ = 0 by decide)
        subst hw2
        subst hBK
        clear HL3 HB2 HLOW
        obtain ⟨css, hp1, hp2⟩ := HPM.out
        obtain ⟨oa, oc, hoo⟩ := owns_slice hp2
        subst hoo
        have e0 := cell_of_block (j := 0) HB4.out rfl
        have e1 := cell_of_block (j := 1) HB4.out rfl
        have e2 := cell_of_block (j := 2) HB4.out rfl
        have hBl := hlt_of HB4.out
        have hbx := bal (W := (w1.alloc (.cells #[.slice fa ff.length fc, .slice none 0 0, .slice none 0 0] 83))) (.cells #[.slice fa ff.length fc, .slice none 0 0, .slice none 0 0] 83)
        have HP1 := Lib.hid (hp1.map fun _ _ _ h => h.below hbx)
        have HP2 := Lib.hid (show ((w1.alloc (.cells #[.slice fa ff.length fc, .slice none 0 0, .slice none 0 0] 83)).alloc (.cells #[.slice fa ff.length fc, .slice none 0 0, .slice none 0 0] 83)).ownsRow w.heap.size 83 3 (.slice oa lst.length oc) lst.length css.flatten from hp2.alloc _)
        have HK4 := Lib.hid (HKO.out.below hbx)
        have HC := Lib.hid (CellsAt.mk (w := (w1.alloc (.cells #[.slice fa ff.length fc, .slice none 0 0, .slice none 0 0] 83)).alloc (.cells #[.slice fa ff.length fc, .slice none 0 0, .slice none 0 0] 83)) (b := (w1.alloc (.cells #[.slice fa ff.length fc, .slice none 0 0, .slice none 0 0] 83)).heap.size) (off := 0) (n := 1) (cap := 1) (xs := [.slice fa ff.length fc, .slice none 0 0, .slice none 0 0]) (Nat.le_refl _) (by decide) (by simp) (fun j x hj => by
          rw [Nat.zero_add, World.cell?_alloc_at _ _ _ _ rfl]; simpa using hj))
        have HB5 := Lib.hid (bstep HBL.out hbx)
        have hsz := HB5.out.size
        clear hp1 hp2 hbx HPM HKO HB4
        simp only [World.size_alloc] at HC
        go_wp2_with (at_builtin; refine wpList_append_cells2 rfl (.tmp 35) (.tmp 37) 62 rfl w.heap.size 83 _ 3 72 Try.underlying62 PartTy.info rfl (by decide) _ lst.length _ rfl HP2.out _ 1 _ rfl HC.out rfl (by intro z hz; simp only [List.mem_cons, List.not_mem_nil, or_false] at hz; rcases hz with rfl | rfl | rfl <;> rfl) hsz (by unfold maxLen; omega) (by omega) ?_)
        intro v' w9 ho hgr
        obtain ⟨qa, qc, hq⟩ := owns_slice ho
        subst hq
        have HR := Lib.hid (PMO.push (p := ⟨ff, ⟨[], []⟩⟩) HP1.out HP2.out HFW.out HK4.out ho hgr)
        have HBE := Lib.hid (HB5.out.grown hgr hsz fun k hk => (HP2.out.lt k hk).1)
        have HOK := Lib.hid (show ∀ z ∈ lst ++ [(⟨ff, ⟨[], []⟩⟩ : Pt)], PtOk z from fun z hz => by
          rcases List.mem_append.1 hz with hz | hz
          · exact HL2.out z hz
          · rw [List.mem_singleton] at hz; rw [hz]; exact ⟨HF0.out, HKC.out⟩)
        clear ho hgr e0 e1 e2
        go_wp2
        go_roundw
        case rel => exact ⟨k + 1, by omega, by go_num, ⟨lst ++ [⟨ff, ⟨[], []⟩⟩], by rw [List.length_append]; simp; omega, HOK.out, HR.out⟩, HBE.out⟩
        case measure => simp [intOf] <;> omega
    · obtain rfl : k = N := by omega
      obtain ⟨css, hp1, hp2⟩ := HL3.out
      obtain ⟨oa, oc, hoo⟩ := owns_slice hp2
      subst hoo
      have HRES := Lib.hid (show PMO W0 w.heap.size wr (.slice oa lst.length oc) lst from ⟨css, hp1, hp2⟩)
      clear hp1 hp2 HL3
      go_wp2
      go_ret
      exact ⟨lst, oa, oc, rfl, HRES.out, HL2.out, by omega, HBL.out⟩
set_option maxRecDepth 100000 in
theorem parts_c (fv av : Value) (fs : List Bxs) (als : List (List (List Int))) (w : World) (hf : RowAt bxsE w fv fs) (ha : RowAt vecsE w av als) :
    Calls Try.prog 43 #[fv, av] w fun e w' => ∃ (S : List SP) (a : Option Addr) (c : Nat), e = .returned (.slice a S.length c) ∧ PtsSem w' (.slice a S.length c) S ∧ S.length ≤ 10 ∧ Below w.heap.size w w' := by
  refine (parts_own w fv av fs als w (Below.refl _ _) hf ha).mono ?_
  rintro e w' ⟨l, a, c, rfl, ⟨css, h1, h2⟩, h3, h4, h5⟩
  have hll : (l.map sem).length = l.length := List.length_map _
  exact ⟨l.map sem, a, c, by rw [hll], by rw [hll]; exact ⟨l, ⟨css, h1.els h5 h3, CellsAt.of_owns h2 (by omega)⟩, h3, rfl⟩, by omega, h5⟩
theorem begun_sem : noneS (sem ⟨[⟨0, 0, [(0, 32)]⟩], ⟨[1], []⟩⟩) = false ∧ ptsChk [⟨[⟨0, 0, [(0, 32)]⟩], ⟨[1], []⟩⟩] = 0 ∧ ptsChk [] = 0 := by decide +kernel
theorem begun_few : fewS (([] ++ [⟨[⟨0, 0, [(0, 32)]⟩], ⟨[1], []⟩⟩] : List Pt).map sem) = [sem ⟨[⟨0, 0, [(0, 32)]⟩], ⟨[1], []⟩⟩] := by
  unfold fewS
  simp only [List.nil_append, List.map_cons, List.map_nil, List.foldl_cons, List.foldl_nil]
  unfold fewStep
  rw [begun_sem.1]
  rfl
set_option maxRecDepth 100000 in
set_option maxHeartbeats 2000000 in
theorem partBegun_c (w : World) : Calls Try.prog 41 #[] w fun e w' => e = .returned (.bool true) ∧ Below w.heap.size w w' := by
  go_enter Try.func41, Try.ntmps41
  go_wp2_with fail
  (with_reducible refine (every_f _).mono ?_)
  rintro e w1 ⟨v, rfl, hv, hb1⟩
  obtain ⟨fa, fc, rfl⟩ := hv.shape
  have hbx := bal (W := w1) (.cells #[.int .i64 1] 3)
  have hby := bal (W := w1.alloc (.cells #[.int .i64 1] 3)) (.cells #[.slice fa 1 fc, .slice (some ⟨w1.heap.size, 0, none⟩) 1 1, .slice none 0 0] 83)
  have hkn : KnAt (w1.alloc (.cells #[.int .i64 1] 3)) (.slice (some ⟨w1.heap.size, 0, none⟩) 1 1) (.slice none 0 0) ⟨[1], []⟩ :=
    ⟨CellsAt.mk (Nat.le_refl _) (by decide) (by simp) (fun j x hj => by rw [Nat.zero_add, World.cell?_alloc_at _ _ _ _ rfl]; simpa [intsC] using hj), CellsAt.nil _⟩
  have hrow := RowAt.lit1 (E := partE) (w1.alloc (.cells #[.int .i64 1] 3)) [.slice fa 1 fc, .slice (some ⟨w1.heap.size, 0, none⟩) 1 1, .slice none 0 0] 83 ⟨[⟨0, 0, [(0, 32)]⟩], ⟨[1], []⟩⟩ _ rfl ⟨_, _, _, rfl, (hv.below hbx).below hby, hkn.below hby⟩
  have HJ := Lib.hid (pjoin_c _ _ [] [⟨[⟨0, 0, [(0, 32)]⟩], ⟨[1], []⟩⟩] _ (RowAt.nil _) hrow)
  have he : pjE [] [⟨[⟨0, 0, [(0, 32)]⟩], ⟨[1], []⟩⟩] = 0 := by
    unfold pjE
    rw [if_neg (by rw [begun_sem.2.2]; decide), if_neg (by rw [begun_sem.2.1]; decide), begun_few]; rfl
  rw [he, begun_few] at HJ
  have HB := Lib.hid (bstep hb1 (bstep hbx hby))
  simp only [World.size_alloc] at HJ
  clear hv hb1 hbx hby hkn hrow he
  go_wp2_with fail
  (with_reducible refine (HJ.out).mono ?_)
  rintro e w2 ⟨v2, rfl, hr, hb2⟩
  have hfin := bstep HB.out (by simp only [World.size_alloc]; exact hb2)
  obtain ⟨x2, c2, hv2⟩ := (hr.1 rfl).shape
  subst hv2
  clear hr hb2 HJ HB
  go_wp2
  go_ret
  exact ⟨rfl, hfin⟩
end Go.Proofs.Ythnkmjjldggecaa
namespace Go.Proofs.Ythnkmjjldggecaa
open Go.RowKit
theorem narrow_len (A : List SP) (q : Nat → Nat → Bool) : (narrowS A q).length ≤ A.length := by
  unfold narrowS
  have := few_len (A.map fun x => (⟨fun t n => x.p t n && q t n, x.k⟩ : SP))
  rw [List.length_map] at this; exact this
theorem narrow_ok' {A : List SP} {q : Nat → Nat → Bool} (h : ∀ x ∈ A, SPOk x) : ∀ x ∈ narrowS A q, SPOk x := few_ok (narrow_ok h)
theorem none_of {x : SP} (h : ∀ t n, t < 16 → n < 32 → x.p t n = false) : noneS x = true := by
  unfold noneS
  rw [decide_eq_true ((cntF_zero x.p).2 ((allPt_iff _).2 fun t n ht hn => by rw [h t n ht hn]; rfl)), Bool.true_or]
theorem narrow_none (A : List SP) : narrowS A (fun _ _ => false) = [] := by
  unfold narrowS
  refine snoc_ind (p := fun A => fewS (A.map fun x => (⟨fun t n => x.p t n && false, x.k⟩ : SP)) = []) rfl ?_ A
  intro l x ih
  rw [List.map_append, List.map_cons, List.map_nil, fewS_snoc, ih]
  unfold fewStep
  rw [none_of fun t n _ _ => by simp only [Bool.and_false]]
  rfl
theorem narrow_all {A : List SP} (h : ∀ x ∈ A, SPOk x) : (withinS A (narrowS A fun _ _ => true) && withinS (narrowS A fun _ _ => true) A) = true := by
  rw [Bool.and_eq_true, withinS_iff, withinS_iff]
  constructor
  · intro t n ht hn s c h0 h5 h1 h2 hk
    rw [narrow_knows h t n s c ht hn h0 h5 h1 h2, hk]; rfl
  · intro t n ht hn s c h0 h5 h1 h2 hk
    rw [narrow_knows h t n s c ht hn h0 h5 h1 h2, Bool.and_true] at hk; exact hk
theorem narrow_within {A : List SP} (h : ∀ x ∈ A, SPOk x) {p q : Nat → Nat → Bool} (hpq : ∀ t n, t < 16 → n < 32 → p t n = true → q t n = true) : withinS (narrowS A p) (narrowS A q) = true := by
  rw [withinS_iff]
  intro t n ht hn s c h0 h5 h1 h2 hk
  rw [narrow_knows h t n s c ht hn h0 h5 h1 h2, Bool.and_eq_true] at hk ⊢
  exact ⟨hk.1, hpq t n ht hn hk.2⟩
theorem narrow_sub {A : List SP} (h : ∀ x ∈ A, SPOk x) (p : Nat → Nat → Bool) : withinS (narrowS A p) A = true := by
  rw [withinS_iff]
  intro t n ht hn s c h0 h5 h1 h2 hk
  rw [narrow_knows h t n s c ht hn h0 h5 h1 h2, Bool.and_eq_true] at hk
  exact hk.1
/-- Narrowed by two. -/
theorem narrow_two {A : List SP} (h : ∀ x ∈ A, SPOk x) (p q : Nat → Nat → Bool) : (withinS (narrowS (narrowS A p) q) (narrowS A fun t n => p t n && q t n) && withinS (narrowS A fun t n => p t n && q t n) (narrowS (narrowS A p) q)) = true := by
  have h' := narrow_ok' (q := p) h
  rw [Bool.and_eq_true, withinS_iff, withinS_iff]
  constructor
  · intro t n ht hn s c h0 h5 h1 h2 hk
    rw [narrow_knows h' t n s c ht hn h0 h5 h1 h2, narrow_knows h t n s c ht hn h0 h5 h1 h2] at hk
    rw [narrow_knows h t n s c ht hn h0 h5 h1 h2, ← Bool.and_assoc]; exact hk
  · intro t n ht hn s c h0 h5 h1 h2 hk
    rw [narrow_knows h t n s c ht hn h0 h5 h1 h2, ← Bool.and_assoc] at hk
    rw [narrow_knows h' t n s c ht hn h0 h5 h1 h2, narrow_knows h t n s c ht hn h0 h5 h1 h2]; exact hk
set_option maxRecDepth 100000 in
/-- .. narrowed by whatever boxes. -/
theorem pnarrow_e (va vf : Value) (A : List SP) (f : Bxs) (w : World) (ha : PtsSem w va A) (hf : BxsAt w vf f) (la : A.length ≤ 30) :
    Calls Try.prog 54 #[va, vf] w fun e w' => ∃ a n c, e = .returned (.tuple #[.slice a n c, .int .i64 (fChk f)]) ∧ (fChk f = 0 → PtsSem w' (.slice a n c) (narrowS A fun t n => inF f t n)) ∧ (fChk f ≠ 0 → n = 0) ∧ Below w.heap.size w w' := by
  have hok := ha.ok
  by_cases h0 : fChk f = 0
  · rw [h0]
    refine (pnarrow_s va vf A (fun t n => inF f t n) w ha (FV.mk hf h0) la).mono ?_
    rintro e w' ⟨a, c, rfl, ho, hb⟩
    exact ⟨a, _, c, rfl, fun _ => ho.sem (by have := narrow_len A fun t n => inF f t n; omega), fun h => absurd rfl h, hb⟩
  · obtain ⟨l, h1, h2, rfl⟩ := ha
    have he : pnE l f = fChk f := by
      unfold pnE
      rw [if_neg (by rw [PtsSem.chk h2 la]; decide)]
    refine (pnarrow_c va vf l f w h1 hf).mono ?_
    rintro e w' ⟨v, rfl, hr, hb⟩
    rw [he] at hr ⊢
    obtain rfl := hr.2 h0
    exact ⟨none, 0, 0, rfl, fun h => absurd h h0, fun _ => rfl, hb⟩
theorem join_comm {A B : List SP} (hA : ∀ x ∈ A, SPOk x) (hB : ∀ x ∈ B, SPOk x) : (withinS (fewS (A ++ B)) (fewS (B ++ A)) && withinS (fewS (B ++ A)) (fewS (A ++ B))) = true := by
  have h1 : ∀ x ∈ A ++ B, SPOk x := fun x hx => (List.mem_append.1 hx).elim (hA x) (hB x)
  have h2 : ∀ x ∈ B ++ A, SPOk x := fun x hx => (List.mem_append.1 hx).elim (hB x) (hA x)
  rw [Bool.and_eq_true, withinS_iff, withinS_iff]
  constructor
  · intro t n ht hn s c h0 h5 k1 k2 hk
    rw [few_knows _ t n s c ht hn h0 h5 k1 k2 h1, knowsS_append] at hk
    rw [few_knows _ t n s c ht hn h0 h5 k1 k2 h2, knowsS_append, Bool.or_comm]; exact hk
  · intro t n ht hn s c h0 h5 k1 k2 hk
    rw [few_knows _ t n s c ht hn h0 h5 k1 k2 h2, knowsS_append] at hk
    rw [few_knows _ t n s c ht hn h0 h5 k1 k2 h1, knowsS_append, Bool.or_comm]; exact hk
theorem join_self {A B : List SP} (hA : ∀ x ∈ A, SPOk x) (hB : ∀ x ∈ B, SPOk x) : (withinS (fewS (fewS (A ++ B) ++ A)) (fewS (A ++ B)) && withinS (fewS (A ++ B)) (fewS (fewS (A ++ B) ++ A))) = true := by
  have h1 : ∀ x ∈ A ++ B, SPOk x := fun x hx => (List.mem_append.1 hx).elim (hA x) (hB x)
  have h2 : ∀ x ∈ fewS (A ++ B) ++ A, SPOk x := fun x hx => (List.mem_append.1 hx).elim (few_ok h1 x) (hA x)
  rw [Bool.and_eq_true, withinS_iff, withinS_iff]
  constructor
  · intro t n ht hn s c h0 h5 k1 k2 hk
    rw [few_knows _ t n s c ht hn h0 h5 k1 k2 h2, knowsS_append, few_knows _ t n s c ht hn h0 h5 k1 k2 h1, knowsS_append] at hk
    rw [few_knows _ t n s c ht hn h0 h5 k1 k2 h1, knowsS_append]
    revert hk
    cases knowsS A t n s c <;> cases knowsS B t n s c <;> simp
  · intro t n ht hn s c h0 h5 k1 k2 hk
    rw [few_knows _ t n s c ht hn h0 h5 k1 k2 h2, knowsS_append, hk]; rfl
theorem join_in {A B : List SP} (hA : ∀ x ∈ A, SPOk x) (hB : ∀ x ∈ B, SPOk x) : withinS A (fewS (A ++ B)) = true := by
  have h1 : ∀ x ∈ A ++ B, SPOk x := fun x hx => (List.mem_append.1 hx).elim (hA x) (hB x)
  rw [withinS_iff]
  intro t n ht hn s c h0 h5 k1 k2 hk
  rw [few_knows _ t n s c ht hn h0 h5 k1 k2 h1, knowsS_append, hk]; rfl
theorem has_join {A B : List SP} (hA : ∀ x ∈ A, SPOk x) (hB : ∀ x ∈ B, SPOk x) (t n s c : Int) : hasS (fewS (A ++ B)) t n s c = (hasS A t n s c || hasS B t n s c) := by
  have h1 : ∀ x ∈ A ++ B, SPOk x := fun x hx => (List.mem_append.1 hx).elim (hA x) (hB x)
  unfold hasS
  cases hp : ptOk t n
  · rfl
  cases hd : dotOk (s, c)
  · rfl
  obtain ⟨p1, p2, p3, p4⟩ := pt_rng hp
  obtain ⟨⟨d0, d5⟩, d1, d2⟩ := dotOk_iff.1 hd
  simp only at d0 d5 d1 d2
  rw [few_knows _ _ _ s c (by omega) (by omega) d0 d5 d1 d2 h1, knowsS_append]
  rfl
theorem has_narrow {A : List SP} (hA : ∀ x ∈ A, SPOk x) (p : Nat → Nat → Bool) {t n s c : Int} (hp : ptOk t n = true) (hd : dotOk (s, c) = true) : hasS (narrowS A p) t n s c = (hasS A t n s c && p t.toNat n.toNat) := by
  unfold hasS
  obtain ⟨p1, p2, p3, p4⟩ := pt_rng hp
  obtain ⟨⟨d0, d5⟩, d1, d2⟩ := dotOk_iff.1 hd
  simp only at d0 d5 d1 d2
  rw [hp, hd, narrow_knows hA _ _ s c (by omega) (by omega) d0 d5 d1 d2]
  rfl
end Go.Proofs.Ythnkmjjldggecaa
