/- What reedkeep.parts does: its result, and the memory that it makes. -/
import Derived.Test.YthnkmjjldggecaaPartOwn
import Derived.Test.YthnkmjjldggecaaMKnow9
import Derived.Test.YthnkmjjldggecaaMFilter4
namespace Go.Proofs.Ythnkmjjldggecaa
open Go.RowKit
/-- Slices of filters. -/
def bxsE : Elt Bxs where
  size := 1
  El w f cs := ∃ v, cs = [v] ∧ BxsAt w v f
  len := by rintro w f cs ⟨v, rfl, -⟩; rfl
  one := by
    rintro w f cs ⟨v, rfl, h⟩ z hz
    obtain ⟨a, c, rfl⟩ := h.shape
    simp only [List.mem_singleton] at hz
    subst hz; rfl
  sub := by rintro w w' f cs ⟨v, rfl, h⟩ hs; exact ⟨v, rfl, h.sub hs⟩
  pos := by decide
/-- Slices of slices of slices of integers. -/
def vecsE : Elt (List (List Int)) where
  size := 1
  El w l cs := ∃ v, cs = [v] ∧ RowAt vecE w v l
  len := by rintro w f cs ⟨v, rfl, -⟩; rfl
  one := by
    rintro w f cs ⟨v, rfl, h⟩ z hz
    obtain ⟨a, c, rfl⟩ := h.shape
    simp only [List.mem_singleton] at hz
    subst hz; rfl
  sub := by rintro w w' f cs ⟨v, rfl, h⟩ hs; exact ⟨v, rfl, h.sub hs⟩
  pos := by decide
/-- Parts whose filters came in and whose sets of dots are the call's own. -/
def PM (w0 w : World) (base : Nat) : List Pt → List (List Value) → Prop
  | [], [] => True
  | p :: l, c :: cs => (∃ f u x : Value, c = [f, u, x] ∧ BxsAt w0 f p.f ∧ KnOwn w base u x p.k) ∧ PM w0 w base l cs
  | _, _ => False
theorem PM.map {w0 w w' : World} {base : Nat} (h : ∀ u x k, KnOwn w base u x k → KnOwn w' base u x k) : ∀ {l : List Pt} {cs : List (List Value)}, PM w0 w base l cs → PM w0 w' base l cs
  | [], [], _ => trivial
  | _ :: _, _ :: _, ⟨⟨f, u, x, h1, h2, h3⟩, h4⟩ => ⟨⟨f, u, x, h1, h2, h _ _ _ h3⟩, PM.map h h4⟩
  | [], _ :: _, h3 => h3.elim
  | _ :: _, [], h3 => h3.elim
theorem PM.snoc {w0 w : World} {base : Nat} : ∀ {l : List Pt} {cs : List (List Value)} {p : Pt} {c : List Value}, PM w0 w base l cs → PM w0 w base [p] [c] → PM w0 w base (l ++ [p]) (cs ++ [c])
  | [], [], _, _, _, k => k
  | _ :: _, _ :: _, _, _, h, k => ⟨h.1, PM.snoc h.2 k⟩
  | [], _ :: _, _, _, h, _ => h.elim
  | _ :: _, [], _, _, h, _ => h.elim
theorem PM.els {w0 w : World} {base : Nat} (hb : Below w0.heap.size w0 w) : ∀ {l : List Pt} {cs : List (List Value)}, PM w0 w base l cs → (∀ p ∈ l, PtOk p) → Els partE w l cs
  | [], [], _, _ => trivial
  | p :: _, _ :: _, ⟨⟨f, u, x, h1, h2, h3⟩, h4⟩, hk => ⟨⟨f, u, x, h1, h2.below hb, h3.at_ ((knChk_zero.1 (hk p (by simp)).k).1.len) (by have := (knChk_zero.1 (hk p (by simp)).k).2; omega)⟩, PM.els hb h4 fun x hx => hk x (by simp [hx])⟩
  | [], _ :: _, h, _ => h.elim
  | _ :: _, [], h, _ => h.elim
def PMO (w0 : World) (b0 : Nat) (w : World) (v : Value) (l : List Pt) : Prop := ∃ css, PM w0 w b0 l css ∧ w.ownsRow b0 83 3 v l.length css.flatten
theorem PMO.below {w0 w w' : World} {b0 : Nat} {v : Value} {l : List Pt} (h : PMO w0 b0 w v l) (hb : Below w.heap.size w w') : PMO w0 b0 w' v l := by
  obtain ⟨css, h1, h2⟩ := h; exact ⟨css, h1.map fun _ _ _ h => h.below hb, owns_below h2 hb⟩
theorem PMO.set {w0 w : World} {b0 : Nat} {v u : Value} {l : List Pt} {g j : Nat} {cs : Array Value} (h : PMO w0 b0 w v l) (hg : w.heap[g]? = some (Obj.cells cs 83 (0, 0))) (hne : v.ownBlock ≠ some g) : PMO w0 b0 (w.setCell ⟨g, j, none⟩ u) v l := by
  obtain ⟨css, h1, h2⟩ := h
  exact ⟨css, h1.map fun _ _ _ h => ⟨own_set h.vec hg (by decide), own_set h.more hg (by decide)⟩, h2.kept (grown_set _ _ _ _) (.inr hne)⟩
theorem PMO.push {w0 w w' : World} {b0 : Nat} {v v' f u x : Value} {l : List Pt} {css : List (List Value)} {p : Pt} (h1 : PM w0 w b0 l css) (h2 : w.ownsRow b0 83 3 v l.length css.flatten) (hf : BxsAt w0 f p.f) (hk : KnOwn w b0 u x p.k)
    (ho : w'.ownsRow b0 83 3 v' (l.length + 1) (css.flatten ++ [f, u, x])) (hg : w.grownBy w' v.ownBlock) : PMO w0 b0 w' v' (l ++ [p]) := by
  have hK : ∀ u x (k : Kn), KnOwn w b0 u x k → KnOwn w' b0 u x k := fun u x k h => ⟨own_kept2 h.vec h2 (by decide) hg, own_kept2 h.more h2 (by decide) hg⟩
  refine ⟨css ++ [[f, u, x]], PM.snoc (h1.map hK) ⟨⟨f, u, x, rfl, hf, hK _ _ _ hk⟩, trivial⟩, ?_⟩
  rw [List.flatten_append, List.length_append]
  simpa using ho
theorem nilKn (w : World) (base : Nat) : KnOwn w base (.slice none 0 0) (.slice none 0 0) ⟨[], []⟩ := ⟨World.ownsRow_nil _ _ _ _, World.ownsRow_nil _ _ _ _⟩
set_option maxRecDepth 100000 in
set_option maxHeartbeats 8000000 in
theorem parts_own (W0 : World) (fv av : Value) (fs : List Bxs) (als : List (List (List Int))) (w : World) (hW : Below W0.heap.size W0 w) (hf : RowAt bxsE W0 fv fs) (ha : RowAt vecsE w av als) :
    Calls Try.prog 43 #[fv, av] w fun e w' => ∃ (l : List Pt) (a : Option Addr) (c : Nat), e = .returned (.slice a l.length c) ∧ PMO W0 w.heap.size w' (.slice a l.length c) l ∧ (∀ x ∈ l, PtOk x) ∧ l.length ≤ 10 ∧ Below w.heap.size w w' := by
  obtain ⟨a, cap, rfl, hcap, hlen, -, hvl⟩ := hf.open_
  obtain ⟨a2, cap2, rfl, hcap2, hlen2, -, hvl2⟩ := ha.open_
  have HW := Lib.hid hW
  have HVL := Lib.hid hvl
  have HVL2 := Lib.hid hvl2
  clear hf ha hvl hvl2 hW
  obtain ⟨N, hN⟩ : ∃ N : Nat, N = min fs.length 10 := ⟨_, rfl⟩
  have hNf : N ≤ fs.length := by omega
  have hN10 : N ≤ 10 := by omega
  have hmin : min (fs.length : Int) 10 = (N : Int) := by omega
  have hNc : N ≤ cap := by omega
  clear hN
  go_enter Try.func43, Try.ntmps43
  go_wp2
  go_loopw [5, 15] (fun ov i wr => ∃ k : Nat, k ≤ N ∧ i = .int .i64 k ∧ (∃ lst : List Pt, lst.length ≤ k ∧ (∀ x ∈ lst, PtOk x) ∧ PMO W0 w.heap.size wr ov lst) ∧ Below w.heap.size w wr) (fun _ i _ => N - (intOf i).toNat)
  case atStart => exact ⟨0, Nat.zero_le _, rfl, ⟨[], Nat.le_refl _, by simp, ⟨[], trivial, World.ownsRow_nil _ _ _ _⟩⟩, Below.refl _ _⟩
  case round =>
    obtain ⟨k, hk, rfl, ⟨lst, hl1, hl2, hl3⟩, hbl⟩ := hrel
    have HL2 := Lib.hid hl2
    have HL3 := Lib.hid hl3
    have HBL := Lib.hid hbl
    clear hl2 hl3 hbl
    by_cases hlt : k < N
    · rcases HVL.out with hnil | ⟨b, off, rfl, hb, hc⟩
      · exfalso; rw [hnil] at hNf; simp at hNf; omega
      obtain ⟨c, ⟨f, rfl, hfw⟩, hcc⟩ := hc k (by omega)
      have d0 : wr.cell? ⟨b, off + k, none⟩ = some f := ((bstep HW.out HBL.out).cell (p := ⟨b, off + k, none⟩) hb).trans (by have := hcc 0 f rfl; simpa [bxsE] using this)
      obtain ⟨fa, fc, rfl⟩ := hfw.shape
      have HFW := Lib.hid hfw
      have HFC := Lib.hid (fChk_c _ fs[k] wr (hfw.below (bstep HW.out HBL.out)))
      have hkb : decide ((k : Int) < (N : Int)) = true := by simp; omega
      clear hc hcc hfw
      generalize fs[k] = ff at *
      go_wp2_with fail
      (with_reducible refine (HFC.out).mono ?_)
      rintro e w1 ⟨rfl, hb1⟩
      replace HL3 := Lib.hid (HL3.out.below hb1)
      replace HBL := Lib.hid (bstep HBL.out hb1)
      clear hb1 HFC d0
      by_cases h0 : fChk ff = 0
      rotate_left
      · have hne : (fChk ff == 0) = false := by simpa using h0
        have hne2 : decide (fChk ff = 0) = false := by simpa using h0
        generalize fChk ff = sc at *
        clear h0
        go_wp2
        go_roundw
        case rel => exact ⟨k + 1, by omega, by go_num, ⟨lst, by omega, HL2.out, HL3.out⟩, HBL.out⟩
        case measure => simp [intOf] <;> omega
      have HF0 := Lib.hid h0
      rw [h0]
      clear h0
      obtain ⟨BK, hBK⟩ : ∃ BK, BK = w1.heap.size := ⟨_, rfl⟩
      obtain ⟨w2, hw2⟩ : ∃ w2, w2 = w1.alloc (.cells #[.slice fa ff.length fc, .slice none 0 0, .slice none 0 0] 83) := ⟨_, rfl⟩
      have hbb : w.heap.size ≤ BK := by rw [hBK]; exact HBL.out.size
      have hb2 : Below w1.heap.size w1 w2 := by rw [hw2]; exact bal _
      have HB2 := Lib.hid (show w2.heap[BK]? = some (Obj.cells #[.slice fa ff.length fc, .slice none 0 0, .slice none 0 0] 83 (0, 0)) by rw [hw2]; exact alloc_new _ _ _ _ hBK)
      have HLOW := Lib.hid (show ∀ g, Value.ownBlock _ = some g → g < BK by
        intro g hg
        obtain ⟨css, -, hp2⟩ := HL3.out
        rw [hBK]; exact (hp2.lt g hg).2)
      replace HL3 := Lib.hid (HL3.out.below hb2)
      replace HBL := Lib.hid (bstep HBL.out hb2)
      clear hb2
      by_cases hka : k < als.length
      · rcases HVL2.out with hnil | ⟨b2, off2, rfl, hb22, hc2⟩
        · rw [hnil] at hka; simp at hka
        obtain ⟨c2, ⟨al, rfl, hal⟩, hcc2⟩ := hc2 k hka
        have d1 : w2.cell? ⟨b2, off2 + k, none⟩ = some al := (HBL.out.cell (p := ⟨b2, off2 + k, none⟩) hb22).trans (by have := hcc2 0 al rfl; simpa [vecsE] using this)
        have HSC := Lib.hid (set_c _ als[k] w2 (hal.below HBL.out))
        obtain ⟨aa, ac, rfl⟩ := hal.shape
        have hkab : decide ((k : Int) < (als.length : Int)) = true := by simp; omega
        have HKC := Lib.hid (chk_small (setP_sm als[k]))
        clear hc2 hcc2 hal
        generalize als[k] = al at *
        rw [hw2] at d1
        go_wp2_with fail
        rw [← hw2]
        (with_reducible refine (HSC.out).mono ?_)
        rintro e w3 ⟨u, x, rfl, hko, hb3⟩
        have hB3 := below_keep hb3 HB2.out
        have HK3 := Lib.hid (hko.mono HBL.out.size)
        replace HL3 := Lib.hid (HL3.out.below hb3)
        replace HBL := Lib.hid (bstep HBL.out hb3)
        obtain ⟨ua, uc, hu⟩ := owns_slice hko.vec
        obtain ⟨xa, xc, hx⟩ := owns_slice hko.more
        subst hu hx
        generalize formK (setP al) = kk at *
        rw [← hBK]
        have HB4 := Lib.hid (show ((w3.setCell ⟨BK, 1, none⟩ (.slice ua kk.vec.length uc)).setCell ⟨BK, 2, none⟩ (.slice xa kk.more.length xc)).heap[BK]? = some (Obj.cells #[.slice fa ff.length fc, .slice ua kk.vec.length uc, .slice xa kk.more.length xc] 83 (0, 0)) by rw [heap_set_same (heap_set_same hB3)]; rfl)
        have HKO := Lib.hid (show KnOwn ((w3.setCell ⟨BK, 1, none⟩ (.slice ua kk.vec.length uc)).setCell ⟨BK, 2, none⟩ (.slice xa kk.more.length xc)) w.heap.size (.slice ua kk.vec.length uc) (.slice xa kk.more.length xc) kk from ⟨own_set (own_set HK3.out.vec hB3 (by decide)) (heap_set_same hB3) (by decide), own_set (own_set HK3.out.more hB3 (by decide)) (heap_set_same hB3) (by decide)⟩)
        have HPM := Lib.hid (show PMO W0 w.heap.size ((w3.setCell ⟨BK, 1, none⟩ (.slice ua kk.vec.length uc)).setCell ⟨BK, 2, none⟩ (.slice xa kk.more.length xc)) _ lst from (HL3.out.set hB3 (fun e => by have := HLOW.out _ e; omega)).set (heap_set_same hB3) (fun e => by have := HLOW.out _ e; omega))
        replace HBL := Lib.hid ((HBL.out.setCell (p := ⟨BK, 1, none⟩) hbb (.slice ua kk.vec.length uc)).setCell (p := ⟨BK, 2, none⟩) hbb (.slice xa kk.more.length xc))
        have r1 := cell_of_block (j := 1) hB3 rfl
        have r2 := cell_of_block (j := 2) hB3 rfl
        have f1 := free_of_block (j := 1) hB3
        have f2 := free_of_block (j := 2) hB3
        have hBl3 := hlt_of hB3
        clear hB3 hko hb3 HSC HL3 HLOW hw2 hBK HB2 HK3 d1
        obtain ⟨css, hp1, hp2⟩ := HPM.out
        obtain ⟨oa, oc, hoo⟩ := owns_slice hp2
        subst hoo
        have e0 := cell_of_block (j := 0) HB4.out rfl
        have e1 := cell_of_block (j := 1) HB4.out rfl
        have e2 := cell_of_block (j := 2) HB4.out rfl
        have hBl := hlt_of HB4.out
        have hbx := bal (W := ((w3.setCell ⟨BK, 1, none⟩ (.slice ua kk.vec.length uc)).setCell ⟨BK, 2, none⟩ (.slice xa kk.more.length xc))) (.cells #[.slice fa ff.length fc, .slice ua kk.vec.length uc, .slice xa kk.more.length xc] 83)
        have HP1 := Lib.hid (hp1.map fun _ _ _ h => h.below hbx)
        have HP2 := Lib.hid (show (((w3.setCell ⟨BK, 1, none⟩ (.slice ua kk.vec.length uc)).setCell ⟨BK, 2, none⟩ (.slice xa kk.more.length xc)).alloc (.cells #[.slice fa ff.length fc, .slice ua kk.vec.length uc, .slice xa kk.more.length xc] 83)).ownsRow w.heap.size 83 3 (.slice oa lst.length oc) lst.length css.flatten from hp2.alloc _)
        have HK4 := Lib.hid (HKO.out.below hbx)
        have HC := Lib.hid (CellsAt.mk (w := ((w3.setCell ⟨BK, 1, none⟩ (.slice ua kk.vec.length uc)).setCell ⟨BK, 2, none⟩ (.slice xa kk.more.length xc)).alloc (.cells #[.slice fa ff.length fc, .slice ua kk.vec.length uc, .slice xa kk.more.length xc] 83)) (b := ((w3.setCell ⟨BK, 1, none⟩ (.slice ua kk.vec.length uc)).setCell ⟨BK, 2, none⟩ (.slice xa kk.more.length xc)).heap.size) (off := 0) (n := 1) (cap := 1) (xs := [.slice fa ff.length fc, .slice ua kk.vec.length uc, .slice xa kk.more.length xc]) (Nat.le_refl _) (by decide) (by simp) (fun j x hj => by
          rw [Nat.zero_add, World.cell?_alloc_at _ _ _ _ rfl]; simpa using hj))
        have HB5 := Lib.hid (bstep HBL.out hbx)
        have hsz := HB5.out.size
        clear hp1 hp2 hbx HPM HKO HB4
        simp only [World.size_setCell] at *
        go_wp2_with (at_builtin; refine wpList_append_cells2 rfl (.tmp 35) (.tmp 37) 62 rfl w.heap.size 83 _ 3 72 Try.underlying62 PartTy.info rfl (by decide) _ lst.length _ rfl HP2.out _ 1 _ rfl HC.out rfl (by intro z hz; simp only [List.mem_cons, List.not_mem_nil, or_false] at hz; rcases hz with rfl | rfl | rfl <;> rfl) hsz (by unfold maxLen; omega) (by omega) ?_)
        intro v' w9 ho hgr
        obtain ⟨qa, qc, hq⟩ := owns_slice ho
        subst hq
        have HR := Lib.hid (PMO.push (p := ⟨ff, kk⟩) HP1.out HP2.out HFW.out HK4.out ho hgr)
        have HBE := Lib.hid (HB5.out.grown hgr hsz fun k hk => (HP2.out.lt k hk).1)
        have HOK := Lib.hid (show ∀ z ∈ lst ++ [(⟨ff, kk⟩ : Pt)], PtOk z from fun z hz => by
          rcases List.mem_append.1 hz with hz | hz
          · exact HL2.out z hz
          · rw [List.mem_singleton] at hz; rw [hz]; exact ⟨HF0.out, HKC.out⟩)
        clear ho hgr e0 e1 e2
        go_wp2
        go_roundw
        case rel => exact ⟨k + 1, by omega, by go_num, ⟨lst ++ [⟨ff, kk⟩], by rw [List.length_append]; simp; omega, HOK.out, HR.out⟩, HBE.out⟩
        case measure => simp [intOf] <;> omega
      · have hkab : decide ((k : Int) < (als.length : Int)) = false := by simp; omega
        have HB4 := HB2
        have HPM := HL3
        have HKO := Lib.hid (nilKn w2 w.heap.size)
        have HKC := Lib.hid (show knChk ⟨[], []⟩ = 0 by decide)
        subst hw2
        subst hBK
        clear HL3 HB2 HLOW
        obtain ⟨css, hp1, hp2⟩ := HPM.out
        obtain ⟨oa, oc, hoo⟩ := owns_slice hp2
        subst hoo
        have e0 := cell_of_block (j := 0) HB4.out rfl
        have e1 := cell_of_block (j := 1) HB4.out rfl
        have e2 := cell_of_block (j := 2) HB4.out rfl
        have hBl := hlt_of HB4.out
        have hbx := bal (W := (w1.alloc (.cells #[.slice fa ff.length fc, .slice none 0 0, .slice none 0 0] 83))) (.cells #[.slice fa ff.length fc, .slice none 0 0, .slice none 0 0] 83)
        have HP1 := Lib.hid (hp1.map fun _ _ _ h => h.below hbx)
        have HP2 := Lib.hid (show ((w1.alloc (.cells #[.slice fa ff.length fc, .slice none 0 0, .slice none 0 0] 83)).alloc (.cells #[.slice fa ff.length fc, .slice none 0 0, .slice none 0 0] 83)).ownsRow w.heap.size 83 3 (.slice oa lst.length oc) lst.length css.flatten from hp2.alloc _)
        have HK4 := Lib.hid (HKO.out.below hbx)
        have HC := Lib.hid (CellsAt.mk (w := (w1.alloc (.cells #[.slice fa ff.length fc, .slice none 0 0, .slice none 0 0] 83)).alloc (.cells #[.slice fa ff.length fc, .slice none 0 0, .slice none 0 0] 83)) (b := (w1.alloc (.cells #[.slice fa ff.length fc, .slice none 0 0, .slice none 0 0] 83)).heap.size) (off := 0) (n := 1) (cap := 1) (xs := [.slice fa ff.length fc, .slice none 0 0, .slice none 0 0]) (Nat.le_refl _) (by decide) (by simp) (fun j x hj => by
          rw [Nat.zero_add, World.cell?_alloc_at _ _ _ _ rfl]; simpa using hj))
        have HB5 := Lib.hid (bstep HBL.out hbx)
        have hsz := HB5.out.size
        clear hp1 hp2 hbx HPM HKO HB4
        simp only [World.size_alloc] at HC
        go_wp2_with (at_builtin; refine wpList_append_cells2 rfl (.tmp 35) (.tmp 37) 62 rfl w.heap.size 83 _ 3 72 Try.underlying62 PartTy.info rfl (by decide) _ lst.length _ rfl HP2.out _ 1 _ rfl HC.out rfl (by intro z hz; simp only [List.mem_cons, List.not_mem_nil, or_false] at hz; rcases hz with rfl | rfl | rfl <;> rfl) hsz (by unfold maxLen; omega) (by omega) ?_)
        intro v' w9 ho hgr
        obtain ⟨qa, qc, hq⟩ := owns_slice ho
        subst hq
        have HR := Lib.hid (PMO.push (p := ⟨ff, ⟨[], []⟩⟩) HP1.out HP2.out HFW.out HK4.out ho hgr)
        have HBE := Lib.hid (HB5.out.grown hgr hsz fun k hk => (HP2.out.lt k hk).1)
        have HOK := Lib.hid (show ∀ z ∈ lst ++ [(⟨ff, ⟨[], []⟩⟩ : Pt)], PtOk z from fun z hz => by
          rcases List.mem_append.1 hz with hz | hz
          · exact HL2.out z hz
          · rw [List.mem_singleton] at hz; rw [hz]; exact ⟨HF0.out, HKC.out⟩)
        clear ho hgr e0 e1 e2
        go_wp2
        go_roundw
        case rel => exact ⟨k + 1, by omega, by go_num, ⟨lst ++ [⟨ff, ⟨[], []⟩⟩], by rw [List.length_append]; simp; omega, HOK.out, HR.out⟩, HBE.out⟩
        case measure => simp [intOf] <;> omega
    · obtain rfl : k = N := by omega
      obtain ⟨css, hp1, hp2⟩ := HL3.out
      obtain ⟨oa, oc, hoo⟩ := owns_slice hp2
      subst hoo
      have HRES := Lib.hid (show PMO W0 w.heap.size wr (.slice oa lst.length oc) lst from ⟨css, hp1, hp2⟩)
      clear hp1 hp2 HL3
      go_wp2
      go_ret
      exact ⟨lst, oa, oc, rfl, HRES.out, HL2.out, by omega, HBL.out⟩
end Go.Proofs.Ythnkmjjldggecaa
