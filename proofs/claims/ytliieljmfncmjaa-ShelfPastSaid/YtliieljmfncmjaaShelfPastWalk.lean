/- What ShelfPast does: it returns true. Written by a small program (gen/shelf_past.py). -/
import Derived.Test.YtliieljmfncmjaaShelfLaw4
namespace Go.Proofs.Ytliieljmfncmjaa
open Go.RowKit
theorem str_cell3' {w : World} {g i : Nat} (h : w.heap[g]? = some (Obj.cells #[.string ⟨#[97]⟩, .string ⟨#[98]⟩, .string ⟨#[99]⟩] 9 (0, 0))) (hi : i < 3) : w.cell? ⟨g, i, none⟩ = some (.string (sid3 i)) := by
  refine cell_of_block h ?_
  match i, hi with
  | 0, _ => rfl
  | 1, _ => rfl
  | 2, _ => rfl
def TupE (w : World) (v : Value) (l : List Ver) : Prop := ∃ a n c, v = .tuple #[.slice a n c, .int .i64 0] ∧ VOwn w 0 (.slice a n c) l
theorem TupE.below {w w' : World} {v : Value} {l : List Ver} (h : TupE w v l) (hb : Below w.heap.size w w') : TupE w' v l := by
  obtain ⟨a, n, c, h1, h2⟩ := h; exact ⟨a, n, c, h1, h2.below hb⟩
set_option maxRecDepth 100000 in
set_option maxHeartbeats 2000000 in
theorem past1_p (B : Nat) (v : Ver) (y z : Value) (w : World) (hB : w.heap[B]? = some (Obj.cells (verC v y z) 57 (0, 0))) (hk : KnAt w y z v.past) :
    PredV VerOk 43 #[.pointer (some ⟨B, 0, none⟩)] (fun x => sameVB v x) w := by
  refine ⟨enters_of Try.func43 (by kernel_rfl) rfl, fun a u x W hok hbl ha => ?_⟩
  show Calls Try.prog 43 #[.agg (verC a u x), .pointer (some ⟨B, 0, none⟩)] W _
  have HB := Lib.hid (below_keep hbl hB)
  have HK := Lib.hid (hk.below hbl)
  clear hbl hB hk
  obtain ⟨xa, ca, rfl⟩ := ha.vec.shape
  obtain ⟨ya, da, rfl⟩ := ha.more.shape
  obtain ⟨xb, cb, hxb⟩ := HK.out.vec.shape
  obtain ⟨yb, db, hyb⟩ := HK.out.more.shape
  subst hxb hyb
  have hbel := bal (W := W) (.cells (verC a (.slice xa a.past.vec.length ca) (.slice ya a.past.more.length da)) 57)
  have HA := Lib.hid (ha.below hbel)
  have HK2 := Lib.hid (HK.out.below hbel)
  have HO := Lib.hid (sameV_c v a _ _ _ _ _ HK2.out HA.out)
  have hB2 := below_keep hbel HB.out
  have c0 := cell_of_block (j := 0) hB2 rfl
  have c1 := cell_of_block (j := 1) hB2 rfl
  have c2 := cell_of_block (j := 2) hB2 rfl
  have c3 := cell_of_block (j := 3) hB2 rfl
  have c4 := cell_of_block (j := 4) hB2 rfl
  have c5 := cell_of_block (j := 5) hB2 rfl
  have c6 := cell_of_block (j := 6) hB2 rfl
  have c7 := cell_of_block (j := 7) hB2 rfl
  clear ha hB2 HB HK
  unfold verC at *
  go_enter Try.func43, Try.ntmps43
  go_wp2_with fail
  (with_reducible refine (HO.out).mono ?_)
  rintro e w1 ⟨rfl, hb1⟩
  replace hbel := bstep hbel hb1
  clear hb1 c0 c1 c2 c3 c4 c5 c6 c7 HO
  go_wp2
  go_ret
  exact ⟨rfl, hbel⟩
set_option maxRecDepth 100000 in
set_option maxHeartbeats 8000000 in
theorem ShelfPast_walk (lv : Value) (l : List (List Int)) (sx : ByteArray) (n : Int) (w : World) (hl : RowAt vecE w lv l) :
    Calls Try.prog 8 #[lv, .string sx, .int .i64 n] w fun e w' => e = .returned (.bool true) ∧ Below w.heap.size w w' := by
  have HL := Lib.hid hl
  obtain ⟨l1, l2, rfl⟩ := hl.shape
  clear hl
  go_enter Try.func8, Try.ntmps8
  go_wp2_with fail
  (with_reducible refine (shelfBegun_c _).mono ?_)
  rintro e w1 ⟨rfl, hb1⟩
  replace HL := Lib.hid (HL.out.below hb1)
  have HB := Lib.hid hb1
  clear hb1
  have HTD := Lib.hid (vtold_c _ l _ HL.out)
  go_wp2_with fail
  (with_reducible refine (HTD.out).mono ?_)
  rintro e w2 ⟨ov, U, rfl, hU, hU20, ho, hb1⟩
  replace HB := Lib.hid (bstep HB.out hb1)
  have HUN := Lib.hid (hU.uni (by omega))
  have HV := Lib.hid (ho.at_ (shok_bd hU.ok) (by omega))
  obtain ⟨a, cap, rfl⟩ := HV.out.shape
  have hX0 := laid_shok HUN.out (fun _ h => h : ∀ x ∈ U, x ∈ U)
  have hXS := laid_sub HUN.out (fun _ h => h : ∀ x ∈ U, x ∈ U)
  have HX0 := Lib.hid hX0
  have hxl : (laidL U).length ≤ 20 := Nat.le_trans (laid_len HUN.out) hU20
  have HXL := Lib.hid hxl
  have HG := Lib.hid (get_ok hU hU20 hXS hX0)
  have HOV := Lib.hid (fun (i : ByteArray) (hid : idOk i = true) (bd : Int) (hb : 0 ≤ bd ∧ bd ≤ 1000000) => over_ok hU hU20 hXS hX0 hxl hid hb)
  have HLC := Lib.hid (laid_c _ U _ HV.out (laid_ok HUN.out U fun _ h => h))
  clear hU ho hb1 HL HTD hX0 hXS hxl
  go_wp2_with fail
  (with_reducible refine (HLC.out).mono ?_)
  rintro e w3 ⟨ox, rfl, ho, hb1⟩
  replace HB := Lib.hid (bstep HB.out hb1)
  have HX := Lib.hid (ho.at_ (shok_bd HX0.out.ok) (by have := HX0.out.len; omega))
  obtain ⟨xa, xc, rfl⟩ := HX.out.shape
  clear hb1 HLC ho HV HUN
  generalize laidL U = X at *
  obtain ⟨i3, hi3⟩ : ∃ i3, i3 = wiN (sx.size : Int) 3 := ⟨_, rfl⟩
  have Li3 : i3 < 3 := by rw [hi3]; exact wiN_lt _ 3 (by decide)
  have HW3 := Lib.hid (fun w2 => (show Calls Try.prog 22 #[.int .i64 (sx.size : Int), .int .i64 3] w2 fun e w' => e = .returned (.int .i64 ((i3 : Nat) : Int)) ∧ Below w2.heap.size w2 w' by rw [hi3]; exact wiN_c (sx.size : Int) 3 w2 (by decide) (by decide)))
  have hbx := bal (W := w3) (.cells #[.string ⟨#[97]⟩, .string ⟨#[98]⟩, .string ⟨#[99]⟩] 9)
  have hnb := alloc_new w3 #[.string ⟨#[97]⟩, .string ⟨#[98]⟩, .string ⟨#[99]⟩] 9 _ rfl
  have HBX := Lib.hid hbx
  have HNB := Lib.hid hnb
  clear hi3 hbx hnb
  go_wp2_with fail
  (with_reducible refine (HW3.out _).mono ?_)
  rintro e w4 ⟨rfl, hb1⟩
  have hst := str_cell3' (below_keep hb1 HNB.out) Li3
  have hbb := bstep HBX.out hb1
  replace HB := Lib.hid (bstep HB.out hbb)
  replace HX := Lib.hid (HX.out.below hbb)
  clear hb1 hbb HW3 HBX HNB
  have hib : decide ((i3 : Int) < 3) = true := by simp; omega
  have hgk := HG.out (sid3 i3)
  have HID := Lib.hid (sid3_ok i3)
  generalize sid3 i3 = s3 at *
  have HPS := Lib.hid (past_c _ X s3 w4 HX.out)
  rw [hgk.pe] at HPS
  have HKO := Lib.hid hgk.ko
  have HKL := Lib.hid hgk.kl
  have HOV2 := Lib.hid (fun (bd : Int) (hb : 0 ≤ bd ∧ bd ≤ 1000000) => HOV.out s3 HID.out bd hb)
  clear hgk HG HOV
  generalize pastF X s3 = K at *
  go_wp2_with fail
  (with_reducible refine (HPS.out).mono ?_)
  rintro e w5 ⟨ku, kx, rfl, hk5, hb1⟩
  clear hst hib
  replace HB := Lib.hid (bstep HB.out hb1)
  replace HX := Lib.hid (HX.out.below hb1)
  have hka := (hk5.resolve_right fun h => h.1 rfl).2.at_ HKO.out.len (by have := HKL.out; omega)
  obtain ⟨ua, uc, rfl⟩ := hka.vec.shape
  obtain ⟨ya, yc, rfl⟩ := hka.more.shape
  obtain ⟨BK, hBK⟩ : ∃ BK, BK = w5.heap.size := ⟨_, rfl⟩
  obtain ⟨BD, hBD⟩ : ∃ BD, BD = w5.heap.size + 1 := ⟨_, rfl⟩
  obtain ⟨w6, hw6⟩ : ∃ w6, w6 = (w5.alloc (.cells #[.slice ua K.vec.length uc, .slice ya K.more.length yc] 55)).alloc (.cells #[.int .i64 0, .int .i64 900] 49) := ⟨_, rfl⟩
  have hb6 : Below w5.heap.size w5 w6 := by rw [hw6]; exact (bal _).alloc (by simp) _
  replace HB := Lib.hid (bstep HB.out hb6)
  replace HX := Lib.hid (HX.out.below hb6)
  have HK := Lib.hid (hka.below hb6)
  have hKK : w6.heap[BK]? = some (Obj.cells #[.slice ua K.vec.length uc, .slice ya K.more.length yc] 55 (0, 0)) := by rw [hw6]; exact alloc_keep _ (alloc_new _ _ _ _ hBK)
  have hKD : w6.heap[BD]? = some (Obj.cells #[.int .i64 0, .int .i64 900] 49 (0, 0)) := by rw [hw6]; exact alloc_new _ _ _ _ (by rw [hBD]; simp)
  have KD := Lib.hid hKD
  have K0 := Lib.hid (cell_of_block (j := 0) hKK rfl)
  have K1 := Lib.hid (cell_of_block (j := 1) hKK rfl)
  have D0 := Lib.hid (cell_of_block (j := 0) hKD rfl)
  have D1 := Lib.hid (cell_of_block (j := 1) hKD rfl)
  obtain ⟨bd, hbd⟩ : ∃ bd, bd = wiN n 1000 := ⟨_, rfl⟩
  have Lbd : bd < 1000 := by rw [hbd]; exact wiN_lt _ 1000 (by decide)
  have HWB := Lib.hid (fun w2 => (show Calls Try.prog 22 #[.int .i64 n, .int .i64 1000] w2 fun e w' => e = .returned (.int .i64 ((bd : Nat) : Int)) ∧ Below w2.heap.size w2 w' by rw [hbd]; exact wiN_c n 1000 w2 (by decide) (by decide)))
  obtain ⟨hfv, hov⟩ := HOV2.out (bd : Nat) ⟨by omega, by omega⟩
  have HFV := Lib.hid hfv
  have HPT := Lib.hid (fun w2 (hx : RowAt verE w2 (.slice xa X.length xc) X) (hk : KnAt w2 (.slice ua K.vec.length uc) (.slice ya K.more.length yc) K) => put_c (.slice xa X.length xc) X (farV s3 0 (bd : Nat) K) (.slice ua K.vec.length uc) (.slice ya K.more.length yc) w2 hx hk)
  rw [hov.pe, hov.pr] at HPT
  have HOVR := Lib.hid hov
  clear hb1 HPS hk5 hka hb6 hKK hKD HOV2 hfv hov hbd
  generalize putL X (farV s3 0 (bd : Nat) K) = Y at *
  unfold verC farV at HPT
  go_wp2_with fail
  rw [← hBD, ← hBK]
  rw [← hw6]
  clear hBK hBD hw6
  refine Cl.region0 92 rfl [] (fun _ => True) (fun _ => []) (fun jq v ww => match jq with | 0 => v = .slice xa X.length xc | 1 => v = .string s3 | 2 => v = .agg #[.int .i64 0, .int .i64 900] | 3 => v = .int .i64 n | 4 => v = .int .i64 (bd : Nat) | 5 => v = .agg #[.slice ua K.vec.length uc, .slice ya K.more.length yc] | 6 => v = .agg #[.string s3, .int .i64 0, .int .i64 900, .int .i64 0, .int .i64 0, .int .i64 (bd : Nat), .slice ua K.vec.length uc, .slice ya K.more.length yc] | 7 => TupE ww v Y | 8 => TupE ww v Y | 9 => VOwn ww 0 v Y | 10 => v = .int .i64 0 | 11 => VOwn ww 0 v Y | 12 => v = .int .i64 0 | _ => True) (fun ww => Below w6.heap.size w6 ww) (fun jq ww ww' => Below ww.heap.size ww ww') Try.mixed (by decide +kernel) (Below.refl _ _).drew trivial ?_ (fun _ _ _ _ _ _ => trivial) ?_ ?_
  · intro q r v w w' hne hk hlt h hR
    match r, hk, hlt, h, hne with
    | 0, _, _, h, _ => exact h
    | 1, _, _, h, _ => exact h
    | 2, _, _, h, _ => exact h
    | 3, _, _, h, _ => exact h
    | 4, _, _, h, _ => exact h
    | 5, _, _, h, _ => exact h
    | 6, _, _, h, _ => exact h
    | 7, _, _, h, _ => exact TupE.below h hR
    | 8, _, _, h, _ => exact TupE.below h hR
    | 9, _, _, h, _ => exact VOwn.below h hR
    | 10, _, _, h, _ => exact h
    | 11, _, _, h, _ => exact VOwn.below h hR
    | 12, _, _, h, _ => exact h
    | _ + 13, _, _, _, _ => trivial
  · refine ⟨?_, ?_, ?_, ?_, ?_, ?_, ?_, ?_, ?_, ?_, ?_, ?_, ?_, trivial⟩
    · intro x wx hG
      have f7 := hG.old 7 (by decide +kernel)
      have hg := hG.good
      clear hG
      go_wp2
      exact ⟨_, rfl, rfl, hg, Below.refl _ _⟩
    · intro x wx hG
      have f1 := hG.old 1 (by decide +kernel)
      have hg := hG.good
      clear hG
      go_wp2
      exact ⟨_, rfl, rfl, hg, Below.refl _ _⟩
    · intro x wx hG
      have f11 := hG.old 11 (by decide +kernel)
      have hg := hG.good
      clear hG
      have c_D0 := ckeep hg D0.out
      have c_D1 := ckeep hg D1.out
      go_wp2
      exact ⟨_, rfl, rfl, hg, Below.refl _ _⟩
    · intro x wx hG
      have f2 := hG.old 2 (by decide +kernel)
      have hg := hG.good
      clear hG
      go_wp2
      exact ⟨_, rfl, rfl, hg, Below.refl _ _⟩
    · intro x wx hG
      have g3 : (x.tmps.getD 45 undef) = .int .i64 n := hG.claims 3 _ rfl (by decide +kernel) (by decide +kernel)
      have hg := hG.good
      clear hG
      go_wp2_with fail
      (with_reducible refine (HWB.out _).mono ?_)
      rintro e wq ⟨rfl, hb⟩
      go_wp2
      exact ⟨_, rfl, rfl, bstep hg hb, hb⟩
    · intro x wx hG
      have f9 := hG.old 9 (by decide +kernel)
      have hg := hG.good
      clear hG
      have c_K0 := ckeep hg K0.out
      have c_K1 := ckeep hg K1.out
      go_wp2
      exact ⟨_, rfl, rfl, hg, Below.refl _ _⟩
    · intro x wx hG
      have g1 : (x.tmps.getD 43 undef) = .string s3 := hG.claims 1 _ rfl (by decide +kernel) (by decide +kernel)
      have g1b := g1
      rw [Array.getD_eq_getD_getElem?] at g1b
      have g2 : (x.tmps.getD 44 undef) = .agg #[.int .i64 0, .int .i64 900] := hG.claims 2 _ rfl (by decide +kernel) (by decide +kernel)
      have g2b := g2
      rw [Array.getD_eq_getD_getElem?] at g2b
      have g4 : (x.tmps.getD 46 undef) = .int .i64 (bd : Nat) := hG.claims 4 _ rfl (by decide +kernel) (by decide +kernel)
      have g4b := g4
      rw [Array.getD_eq_getD_getElem?] at g4b
      have g5 : (x.tmps.getD 47 undef) = .agg #[.slice ua K.vec.length uc, .slice ya K.more.length yc] := hG.claims 5 _ rfl (by decide +kernel) (by decide +kernel)
      have g5b := g5
      rw [Array.getD_eq_getD_getElem?] at g5b
      have hg := hG.good
      clear hG
      go_wp2
      exact ⟨_, rfl, rfl, hg, Below.refl _ _⟩
    · intro x wx hG
      have g0 : (x.tmps.getD 42 undef) = .slice xa X.length xc := hG.claims 0 _ rfl (by decide +kernel) (by decide +kernel)
      have g0b := g0
      rw [Array.getD_eq_getD_getElem?] at g0b
      have g6 : (x.tmps.getD 48 undef) = .agg #[.string s3, .int .i64 0, .int .i64 900, .int .i64 0, .int .i64 0, .int .i64 (bd : Nat), .slice ua K.vec.length uc, .slice ya K.more.length yc] := hG.claims 6 _ rfl (by decide +kernel) (by decide +kernel)
      have g6b := g6
      rw [Array.getD_eq_getD_getElem?] at g6b
      have hg := hG.good
      clear hG
      go_wp2_with fail
      (with_reducible refine (HPT.out _ (HX.out.below hg) (HK.out.below hg)).mono ?_)
      rintro e wq ⟨v9, rfl, h9, hb⟩
      obtain ⟨va, vc, rfl⟩ := h9.shape
      have H9 := Lib.hid (h9.mono (Nat.zero_le _))
      clear h9
      go_wp2
      exact ⟨_, rfl, ⟨_, _, _, rfl, H9.out⟩, bstep hg hb, hb⟩
    · intro x wx hG
      have g7 : TupE wx (x.tmps.getD 49 undef) Y := hG.claims 7 _ rfl (by decide +kernel) (by decide +kernel)
      have hg := hG.good
      clear hG
      obtain ⟨ta, tn, tc, hy1, hy2⟩ := g7
      have HYY := Lib.hid hy2
      clear hy2
      go_wp2
      exact ⟨_, rfl, ⟨_, _, _, rfl, HYY.out⟩, hg, Below.refl _ _⟩
    · intro x wx hG
      have g8 : TupE wx (x.tmps.getD 41 undef) Y := hG.claims 8 _ rfl (by decide +kernel) (by decide +kernel)
      have hg := hG.good
      clear hG
      obtain ⟨ta, tn, tc, hy1, hy2⟩ := g8
      have HYY := Lib.hid hy2
      clear hy2
      go_wp2
      exact ⟨_, rfl, HYY.out, hg, Below.refl _ _⟩
    · intro x wx hG
      have g8 : TupE wx (x.tmps.getD 41 undef) Y := hG.claims 8 _ rfl (by decide +kernel) (by decide +kernel)
      have hg := hG.good
      clear hG
      obtain ⟨ta, tn, tc, hy1, hy2⟩ := g8
      have HYY := Lib.hid hy2
      clear hy2
      go_wp2
      exact ⟨_, rfl, rfl, hg, Below.refl _ _⟩
    · intro x wx hG
      have g9 : VOwn wx 0 (x.tmps.getD 50 undef) Y := hG.claims 9 _ rfl (by decide +kernel) (by decide +kernel)
      have hg := hG.good
      clear hG
      obtain ⟨pa, pc, ps⟩ := g9.shape
      rw [ps] at g9
      have pb := ps
      rw [Array.getD_eq_getD_getElem?] at pb
      have pH := Lib.hid g9
      clear g9
      go_wp2
      exact ⟨_, rfl, pH.out, hg, Below.refl _ _⟩
    · intro x wx hG
      have g10 : (x.tmps.getD 51 undef) = .int .i64 0 := hG.claims 10 _ rfl (by decide +kernel) (by decide +kernel)
      have hg := hG.good
      clear hG
      go_wp2
      exact ⟨_, rfl, rfl, hg, Below.refl _ _⟩
  · intro vals w7 hg hF
    obtain ⟨g0, g1, g2, g3, g4, g5, g6, g7, g8, g9, g10, g11, g12, -⟩ := hF
    have e0 : vals 0 = .slice xa X.length xc := g0 rfl
    have e1 : vals 1 = .string s3 := g1 rfl
    have e2 : vals 2 = .agg #[.int .i64 0, .int .i64 900] := g2 rfl
    have e3 : vals 3 = .int .i64 n := g3 rfl
    have e4 : vals 4 = .int .i64 (bd : Nat) := g4 rfl
    have e5 : vals 5 = .agg #[.slice ua K.vec.length uc, .slice ya K.more.length yc] := g5 rfl
    have e6 : vals 6 = .agg #[.string s3, .int .i64 0, .int .i64 900, .int .i64 0, .int .i64 0, .int .i64 (bd : Nat), .slice ua K.vec.length uc, .slice ya K.more.length yc] := g6 rfl
    have e10 : vals 10 = .int .i64 0 := g10 rfl
    replace g11 : VOwn w7 0 (vals 11) Y := g11 rfl
    have e12 : vals 12 = .int .i64 0 := g12 rfl
    simp only [Cl.puts, e0, e1, e2, e3, e4, e5, e6, e10, e12]
    clear e0 e1 e2 e3 e4 e5 e6 e10 e12 g0 g1 g2 g3 g4 g5 g6 g7 g8 g9 g10 g12
    go_simp
    generalize vals 11 = y at *
    obtain ⟨ya2, yc2, hys⟩ := g11.shape
    subst hys
    replace HB := Lib.hid (bstep HB.out hg)
    replace HX := Lib.hid (HX.out.below hg)
    replace KD := Lib.hid (below_keep hg KD.out)
    have HY := Lib.hid (g11.at_ (shok_bd HOVR.out.ok.ok) (by have := HOVR.out.len; omega))
    clear hg g11 HPT HWB K0 K1 D0 D1 HK
    have HGT := Lib.hid (get_c _ Y s3 w7 HY.out)
    have hge := HOVR.out.ge
    have hgr := HOVR.out.gr
    simp only [farV] at hge hgr
    rw [hge, hgr] at HGT
    clear hge hgr
    go_wp2_with fail
    (with_reducible refine (HGT.out).mono ?_)
    rintro e w8 ⟨gv, rfl, ho, hb1⟩
    replace HB := Lib.hid (bstep HB.out hb1)
    replace HX := Lib.hid (HX.out.below hb1)
    replace HY := Lib.hid (HY.out.below hb1)
    replace KD := Lib.hid (below_keep hb1 KD.out)
    have hg1 := ho.at_ (fun v hv => by rw [List.mem_singleton] at hv; subst hv; exact shok_bd (l := [farV s3 0 (bd : Nat) K]) (fun v hv => by rw [List.mem_singleton] at hv; subst hv; exact HFV.out) _ (List.mem_singleton.2 rfl)) (by simp)
    obtain ⟨ga', gc, rfl, -, -, -, hgv⟩ := hg1.open_
    rcases hgv with hnil | ⟨gb, go, rfl, hb, hc⟩
    · simp at hnil
    obtain ⟨c, ⟨gu, gx, rfl, -⟩, hcc⟩ := hc 0 (by simp)
    have G1 := Lib.hid (show w8.cell? ⟨gb, go + 1, none⟩ = some (.int .i64 0) from by have h9 := row8 (b := gb) (off := go) (i := 0) hcc (j := 1) rfl; simpa using h9)
    have G2 := Lib.hid (show w8.cell? ⟨gb, go + 2, none⟩ = some (.int .i64 900) from by have h9 := row8 (b := gb) (off := go) (i := 0) hcc (j := 2) rfl; simpa using h9)
    have D0 := Lib.hid (cell_of_block (j := 0) KD.out rfl)
    have D1 := Lib.hid (cell_of_block (j := 1) KD.out rfl)
    clear hb1 HGT ho hg1 hc hcc hb
    go_wp2_with fail
    refine Cl.region0 92 rfl [] (fun _ => True) (fun _ => []) (fun jq v ww => match jq with | 0 => v = .int .i64 0 | 1 => v = .bool false | 2 => v = .bool false | 3 => v = .slice (some ⟨gb, go, none⟩) 1 gc | 4 => v = .int .i64 1 | 5 => v = .bool false | 6 => v = .bool false | 7 => v = .bool false | 8 => v = .slice (some ⟨gb, go, none⟩) 1 gc | 9 => v = .pointer (some ⟨gb, go, none⟩) | 10 => v = .pointer (some ⟨gb, go + 1, none⟩) | 11 => v = .agg #[.int .i64 0, .int .i64 900] | 12 => v = .agg #[.int .i64 0, .int .i64 900] | 13 => v = .bool false | 14 => v = .bool false | _ => True) (fun ww => Below w8.heap.size w8 ww) (fun jq ww ww' => Below ww.heap.size ww ww') Try.mixed (by decide +kernel) (Below.refl _ _).drew trivial (fun q r v w w' _ _ _ h _ => h) (fun _ _ _ _ _ _ => trivial) ?_ ?_
    · refine ⟨?_, ?_, ?_, ?_, ?_, ?_, ?_, ?_, ?_, ?_, ?_, ?_, ?_, ?_, ?_, trivial⟩
      · intro x wx hG
        have f10 := hG.old 10 (by decide +kernel)
        have hg := hG.good
        clear hG
        go_wp2
        exact ⟨_, rfl, rfl, hg, Below.refl _ _⟩
      · intro x wx hG
        have g0 : (x.tmps.getD 60 undef) = .int .i64 0 := hG.claims 0 _ rfl (by decide +kernel) (by decide +kernel)
        have hg := hG.good
        clear hG
        go_wp2
        exact ⟨_, rfl, rfl, hg, Below.refl _ _⟩
      · intro x wx hG
        have g1 : (x.tmps.getD 61 undef) = .bool false := hG.claims 1 _ rfl (by decide +kernel) (by decide +kernel)
        have hg := hG.good
        clear hG
        go_wp2
        exact ⟨_, rfl, rfl, hg, Below.refl _ _⟩
      · intro x wx hG
        have f13 := hG.old 13 (by decide +kernel)
        have gg : (x.tmps.getD 62 undef) = .bool false := hG.claims 2 _ rfl (by decide +kernel) (by decide +kernel)
        replace gg := Cl.opt (hG.size.trans (show _ = 92 from rfl)) (by decide) gg
        have hg := hG.good
        clear hG
        go_wp2
        exact ⟨_, rfl, rfl, hg, Below.refl _ _⟩
      · intro x wx hG
        have g3 : (x.tmps.getD 63 undef) = .slice (some ⟨gb, go, none⟩) 1 gc := hG.claims 3 _ rfl (by decide +kernel) (by decide +kernel)
        have gg : (x.tmps.getD 62 undef) = .bool false := hG.claims 2 _ rfl (by decide +kernel) (by decide +kernel)
        replace gg := Cl.opt (hG.size.trans (show _ = 92 from rfl)) (by decide) gg
        have hg := hG.good
        clear hG
        go_wp2
        exact ⟨_, rfl, rfl, hg, Below.refl _ _⟩
      · intro x wx hG
        have g4 : (x.tmps.getD 64 undef) = .int .i64 1 := hG.claims 4 _ rfl (by decide +kernel) (by decide +kernel)
        have gg : (x.tmps.getD 62 undef) = .bool false := hG.claims 2 _ rfl (by decide +kernel) (by decide +kernel)
        replace gg := Cl.opt (hG.size.trans (show _ = 92 from rfl)) (by decide) gg
        have hg := hG.good
        clear hG
        go_wp2
        exact ⟨_, rfl, rfl, hg, Below.refl _ _⟩
      · intro x wx hG
        have g2 : (x.tmps.getD 62 undef) = .bool false := hG.claims 2 _ rfl (by decide +kernel) (by decide +kernel)
        have g5 : (x.tmps.getD 65 undef) = .bool false := hG.claims 5 _ rfl (by decide +kernel) (by decide +kernel)
        have hg := hG.good
        clear hG
        go_wp2
        exact ⟨_, rfl, rfl, hg, Below.refl _ _⟩
      · intro x wx hG
        have g6 : (x.tmps.getD 66 undef) = .bool false := hG.claims 6 _ rfl (by decide +kernel) (by decide +kernel)
        have hg := hG.good
        clear hG
        go_wp2
        exact ⟨_, rfl, rfl, hg, Below.refl _ _⟩
      · intro x wx hG
        have f13 := hG.old 13 (by decide +kernel)
        have gg : (x.tmps.getD 67 undef) = .bool false := hG.claims 7 _ rfl (by decide +kernel) (by decide +kernel)
        replace gg := Cl.opt (hG.size.trans (show _ = 92 from rfl)) (by decide) gg
        have hg := hG.good
        clear hG
        go_wp2
        exact ⟨_, rfl, rfl, hg, Below.refl _ _⟩
      · intro x wx hG
        have g8 : (x.tmps.getD 68 undef) = .slice (some ⟨gb, go, none⟩) 1 gc := hG.claims 8 _ rfl (by decide +kernel) (by decide +kernel)
        have gg : (x.tmps.getD 67 undef) = .bool false := hG.claims 7 _ rfl (by decide +kernel) (by decide +kernel)
        replace gg := Cl.opt (hG.size.trans (show _ = 92 from rfl)) (by decide) gg
        have hg := hG.good
        clear hG
        go_wp2
        exact ⟨_, rfl, rfl, hg, Below.refl _ _⟩
      · intro x wx hG
        have g9 : (x.tmps.getD 69 undef) = .pointer (some ⟨gb, go, none⟩) := hG.claims 9 _ rfl (by decide +kernel) (by decide +kernel)
        have gg : (x.tmps.getD 67 undef) = .bool false := hG.claims 7 _ rfl (by decide +kernel) (by decide +kernel)
        replace gg := Cl.opt (hG.size.trans (show _ = 92 from rfl)) (by decide) gg
        have hg := hG.good
        clear hG
        go_wp2
        exact ⟨_, rfl, rfl, hg, Below.refl _ _⟩
      · intro x wx hG
        have g10 : (x.tmps.getD 70 undef) = .pointer (some ⟨gb, go + 1, none⟩) := hG.claims 10 _ rfl (by decide +kernel) (by decide +kernel)
        have gg : (x.tmps.getD 67 undef) = .bool false := hG.claims 7 _ rfl (by decide +kernel) (by decide +kernel)
        replace gg := Cl.opt (hG.size.trans (show _ = 92 from rfl)) (by decide) gg
        have hg := hG.good
        clear hG
        have c_G1 := ckeep hg G1.out
        have c_G2 := ckeep hg G2.out
        go_wp2
        exact ⟨_, rfl, rfl, hg, Below.refl _ _⟩
      · intro x wx hG
        have f11 := hG.old 11 (by decide +kernel)
        have gg : (x.tmps.getD 67 undef) = .bool false := hG.claims 7 _ rfl (by decide +kernel) (by decide +kernel)
        replace gg := Cl.opt (hG.size.trans (show _ = 92 from rfl)) (by decide) gg
        have hg := hG.good
        clear hG
        have c_D0 := ckeep hg D0.out
        have c_D1 := ckeep hg D1.out
        go_wp2
        exact ⟨_, rfl, rfl, hg, Below.refl _ _⟩
      · intro x wx hG
        have g11 : (x.tmps.getD 71 undef) = .agg #[.int .i64 0, .int .i64 900] := hG.claims 11 _ rfl (by decide +kernel) (by decide +kernel)
        have g11b := g11
        rw [Array.getD_eq_getD_getElem?] at g11b
        have g12 : (x.tmps.getD 72 undef) = .agg #[.int .i64 0, .int .i64 900] := hG.claims 12 _ rfl (by decide +kernel) (by decide +kernel)
        have g12b := g12
        rw [Array.getD_eq_getD_getElem?] at g12b
        have gg : (x.tmps.getD 67 undef) = .bool false := hG.claims 7 _ rfl (by decide +kernel) (by decide +kernel)
        replace gg := Cl.opt (hG.size.trans (show _ = 92 from rfl)) (by decide) gg
        have hg := hG.good
        clear hG
        go_wp2
        exact ⟨_, rfl, rfl, hg, Below.refl _ _⟩
      · intro x wx hG
        have g7 : (x.tmps.getD 67 undef) = .bool false := hG.claims 7 _ rfl (by decide +kernel) (by decide +kernel)
        have g13 : (x.tmps.getD 73 undef) = .bool false := hG.claims 13 _ rfl (by decide +kernel) (by decide +kernel)
        have hg := hG.good
        clear hG
        go_wp2
        exact ⟨_, rfl, rfl, hg, Below.refl _ _⟩
    · intro vals w9 hg hF
      obtain ⟨g0, g1, g2, g3, g4, g5, g6, g7, g8, g9, g10, g11, g12, g13, g14, -⟩ := hF
      have e0 : vals 0 = .int .i64 0 := g0 rfl
      have e1 : vals 1 = .bool false := g1 rfl
      have e2 : vals 2 = .bool false := g2 rfl
      have e3 : vals 3 = .slice (some ⟨gb, go, none⟩) 1 gc := g3 rfl
      have e4 : vals 4 = .int .i64 1 := g4 rfl
      have e5 : vals 5 = .bool false := g5 rfl
      have e6 : vals 6 = .bool false := g6 rfl
      have e7 : vals 7 = .bool false := g7 rfl
      have e8 : vals 8 = .slice (some ⟨gb, go, none⟩) 1 gc := g8 rfl
      have e9 : vals 9 = .pointer (some ⟨gb, go, none⟩) := g9 rfl
      have e10 : vals 10 = .pointer (some ⟨gb, go + 1, none⟩) := g10 rfl
      have e11 : vals 11 = .agg #[.int .i64 0, .int .i64 900] := g11 rfl
      have e12 : vals 12 = .agg #[.int .i64 0, .int .i64 900] := g12 rfl
      have e13 : vals 13 = .bool false := g13 rfl
      have e14 : vals 14 = .bool false := g14 rfl
      simp only [Cl.puts, e0, e1, e2, e3, e4, e5, e6, e7, e8, e9, e10, e11, e12, e13, e14]
      clear e0 e1 e2 e3 e4 e5 e6 e7 e8 e9 e10 e11 e12 e13 e14 g0 g1 g2 g3 g4 g5 g6 g7 g8 g9 g10 g11 g12 g13 g14
      go_simp
      replace HB := Lib.hid (bstep HB.out hg)
      replace HX := Lib.hid (HX.out.below hg)
      replace HY := Lib.hid (HY.out.below hg)
      clear hg G1 G2 D0 D1 KD
      obtain ⟨wo, hwo⟩ : ∃ wo, wo = w9 := ⟨_, rfl⟩
      rw [← hwo] at HB HX HY ⊢
      clear hwo w9
      go_wp2
      go_loopw [77] (fun i wr => ∃ k : Nat, k ≤ X.length ∧ i = .int .i64 k ∧ Below wo.heap.size wo wr) (fun i _ => X.length - (intOf i).toNat)
      case atStart => exact ⟨0, Nat.zero_le _, rfl, Below.refl _ _⟩
      case round =>
        obtain ⟨k, hk, rfl, hbl⟩ := hrel
        by_cases hlt : k < X.length
        · have HXr := Lib.hid (HX.out.below hbl)
          have HYr := Lib.hid (HY.out.below hbl)
          have HBr := Lib.hid hbl
          obtain ⟨a', cap', ha', -, -, -, hvl⟩ := HXr.out.open_
          simp only [Value.slice.injEq, true_and] at ha'
          obtain ⟨ha', rfl⟩ := ha'
          rcases hvl with hnil | ⟨b, off, rfl, hb, hc⟩
          · rw [hnil] at hlt; simp at hlt
          subst ha'
          obtain ⟨c, ⟨u, x, rfl, hk2⟩, hcc⟩ := hc k hlt
          obtain ⟨pa, pc, rfl⟩ := hk2.vec.shape
          obtain ⟨qa, qc, rfl⟩ := hk2.more.shape
          have hcl := fun (i : Nat) (y : Value) (hy : (verC X[k] (.slice pa X[k].past.vec.length pc) (.slice qa X[k].past.more.length qc)).toList[i]? = some y) => row8 (b := b) (off := off) (i := k) hcc hy
          have c0 := hcl 0 _ rfl
          have c1 := hcl 1 _ rfl
          have c2 := hcl 2 _ rfl
          have c3 := hcl 3 _ rfl
          have c4 := hcl 4 _ rfl
          have c5 := hcl 5 _ rfl
          have c6 := hcl 6 _ rfl
          have c7 := hcl 7 _ rfl
          rw [Nat.add_zero] at c0
          have HAS := Lib.hid (HOVR.out.has X[k] (List.getElem_mem hlt))
          clear hc hcc hcl hbl
          generalize X[k] = v1 at *
          have hbx := bal (W := wr) (.cells (verC v1 (.slice pa v1.past.vec.length pc) (.slice qa v1.past.more.length qc)) 57)
          have hnew := alloc_new wr (verC v1 (.slice pa v1.past.vec.length pc) (.slice qa v1.past.more.length qc)) 57 _ rfl
          have HP1 := Lib.hid (past1_p _ v1 _ _ _ hnew (hk2.below hbx))
          have HBX := Lib.hid hbx
          have HCA := Lib.hid (containsV_c VerOk _ Y 43 _ _ _ (HYr.out.below hbx) HOVR.out.ok.ok HP1.out)
          unfold verC at HCA HBX
          clear hk2 hbx hnew HP1
          have hx20 := HXL.out
          have hltb : decide ((k : Int) < (X.length : Int)) = true := by simp; omega
          by_cases hid : v1.id = s3
          · have hids : (v1.id.toList == s3.toList) = true := by rw [ids_eq]; simpa using hid
            have HBE := Lib.hid (bstep HBr.out HBX.out)
            clear HCA HBX HAS hid
            go_wp2
            go_roundw
            case rel => exact ⟨k + 1, by omega, by go_num, HBE.out⟩
            case measure => simp [intOf] <;> omega
          · have hids : (v1.id.toList == s3.toList) = false := by rw [ids_eq]; simpa using hid
            rw [HAS.out hid] at HCA
            go_wp2_with fail
            (with_reducible refine (HCA.out).mono ?_)
            rintro e w10 ⟨rfl, hb1⟩
            have HBE := Lib.hid (bstep (bstep HBr.out HBX.out) hb1)
            clear hb1 HCA HBX c0 c1 c2 c3 c4 c5 c6 c7 hb
            go_wp2
            go_roundw
            case rel => exact ⟨k + 1, by omega, by go_num, HBE.out⟩
            case measure => simp [intOf] <;> omega
        · obtain rfl : k = X.length := by omega
          have hfin := bstep HB.out hbl
          go_wp2
          go_ret
          exact ⟨rfl, hfin⟩
end Go.Proofs.Ytliieljmfncmjaa
