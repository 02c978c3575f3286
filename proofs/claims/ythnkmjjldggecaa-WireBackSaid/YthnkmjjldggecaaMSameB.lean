/- What the reference's SameBatch does with what is gone: its closure. What the reference's SameBatch does with what is gone: slices.EqualFunc. Written by a small program (gen/same.py). What the reference's SameFilter does: its closure. What the reference's SameFilter does. Written by a small program (gen/same.py). What the reference's SameBatch does with parts: its closure. What the reference's SameBatch does with parts: slices.EqualFunc. Written by a small program (gen/same.py). What the reference's SameBatch does: are two batches the same? -/
import Derived.Test.YthnkmjjldggecaaMShelf7
import Derived.Test.YthnkmjjldggecaaMWire6
namespace Go.Proofs.Ythnkmjjldggecaa
open Go.RowKit
def sameGB (a b : Gn) : Bool := decide (a.id = b.id) && decide (a.past = b.past)
theorem sameGB_iff (a b : Gn) : sameGB a b = true ↔ a = b := by
  obtain ⟨i, p⟩ := a
  obtain ⟨i', p'⟩ := b
  simp only [sameGB, Bool.and_eq_true, decide_eq_true_eq, Gn.mk.injEq]
set_option maxRecDepth 100000 in
set_option maxHeartbeats 2000000 in
theorem sameG_c (a b : Gn) (u x y z : Value) (w : World) (ha : KnAt w u x a.past) (hb : KnAt w y z b.past) :
    Calls Try.prog 97 #[.agg #[.string a.id, u, x], .agg #[.string b.id, y, z]] w fun e w' => e = .returned (.bool (sameGB a b)) ∧ Below w.heap.size w w' := by
  obtain ⟨xa, ca, rfl⟩ := ha.vec.shape
  obtain ⟨ya, da, rfl⟩ := ha.more.shape
  obtain ⟨xb, cb, rfl⟩ := hb.vec.shape
  obtain ⟨yb, db, rfl⟩ := hb.more.shape
  have HBL := Lib.hid (show Below w.heap.size w ((w.alloc (.cells #[.string a.id, .slice xa a.past.vec.length ca, .slice ya a.past.more.length da] 111)).alloc (.cells #[.string b.id, .slice xb b.past.vec.length cb, .slice yb b.past.more.length db] 111)) from (bal _).alloc (by simp) _)
  have HK := Lib.hid (sameK_c _ _ _ _ a.past b.past _ (ha.below HBL.out) (hb.below HBL.out))
  have hids := ids_eq a.id b.id
  have HO := Lib.hid (show sameGB a b = (decide (a.id = b.id) && decide (a.past = b.past)) from rfl)
  clear ha hb
  generalize h0 : decide (a.id = b.id) = q0 at *
  clear h0
  go_enter Try.func97, Try.ntmps97
  cases q0
  · clear HK
    go_wp2
    go_ret
    exact ⟨by rw [HO.out]; rfl, HBL.out⟩
  · go_wp2_with fail
    (with_reducible refine (HK.out).mono ?_)
    rintro e w1 ⟨rfl, hb1⟩
    have HB1 := Lib.hid (bstep HBL.out hb1)
    clear hb1 HK
    generalize decide (a.past = b.past) = q1 at *
    go_wp2
    go_ret
    exact ⟨by rw [HO.out]; simp, HB1.out⟩
end Go.Proofs.Ythnkmjjldggecaa
namespace Go.Proofs.Ythnkmjjldggecaa
open Go.RowKit
set_option maxRecDepth 100000 in
theorem eqGone_c_fn : ∀ args W, (callFunc 97 args).run Try.prog W = .ok (.enter 97 args) W := fun _ _ => by kernel_rfl
set_option maxRecDepth 100000 in
set_option maxHeartbeats 4000000 in
theorem eqGone_c (va vb : Value) (la lb : List Gn) (w : World) (ha : RowAt goneE w va la) (hb : RowAt goneE w vb lb) :
    Calls Try.prog 96 #[va, vb, .func (.func 97) #[] #[]] w fun e w' => ∃ b, e = .returned (.bool b) ∧ (b = true ↔ la = lb) ∧ Below w.heap.size w w' := by
  obtain ⟨a, ca, rfl, hca, hla, -, hal⟩ := ha.open_
  obtain ⟨b, cb, rfl, hcb, hlb, -, hbl0⟩ := hb.open_
  have HA := Lib.hid hal
  have HB := Lib.hid hbl0
  have hsf := eqGone_c_fn
  clear ha hb hal hbl0
  by_cases hlen : la.length = lb.length
  rotate_left
  · have H := Lib.hid (show ¬ la = lb from fun h => hlen (by rw [h]))
    have h' : ((la.length : Int) != (lb.length : Int)) = true := by simp [bne]; omega
    clear hlen
    go_enter Try.func96, Try.ntmps96
    go_wp2
    go_ret
    exact ⟨false, rfl, ⟨fun h => absurd h (by decide), fun h => absurd h H.out⟩, Below.refl _ _⟩
  have h' : ((la.length : Int) != (lb.length : Int)) = false := by simp [bne, hlen]
  have HL := Lib.hid hlen
  clear hlen
  go_enter Try.func96, Try.ntmps96
  go_wp2
  go_loopw [17] (fun i wr => ∃ k : Nat, k ≤ la.length ∧ i = .int .i64 k ∧ la.take k = lb.take k ∧ Below w.heap.size w wr) (fun i _ => la.length - (intOf i).toNat)
  case atStart => exact ⟨0, Nat.zero_le _, rfl, rfl, Below.refl _ _⟩
  case round =>
    obtain ⟨k, hk, rfl, htk, hbl⟩ := hrel
    have HT := Lib.hid htk
    have HBL := Lib.hid hbl
    clear htk hbl
    by_cases hlt : k < la.length
    · have hltb2 : k < lb.length := by have := HL.out; omega
      rcases HA.out with hnil | ⟨b1, off1, rfl, hb1, hc1⟩
      · rw [hnil] at hlt; simp at hlt
      rcases HB.out with hnil | ⟨b2, off2, rfl, hb2, hc2⟩
      · rw [hnil] at hltb2; simp at hltb2
      obtain ⟨c1, hE1, hcc1⟩ := hc1 k hlt
      obtain ⟨u1, x1, d10, d11, d12, hk1⟩ := gone_cells hb1 HBL.out hE1 hcc1
      obtain ⟨p1, q1, rfl⟩ := hk1.vec.shape
      obtain ⟨r1, s1, rfl⟩ := hk1.more.shape
      obtain ⟨c2, hE2, hcc2⟩ := hc2 k hltb2
      obtain ⟨u2, x2, d20, d21, d22, hk2⟩ := gone_cells hb2 HBL.out hE2 hcc2
      obtain ⟨p2, q2, rfl⟩ := hk2.vec.shape
      obtain ⟨r2, s2, rfl⟩ := hk2.more.shape
      have hbx := bal (W := wr) (.cells #[.string la[k].id, .slice p1 la[k].past.vec.length q1, .slice r1 la[k].past.more.length s1] 111)
      have hby := bal (W := wr.alloc (.cells #[.string la[k].id, .slice p1 la[k].past.vec.length q1, .slice r1 la[k].past.more.length s1] 111)) (.cells #[.string lb[k].id, .slice p2 lb[k].past.vec.length q2, .slice r2 lb[k].past.more.length s2] 111)
      have HSV := Lib.hid (sameG_c la[k] lb[k] _ _ _ _ _ ((hk1.below hbx).below hby) ((hk2.below hbx).below hby))
      have HXY := Lib.hid (bstep hbx hby)
      have HNE := Lib.hid (fun (h : sameGB la[k] lb[k] = false) (e : la = lb) => (show False by subst e; rw [(sameGB_iff _ _).2 rfl] at h; exact absurd h (by decide)))
      have HEQ := Lib.hid (fun (h : sameGB la[k] lb[k] = true) => (show la.take (k + 1) = lb.take (k + 1) by rw [List.take_succ_eq_append_getElem hlt, List.take_succ_eq_append_getElem hltb2, HT.out, (sameGB_iff _ _).1 h]))
      clear hc1 hc2 hbx hby hE1 hcc1 hE2 hcc2 hk1 hk2
      generalize la[k] = A at *
      generalize lb[k] = B at *
      have hltb : decide ((k : Int) < (la.length : Int)) = true := by simp; omega
      have hbw2 : b2 < wr.heap.size := Nat.lt_of_lt_of_le hb2 HBL.out.size
      go_wp2_with fail
      (with_reducible refine (HSV.out).mono ?_)
      rintro e w1 ⟨rfl, hb1⟩
      have hbl1 := bstep (bstep HBL.out HXY.out) hb1
      clear hb1 HSV d10 d11 d12 d20 d21 d22
      cases hs : sameGB A B
      · have HN := Lib.hid (HNE.out hs)
        clear hs
        go_wp2
        go_ret
        exact ⟨false, rfl, ⟨fun h => absurd h (by decide), fun h => (HN.out h).elim⟩, hbl1⟩
      · have HN := Lib.hid (HEQ.out hs)
        clear hs
        go_wp2
        go_roundw
        case rel => exact ⟨k + 1, by omega, by go_num, HN.out, hbl1⟩
        case measure => simp [intOf] <;> omega
    · obtain rfl : k = la.length := by omega
      have HE := Lib.hid (show la = lb by have h := HT.out; rw [List.take_length, HL.out, List.take_length] at h; exact h)
      have hbl := HBL.out
      go_wp2
      go_ret
      exact ⟨true, rfl, ⟨fun _ => HE.out, fun _ => rfl⟩, hbl⟩
end Go.Proofs.Ythnkmjjldggecaa
namespace Go.Proofs.Ythnkmjjldggecaa
open Go.RowKit
set_option maxRecDepth 100000 in
theorem eqCube (a b c d : Int) (w : World) : (Op.equalIn 10000 123 (.agg #[.int .i64 a, .int .i64 b]) (.agg #[.int .i64 c, .int .i64 d])).run Try.prog w = .ok (a == c && b == d) w := by
  have u3 := Try.underlying3
  have a3 := Try.isAgg3
  have z3 := Try.sizeOf3
  rw [show (10000 : Nat) = 9999 + 1 from rfl, run_equalIn_agg w 9999 123 _ _ (by kernel_rfl) (by kernel_rfl)]
  simp only [Program.fieldsOf, Try.underlying123]
  go_simp
  by_cases h1 : a = c <;> by_cases h2 : b = d <;> simp [h1, h2]
def sameBxB (a b : Bx) : Bool := (a.y == b.y && a.n == b.n) && (a.sp == b.sp)
theorem sameBxB_iff (a b : Bx) : sameBxB a b = true ↔ a = b := by
  obtain ⟨y, n, s⟩ := a
  obtain ⟨y', n', s'⟩ := b
  simp only [sameBxB, Bool.and_eq_true, beq_iff_eq, Bx.mk.injEq]
  constructor
  · rintro ⟨⟨h1, h2⟩, h3⟩; exact ⟨h1, h2, h3⟩
  · rintro ⟨h1, h2, h3⟩; exact ⟨⟨h1, h2⟩, h3⟩
set_option maxRecDepth 100000 in
set_option maxHeartbeats 2000000 in
theorem sameBx_c (a b : Bx) (u x : Value) (w : World) (ha : SpansAt w u a.sp) (hb : SpansAt w x b.sp) :
    Calls Try.prog 86 #[.agg #[.int .i64 a.y, .int .i64 a.n, u], .agg #[.int .i64 b.y, .int .i64 b.n, x]] w fun e w' => e = .returned (.bool (sameBxB a b)) ∧ Below w.heap.size w w' := by
  obtain ⟨xa, ca, rfl⟩ := CellsAt.shape ha
  obtain ⟨xb, cb, rfl⟩ := CellsAt.shape hb
  have HBL := Lib.hid (show Below w.heap.size w ((w.alloc (.cells #[.int .i64 a.y, .int .i64 a.n, .slice xa a.sp.length ca] 125)).alloc (.cells #[.int .i64 b.y, .int .i64 b.n, .slice xb b.sp.length cb] 125)) from (bal _).alloc (by simp) _)
  have HK := Lib.hid (eqSpans_c _ _ a.sp b.sp _ (CellsAt.below ha HBL.out) (CellsAt.below hb HBL.out))
  have heqs := eqCube
  have HO := Lib.hid (show sameBxB a b = ((a.y == b.y && a.n == b.n) && (a.sp == b.sp)) from rfl)
  clear ha hb
  generalize h0 : (a.y == b.y && a.n == b.n) = q0 at *
  go_enter Try.func86, Try.ntmps86
  cases q0
  · clear HK
    go_wp2
    go_ret
    exact ⟨by rw [HO.out]; rfl, HBL.out⟩
  · go_wp2_with fail
    (with_reducible refine (HK.out).mono ?_)
    rintro e w1 ⟨rfl, hb1⟩
    have HB1 := Lib.hid (bstep HBL.out hb1)
    clear hb1 HK
    generalize (a.sp == b.sp) = q1 at *
    go_wp2
    go_ret
    exact ⟨by rw [HO.out]; simp, HB1.out⟩
end Go.Proofs.Ythnkmjjldggecaa
namespace Go.Proofs.Ythnkmjjldggecaa
open Go.RowKit
set_option maxRecDepth 100000 in
theorem eqBox_c_fn : ∀ args W, (callFunc 86 args).run Try.prog W = .ok (.enter 86 args) W := fun _ _ => by kernel_rfl
set_option maxRecDepth 100000 in
set_option maxHeartbeats 4000000 in
theorem eqBox_c (va vb : Value) (la lb : List Bx) (w : World) (ha : BxsAt w va la) (hb : BxsAt w vb lb) :
    Calls Try.prog 85 #[va, vb, .func (.func 86) #[] #[]] w fun e w' => ∃ b, e = .returned (.bool b) ∧ (b = true ↔ la = lb) ∧ Below w.heap.size w w' := by
  obtain ⟨a, ca, rfl, hca, hla, -, hal⟩ := ha.open_
  obtain ⟨b, cb, rfl, hcb, hlb, -, hbl0⟩ := hb.open_
  have HA := Lib.hid hal
  have HB := Lib.hid hbl0
  have hsf := eqBox_c_fn
  clear ha hb hal hbl0
  by_cases hlen : la.length = lb.length
  rotate_left
  · have H := Lib.hid (show ¬ la = lb from fun h => hlen (by rw [h]))
    have h' : ((la.length : Int) != (lb.length : Int)) = true := by simp [bne]; omega
    clear hlen
    go_enter Try.func85, Try.ntmps85
    go_wp2
    go_ret
    exact ⟨false, rfl, ⟨fun h => absurd h (by decide), fun h => absurd h H.out⟩, Below.refl _ _⟩
  have h' : ((la.length : Int) != (lb.length : Int)) = false := by simp [bne, hlen]
  have HL := Lib.hid hlen
  clear hlen
  go_enter Try.func85, Try.ntmps85
  go_wp2
  go_loopw [17] (fun i wr => ∃ k : Nat, k ≤ la.length ∧ i = .int .i64 k ∧ la.take k = lb.take k ∧ Below w.heap.size w wr) (fun i _ => la.length - (intOf i).toNat)
  case atStart => exact ⟨0, Nat.zero_le _, rfl, rfl, Below.refl _ _⟩
  case round =>
    obtain ⟨k, hk, rfl, htk, hbl⟩ := hrel
    have HT := Lib.hid htk
    have HBL := Lib.hid hbl
    clear htk hbl
    by_cases hlt : k < la.length
    · have hltb2 : k < lb.length := by have := HL.out; omega
      rcases HA.out with hnil | ⟨b1, off1, rfl, hb1, hc1⟩
      · rw [hnil] at hlt; simp at hlt
      rcases HB.out with hnil | ⟨b2, off2, rfl, hb2, hc2⟩
      · rw [hnil] at hltb2; simp at hltb2
      obtain ⟨u1, e10, e11, e12, hsp1⟩ := hc1 k hlt
      have d10 := (HBL.out.cell (p := ⟨b1, off1 + k * 3, none⟩) hb1).trans e10
      have d11 := (HBL.out.cell (p := ⟨b1, off1 + k * 3 + 1, none⟩) hb1).trans e11
      have d12 := (HBL.out.cell (p := ⟨b1, off1 + k * 3 + 2, none⟩) hb1).trans e12
      have hs1 := CellsAt.below hsp1 HBL.out
      obtain ⟨p1, q1, rfl⟩ := CellsAt.shape hs1
      obtain ⟨u2, e20, e21, e22, hsp2⟩ := hc2 k hltb2
      have d20 := (HBL.out.cell (p := ⟨b2, off2 + k * 3, none⟩) hb2).trans e20
      have d21 := (HBL.out.cell (p := ⟨b2, off2 + k * 3 + 1, none⟩) hb2).trans e21
      have d22 := (HBL.out.cell (p := ⟨b2, off2 + k * 3 + 2, none⟩) hb2).trans e22
      have hs2 := CellsAt.below hsp2 HBL.out
      obtain ⟨p2, q2, rfl⟩ := CellsAt.shape hs2
      have hbx := bal (W := wr) (.cells #[.int .i64 la[k].y, .int .i64 la[k].n, .slice p1 la[k].sp.length q1] 125)
      have hby := bal (W := wr.alloc (.cells #[.int .i64 la[k].y, .int .i64 la[k].n, .slice p1 la[k].sp.length q1] 125)) (.cells #[.int .i64 lb[k].y, .int .i64 lb[k].n, .slice p2 lb[k].sp.length q2] 125)
      have HSV := Lib.hid (sameBx_c la[k] lb[k] _ _ _ (CellsAt.below (CellsAt.below hs1 hbx) hby) (CellsAt.below (CellsAt.below hs2 hbx) hby))
      have HXY := Lib.hid (bstep hbx hby)
      have HNE := Lib.hid (fun (h : sameBxB la[k] lb[k] = false) (e : la = lb) => (show False by subst e; rw [(sameBxB_iff _ _).2 rfl] at h; exact absurd h (by decide)))
      have HEQ := Lib.hid (fun (h : sameBxB la[k] lb[k] = true) => (show la.take (k + 1) = lb.take (k + 1) by rw [List.take_succ_eq_append_getElem hlt, List.take_succ_eq_append_getElem hltb2, HT.out, (sameBxB_iff _ _).1 h]))
      clear hc1 hc2 hbx hby e10 e11 e12 e20 e21 e22 hsp1 hsp2 hs1 hs2
      generalize la[k] = A at *
      generalize lb[k] = B at *
      have hltb : decide ((k : Int) < (la.length : Int)) = true := by simp; omega
      have hbw2 : b2 < wr.heap.size := Nat.lt_of_lt_of_le hb2 HBL.out.size
      go_wp2_with fail
      (with_reducible refine (HSV.out).mono ?_)
      rintro e w1 ⟨rfl, hb1⟩
      have hbl1 := bstep (bstep HBL.out HXY.out) hb1
      clear hb1 HSV d10 d11 d12 d20 d21 d22
      cases hs : sameBxB A B
      · have HN := Lib.hid (HNE.out hs)
        clear hs
        go_wp2
        go_ret
        exact ⟨false, rfl, ⟨fun h => absurd h (by decide), fun h => (HN.out h).elim⟩, hbl1⟩
      · have HN := Lib.hid (HEQ.out hs)
        clear hs
        go_wp2
        go_roundw
        case rel => exact ⟨k + 1, by omega, by go_num, HN.out, hbl1⟩
        case measure => simp [intOf] <;> omega
    · obtain rfl : k = la.length := by omega
      have HE := Lib.hid (show la = lb by have h := HT.out; rw [List.take_length, HL.out, List.take_length] at h; exact h)
      have hbl := HBL.out
      go_wp2
      go_ret
      exact ⟨true, rfl, ⟨fun _ => HE.out, fun _ => rfl⟩, hbl⟩
set_option maxRecDepth 100000 in
theorem sameFil_c (va vb : Value) (la lb : Bxs) (w : World) (ha : BxsAt w va la) (hb : BxsAt w vb lb) :
    Calls Try.prog 32 #[va, vb] w fun e w' => ∃ b, e = .returned (.bool b) ∧ (b = true ↔ la = lb) ∧ Below w.heap.size w w' := by
  have H := Lib.hid (eqBox_c va vb la lb w ha hb)
  obtain ⟨a, ca, rfl⟩ := ha.shape
  obtain ⟨b, cb, rfl⟩ := hb.shape
  clear ha hb
  go_enter Try.func32, Try.ntmps32
  go_wp2_with fail
  refine (H.out).mono ?_
  rintro e w1 ⟨q, rfl, hq, hb1⟩
  have HQ := Lib.hid hq
  clear hq
  go_wp2
  go_ret
  exact ⟨q, rfl, HQ.out, hb1⟩
end Go.Proofs.Ythnkmjjldggecaa
namespace Go.Proofs.Ythnkmjjldggecaa
open Go.RowKit
instance : DecidableEq Bx := fun a b => decidable_of_iff (sameBxB a b = true) (sameBxB_iff a b)
def samePB (a b : Pt) : Bool := decide (a.k = b.k) && decide (a.f = b.f)
theorem samePB_iff (a b : Pt) : samePB a b = true ↔ a = b := by
  obtain ⟨f, k⟩ := a
  obtain ⟨f', k'⟩ := b
  simp only [samePB, Bool.and_eq_true, decide_eq_true_eq, Pt.mk.injEq]
  exact ⟨fun h => ⟨h.2, h.1⟩, fun h => ⟨h.2, h.1⟩⟩
set_option maxRecDepth 100000 in
set_option maxHeartbeats 2000000 in
theorem sameP_c (a b : Pt) (f u x g y z : Value) (w : World) (haf : BxsAt w f a.f) (ha : KnAt w u x a.k) (hbf : BxsAt w g b.f) (hb : KnAt w y z b.k) :
    Calls Try.prog 99 #[.agg #[f, u, x], .agg #[g, y, z]] w fun e w' => e = .returned (.bool (samePB a b)) ∧ Below w.heap.size w w' := by
  obtain ⟨fa, fc, rfl⟩ := haf.shape
  obtain ⟨ga, gc, rfl⟩ := hbf.shape
  obtain ⟨xa, ca, rfl⟩ := ha.vec.shape
  obtain ⟨ya, da, rfl⟩ := ha.more.shape
  obtain ⟨xb, cb, rfl⟩ := hb.vec.shape
  obtain ⟨yb, db, rfl⟩ := hb.more.shape
  have HBL := Lib.hid (show Below w.heap.size w ((w.alloc (.cells #[.slice fa a.f.length fc, .slice xa a.k.vec.length ca, .slice ya a.k.more.length da] 83)).alloc (.cells #[.slice ga b.f.length gc, .slice xb b.k.vec.length cb, .slice yb b.k.more.length db] 83)) from (bal _).alloc (by simp) _)
  have K1 := Lib.hid (show ((w.alloc (.cells #[.slice fa a.f.length fc, .slice xa a.k.vec.length ca, .slice ya a.k.more.length da] 83)).alloc (.cells #[.slice ga b.f.length gc, .slice xb b.k.vec.length cb, .slice yb b.k.more.length db] 83)).heap[w.heap.size]? = some (Obj.cells #[.slice fa a.f.length fc, .slice xa a.k.vec.length ca, .slice ya a.k.more.length da] 83 (0, 0)) from alloc_keep _ (alloc_new _ _ _ _ rfl))
  have K2 := Lib.hid (alloc_new (w.alloc (.cells #[.slice fa a.f.length fc, .slice xa a.k.vec.length ca, .slice ya a.k.more.length da] 83)) #[.slice ga b.f.length gc, .slice xb b.k.vec.length cb, .slice yb b.k.more.length db] 83 (w.heap.size + 1) (by simp))
  have HK := Lib.hid (sameK_c _ _ _ _ a.k b.k _ (ha.below HBL.out) (hb.below HBL.out))
  have HA := Lib.hid (haf.below HBL.out)
  have HB := Lib.hid (hbf.below HBL.out)
  have HO := Lib.hid (show samePB a b = (decide (a.k = b.k) && decide (a.f = b.f)) from rfl)
  clear ha hb haf hbf
  go_enter Try.func99, Try.ntmps99
  go_wp2_with fail
  (with_reducible refine (HK.out).mono ?_)
  rintro e w1 ⟨rfl, hb1⟩
  have HB1 := Lib.hid (bstep HBL.out hb1)
  have HSF := Lib.hid (sameFil_c _ _ a.f b.f w1 (HA.out.below hb1) (HB.out.below hb1))
  have L1 := Lib.hid (below_keep hb1 K1.out)
  have L2 := Lib.hid (below_keep hb1 K2.out)
  have x0 := cell_of_block (j := 0) L1.out rfl
  have y0 := cell_of_block (j := 0) L2.out rfl
  have l1 := hlt_of L1.out
  have l2 := hlt_of L2.out
  clear hb1 HK HBL K1 K2 L1 L2 HA HB
  cases hq : decide (a.k = b.k)
  · have HO2 := Lib.hid (show samePB a b = false by rw [HO.out, hq]; rfl)
    clear hq HO HSF
    go_wp2
    go_ret
    exact ⟨by rw [HO2.out]; rfl, HB1.out⟩
  · have HO2 := Lib.hid (show samePB a b = decide (a.f = b.f) by rw [HO.out, hq]; rfl)
    clear hq HO
    go_wp2_with fail
    (with_reducible refine (HSF.out).mono ?_)
    rintro e w2 ⟨q, rfl, hq, hb1⟩
    have HB2 := Lib.hid (bstep HB1.out hb1)
    have HQ := Lib.hid (show q = decide (a.f = b.f) by rw [Bool.eq_iff_iff, decide_eq_true_eq]; exact hq)
    clear hb1 HSF hq x0 y0 l1 l2
    go_wp2
    go_ret
    exact ⟨by rw [HO2.out, HQ.out]; rfl, HB2.out⟩
end Go.Proofs.Ythnkmjjldggecaa
namespace Go.Proofs.Ythnkmjjldggecaa
open Go.RowKit
set_option maxRecDepth 100000 in
theorem eqPart_c_fn : ∀ args W, (callFunc 99 args).run Try.prog W = .ok (.enter 99 args) W := fun _ _ => by kernel_rfl
set_option maxRecDepth 100000 in
set_option maxHeartbeats 4000000 in
theorem eqPart_c (va vb : Value) (la lb : List Pt) (w : World) (ha : RowAt partE w va la) (hb : RowAt partE w vb lb) :
    Calls Try.prog 98 #[va, vb, .func (.func 99) #[] #[]] w fun e w' => ∃ b, e = .returned (.bool b) ∧ (b = true ↔ la = lb) ∧ Below w.heap.size w w' := by
  obtain ⟨a, ca, rfl, hca, hla, -, hal⟩ := ha.open_
  obtain ⟨b, cb, rfl, hcb, hlb, -, hbl0⟩ := hb.open_
  have HA := Lib.hid hal
  have HB := Lib.hid hbl0
  have hsf := eqPart_c_fn
  clear ha hb hal hbl0
  by_cases hlen : la.length = lb.length
  rotate_left
  · have H := Lib.hid (show ¬ la = lb from fun h => hlen (by rw [h]))
    have h' : ((la.length : Int) != (lb.length : Int)) = true := by simp [bne]; omega
    clear hlen
    go_enter Try.func98, Try.ntmps98
    go_wp2
    go_ret
    exact ⟨false, rfl, ⟨fun h => absurd h (by decide), fun h => absurd h H.out⟩, Below.refl _ _⟩
  have h' : ((la.length : Int) != (lb.length : Int)) = false := by simp [bne, hlen]
  have HL := Lib.hid hlen
  clear hlen
  go_enter Try.func98, Try.ntmps98
  go_wp2
  go_loopw [17] (fun i wr => ∃ k : Nat, k ≤ la.length ∧ i = .int .i64 k ∧ la.take k = lb.take k ∧ Below w.heap.size w wr) (fun i _ => la.length - (intOf i).toNat)
  case atStart => exact ⟨0, Nat.zero_le _, rfl, rfl, Below.refl _ _⟩
  case round =>
    obtain ⟨k, hk, rfl, htk, hbl⟩ := hrel
    have HT := Lib.hid htk
    have HBL := Lib.hid hbl
    clear htk hbl
    by_cases hlt : k < la.length
    · have hltb2 : k < lb.length := by have := HL.out; omega
      rcases HA.out with hnil | ⟨b1, off1, rfl, hb1, hc1⟩
      · rw [hnil] at hlt; simp at hlt
      rcases HB.out with hnil | ⟨b2, off2, rfl, hb2, hc2⟩
      · rw [hnil] at hltb2; simp at hltb2
      obtain ⟨c1, hE1, hcc1⟩ := hc1 k hlt
      obtain ⟨f1, u1, x1, d10, d11, d12, hf1, hk1⟩ := part_cells hb1 HBL.out hE1 hcc1
      obtain ⟨g1, t1, rfl⟩ := hf1.shape
      obtain ⟨p1, q1, rfl⟩ := hk1.vec.shape
      obtain ⟨r1, s1, rfl⟩ := hk1.more.shape
      obtain ⟨c2, hE2, hcc2⟩ := hc2 k hltb2
      obtain ⟨f2, u2, x2, d20, d21, d22, hf2, hk2⟩ := part_cells hb2 HBL.out hE2 hcc2
      obtain ⟨g2, t2, rfl⟩ := hf2.shape
      obtain ⟨p2, q2, rfl⟩ := hk2.vec.shape
      obtain ⟨r2, s2, rfl⟩ := hk2.more.shape
      have hbx := bal (W := wr) (.cells #[.slice g1 la[k].f.length t1, .slice p1 la[k].k.vec.length q1, .slice r1 la[k].k.more.length s1] 83)
      have hby := bal (W := wr.alloc (.cells #[.slice g1 la[k].f.length t1, .slice p1 la[k].k.vec.length q1, .slice r1 la[k].k.more.length s1] 83)) (.cells #[.slice g2 lb[k].f.length t2, .slice p2 lb[k].k.vec.length q2, .slice r2 lb[k].k.more.length s2] 83)
      have HSV := Lib.hid (sameP_c la[k] lb[k] _ _ _ _ _ _ _ ((hf1.below hbx).below hby) ((hk1.below hbx).below hby) ((hf2.below hbx).below hby) ((hk2.below hbx).below hby))
      have HXY := Lib.hid (bstep hbx hby)
      have HNE := Lib.hid (fun (h : samePB la[k] lb[k] = false) (e : la = lb) => (show False by subst e; rw [(samePB_iff _ _).2 rfl] at h; exact absurd h (by decide)))
      have HEQ := Lib.hid (fun (h : samePB la[k] lb[k] = true) => (show la.take (k + 1) = lb.take (k + 1) by rw [List.take_succ_eq_append_getElem hlt, List.take_succ_eq_append_getElem hltb2, HT.out, (samePB_iff _ _).1 h]))
      clear hc1 hc2 hbx hby hE1 hcc1 hE2 hcc2 hk1 hk2 hf1 hf2
      generalize la[k] = A at *
      generalize lb[k] = B at *
      have hltb : decide ((k : Int) < (la.length : Int)) = true := by simp; omega
      have hbw2 : b2 < wr.heap.size := Nat.lt_of_lt_of_le hb2 HBL.out.size
      go_wp2_with fail
      (with_reducible refine (HSV.out).mono ?_)
      rintro e w1 ⟨rfl, hb1⟩
      have hbl1 := bstep (bstep HBL.out HXY.out) hb1
      clear hb1 HSV d10 d11 d12 d20 d21 d22
      cases hs : samePB A B
      · have HN := Lib.hid (HNE.out hs)
        clear hs
        go_wp2
        go_ret
        exact ⟨false, rfl, ⟨fun h => absurd h (by decide), fun h => (HN.out h).elim⟩, hbl1⟩
      · have HN := Lib.hid (HEQ.out hs)
        clear hs
        go_wp2
        go_roundw
        case rel => exact ⟨k + 1, by omega, by go_num, HN.out, hbl1⟩
        case measure => simp [intOf] <;> omega
    · obtain rfl : k = la.length := by omega
      have HE := Lib.hid (show la = lb by have h := HT.out; rw [List.take_length, HL.out, List.take_length] at h; exact h)
      have hbl := HBL.out
      go_wp2
      go_ret
      exact ⟨true, rfl, ⟨fun _ => HE.out, fun _ => rfl⟩, hbl⟩
end Go.Proofs.Ythnkmjjldggecaa
namespace Go.Proofs.Ythnkmjjldggecaa
open Go.RowKit
theorem bt_eq (a b : Bt) : a = b ↔ a.site = b.site ∧ a.stamp = b.stamp ∧ a.vers = b.vers ∧ a.gone = b.gone ∧ a.parts = b.parts := by
  obtain ⟨s, t, v, g, p⟩ := a
  obtain ⟨s', t', v', g', p'⟩ := b
  simp only [Bt.mk.injEq]
set_option maxRecDepth 100000 in
set_option maxHeartbeats 4000000 in
theorem sameB_c (vv gv pv vv2 gv2 pv2 : Value) (a b : Bt) (w : World) (ha : BtAt w vv gv pv a) (hb : BtAt w vv2 gv2 pv2 b) :
    Calls Try.prog 39 #[.agg #[.int .i64 a.site, .int .i64 a.stamp, vv, gv, pv], .agg #[.int .i64 b.site, .int .i64 b.stamp, vv2, gv2, pv2]] w fun e w' => ∃ q, e = .returned (.bool q) ∧ (q = true ↔ a = b) ∧ Below w.heap.size w w' := by
  obtain ⟨va, vc, rfl⟩ := ha.vers.shape
  obtain ⟨ga, gc, rfl⟩ := ha.gone.shape
  obtain ⟨pa, pc, rfl⟩ := ha.parts.shape
  obtain ⟨va2, vc2, rfl⟩ := hb.vers.shape
  obtain ⟨ga2, gc2, rfl⟩ := hb.gone.shape
  obtain ⟨pa2, pc2, rfl⟩ := hb.parts.shape
  have HBL := Lib.hid (show Below w.heap.size w ((w.alloc (.cells #[.int .i64 a.site, .int .i64 a.stamp, .slice va a.vers.length vc, .slice ga a.gone.length gc, .slice pa a.parts.length pc] 64)).alloc (.cells #[.int .i64 b.site, .int .i64 b.stamp, .slice va2 b.vers.length vc2, .slice ga2 b.gone.length gc2, .slice pa2 b.parts.length pc2] 64)) from (bal _).alloc (by simp) _)
  have K1 := Lib.hid (show ((w.alloc (.cells #[.int .i64 a.site, .int .i64 a.stamp, .slice va a.vers.length vc, .slice ga a.gone.length gc, .slice pa a.parts.length pc] 64)).alloc (.cells #[.int .i64 b.site, .int .i64 b.stamp, .slice va2 b.vers.length vc2, .slice ga2 b.gone.length gc2, .slice pa2 b.parts.length pc2] 64)).heap[w.heap.size]? = some (Obj.cells #[.int .i64 a.site, .int .i64 a.stamp, .slice va a.vers.length vc, .slice ga a.gone.length gc, .slice pa a.parts.length pc] 64 (0, 0)) from alloc_keep _ (alloc_new _ _ _ _ rfl))
  have K2 := Lib.hid (alloc_new (w.alloc (.cells #[.int .i64 a.site, .int .i64 a.stamp, .slice va a.vers.length vc, .slice ga a.gone.length gc, .slice pa a.parts.length pc] 64)) #[.int .i64 b.site, .int .i64 b.stamp, .slice va2 b.vers.length vc2, .slice ga2 b.gone.length gc2, .slice pa2 b.parts.length pc2] 64 (w.heap.size + 1) (by simp))
  have HA := Lib.hid (ha.below HBL.out)
  have HB := Lib.hid (hb.below HBL.out)
  have HV := Lib.hid (sameS_c _ _ a.vers b.vers _ HA.out.vers HB.out.vers)
  have HEQ := Lib.hid (bt_eq a b)
  clear ha hb
  go_enter Try.func39, Try.ntmps39
  by_cases h1 : a.site = b.site
  rotate_left
  · have h1b : (a.site == b.site) = false := by simpa using h1
    have HN := Lib.hid (show ¬ a = b from fun e => h1 (HEQ.out.1 e).1)
    clear h1 HV HEQ K1 K2 HA HB
    go_wp2
    go_ret
    exact ⟨false, rfl, ⟨fun h => absurd h (by decide), fun h => (HN.out h).elim⟩, HBL.out⟩
  have h1b : (a.site == b.site) = true := by simpa using h1
  by_cases h2 : a.stamp = b.stamp
  rotate_left
  · have h2b : (a.stamp == b.stamp) = false := by simpa using h2
    have HN := Lib.hid (show ¬ a = b from fun e => h2 (HEQ.out.1 e).2.1)
    clear h1 h2 HV HEQ K1 K2 HA HB
    go_wp2
    go_ret
    exact ⟨false, rfl, ⟨fun h => absurd h (by decide), fun h => (HN.out h).elim⟩, HBL.out⟩
  have h2b : (a.stamp == b.stamp) = true := by simpa using h2
  have H12 := Lib.hid (And.intro h1 h2)
  clear h1 h2
  go_wp2_with fail
  (with_reducible refine (HV.out).mono ?_)
  rintro e w1 ⟨q1, rfl, hq1, hb1⟩
  have HQ1 := Lib.hid hq1
  have HB1 := Lib.hid (bstep HBL.out hb1)
  have HA1 := Lib.hid (HA.out.below hb1)
  have HC1 := Lib.hid (HB.out.below hb1)
  have L1 := Lib.hid (below_keep hb1 K1.out)
  have L2 := Lib.hid (below_keep hb1 K2.out)
  have HG := Lib.hid (eqGone_c _ _ a.gone b.gone _ HA1.out.gone HC1.out.gone)
  have x3 := cell_of_block (j := 3) L1.out rfl
  have y3 := cell_of_block (j := 3) L2.out rfl
  have l1 := hlt_of L1.out
  have l2 := hlt_of L2.out
  clear hb1 HV HBL K1 K2 HA HB hq1
  cases q1
  · have HN := Lib.hid (show ¬ a = b from fun e => absurd (HQ1.out.2 (HEQ.out.1 e).2.2.1) (by decide))
    clear HQ1 HG HEQ
    go_wp2
    go_ret
    exact ⟨false, rfl, ⟨fun h => absurd h (by decide), fun h => (HN.out h).elim⟩, HB1.out⟩
  go_wp2_with fail
  (with_reducible refine (HG.out).mono ?_)
  rintro e w2 ⟨q2, rfl, hq2, hb2⟩
  have HQ2 := Lib.hid hq2
  have HB2 := Lib.hid (bstep HB1.out hb2)
  have M1 := Lib.hid (below_keep hb2 L1.out)
  have M2 := Lib.hid (below_keep hb2 L2.out)
  have HP := Lib.hid (eqPart_c _ _ a.parts b.parts _ (HA1.out.below hb2).parts (HC1.out.below hb2).parts)
  have x4 := cell_of_block (j := 4) M1.out rfl
  have y4 := cell_of_block (j := 4) M2.out rfl
  have l3 := hlt_of M1.out
  have l4 := hlt_of M2.out
  clear hb2 HG HB1 L1 L2 HA1 HC1 hq2 x3 y3 l1 l2
  cases q2
  · have HN := Lib.hid (show ¬ a = b from fun e => absurd (HQ2.out.2 (HEQ.out.1 e).2.2.2.1) (by decide))
    clear HQ1 HQ2 HP HEQ
    go_wp2
    go_ret
    exact ⟨false, rfl, ⟨fun h => absurd h (by decide), fun h => (HN.out h).elim⟩, HB2.out⟩
  go_wp2_with fail
  (with_reducible refine (HP.out).mono ?_)
  rintro e w3 ⟨q3, rfl, hq3, hb3⟩
  have HQ3 := Lib.hid hq3
  have HB3 := Lib.hid (bstep HB2.out hb3)
  clear hb3 HP HB2 M1 M2 hq3 x4 y4 l3 l4
  go_wp2
  go_ret
  exact ⟨q3, rfl, ⟨fun h => HEQ.out.2 ⟨H12.out.1, H12.out.2, HQ1.out.1 trivial, HQ2.out.1 trivial, HQ3.out.1 h⟩, fun h => HQ3.out.2 (HEQ.out.1 h).2.2.2.2⟩, HB3.out⟩
end Go.Proofs.Ythnkmjjldggecaa
