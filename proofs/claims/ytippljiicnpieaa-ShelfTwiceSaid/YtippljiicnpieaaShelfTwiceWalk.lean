/- What ShelfTwice does: it returns true. -/
import Derived.Test.YtippljiicnpieaaShelf15
import Derived.Test.YtippljiicnpieaaShelf8
import Derived.Test.YtippljiicnpieaaDots3
namespace Go.Proofs.Ytippljiicnpieaa
open Go.RowKit
set_option maxRecDepth 100000 in
set_option maxHeartbeats 4000000 in
theorem ShelfTwice_walk (lv : Value) (l : List Ver) (v1 : Ver) (u x : Value) (n : Int) (w : World) (hl : RowAt verE w lv l) (hk : KnAt w u x v1.past) :
    Calls Try.prog 3 #[lv, .agg (verC v1 u x), .int .i64 n] w fun e w' => e = .returned (.bool true) ∧ Below w.heap.size w w' := by
  obtain ⟨a, cap, rfl⟩ := hl.shape
  obtain ⟨ua, uc, rfl⟩ := hk.vec.shape
  obtain ⟨xa, xc, rfl⟩ := hk.more.shape
  obtain ⟨W, hW⟩ : ∃ W, W = w.alloc (.cells (verC v1 (.slice ua v1.past.vec.length uc) (.slice xa v1.past.more.length xc)) 32) := ⟨_, rfl⟩
  have hbx : Below w.heap.size w W := by rw [hW]; exact bal _
  have M := Lib.hid (show PutSt W w (.slice a l.length cap) l v1 (.slice ua v1.past.vec.length uc) (.slice xa v1.past.more.length xc) W from ⟨by rw [hW]; exact alloc_new _ _ _ _ rfl, hl.below hbx, hk.below hbx, hbx⟩)
  clear hl hk hbx
  unfold verC at hW ⊢
  go_enter Try.func3, Try.ntmps3
  go_wp2_with fail
  rw [← hW]
  clear hW
  (with_reducible refine (shelfBegun_c _).mono ?_)
  rintro e w1 ⟨rfl, hb1⟩
  replace M := Lib.hid (M.out.below hb1)
  clear hb1
  have HP := Lib.hid (put_c _ l v1 _ _ _ M.out.row M.out.kn)
  unfold verC at HP
  obtain ⟨c0, c1, c2, c3, c4, c5, c6, c7⟩ := verAt8 M.out.blk
  go_wp2_with fail
  (with_reducible refine (HP.out).mono ?_)
  rintro e w2 ⟨ov, rfl, ho, hb1⟩
  replace M := Lib.hid (M.out.below hb1)
  obtain ⟨oa, oc, hoo⟩ : ∃ oa oc, ov = Value.slice oa (putR l v1).length oc := by
    obtain ⟨css, -, h2⟩ := ho
    exact owns_slice h2
  subst hoo
  have HO := Lib.hid ho
  clear hb1 HP c0 c1 c2 c3 c4 c5 c6 c7 ho
  by_cases h0 : putE l v1 = 0
  rotate_left
  · have hne : decide (putE l v1 = 0) = false := by simpa using h0
    rw [putR_bad h0] at HO ⊢
    have HM := Lib.hid M.out.bel
    generalize putE l v1 = sc at *
    go_wp2
    go_ret
    exact ⟨rfl, HM.out⟩
  obtain ⟨k1, k2, k3⟩ := putE_zero.1 h0
  have K1 := Lib.hid k1
  have K2 := Lib.hid k2
  have hsh := put_ok k1 k2 k3
  rw [putR_ok h0] at HO ⊢
  rw [h0]
  have HROW := Lib.hid (HO.out.at_ (shok_bd hsh.ok) (by omega))
  have H2 := put_put (l := l) k2
  have h3 : putE (putL l v1) v1 = 0 := putE_zero.2 ⟨hsh, k2, by rw [H2]; exact k3⟩
  have HP := Lib.hid (put_c _ (putL l v1) v1 _ _ _ HROW.out M.out.kn)
  rw [putR_ok h3, h3, H2] at HP
  have HRF := Lib.hid (show putL l v1 = putL l v1 from rfl)
  have HBD := Lib.hid (shok_bd hsh.ok)
  have HLN := Lib.hid hsh.len
  clear h0 k1 k2 k3 hsh H2 h3
  generalize putL l v1 = pl at *
  unfold verC at HP
  obtain ⟨c0, c1, c2, c3, c4, c5, c6, c7⟩ := verAt8 M.out.blk
  go_wp2_with fail
  (with_reducible refine (HP.out).mono ?_)
  rintro e w3 ⟨ov2, rfl, ho2, hb1⟩
  replace M := Lib.hid (M.out.below hb1)
  have HROW3 := Lib.hid (HROW.out.below hb1)
  have HR2 : RowAt verE w3 ov2 pl := ho2.at_ HBD.out (by have := HLN.out; omega)
  obtain ⟨oa2, oc2, rfl⟩ := HR2.shape
  have HS := Lib.hid (sameS_c _ _ pl pl w3 HROW3.out HR2)
  clear hb1 HP c0 c1 c2 c3 c4 c5 c6 c7 ho2 HR2
  go_wp2_with fail
  (with_reducible refine (HS.out).mono ?_)
  rintro e w4 ⟨b, rfl, hb, hb1⟩
  obtain rfl : b = true := hb.2 (by trivial)
  replace M := Lib.hid (M.out.below hb1)
  clear hb1 hb HS
  by_cases hl0 : l.length = 0
  · have hl0' : decide ((l.length : Int) = 0) = true := by rw [decide_eq_true_eq]; omega
    have HM := Lib.hid M.out.bel
    go_wp2
    go_ret
    exact ⟨rfl, HM.out⟩
  have hl0' : decide ((l.length : Int) = 0) = false := by rw [decide_eq_false_iff_not]; omega
  obtain ⟨j, hj⟩ : ∃ j, j = wiN n l.length := ⟨_, rfl⟩
  have hjl : j < l.length := by rw [hj]; exact wiN_lt _ _ (by omega)
  have HWT := Lib.hid (fun w2 => (show Calls Try.prog 28 #[.int .i64 n, .int .i64 (l.length : Int)] w2 fun e w' => e = .returned (.int .i64 ((j : Nat) : Int)) ∧ Below w2.heap.size w2 w' by rw [hj]; exact wiN_c n l.length w2 (by omega) (by have := K1.out.len; omega)))
  clear hj HROW HROW3 HO HBD HLN HRF
  go_wp2_with fail
  (with_reducible refine (HWT.out _).mono ?_)
  rintro e w5 ⟨rfl, hb1⟩
  replace M := Lib.hid (M.out.below hb1)
  clear hb1 HWT
  have hin := List.getElem_mem hjl
  have hvo := K1.out.ok _ hin
  have hpl := put_found hin
  have hpe : putE l l[j] = 0 := putE_zero.2 ⟨K1.out, hvo, by rw [hpl]; exact K1.out.len⟩
  obtain ⟨a', cap', ha', -, -, -, hvl⟩ := M.out.row.open_
  simp only [Value.slice.injEq, true_and] at ha'
  obtain ⟨ha', rfl⟩ := ha'
  rcases hvl with hnil | ⟨b, off, rfl, hb, hc⟩
  · rw [hnil] at hjl; simp at hjl
  subst ha'
  obtain ⟨c, ⟨u, x, rfl, hk2⟩, hcc⟩ := hc j hjl
  obtain ⟨pa, pc, rfl⟩ := hk2.vec.shape
  obtain ⟨qa, qc, rfl⟩ := hk2.more.shape
  have hcl := fun (i : Nat) (y : Value) (hy : (verC l[j] (.slice pa l[j].past.vec.length pc) (.slice qa l[j].past.more.length qc)).toList[i]? = some y) => row8 (w := w5) (b := b) (off := off) (i := j) hcc hy
  have c0 := hcl 0 _ rfl
  have c1 := hcl 1 _ rfl
  have c2 := hcl 2 _ rfl
  have c3 := hcl 3 _ rfl
  have c4 := hcl 4 _ rfl
  have c5 := hcl 5 _ rfl
  have c6 := hcl 6 _ rfl
  have c7 := hcl 7 _ rfl
  rw [Nat.add_zero] at c0
  have HP := Lib.hid (put_c _ l l[j] _ _ _ M.out.row hk2)
  rw [putR_ok hpe, hpe, hpl] at HP
  have HBD := Lib.hid (shok_bd K1.out.ok)
  have HLN := Lib.hid K1.out.len
  clear hc hcc hcl hk2 hin hvo hpl hpe
  generalize l[j] = v2 at *
  unfold verC at HP
  have hjb : decide ((j : Int) < (l.length : Int)) = true := by simp; omega
  go_wp2_with fail
  (with_reducible refine (HP.out).mono ?_)
  rintro e w6 ⟨ov3, rfl, ho3, hb1⟩
  replace M := Lib.hid (M.out.below hb1)
  have HR3 : RowAt verE w6 ov3 l := ho3.at_ HBD.out (by have := HLN.out; omega)
  obtain ⟨oa3, oc3, rfl⟩ := HR3.shape
  have HS := Lib.hid (sameS_c _ _ l l w6 HR3 M.out.row)
  clear hb1 HP c0 c1 c2 c3 c4 c5 c6 c7 ho3 HR3 hb
  go_wp2_with fail
  (with_reducible refine (HS.out).mono ?_)
  rintro e w7 ⟨b, rfl, hb, hb1⟩
  obtain rfl : b = true := hb.2 (by trivial)
  have HM := Lib.hid (bstep M.out.bel hb1)
  clear hb1 hb HS
  go_wp2
  go_ret
  exact ⟨rfl, HM.out⟩
end Go.Proofs.Ytippljiicnpieaa
