/- The closures of shelf.Put. -/
import Derived.Test.YtippljiicnpieaaShelf4
namespace Go.Proofs.Ytippljiicnpieaa
open Go.RowKit
set_option maxRecDepth 100000 in
theorem put1_p (B : Nat) (v : Ver) (y z : Value) (w : World) (hB : w.heap[B]? = some (Obj.cells (verC v y z) 32 (0, 0))) (hk : KnAt w y z v.past) (hd : dotOk (v.ds, v.dc) = true) :
    PredV VerOk 95 #[.pointer (some ⟨B, 0, none⟩)] (fun x => verOver x v) w := by
  refine ⟨enters_of Try.func95 (by kernel_rfl) rfl, fun a u x W hok hbl ha => ?_⟩
  show Calls Try.prog 95 #[.agg (verC a u x), .pointer (some ⟨B, 0, none⟩)] W _
  have HB := Lib.hid (below_keep hbl hB)
  have HK := Lib.hid (hk.below hbl)
  clear hbl hB hk
  obtain ⟨xa, ca, rfl⟩ := ha.vec.shape
  obtain ⟨ya, da, rfl⟩ := ha.more.shape
  obtain ⟨xb, cb, hxb⟩ := HK.out.vec.shape
  obtain ⟨yb, db, hyb⟩ := HK.out.more.shape
  subst hxb hyb
  have hbel := bal (W := W) (.cells (verC a (.slice xa a.past.vec.length ca) (.slice ya a.past.more.length da)) 32)
  have HA := Lib.hid (ha.below hbel)
  have HK2 := Lib.hid (HK.out.below hbel)
  have HO := Lib.hid (over_c a v _ _ _ _ _ HA.out HK2.out hok.past hd)
  have hB2 := below_keep hbel HB.out
  have c0 := cell_of_block (j := 0) hB2 rfl
  have c1 := cell_of_block (j := 1) hB2 rfl
  have c2 := cell_of_block (j := 2) hB2 rfl
  have c3 := cell_of_block (j := 3) hB2 rfl
  have c4 := cell_of_block (j := 4) hB2 rfl
  have c5 := cell_of_block (j := 5) hB2 rfl
  have c6 := cell_of_block (j := 6) hB2 rfl
  have c7 := cell_of_block (j := 7) hB2 rfl
  clear ha hB2 HB HK
  unfold verC at *
  go_enter Try.func95, Try.ntmps95
  go_wp2_with fail
  (with_reducible refine (HO.out).mono ?_)
  rintro e w1 ⟨rfl, hb1⟩
  replace hbel := bstep hbel hb1
  clear hb1 c0 c1 c2 c3 c4 c5 c6 c7 HO
  go_wp2
  go_ret
  exact ⟨rfl, hbel⟩
set_option maxRecDepth 100000 in
theorem put2_p (B : Nat) (v : Ver) (y z : Value) (w : World) (hB : w.heap[B]? = some (Obj.cells (verC v y z) 32 (0, 0))) (hk : KnAt w y z v.past) (hv : KnOk v.past) :
    PredV VerOk 100 #[.pointer (some ⟨B, 0, none⟩)] (fun x => verOver v x) w := by
  refine ⟨enters_of Try.func100 (by kernel_rfl) rfl, fun a u x W hok hbl ha => ?_⟩
  show Calls Try.prog 100 #[.agg (verC a u x), .pointer (some ⟨B, 0, none⟩)] W _
  have HB := Lib.hid (below_keep hbl hB)
  have HK := Lib.hid (hk.below hbl)
  clear hbl hB hk
  obtain ⟨xa, ca, rfl⟩ := ha.vec.shape
  obtain ⟨ya, da, rfl⟩ := ha.more.shape
  obtain ⟨xb, cb, hxb⟩ := HK.out.vec.shape
  obtain ⟨yb, db, hyb⟩ := HK.out.more.shape
  subst hxb hyb
  have hbel := bal (W := W) (.cells (verC a (.slice xa a.past.vec.length ca) (.slice ya a.past.more.length da)) 32)
  have HA := Lib.hid (ha.below hbel)
  have HK2 := Lib.hid (HK.out.below hbel)
  have HO := Lib.hid (over_c v a _ _ _ _ _ HK2.out HA.out hv hok.dot)
  have hB2 := below_keep hbel HB.out
  have c0 := cell_of_block (j := 0) hB2 rfl
  have c1 := cell_of_block (j := 1) hB2 rfl
  have c2 := cell_of_block (j := 2) hB2 rfl
  have c3 := cell_of_block (j := 3) hB2 rfl
  have c4 := cell_of_block (j := 4) hB2 rfl
  have c5 := cell_of_block (j := 5) hB2 rfl
  have c6 := cell_of_block (j := 6) hB2 rfl
  have c7 := cell_of_block (j := 7) hB2 rfl
  clear ha hB2 HB HK
  unfold verC at *
  go_enter Try.func100, Try.ntmps100
  go_wp2_with fail
  (with_reducible refine (HO.out).mono ?_)
  rintro e w1 ⟨rfl, hb1⟩
  replace hbel := bstep hbel hb1
  clear hb1 c0 c1 c2 c3 c4 c5 c6 c7 HO
  go_wp2
  go_ret
  exact ⟨rfl, hbel⟩
end Go.Proofs.Ytippljiicnpieaa
