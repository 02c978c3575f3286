/- What shelf.Get and shelf.Drop do. -/
import Derived.Test.YtliieljmfncmjaaMShelf13
namespace Go.Proofs.Ytliieljmfncmjaa
open Go.RowKit
def getL (l : List Ver) (id : ByteArray) : List Ver := l.filter fun v => decide (v.id = id)
def getE (l : List Ver) (id : ByteArray) : Int := if shelfChk l ≠ 0 then shelfChk l else if (getL l id).length = 0 then 4 else 0
def getR (l : List Ver) (id : ByteArray) : List Ver := if getE l id = 0 then getL l id else []
theorem getR_ok {l : List Ver} {id : ByteArray} (h : getE l id = 0) : getR l id = getL l id := by unfold getR; rw [if_pos h]
theorem getR_bad {l : List Ver} {id : ByteArray} (h : getE l id ≠ 0) : getR l id = [] := by unfold getR; rw [if_neg h]
set_option maxRecDepth 100000 in
theorem get1_p (B : Nat) (id : ByteArray) (w : World) (hB : w.heap[B]? = some (Obj.cells #[.string id] 9 (0, 0))) :
    PredV VerOk 117 #[.pointer (some ⟨B, 0, none⟩)] (fun x => !decide (x.id = id)) w := by
  refine ⟨enters_of Try.func117 (by kernel_rfl) rfl, fun a u x W hok hbl ha => ?_⟩
  show Calls Try.prog 117 #[.agg (verC a u x), .pointer (some ⟨B, 0, none⟩)] W _
  have hB1 := below_keep hbl hB
  clear hbl hB
  obtain ⟨xa, ca, rfl⟩ := ha.vec.shape
  obtain ⟨ya, da, rfl⟩ := ha.more.shape
  have hbel := bal (W := W) (.cells (verC a (.slice xa a.past.vec.length ca) (.slice ya a.past.more.length da)) 57)
  have c0 := cell_of_block (j := 0) hB1 rfl
  have hBl := hlt_of hB1
  have hids := ids_eq a.id id
  clear ha hB1
  unfold verC at *
  generalize hdd : decide (a.id = id) = d at *
  have HD := Lib.hid hdd
  clear hdd
  go_enter Try.func117, Try.ntmps117
  cases d
  · go_wp2
    go_ret
    exact ⟨by show _ = Ending.returned (.bool (!decide (a.id = id))); rw [HD.out]; rfl, hbel⟩
  · go_wp2
    go_ret
    exact ⟨by show _ = Ending.returned (.bool (!decide (a.id = id))); rw [HD.out]; rfl, hbel⟩
structure GetSt (w0 : World) (lv : Value) (l : List Ver) (t : TypeId) (cs : Array Value) (w : World) : Prop where
  blk : w.heap[w0.heap.size]? = some (Obj.cells cs t (0, 0))
  row : RowAt verE w lv l
  bel : Below w0.heap.size w0 w
theorem GetSt.below {w0 : World} {lv : Value} {l : List Ver} {t : TypeId} {cs : Array Value} {w w' : World} (h : GetSt w0 lv l t cs w) (hb : Below w.heap.size w w') : GetSt w0 lv l t cs w' :=
  ⟨below_keep hb h.blk, h.row.below hb, bstep h.bel hb⟩
set_option maxRecDepth 100000 in
set_option maxHeartbeats 4000000 in
theorem get_c (lv : Value) (l : List Ver) (id : ByteArray) (w : World) (hl : RowAt verE w lv l) :
    Calls Try.prog 42 #[lv, .string id] w fun e w' => ∃ ov, e = .returned (.tuple #[ov, .int .i64 (getE l id)]) ∧ VOwn w' w.heap.size ov (getR l id) ∧ Below w.heap.size w w' := by
  obtain ⟨a, cap, rfl⟩ := hl.shape
  obtain ⟨W, hW⟩ : ∃ W, W = w.alloc (.cells #[.string id] 9) := ⟨_, rfl⟩
  have hbx : Below w.heap.size w W := by rw [hW]; exact bal _
  have M := Lib.hid (show GetSt w (.slice a l.length cap) l 9 #[.string id] W from ⟨by rw [hW]; exact alloc_new _ _ _ _ rfl, hl.below hbx, hbx⟩)
  have HC := Lib.hid (shelfChk_c _ l W M.out.row)
  have HE1 := Lib.hid (show shelfChk l ≠ 0 → getE l id = shelfChk l from fun h => by unfold getE; rw [if_pos h])
  have HE2 := Lib.hid (show shelfChk l = 0 → getE l id = if (getL l id).length = 0 then 4 else 0 from fun h => by unfold getE; rw [if_neg (by omega)])
  have HCZ := Lib.hid (shelfChk_zero (l := l))
  have HFL := Lib.hid (show getL l id = l.filter fun v => !!decide (v.id = id) from by unfold getL; congr 1; funext v; rw [Bool.not_not])
  clear hl hbx
  go_enter Try.func42, Try.ntmps42
  go_wp2_with fail
  rw [← hW]
  clear hW
  (with_reducible refine (HC.out).mono ?_)
  rintro e w1 ⟨rfl, hb1⟩
  replace M := Lib.hid (M.out.below hb1)
  clear hb1 HC
  by_cases h0 : shelfChk l = 0
  rotate_left
  · have H := Lib.hid (HE1.out h0)
    have H0 := Lib.hid h0
    have hne : decide (shelfChk l = 0) = false := by simpa using h0
    generalize shelfChk l = sc at *
    go_wp2
    go_ret2
    exact ⟨_, ret_ve H.out.symm, by rw [getR_bad (by rw [H.out]; exact H0.out)]; exact own_nilV _ _, M.out.bel⟩
  have HS := Lib.hid (HCZ.out.1 h0)
  have HE := Lib.hid (HE2.out h0)
  rw [h0]
  clear h0 HE1 HE2 HCZ
  have hl60 := HS.out.len
  have HCL := Lib.hid (vclone_c _ l w1 w1 M.out.row (Below.refl _ _) (by omega))
  go_wp2_with fail
  (with_reducible refine (HCL.out).mono ?_)
  rintro e w2 ⟨cv, rfl, hcv, hb1⟩
  obtain ⟨ca, cc, rfl⟩ := hcv.shape
  have HDL := Lib.hid (vdel_c VerOk w1 w2 _ l 117 #[.pointer (some ⟨w.heap.size, 0, none⟩)] (fun x => !decide (x.id = id)) hb1 hcv (by omega) HS.out.ok (get1_p w.heap.size id _ M.out.blk))
  rw [← HFL.out] at HDL
  clear hcv hb1 HCL
  go_wp2_with fail
  (with_reducible refine (HDL.out).mono ?_)
  rintro e w3 ⟨s3, rfl, h3, hb3⟩
  obtain ⟨sa, sc, rfl⟩ := h3.shape
  have H3 := Lib.hid h3
  have HB3 := Lib.hid (M.out.bel.trans (hb3.mono M.out.bel.size))
  have HB3' := Lib.hid hb3
  have HOK := Lib.hid (show ∀ v ∈ getL l id, VerOk v from fun v hv => HS.out.ok v (List.mem_filter.1 hv).1)
  have hll : (getL l id).length ≤ 60 := Nat.le_trans (List.length_filter_le _ _) hl60
  clear h3 hb3 HDL
  by_cases hz : (getL l id).length = 0
  · have H := Lib.hid (show getE l id = 4 by rw [HE.out, if_pos hz])
    have hzb : decide (((getL l id).length : Int) = 0) = true := by rw [decide_eq_true_eq]; omega
    clear HE HOK
    generalize getL l id = pl at *
    go_wp2
    go_ret2
    exact ⟨_, ret_ve H.out.symm, by rw [getR_bad (by rw [H.out]; decide)]; exact own_nilV _ _, HB3.out⟩
  have H := Lib.hid (show getE l id = 0 by rw [HE.out, if_neg hz])
  have HR := Lib.hid (getR_ok H.out)
  have hzb : decide (((getL l id).length : Int) = 0) = false := by rw [decide_eq_false_iff_not]; omega
  have HCP := Lib.hid (vcopied_c _ (getL l id) w3 (H3.out.at_ (Sub.of_below HB3'.out) (by omega)) (shok_bd HOK.out) (by omega))
  clear HE HOK HFL
  generalize getL l id = pl at *
  go_wp2_with fail
  (with_reducible refine (HCP.out).mono ?_)
  rintro e w4 ⟨ov, rfl, ho, hb1⟩
  have HOV := Lib.hid (ho.mono HB3.out.size)
  have HBE := Lib.hid (bstep HB3.out hb1)
  clear hb1 ho HCP
  go_wp2
  go_ret2
  exact ⟨_, ret_ve H.out.symm, by rw [HR.out]; exact HOV.out, HBE.out⟩
def underB (id : ByteArray) (k : Kn) (v : Ver) : Bool := decide (v.id = id) && knIn k v.ds v.dc
def dropL (l : List Ver) (id : ByteArray) (k : Kn) : List Ver := l.filter fun v => !underB id k v
def dropE (l : List Ver) (id : ByteArray) (k : Kn) : Int := if shelfChk l ≠ 0 then shelfChk l else if idOk id = false then 3 else knChk k
def dropR (l : List Ver) (id : ByteArray) (k : Kn) : List Ver := if dropE l id k = 0 then dropL l id k else []
theorem dropR_ok {l : List Ver} {id : ByteArray} {k : Kn} (h : dropE l id k = 0) : dropR l id k = dropL l id k := by unfold dropR; rw [if_pos h]
theorem dropR_bad {l : List Ver} {id : ByteArray} {k : Kn} (h : dropE l id k ≠ 0) : dropR l id k = [] := by unfold dropR; rw [if_neg h]
set_option maxRecDepth 100000 in
theorem drop1_p (B : Nat) (id : ByteArray) (k : Kn) (y z : Value) (w : World) (hB : w.heap[B]? = some (Obj.cells #[.string id, y, z] 91 (0, 0))) (hk : KnAt w y z k) (hok : KnOk k) :
    PredV VerOk 125 #[.pointer (some ⟨B, 0, none⟩)] (underB id k) w := by
  refine ⟨enters_of Try.func125 (by kernel_rfl) rfl, fun a u x W hv hbl ha => ?_⟩
  show Calls Try.prog 125 #[.agg (verC a u x), .pointer (some ⟨B, 0, none⟩)] W _
  have hB1 := below_keep hbl hB
  have hkW := hk.below hbl
  clear hbl hB hk
  obtain ⟨xa, ca, rfl⟩ := ha.vec.shape
  obtain ⟨ya, da, rfl⟩ := ha.more.shape
  obtain ⟨xb, cb, hxb⟩ := hkW.vec.shape
  obtain ⟨yb, db, hyb⟩ := hkW.more.shape
  subst hxb hyb
  have hbel := bal (W := W) (.cells (verC a (.slice xa a.past.vec.length ca) (.slice ya a.past.more.length da)) 57)
  have c0 := cell_of_block (j := 0) hB1 rfl
  have c1 := cell_of_block (j := 1) hB1 rfl
  have c2 := cell_of_block (j := 2) hB1 rfl
  have hBl := hlt_of hB1
  have hids := ids_eq a.id id
  obtain ⟨⟨d0, d5⟩, d1, d2⟩ := dotOk_iff.1 hv.dot
  simp only at d0 d5 d1 d2
  have HBD := Lib.hid (dotBd_of (l := [(a.ds, a.dc)]) fun d hx => by simp only [List.mem_singleton] at hx; rw [hx]; exact hv.dot)
  have HBM := Lib.hid (dotBd_of fun d hd => (hok.dots d hd).1)
  have HKI := Lib.hid (knIn_c _ _ k a.ds a.dc _ (hkW.below hbel) d0 hok.ord HBM.out HBD.out)
  have HU := Lib.hid (show underB id k a = (decide (a.id = id) && knIn k a.ds a.dc) from rfl)
  clear ha hB1 hkW hv hok
  unfold verC at *
  cases hd : decide (a.id = id)
  · have H := Lib.hid (show underB id k a = false by rw [HU.out, hd]; rfl)
    rw [hd] at hids
    clear hd
    go_enter Try.func125, Try.ntmps125
    go_wp2
    go_ret
    exact ⟨by rw [H.out]; rfl, hbel⟩
  · have H := Lib.hid (show underB id k a = knIn k a.ds a.dc by rw [HU.out, hd]; rfl)
    rw [hd] at hids
    clear hd
    go_enter Try.func125, Try.ntmps125
    go_wp2_with fail
    (with_reducible refine (HKI.out).mono ?_)
    rintro e w1 ⟨rfl, hb1⟩
    replace hbel := bstep hbel hb1
    clear hb1 HKI c0 c1 c2
    go_wp2
    go_ret
    exact ⟨by rw [H.out]; rfl, hbel⟩
set_option maxRecDepth 100000 in
set_option maxHeartbeats 4000000 in
theorem drop_c (lv : Value) (l : List Ver) (id : ByteArray) (k : Kn) (u x : Value) (w : World) (hl : RowAt verE w lv l) (hk : KnAt w u x k) :
    Calls Try.prog 53 #[lv, .agg #[.string id, u, x]] w fun e w' => ∃ ov, e = .returned (.tuple #[ov, .int .i64 (dropE l id k)]) ∧ VOwn w' w.heap.size ov (dropR l id k) ∧ Below w.heap.size w w' := by
  obtain ⟨a, cap, rfl⟩ := hl.shape
  obtain ⟨ua, uc, rfl⟩ := hk.vec.shape
  obtain ⟨xa, xc, rfl⟩ := hk.more.shape
  obtain ⟨W, hW⟩ : ∃ W, W = w.alloc (.cells #[.string id, .slice ua k.vec.length uc, .slice xa k.more.length xc] 91) := ⟨_, rfl⟩
  have hbx : Below w.heap.size w W := by rw [hW]; exact bal _
  have M := Lib.hid (show GetSt w (.slice a l.length cap) l 91 #[.string id, .slice ua k.vec.length uc, .slice xa k.more.length xc] W from ⟨by rw [hW]; exact alloc_new _ _ _ _ rfl, hl.below hbx, hbx⟩)
  have HK := Lib.hid hk
  have HC := Lib.hid (shelfChk_c _ l W M.out.row)
  have HE1 := Lib.hid (show shelfChk l ≠ 0 → dropE l id k = shelfChk l from fun h => by unfold dropE; rw [if_pos h])
  have HE2 := Lib.hid (show shelfChk l = 0 → dropE l id k = if idOk id = false then 3 else knChk k from fun h => by unfold dropE; rw [if_neg (by omega)])
  have HCZ := Lib.hid (shelfChk_zero (l := l))
  have HKZ := Lib.hid (knChk_zero (k := k))
  clear hl hk hbx
  go_enter Try.func53, Try.ntmps53
  go_wp2_with fail
  rw [← hW]
  clear hW
  (with_reducible refine (HC.out).mono ?_)
  rintro e w1 ⟨rfl, hb1⟩
  replace M := Lib.hid (M.out.below hb1)
  clear hb1 HC
  by_cases h0 : shelfChk l = 0
  rotate_left
  · have H := Lib.hid (HE1.out h0)
    have H0 := Lib.hid h0
    have hne : decide (shelfChk l = 0) = false := by simpa using h0
    generalize shelfChk l = sc at *
    go_wp2
    go_ret2
    exact ⟨_, ret_ve H.out.symm, by rw [dropR_bad (by rw [H.out]; exact H0.out)]; exact own_nilV _ _, M.out.bel⟩
  have HS := Lib.hid (HCZ.out.1 h0)
  have HE := Lib.hid (HE2.out h0)
  rw [h0]
  clear h0 HE1 HE2 HCZ
  have hl60 := HS.out.len
  have c0 := cell_of_block (j := 0) M.out.blk rfl
  go_wp2_with fail
  (with_reducible refine (id_c id _).mono ?_)
  rintro e w2 ⟨rfl, rfl⟩
  clear c0
  cases hid : idOk id
  · have H := Lib.hid (show dropE l id k = 3 by rw [HE.out, if_pos hid])
    clear hid HE
    go_wp2
    go_ret2
    exact ⟨_, ret_ve H.out.symm, by rw [dropR_bad (by rw [H.out]; decide)]; exact own_nilV _ _, M.out.bel⟩
  have HEK := Lib.hid (show dropE l id k = knChk k by rw [HE.out, if_neg (by rw [hid]; decide)])
  have HKC := Lib.hid (knChk_c _ _ k _ (HK.out.below M.out.bel))
  have c1 := cell_of_block (j := 1) M.out.blk rfl
  have c2 := cell_of_block (j := 2) M.out.blk rfl
  clear hid HE
  go_wp2_with fail
  (with_reducible refine (HKC.out).mono ?_)
  rintro e w2 ⟨rfl, hb1⟩
  replace M := Lib.hid (M.out.below hb1)
  clear hb1 HKC c1 c2
  by_cases hkz : knChk k = 0
  rotate_left
  · have H0 := Lib.hid hkz
    have hne : decide (knChk k = 0) = false := by simpa using hkz
    generalize knChk k = sc at *
    go_wp2
    go_ret2
    exact ⟨_, ret_ve HEK.out.symm, by rw [dropR_bad (by rw [HEK.out]; exact H0.out)]; exact own_nilV _ _, M.out.bel⟩
  have HKO := Lib.hid (HKZ.out.1 hkz).1
  rw [hkz] at HEK ⊢
  clear hkz HKZ
  have HCL := Lib.hid (vclone_c _ l w2 w2 M.out.row (Below.refl _ _) (by omega))
  go_wp2_with fail
  (with_reducible refine (HCL.out).mono ?_)
  rintro e w3 ⟨cv, rfl, hcv, hb1⟩
  obtain ⟨ca, cc, rfl⟩ := hcv.shape
  have HDL := Lib.hid (vdel_c VerOk w2 w3 _ l 125 #[.pointer (some ⟨w.heap.size, 0, none⟩)] (underB id k) hb1 hcv (by omega) HS.out.ok (drop1_p w.heap.size id k _ _ _ M.out.blk (HK.out.below M.out.bel) HKO.out))
  rw [show (l.filter fun v => !underB id k v) = dropL l id k from rfl] at HDL
  clear hcv hb1 HCL
  go_wp2_with fail
  (with_reducible refine (HDL.out).mono ?_)
  rintro e w4 ⟨s3, rfl, h3, hb3⟩
  obtain ⟨sa, sc, rfl⟩ := h3.shape
  have H3 := Lib.hid h3
  have HB3 := Lib.hid (M.out.bel.trans (hb3.mono M.out.bel.size))
  have HB3' := Lib.hid hb3
  have HOK := Lib.hid (show ∀ v ∈ dropL l id k, VerOk v from fun v hv => HS.out.ok v (List.mem_filter.1 hv).1)
  have hll : (dropL l id k).length ≤ 60 := Nat.le_trans (List.length_filter_le _ _) hl60
  clear h3 hb3 HDL
  have HR := Lib.hid (dropR_ok HEK.out)
  have HCP := Lib.hid (vcopied_c _ (dropL l id k) w4 (H3.out.at_ (Sub.of_below HB3'.out) (by omega)) (shok_bd HOK.out) (by omega))
  clear HOK
  generalize dropL l id k = pl at *
  go_wp2_with fail
  (with_reducible refine (HCP.out).mono ?_)
  rintro e w5 ⟨ov, rfl, ho, hb1⟩
  have HOV := Lib.hid (ho.mono HB3.out.size)
  have HBE := Lib.hid (bstep HB3.out hb1)
  clear hb1 ho HCP
  go_wp2
  go_ret2
  exact ⟨_, ret_ve HEK.out.symm, by rw [HR.out]; exact HOV.out, HBE.out⟩
end Go.Proofs.Ytliieljmfncmjaa
