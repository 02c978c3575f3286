/- What know.two, told, Has, Count do. -/
import Derived.Test.YtippljiicnpieaaKnow3
import Derived.Test.YtippljiicnpieaaBase3
namespace Go.Proofs.Ytippljiicnpieaa
open Go.RowKit
def knTwo (a b : Kn) : Int := if knChk a = 0 then knChk b else knChk a
theorem knTwo_zero {a b : Kn} : knTwo a b = 0 ↔ knChk a = 0 ∧ knChk b = 0 := by
  unfold knTwo; split
  · rename_i h; simp [h]
  · rename_i h; simp [h]
set_option maxRecDepth 100000 in
set_option maxHeartbeats 400000 in
theorem ktwo_c (ua va ub vb : Value) (a b : Kn) (w : World) (ha : KnAt w ua va a) (hb : KnAt w ub vb b) :
    Calls Try.prog 125 #[.agg #[ua, va], .agg #[ub, vb]] w fun e w' => e = .returned (.int .i64 (knTwo a b)) ∧ Below w.heap.size w w' := by
  obtain ⟨xa, ca, rfl⟩ := ha.vec.shape
  obtain ⟨ya, da, rfl⟩ := ha.more.shape
  obtain ⟨xb, cb, rfl⟩ := hb.vec.shape
  obtain ⟨yb, db, rfl⟩ := hb.more.shape
  have hbx : Below w.heap.size w ((w.alloc (.cells #[.slice xa a.vec.length ca, .slice ya a.more.length da] 30)).alloc (.cells #[.slice xb b.vec.length cb, .slice yb b.more.length db] 30)) := (bal _).alloc (by simp) _
  have HA := Lib.hid (ha.below hbx)
  have HB := Lib.hid (hb.below hbx)
  have C0 := Lib.hid (cat (w.alloc (.cells #[.slice xa a.vec.length ca, .slice ya a.more.length da] 30)) #[.slice xb b.vec.length cb, .slice yb b.more.length db] 30 0 _ rfl (w.heap.size + 1) (by simp))
  have C1 := Lib.hid (cat (w.alloc (.cells #[.slice xa a.vec.length ca, .slice ya a.more.length da] 30)) #[.slice xb b.vec.length cb, .slice yb b.more.length db] 30 1 _ rfl (w.heap.size + 1) (by simp))
  have HBX := Lib.hid hbx
  clear ha hb hbx
  go_enter Try.func125, Try.ntmps125
  go_wp2_with fail
  (with_reducible refine (knChk_c _ _ a _ HA.out).mono ?_)
  rintro e w1 ⟨rfl, hb1⟩
  have c0 := ckeep hb1 C0.out
  have c1 := ckeep hb1 C1.out
  have HB1 := Lib.hid (HB.out.below hb1)
  have hbl := bstep HBX.out hb1
  clear hb1 C0 C1 HBX
  cases hx : (knChk a == 0)
  · have H := Lib.hid (show knTwo a b = knChk a by unfold knTwo; rw [if_neg (by simpa using hx)])
    have h' : (knChk a != 0) = true := by simp [bne, hx]
    clear hx
    go_wp2
    go_ret
    exact ⟨ret_int H.out.symm, hbl⟩
  have H := Lib.hid (show knTwo a b = knChk b by unfold knTwo; rw [if_pos (by simpa using hx)])
  have h0 : knChk a = 0 := by simpa using hx
  rw [h0]
  clear hx h0
  go_wp2_with fail
  (with_reducible refine (knChk_c _ _ b _ HB1.out).mono ?_)
  rintro e w2 ⟨rfl, hb2⟩
  replace hbl := bstep hbl hb2
  clear hb2 c0 c1
  go_wp2
  go_ret
  exact ⟨ret_int H.out.symm, hbl⟩

def knHas (k : Kn) (s c : Int) : Bool := if knChk k = 0 then (if dotOk (s, c) = true then knIn k s c else false) else false
def knHasE (k : Kn) (s c : Int) : Int := if knChk k = 0 then (if dotOk (s, c) = true then 0 else 1) else knChk k
set_option maxRecDepth 100000 in
set_option maxHeartbeats 400000 in
theorem knHas_c (u v : Value) (k : Kn) (s c : Int) (w : World) (hk : KnAt w u v k) :
    Calls Try.prog 51 #[.agg #[u, v], .agg #[.int .i64 s, .int .i64 c]] w fun e w' => e = .returned (.tuple #[.bool (knHas k s c), .int .i64 (knHasE k s c)]) ∧ Below w.heap.size w w' := by
  obtain ⟨xa, ca, rfl⟩ := hk.vec.shape
  obtain ⟨ya, da, rfl⟩ := hk.more.shape
  obtain ⟨W, hW⟩ : ∃ W, W = (w.alloc (.cells #[.slice xa k.vec.length ca, .slice ya k.more.length da] 30)).alloc (.cells #[.int .i64 s, .int .i64 c] 24) := ⟨_, rfl⟩
  have hbW : Below w.heap.size w W := by rw [hW]; exact (bal _).alloc (by simp) _
  have K0 := Lib.hid (show W.cell? ⟨w.heap.size, 0, none⟩ = some (.slice xa k.vec.length ca) by rw [hW]; exact cpast _ (cat _ _ _ 0 _ rfl _ rfl))
  have K1 := Lib.hid (show W.cell? ⟨w.heap.size, 1, none⟩ = some (.slice ya k.more.length da) by rw [hW]; exact cpast _ (cat _ _ _ 1 _ rfl _ rfl))
  have S0 := Lib.hid (show W.cell? ⟨w.heap.size + 1, 0, none⟩ = some (.int .i64 s) by rw [hW]; exact cat _ _ _ 0 _ rfl _ (by simp))
  have S1 := Lib.hid (show W.cell? ⟨w.heap.size + 1, 1, none⟩ = some (.int .i64 c) by rw [hW]; exact cat _ _ _ 1 _ rfl _ (by simp))
  have HK := Lib.hid (hk.below hbW)
  have HBW := Lib.hid hbW
  clear hbW hk
  go_enter Try.func51, Try.ntmps51
  go_wp2_with fail
  rw [← hW]
  clear hW
  (with_reducible refine (knChk_c _ _ k _ HK.out).mono ?_)
  rintro e w1 ⟨rfl, hb⟩
  have k0 := ckeep hb K0.out
  have k1 := ckeep hb K1.out
  have s0 := ckeep hb S0.out
  have s1 := ckeep hb S1.out
  have HK1 := Lib.hid (HK.out.below hb)
  have hbl := bstep HBW.out hb
  clear hb K0 K1 S0 S1 HK HBW
  cases hx : (knChk k == 0)
  · have hn : knChk k ≠ 0 := by simpa using hx
    have H := Lib.hid (show knHas k s c = false ∧ knHasE k s c = knChk k by unfold knHas knHasE; rw [if_neg hn, if_neg hn]; exact ⟨rfl, rfl⟩)
    have h' : (knChk k != 0) = true := by simp [bne, hx]
    clear hx hn
    go_wp2
    go_ret2
    exact ⟨ret_be H.out.1.symm H.out.2.symm, hbl⟩
  have h0 : knChk k = 0 := by simpa using hx
  have HOK := Lib.hid (knChk_zero.1 h0).1
  have H0 := Lib.hid h0
  rw [h0]
  clear hx h0
  go_wp2_with fail
  (with_reducible refine (dot_c s c _).mono ?_)
  rintro e w2 ⟨rfl, hb⟩
  replace k0 := ckeep hb k0
  replace k1 := ckeep hb k1
  replace s0 := ckeep hb s0
  replace s1 := ckeep hb s1
  have HK2 := Lib.hid (HK1.out.below hb)
  replace hbl := bstep hbl hb
  clear hb HK1
  cases hd : dotOk (s, c)
  · have H := Lib.hid (show knHas k s c = false ∧ knHasE k s c = 1 by unfold knHas knHasE; rw [if_pos H0.out, if_pos H0.out, hd]; exact ⟨rfl, rfl⟩)
    clear hd
    go_wp2
    go_ret2
    exact ⟨ret_be H.out.1.symm H.out.2.symm, hbl⟩
  have H := Lib.hid (show knHas k s c = knIn k s c ∧ knHasE k s c = 0 by unfold knHas knHasE; rw [if_pos H0.out, if_pos H0.out, hd]; exact ⟨rfl, rfl⟩)
  have HD := Lib.hid hd
  have HBD := Lib.hid (dotBd_of (l := [(s, c)]) fun d hx => by simp only [List.mem_singleton] at hx; rw [hx]; exact hd)
  obtain ⟨⟨d0, d5⟩, d1, d2⟩ := dotOk_iff'.1 hd
  clear hd
  go_wp2_with fail
  (with_reducible refine (knIn_c _ _ k s c _ HK2.out d0 HOK.out.ord (dotBd_of fun d hd => (HOK.out.dots d hd).1) HBD.out).mono ?_)
  rintro e w3 ⟨rfl, hb⟩
  replace hbl := bstep hbl hb
  clear hb k0 k1 s0 s1
  go_wp2
  go_ret2
  exact ⟨ret_be H.out.1.symm H.out.2.symm, hbl⟩

def knCount (k : Kn) : Int := if knChk k = 0 then k.more.length + k.vec.sum else 0
theorem sum_take (l : List Int) (i : Nat) (hi : i < l.length) : (l.take (i + 1)).sum = (l.take i).sum + l[i] := by
  rw [List.take_succ_eq_append_getElem hi, List.sum_append]; simp
theorem sum_bd (l : List Int) (h : ∀ n ∈ l, 0 ≤ n ∧ n ≤ 1000) : 0 ≤ l.sum ∧ l.sum ≤ 1000 * l.length := by
  induction l with
  | nil => simp
  | cons x l ih => have := ih fun n hn => h n (List.mem_cons_of_mem _ hn); have := h x List.mem_cons_self; simp only [List.sum_cons, List.length_cons]; omega
set_option maxRecDepth 100000 in
set_option maxHeartbeats 1000000 in
theorem knCount_c (u v : Value) (k : Kn) (w : World) (hk : KnAt w u v k) :
    Calls Try.prog 57 #[.agg #[u, v]] w fun e w' => e = .returned (.tuple #[.int .i64 (knCount k), .int .i64 (knChk k)]) ∧ Below w.heap.size w w' := by
  obtain ⟨ya, da, rfl⟩ := hk.more.shape
  obtain ⟨ua, uc, rfl, -, hum, -, hul⟩ := hk.vec.open_
  have hbW : Below w.heap.size w (w.alloc (.cells #[.slice ua k.vec.length uc, .slice ya k.more.length da] 30)) := bal _
  have K0 := Lib.hid (cat w #[.slice ua k.vec.length uc, .slice ya k.more.length da] 30 0 _ rfl _ rfl)
  have K1 := Lib.hid (cat w #[.slice ua k.vec.length uc, .slice ya k.more.length da] 30 1 _ rfl _ rfl)
  have HK := Lib.hid (hk.below hbW)
  have HBW := Lib.hid hbW
  clear hbW hk
  go_enter Try.func57, Try.ntmps57
  go_wp2_with fail
  (with_reducible refine (knChk_c _ _ k _ HK.out).mono ?_)
  rintro e w1 ⟨rfl, hb⟩
  have k0 := ckeep hb K0.out
  have k1 := ckeep hb K1.out
  have hbl := bstep HBW.out hb
  clear hb K0 K1 HK HBW
  cases hx : (knChk k == 0)
  · have H := Lib.hid (show knCount k = 0 by unfold knCount; rw [if_neg (by simpa using hx)])
    have h' : (knChk k != 0) = true := by simp [bne, hx]
    clear hx hul
    go_wp2
    go_ret2
    exact ⟨ret_ie H.out.symm rfl, hbl⟩
  have h0 : knChk k = 0 := by simpa using hx
  obtain ⟨ok, h60⟩ := knChk_zero.1 h0
  have H := Lib.hid (show knCount k = k.more.length + k.vec.sum by unfold knCount; rw [if_pos h0])
  have HBD := Lib.hid ok.bd
  have h5 := ok.len
  have H0 := Lib.hid h0
  rw [h0]
  clear hx h0 ok
  go_wp2
  go_loop [5, 19] (fun n i => ∃ q : Nat, q ≤ k.vec.length ∧ i = .int .i64 q ∧ n = .int .i64 (k.more.length + (k.vec.take q).sum)) (fun _ i => k.vec.length - (intOf i).toNat)
  case atStart => exact ⟨0, Nat.zero_le _, rfl, by simp⟩
  case round =>
    obtain ⟨q, hq, rfl, rfl⟩ := hrel
    by_cases hlt : q < k.vec.length
    · rcases hul with hnil | ⟨b, off, rfl, hb, hc⟩
      · rw [hnil] at hlt; simp at hlt
      have c1 := (hbl.cell (p := ⟨b, off + q, none⟩) hb).trans (hc q hlt)
      have HT := Lib.hid (sum_take k.vec q hlt)
      obtain ⟨x0, x1⟩ := HBD.out _ (List.getElem_mem hlt)
      obtain ⟨s0, s1⟩ := sum_bd (k.vec.take q) fun n hn => HBD.out n (List.mem_of_mem_take hn)
      have hl : (k.vec.take q).length ≤ 5 := by simp; omega
      have s2 : (k.vec.take q).sum ≤ 5000 := by omega
      clear hc s1 hl
      generalize (k.vec.take q).sum = S at *
      generalize k.vec[q] = x at *
      go_wp2
      go_round
      case rel => exact ⟨q + 1, by omega, by go_num, by rw [HT.out]; congr 1; omega⟩
      case measure => simp [intOf]; omega
    · obtain rfl : q = k.vec.length := by omega
      go_wp2
      go_ret2
      exact ⟨ret_ie (by rw [H.out]) H0.out.symm, hbl⟩
end Go.Proofs.Ytippljiicnpieaa
