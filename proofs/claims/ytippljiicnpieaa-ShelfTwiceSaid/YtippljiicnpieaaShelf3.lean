/- Slices of versions: what slices.IndexFunc and slices.ContainsFunc do, and the closure of shelf.Check. -/
import Derived.Test.YtippljiicnpieaaShelf2
namespace Go.Proofs.Ytippljiicnpieaa
open Go.RowKit
def PredV (D : Ver → Prop) (g : FuncId) (caps : Array Value) (p : Ver → Bool) (w : World) : Prop :=
  (∀ args W, (callFunc g args).run Try.prog W = .ok (.enter g args) W) ∧ ∀ (v : Ver) (u x : Value) (W : World), D v → Below w.heap.size w W → KnAt W u x v.past → Calls Try.prog g (#[.agg (verC v u x)] ++ caps) W fun e w' => e = .returned (.bool (p v)) ∧ Below W.heap.size W w'
/-- The first that p is true of. -/
def firstI (p : Ver → Bool) (l : List Ver) : Int := match l.findIdx? p with | some i => i | none => -1
theorem firstI_at {p : Ver → Bool} {l : List Ver} {k : Nat} (hk : k < l.length) (hp : p l[k] = true) (h : ∀ j (hj : j < k), p (l[j]'(by omega)) = false) : firstI p l = k := by
  unfold firstI
  have : l.findIdx? p = some k := by
    rw [List.findIdx?_eq_some_iff_getElem]
    exact ⟨hk, hp, fun j hj => by rw [h j hj]; decide⟩
  rw [this]
theorem firstI_none {p : Ver → Bool} {l : List Ver} (h : ∀ j (hj : j < l.length), p l[j] = false) : firstI p l = -1 := by
  unfold firstI
  have : l.findIdx? p = none := by
    rw [List.findIdx?_eq_none_iff]
    intro x hx
    obtain ⟨j, hj, rfl⟩ := List.getElem_of_mem hx
    exact h j hj
  rw [this]
theorem firstI_any (p : Ver → Bool) (l : List Ver) : decide (0 ≤ firstI p l) = l.any p := by
  unfold firstI
  cases h : l.findIdx? p with
  | none =>
    rw [List.findIdx?_eq_none_iff] at h
    rw [show l.any p = false by rw [List.any_eq_false]; intro x hx; rw [h x hx]; decide]
    rfl
  | some i =>
    rw [List.findIdx?_eq_some_iff_getElem] at h
    obtain ⟨h1, h2, -⟩ := h
    rw [show l.any p = true by rw [List.any_eq_true]; exact ⟨_, List.getElem_mem h1, h2⟩]
    simp
theorem row8 {w : World} {b off i : Nat} {c : List Value} (h : ∀ (j : Nat) (x : Value), c[j]? = some x → w.cell? ⟨b, off + (i * 8 + j), none⟩ = some x) {j : Nat} {x : Value} (hx : c[j]? = some x) : w.cell? ⟨b, off + i * 8 + j, none⟩ = some x := by
  rw [Nat.add_assoc]; exact h j x hx
set_option maxRecDepth 100000 in
set_option maxHeartbeats 2000000 in
theorem indexV_c (D : Ver → Prop) (vv : Value) (l : List Ver) (g : FuncId) (caps : Array Value) (p : Ver → Bool) (w : World) (hv : RowAt verE w vv l) (hD : ∀ v ∈ l, D v) (hp : PredV D g caps p w) :
    Calls Try.prog 122 #[vv, .func (.func g) #[] caps] w fun e w' => e = .returned (.int .i64 (firstI p l)) ∧ Below w.heap.size w w' := by
  obtain ⟨a, cap, rfl, hcap, hlen, -, hvl⟩ := hv.open_
  obtain ⟨hcall, hp⟩ := hp
  have HP := Lib.hid hp
  have HD := Lib.hid hD
  clear hv hp hD
  go_enter Try.func122, Try.ntmps122
  go_wp2
  go_loopw [8] (fun i wr => ∃ k : Nat, k ≤ l.length ∧ i = .int .i64 k ∧ (∀ j (hj : j < l.length), j < k → p l[j] = false) ∧ Below w.heap.size w wr) (fun i _ => l.length - (intOf i).toNat)
  case atStart => exact ⟨0, Nat.zero_le _, rfl, fun j _ h => by omega, Below.refl _ _⟩
  case round =>
    obtain ⟨k, hk, rfl, hall, hbl⟩ := hrel
    have HALL := Lib.hid hall
    clear hall
    by_cases hlt : k < l.length
    · rcases hvl with hnil | ⟨b, off, rfl, hb, hc⟩
      · rw [hnil] at hlt; simp at hlt
      obtain ⟨c, ⟨u, x, rfl, hk2⟩, hcc⟩ := hc k hlt
      have hbc := fun (j : Nat) (y : Value) (hy : (verC l[k] u x).toList[j]? = some y) => (hbl.cell (p := ⟨b, off + (k * verE.size + j), none⟩) hb).trans (hcc j y hy)
      have hbc8 := fun {j : Nat} {y : Value} (hy : (verC l[k] u x).toList[j]? = some y) => row8 (w := wr) (b := b) (off := off) (i := k) (c := (verC l[k] u x).toList) hbc hy
      have c0 := hbc8 (j := 0) rfl
      have c1 := hbc8 (j := 1) rfl
      have c2 := hbc8 (j := 2) rfl
      have c3 := hbc8 (j := 3) rfl
      have c4 := hbc8 (j := 4) rfl
      have c5 := hbc8 (j := 5) rfl
      have c6 := hbc8 (j := 6) rfl
      have c7 := hbc8 (j := 7) rfl
      rw [Nat.add_zero] at c0
      have HV := Lib.hid (HP.out l[k] u x wr (HD.out _ (List.getElem_mem hlt)) hbl (hk2.below hbl))
      obtain ⟨ua, uc, rfl⟩ := hk2.vec.shape
      obtain ⟨xa, xc, rfl⟩ := hk2.more.shape
      have HF := Lib.hid (fun (h : p l[k] = true) => firstI_at hlt h fun j hj => HALL.out j (by omega) hj)
      have HG := Lib.hid (fun (h : p l[k] = false) j (hj : j < l.length) (hj2 : j < k + 1) => (show p l[j] = false by
        by_cases e : j = k
        · subst e; exact h
        · exact HALL.out j hj (by omega)))
      clear hc hcc hbc hbc8 hk2
      generalize l[k] = v at *
      unfold verC at HV
      go_wp2_with fail
      refine (HV.out).mono ?_
      rintro e w1 ⟨rfl, hb1⟩
      have hbl1 := bstep hbl hb1
      clear hbl hb1 HV c0 c1 c2 c3 c4 c5 c6 c7
      cases hpv : p v
      · have HNN := Lib.hid (HG.out hpv)
        clear hpv
        go_wp2
        go_roundw
        case rel => exact ⟨k + 1, by omega, by go_num, HNN.out, hbl1⟩
        case measure => simp [intOf] <;> omega
      · have HNN := Lib.hid (HF.out hpv)
        clear hpv
        go_wp2
        go_ret
        exact ⟨by rw [HNN.out]; rfl, hbl1⟩
    · have HNN := Lib.hid (firstI_none fun j hj => HALL.out j hj (by omega))
      go_wp2
      go_ret
      exact ⟨by rw [HNN.out]; rfl, hbl⟩
set_option maxRecDepth 100000 in
theorem containsV_c (D : Ver → Prop) (vv : Value) (l : List Ver) (g : FuncId) (caps : Array Value) (p : Ver → Bool) (w : World) (hv : RowAt verE w vv l) (hD : ∀ v ∈ l, D v) (hp : PredV D g caps p w) :
    Calls Try.prog 41 #[vv, .func (.func g) #[] caps] w fun e w' => e = .returned (.bool (l.any p)) ∧ Below w.heap.size w w' := by
  have H := Lib.hid (indexV_c D vv l g caps p w hv hD hp)
  obtain ⟨a, cap, rfl⟩ := hv.shape
  have HA := Lib.hid (firstI_any p l)
  clear hv hD hp
  go_enter Try.func41, Try.ntmps41
  go_wp2_with fail
  refine (H.out).mono ?_
  rintro e w1 ⟨rfl, hb1⟩
  go_wp2
  go_ret
  exact ⟨by rw [← HA.out]; rfl, hb1⟩
end Go.Proofs.Ytippljiicnpieaa
