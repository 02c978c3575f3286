/- What ShelfGets does: it returns true. -/
import Derived.Test.YtliieljmfncmjaaShelfLaw3
import Derived.Test.YtliieljmfncmjaaMShelf16
namespace Go.Proofs.Ytliieljmfncmjaa
open Go.RowKit
theorem str_cell3 {w : World} {g i : Nat} (h : w.heap[g]? = some (Obj.cells #[.string ⟨#[97]⟩, .string ⟨#[98]⟩, .string ⟨#[99]⟩] 9 (0, 0))) (hi : i < 3) : w.cell? ⟨g, i, none⟩ = some (.string (sid3 i)) := by
  refine cell_of_block h ?_
  match i, hi with
  | 0, _ => rfl
  | 1, _ => rfl
  | 2, _ => rfl
set_option maxRecDepth 100000 in
set_option maxHeartbeats 8000000 in
theorem ShelfGets_walk (lv : Value) (l : List (List Int)) (w : World) (hl : RowAt vecE w lv l) :
    Calls Try.prog 12 #[lv] w fun e w' => e = .returned (.bool true) ∧ Below w.heap.size w w' := by
  have HL := Lib.hid hl
  obtain ⟨l1, l2, rfl⟩ := hl.shape
  clear hl
  go_enter Try.func12, Try.ntmps12
  go_wp2_with fail
  (with_reducible refine (shelfBegun_c _).mono ?_)
  rintro e w1 ⟨rfl, hb1⟩
  replace HL := Lib.hid (HL.out.below hb1)
  have HB := Lib.hid hb1
  clear hb1
  have HTD := Lib.hid (vtold_c _ l _ HL.out)
  go_wp2_with fail
  (with_reducible refine (HTD.out).mono ?_)
  rintro e w2 ⟨ov, U, rfl, hU, hU20, ho, hb1⟩
  replace HB := Lib.hid (bstep HB.out hb1)
  have HUN := Lib.hid (hU.uni (by omega))
  have HV := Lib.hid (ho.at_ (shok_bd hU.ok) (by omega))
  obtain ⟨a, cap, rfl⟩ := HV.out.shape
  have hX0 := laid_shok HUN.out (fun _ h => h : ∀ x ∈ U, x ∈ U)
  have hXS := laid_sub HUN.out (fun _ h => h : ∀ x ∈ U, x ∈ U)
  have HX0 := Lib.hid hX0
  have HXL := Lib.hid (show (laidL U).length ≤ 20 from Nat.le_trans (laid_len HUN.out) hU20)
  have HG := Lib.hid (get_ok hU hU20 hXS hX0)
  have HSA := Lib.hid (sumG_all fun v hv => hU.id v (hXS v hv))
  have HLC := Lib.hid (laid_c _ U _ HV.out (laid_ok HUN.out U fun _ h => h))
  clear hU ho hb1 HL HTD hX0 hXS
  go_wp2_with fail
  (with_reducible refine (HLC.out).mono ?_)
  rintro e w3 ⟨ox, rfl, ho, hb1⟩
  replace HB := Lib.hid (bstep HB.out hb1)
  have HX := Lib.hid (ho.at_ (shok_bd HX0.out.ok) (by have := HX0.out.len; omega))
  obtain ⟨xa, xc, rfl⟩ := HX.out.shape
  clear hb1 HLC ho HV HUN
  generalize laidL U = X at *
  obtain ⟨BS, hBS⟩ : ∃ BS, BS = w3.heap.size := ⟨_, rfl⟩
  obtain ⟨wo, hwo⟩ : ∃ wo, wo = w3.alloc (.cells #[.string ⟨#[97]⟩, .string ⟨#[98]⟩, .string ⟨#[99]⟩] 9) := ⟨_, rfl⟩
  have hb1 : Below w3.heap.size w3 wo := by rw [hwo]; exact bal _
  have KS := Lib.hid (show wo.heap[BS]? = some (Obj.cells #[.string ⟨#[97]⟩, .string ⟨#[98]⟩, .string ⟨#[99]⟩] 9 (0, 0)) by rw [hwo]; exact alloc_new _ _ _ _ hBS)
  replace HB := Lib.hid (bstep HB.out hb1)
  replace HX := Lib.hid (HX.out.below hb1)
  clear hb1
  go_wp2
  rw [← hBS, ← hwo]
  clear hBS hwo w3
  go_loopw [5, 30] (fun u i wr => ∃ k : Nat, k ≤ 3 ∧ i = .int .i64 k ∧ u = .int .i64 (sumG X k : Nat) ∧ Below wo.heap.size wo wr) (fun _ i _ => 3 - (intOf i).toNat)
  case atStart => exact ⟨0, Nat.zero_le _, rfl, rfl, Below.refl _ _⟩
  case round =>
    obtain ⟨k, hk, rfl, rfl, hbl⟩ := hrel
    have HB1 := Lib.hid hbl
    clear hbl
    by_cases hlt : k < 3
    · have hltb : decide ((k : Int) < 3) = true := by simp; omega
      have c0 := str_cell3 (below_keep HB1.out KS.out) hlt
      have hgk := HG.out (sid3 k)
      have HSU := Lib.hid (show sumG X (k + 1) = sumG X k + (getL X (sid3 k)).length from rfl)
      have HSB := Lib.hid (sumG_le X k)
      have hGL : (getL X (sid3 k)).length ≤ 20 := Nat.le_trans (List.length_filter_le _ _) HXL.out
      have HC := Lib.hid (get_c _ X (sid3 k) wr (HX.out.below HB1.out))
      have HP := Lib.hid (fun w2 (hx : RowAt verE w2 (.slice xa X.length xc) X) => past_c _ X (sid3 k) w2 hx)
      rw [hgk.gr] at HC
      rw [hgk.pe] at HP
      have HGK := Lib.hid hgk
      have hOK : ∀ v ∈ getL X (sid3 k), VerOk v := fun v hv => HX0.out.ok v (hgk.sub v hv)
      have HOK := Lib.hid hOK
      clear hgk hOK
      by_cases hS : getL X (sid3 k) = []
      · have hge := HGK.out.ge0 hS
        have HNI := Lib.hid (HGK.out.nil hS)
        rw [hge] at HC
        rw [hS] at HC HSU
        generalize pastF X (sid3 k) = K at *
        clear hge hGL HOK HGK
        go_wp2_with fail
        (with_reducible refine (HC.out).mono ?_)
        rintro e w4 ⟨ov, rfl, ho, hb1⟩
        obtain ⟨ga, gc, rfl⟩ := ho.shape
        replace HB1 := Lib.hid (bstep HB1.out hb1)
        have HC2 := Lib.hid (HP.out w4 (HX.out.below HB1.out))
        clear hb1 HC ho c0 HP
        go_wp2_with fail
        (with_reducible refine (HC2.out).mono ?_)
        rintro e w5 ⟨ku, kx, rfl, hk5, hb1⟩
        replace HB1 := Lib.hid (bstep HB1.out hb1)
        have hko := (hk5.resolve_right fun h => h.1 rfl).2
        rw [HNI.out] at hko
        have hka := hko.at_ (by decide) (by decide)
        obtain ⟨ua, uc, rfl⟩ := hka.vec.shape
        obtain ⟨ya, yc, rfl⟩ := hka.more.shape
        obtain ⟨BK, hBK⟩ : ∃ BK, BK = w5.heap.size := ⟨_, rfl⟩
        obtain ⟨w6, hw6⟩ : ∃ w6, w6 = w5.alloc (.cells #[.slice ua 0 uc, .slice ya 0 yc] 55) := ⟨_, rfl⟩
        have hb6 : Below w5.heap.size w5 w6 := by rw [hw6]; exact bal _
        replace HB1 := Lib.hid (bstep HB1.out hb6)
        have HC := Lib.hid (sameK_c (.slice ua 0 uc) (.slice ya 0 yc) (.slice none 0 0) (.slice none 0 0) ⟨[], []⟩ ⟨[], []⟩ w6 (hka.below hb6) (KnOwn.at_ (base := 0) ⟨World.ownsRow_nil _ _ _ _, World.ownsRow_nil _ _ _ _⟩ (by decide) (by decide)))
        have hdk : decide ((⟨[], []⟩ : Kn) = ⟨[], []⟩) = true := by simp
        rw [hdk] at HC
        clear hb1 HC2 hk5 hko hka hb6 hdk HNI
        go_wp2_with fail
        rw [← hBK, ← hw6]
        clear hBK hw6
        (with_reducible refine (HC.out).mono ?_)
        rintro e w7 ⟨rfl, hb1⟩
        replace HB1 := Lib.hid (bstep HB1.out hb1)
        clear hb1 HC
        have hs1 := HSU.out
        have hs2 := HSB.out
        have hs3 := HXL.out
        have hs4 : k * X.length ≤ 3 * 20 := Nat.mul_le_mul hk hs3
        go_wp2
        refine wp_loop_rounds 1 ?_
        rw [rounds_succ]
        go_wp2
        go_roundw
        case rel => exact ⟨k + 1, by omega, by go_num, by rw [hs1]; simp, HB1.out⟩
        case measure => simp [intOf] <;> omega
      · have hge := HGK.out.ge1 hS
        have HHS := Lib.hid HGK.out.has
        have HKO := Lib.hid HGK.out.ko
        have HKL := Lib.hid HGK.out.kl
        rw [hge] at HC
        generalize pastF X (sid3 k) = K at *
        generalize getL X (sid3 k) = S at *
        clear hge HGK hS
        go_wp2_with fail
        (with_reducible refine (HC.out).mono ?_)
        rintro e w4 ⟨ov, rfl, ho, hb1⟩
        replace HB1 := Lib.hid (bstep HB1.out hb1)
        have HS := Lib.hid (ho.at_ (shok_bd HOK.out) (by omega))
        obtain ⟨ga, gc, rfl⟩ := HS.out.shape
        have HC2 := Lib.hid (HP.out w4 (HX.out.below HB1.out))
        clear hb1 HC ho c0 HP
        go_wp2_with fail
        (with_reducible refine (HC2.out).mono ?_)
        rintro e w5 ⟨ku, kx, rfl, hk5, hb1⟩
        replace HB1 := Lib.hid (bstep HB1.out hb1)
        replace HS := Lib.hid (HS.out.below hb1)
        have hka := (hk5.resolve_right fun h => h.1 rfl).2.at_ HKO.out.len (by have := HKL.out; omega)
        obtain ⟨ua, uc, rfl⟩ := hka.vec.shape
        obtain ⟨ya, yc, rfl⟩ := hka.more.shape
        obtain ⟨BK, hBK⟩ : ∃ BK, BK = w5.heap.size := ⟨_, rfl⟩
        obtain ⟨wi, hwi⟩ : ∃ wi, wi = w5.alloc (.cells #[.slice ua K.vec.length uc, .slice ya K.more.length yc] 55) := ⟨_, rfl⟩
        have hb6 : Below w5.heap.size w5 wi := by rw [hwi]; exact bal _
        replace HB1 := Lib.hid (bstep HB1.out hb6)
        replace HS := Lib.hid (HS.out.below hb6)
        have HK := Lib.hid (hka.below hb6)
        have KK := Lib.hid (show wi.heap[BK]? = some (Obj.cells #[.slice ua K.vec.length uc, .slice ya K.more.length yc] 55 (0, 0)) by rw [hwi]; exact alloc_new _ _ _ _ hBK)
        clear hb1 HC2 hk5 hka hb6
        go_wp2
        rw [← hBK, ← hwi]
        clear hBK hwi w5
        go_loopw [64] (fun i wr => ∃ q : Nat, q ≤ S.length ∧ i = .int .i64 q ∧ Below wi.heap.size wi wr) (fun i _ => S.length - (intOf i).toNat)
        case atStart => exact ⟨0, Nat.zero_le _, rfl, Below.refl _ _⟩
        case round =>
          obtain ⟨q, hq, rfl, hbl⟩ := hrel
          have HB2 := Lib.hid hbl
          clear hbl
          by_cases hqt : q < S.length
          · have HSr := Lib.hid (HS.out.below HB2.out)
            obtain ⟨a', cap', ha', -, -, -, hvl⟩ := HSr.out.open_
            simp only [Value.slice.injEq, true_and] at ha'
            obtain ⟨ha', rfl⟩ := ha'
            rcases hvl with hnil | ⟨b, off, rfl, hb, hc⟩
            · rw [hnil] at hqt; simp at hqt
            subst ha'
            obtain ⟨c, ⟨u, x, rfl, hk2⟩, hcc⟩ := hc q hqt
            obtain ⟨pa, pc, rfl⟩ := hk2.vec.shape
            obtain ⟨qa, qc, rfl⟩ := hk2.more.shape
            have hcl := fun (i : Nat) (y : Value) (hy : (verC S[q] (.slice pa S[q].past.vec.length pc) (.slice qa S[q].past.more.length qc)).toList[i]? = some y) => row8 (b := b) (off := off) (i := q) hcc hy
            have c0 := hcl 0 _ rfl
            have c1 := hcl 1 _ rfl
            have c2 := hcl 2 _ rfl
            have c3 := hcl 3 _ rfl
            have c4 := hcl 4 _ rfl
            have c5 := hcl 5 _ rfl
            have c6 := hcl 6 _ rfl
            have c7 := hcl 7 _ rfl
            rw [Nat.add_zero] at c0
            have hh := HHS.out S[q] (List.getElem_mem hqt)
            have HHH := Lib.hid hh
            clear hc hcc hcl hh
            generalize S[q] = v1 at *
            obtain ⟨BV, hBV⟩ : ∃ BV, BV = wr.heap.size := ⟨_, rfl⟩
            obtain ⟨w7, hw7⟩ : ∃ w7, w7 = wr.alloc (.cells #[.string v1.id, .int .i64 v1.ds, .int .i64 v1.dc, .int .i64 v1.tg, .int .i64 v1.nm, .int .i64 v1.bd, .slice pa v1.past.vec.length pc, .slice qa v1.past.more.length qc] 57) := ⟨_, rfl⟩
            have hb7 : Below wr.heap.size wr w7 := by rw [hw7]; exact bal _
            have KV7 := Lib.hid (show w7.heap[BV]? = some (Obj.cells #[.string v1.id, .int .i64 v1.ds, .int .i64 v1.dc, .int .i64 v1.tg, .int .i64 v1.nm, .int .i64 v1.bd, .slice pa v1.past.vec.length pc, .slice qa v1.past.more.length qc] 57 (0, 0)) by rw [hw7]; exact alloc_new _ _ _ _ hBV)
            replace HB2 := Lib.hid (bstep HB2.out hb7)
            have HVK := Lib.hid (hk2.below hb7)
            have HC := Lib.hid (knHas_c _ _ K v1.ds v1.dc w7 (HK.out.below HB2.out))
            rw [HHH.out.1, HHH.out.2.1] at HC
            have k0 := cell_of_block (j := 0) (below_keep HB2.out KK.out) rfl
            have k1 := cell_of_block (j := 1) (below_keep HB2.out KK.out) rfl
            have hkl := hlt_of (below_keep HB2.out KK.out)
            rw [hw7] at k0 k1 hkl
            have hqb : decide ((q : Int) < (S.length : Int)) = true := by simp; omega
            clear hk2 hb7
            go_wp2_with fail
            rw [← hBV, ← hw7]
            clear hBV hw7 k0 k1 hkl c0 c1 c2 c3 c4 c5 c6 c7 hb
            (with_reducible refine (HC.out).mono ?_)
            rintro e w8 ⟨rfl, hb1⟩
            replace HB2 := Lib.hid (bstep HB2.out hb1)
            replace KV7 := Lib.hid (below_keep hb1 KV7.out)
            replace HVK := Lib.hid (HVK.out.below hb1)
            clear hb1 HC
            have HC := Lib.hid (kwithin_c _ _ _ _ v1.past K w8 HVK.out (HK.out.below HB2.out))
            rw [HHH.out.2.2.1, HHH.out.2.2.2.1] at HC
            have k0 := cell_of_block (j := 0) (below_keep HB2.out KK.out) rfl
            have k1 := cell_of_block (j := 1) (below_keep HB2.out KK.out) rfl
            have hkl := hlt_of (below_keep HB2.out KK.out)
            have v6 := cell_of_block (j := 6) KV7.out rfl
            have v7 := cell_of_block (j := 7) KV7.out rfl
            have hvl := hlt_of KV7.out
            go_wp2_with fail
            (with_reducible refine (HC.out).mono ?_)
            rintro e w9 ⟨rfl, hb1⟩
            replace HB2 := Lib.hid (bstep HB2.out hb1)
            replace KV7 := Lib.hid (below_keep hb1 KV7.out)
            clear hb1 HC k0 k1 hkl v6 v7 hvl
            have v0 := cell_of_block (j := 0) KV7.out rfl
            have hvl := hlt_of KV7.out
            have hids : (v1.id.toList == (sid3 k).toList) = true := by rw [ids_eq, HHH.out.2.2.2.2]; simp
            go_wp2
            go_roundw
            case rel => exact ⟨q + 1, by omega, by go_num, HB2.out⟩
            case measure => simp [intOf] <;> omega
          · obtain rfl : q = S.length := by omega
            have HB3 := Lib.hid (bstep HB1.out HB2.out)
            have hs1 := HSU.out
            have hs2 := HSB.out
            have hs3 := HXL.out
            have hs4 : k * X.length ≤ 3 * 20 := Nat.mul_le_mul hk hs3
            go_wp2
            go_roundw
            case rel => exact ⟨k + 1, by omega, by go_num, by rw [hs1]; go_num, HB3.out⟩
            case measure => simp [intOf] <;> omega
    · obtain rfl : k = 3 := by omega
      have hfin := bstep HB.out HB1.out
      have hsa := HSA.out
      rw [hsa]
      go_wp2
      go_ret
      exact ⟨rfl, hfin⟩
end Go.Proofs.Ytliieljmfncmjaa
