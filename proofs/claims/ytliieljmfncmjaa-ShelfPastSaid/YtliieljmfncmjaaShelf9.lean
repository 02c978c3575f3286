/- What the reference's Over does. Written by a small program (gen/shelf9.py). -/
import Derived.Test.YtliieljmfncmjaaMShelf1
import Derived.Test.YtliieljmfncmjaaMDots4
import Derived.Test.YtliieljmfncmjaaMClaims
import Derived.Deep.QuietTactic
import Derived.BigQuiet
namespace Go.Proofs.Ytliieljmfncmjaa
open Go.RowKit
def DotsV (v : Value) (k : Kn) : Prop := ∃ m, v = .agg (dotC m) ∧ DWord m ∧ Has1 m (allP k)
set_option maxRecDepth 100000 in
set_option maxHeartbeats 2000000 in
theorem rover_c (a b : Ver) (u x y z : Value) (w : World) (ha : KnAt w u x a.past) (hb : KnAt w y z b.past) (hok : KnOk a.past) (h60 : a.past.more.length ≤ 60) (hd : dotOk (b.ds, b.dc) = true) :
    Calls Try.prog 36 #[.agg (verC a u x), .agg (verC b y z)] w fun e w' => e = .returned (.bool (verOver a b)) ∧ Below w.heap.size w w' := by
  obtain ⟨xa, ca, rfl⟩ := ha.vec.shape
  obtain ⟨ya, da, rfl⟩ := ha.more.shape
  obtain ⟨xb, cb, rfl⟩ := hb.vec.shape
  obtain ⟨yb, db, rfl⟩ := hb.more.shape
  obtain ⟨W, hW⟩ : ∃ W, W = (w.alloc (.cells (verC a (.slice xa a.past.vec.length ca) (.slice ya a.past.more.length da)) 57)).alloc (.cells (verC b (.slice xb b.past.vec.length cb) (.slice yb b.past.more.length db)) 57) := ⟨_, rfl⟩
  have hbel : Below w.heap.size w W := by rw [hW]; exact (bal _).alloc (by simp) _
  have A := (show W.heap[w.heap.size]? = some (Obj.cells (verC a (.slice xa a.past.vec.length ca) (.slice ya a.past.more.length da)) 57 (0, 0)) by rw [hW]; exact alloc_keep _ (alloc_new _ _ _ _ rfl))
  have B := (show W.heap[w.heap.size + 1]? = some (Obj.cells (verC b (.slice xb b.past.vec.length cb) (.slice yb b.past.more.length db)) 57 (0, 0)) by rw [hW]; exact alloc_new _ _ _ _ (by simp))
  obtain ⟨a0, a1, a2, a6, a7⟩ := verAt A
  obtain ⟨b0, b1, b2, b6, b7⟩ := verAt B
  have A0 := Lib.hid a0
  have A6 := Lib.hid a6
  have A7 := Lib.hid a7
  have B0 := Lib.hid b0
  have B1 := Lib.hid b1
  have B2 := Lib.hid b2
  have HK := Lib.hid (ha.below hbel)
  have OK := Lib.hid hok
  have HBEL := Lib.hid hbel
  have HO := Lib.hid (show verOver a b = (decide (a.id = b.id) && knIn a.past b.ds b.dc) from rfl)
  have hids := ids_eq a.id b.id
  obtain ⟨⟨d0, d5⟩, d1, d2⟩ := dotOk_iff.1 hd
  simp only at d0 d5 d1 d2
  clear A B ha hb hok hd a0 a1 a2 a6 a7 b0 b1 b2 b6 b7 hbel
  unfold verC at hW ⊢
  generalize hq : decide (a.id = b.id) = q0 at *
  have HQ := Lib.hid hq
  clear hq
  obtain ⟨s, hs⟩ := Int.eq_ofNat_of_zero_le d0
  obtain ⟨c, hc⟩ := Int.eq_ofNat_of_zero_le (show 0 ≤ b.dc by omega)
  have HS := Lib.hid hs
  have HC := Lib.hid hc
  rw [hs] at d5
  rw [hc] at d1 d2
  have hs5 : s < 5 := by omega
  have hc1 : 1 ≤ c := by omega
  have hc2 : c < 1024 := by omega
  rw [hs] at B1
  rw [hc] at B2
  clear hs hc d0 d5 d1 d2
  cases q0
  · go_enter Try.func36, Try.ntmps36
    go_wp2_with fail
    rw [← hW]
    clear hW
    refine Cl.region0 18 rfl [] (fun _ => True) (fun _ => []) (fun jq v ww => match jq with | 0 => v = .pointer (some ⟨w.heap.size, 0, none⟩) | 1 => v = .string a.id | 2 => v = .pointer (some ⟨w.heap.size + 1, 0, none⟩) | 3 => v = .string b.id | 4 => v = .bool false | 5 => v = .bool false | 6 => v = undef | 7 => v = undef | 8 => v = undef | 9 => v = undef | 10 => v = undef | 11 => v = undef | 12 => v = .bool false | 13 => v = .bool false | _ => True) (fun ww => Below W.heap.size W ww) (fun jq ww ww' => Below ww.heap.size ww ww') Try.mixed (by decide +kernel) (Below.refl _ _).drew trivial (fun q r v w w' _ _ _ h _ => h) (fun _ _ _ _ _ _ => trivial) ?_ ?_
    · refine ⟨?_, ?_, ?_, ?_, ?_, ?_, ?_, ?_, ?_, ?_, ?_, ?_, ?_, ?_, trivial⟩
      · intro x wx hG
        have f2 := hG.old 2 (by decide +kernel)
        have hg := hG.good
        clear hG
        go_wp2
        exact ⟨_, rfl, rfl, hg, Below.refl _ _⟩
      · intro x wx hG
        have g0 : (x.tmps.getD 5 undef) = .pointer (some ⟨w.heap.size, 0, none⟩) := hG.claims 0 _ rfl (by decide +kernel) (by decide +kernel)
        have hg := hG.good
        clear hG
        have c_A0 := ckeep hg A0.out
        go_wp2
        exact ⟨_, rfl, rfl, hg, Below.refl _ _⟩
      · intro x wx hG
        have f3 := hG.old 3 (by decide +kernel)
        have hg := hG.good
        clear hG
        go_wp2
        exact ⟨_, rfl, rfl, hg, Below.refl _ _⟩
      · intro x wx hG
        have g2 : (x.tmps.getD 7 undef) = .pointer (some ⟨w.heap.size + 1, 0, none⟩) := hG.claims 2 _ rfl (by decide +kernel) (by decide +kernel)
        have hg := hG.good
        clear hG
        have c_B0 := ckeep hg B0.out
        go_wp2
        exact ⟨_, rfl, rfl, hg, Below.refl _ _⟩
      · intro x wx hG
        have g1 : (x.tmps.getD 6 undef) = .string a.id := hG.claims 1 _ rfl (by decide +kernel) (by decide +kernel)
        have g3 : (x.tmps.getD 8 undef) = .string b.id := hG.claims 3 _ rfl (by decide +kernel) (by decide +kernel)
        have hg := hG.good
        clear hG
        go_wp2
        exact ⟨_, rfl, rfl, hg, Below.refl _ _⟩
      · intro x wx hG
        have g4 : (x.tmps.getD 9 undef) = .bool false := hG.claims 4 _ rfl (by decide +kernel) (by decide +kernel)
        have hg := hG.good
        clear hG
        go_wp2
        exact ⟨_, rfl, rfl, hg, Below.refl _ _⟩
      · intro x wx hG
        have gg : (x.tmps.getD 10 undef) = .bool false := hG.claims 5 _ rfl (by decide +kernel) (by decide +kernel)
        replace gg := Cl.opt (hG.size.trans (show _ = 18 from rfl)) (by decide) gg
        have hg := hG.good
        clear hG
        go_wp2
        exact ⟨_, rfl, rfl, hg, Below.refl _ _⟩
      · intro x wx hG
        have gg : (x.tmps.getD 10 undef) = .bool false := hG.claims 5 _ rfl (by decide +kernel) (by decide +kernel)
        replace gg := Cl.opt (hG.size.trans (show _ = 18 from rfl)) (by decide) gg
        have hg := hG.good
        clear hG
        go_wp2
        exact ⟨_, rfl, rfl, hg, Below.refl _ _⟩
      · intro x wx hG
        have gg : (x.tmps.getD 10 undef) = .bool false := hG.claims 5 _ rfl (by decide +kernel) (by decide +kernel)
        replace gg := Cl.opt (hG.size.trans (show _ = 18 from rfl)) (by decide) gg
        have hg := hG.good
        clear hG
        go_wp2
        exact ⟨_, rfl, rfl, hg, Below.refl _ _⟩
      · intro x wx hG
        have gg : (x.tmps.getD 10 undef) = .bool false := hG.claims 5 _ rfl (by decide +kernel) (by decide +kernel)
        replace gg := Cl.opt (hG.size.trans (show _ = 18 from rfl)) (by decide) gg
        have hg := hG.good
        clear hG
        go_wp2
        exact ⟨_, rfl, rfl, hg, Below.refl _ _⟩
      · intro x wx hG
        have gg : (x.tmps.getD 10 undef) = .bool false := hG.claims 5 _ rfl (by decide +kernel) (by decide +kernel)
        replace gg := Cl.opt (hG.size.trans (show _ = 18 from rfl)) (by decide) gg
        have hg := hG.good
        clear hG
        go_wp2
        exact ⟨_, rfl, rfl, hg, Below.refl _ _⟩
      · intro x wx hG
        have gg : (x.tmps.getD 10 undef) = .bool false := hG.claims 5 _ rfl (by decide +kernel) (by decide +kernel)
        replace gg := Cl.opt (hG.size.trans (show _ = 18 from rfl)) (by decide) gg
        have hg := hG.good
        clear hG
        go_wp2
        exact ⟨_, rfl, rfl, hg, Below.refl _ _⟩
      · intro x wx hG
        have g5 : (x.tmps.getD 10 undef) = .bool false := hG.claims 5 _ rfl (by decide +kernel) (by decide +kernel)
        have g11 : (x.tmps.getD 16 undef) = undef := hG.claims 11 _ rfl (by decide +kernel) (by decide +kernel)
        have hg := hG.good
        clear hG
        go_wp2
        exact ⟨_, rfl, rfl, hg, Below.refl _ _⟩
      · intro x wx hG
        have g12 : (x.tmps.getD 17 undef) = .bool false := hG.claims 12 _ rfl (by decide +kernel) (by decide +kernel)
        have hg := hG.good
        clear hG
        go_wp2
        exact ⟨_, rfl, rfl, hg, Below.refl _ _⟩
    · intro vals w2 hg hF
      obtain ⟨g0, g1, g2, g3, g4, g5, g6, g7, g8, g9, g10, g11, g12, g13, -⟩ := hF
      have e0 : vals 0 = .pointer (some ⟨w.heap.size, 0, none⟩) := g0 rfl
      have e1 : vals 1 = .string a.id := g1 rfl
      have e2 : vals 2 = .pointer (some ⟨w.heap.size + 1, 0, none⟩) := g2 rfl
      have e3 : vals 3 = .string b.id := g3 rfl
      have e4 : vals 4 = .bool false := g4 rfl
      have e5 : vals 5 = .bool false := g5 rfl
      have e6 : vals 6 = undef := g6 rfl
      have e7 : vals 7 = undef := g7 rfl
      have e8 : vals 8 = undef := g8 rfl
      have e9 : vals 9 = undef := g9 rfl
      have e10 : vals 10 = undef := g10 rfl
      have e11 : vals 11 = undef := g11 rfl
      have e12 : vals 12 = .bool false := g12 rfl
      have e13 : vals 13 = .bool false := g13 rfl
      simp only [Cl.puts, e0, e1, e2, e3, e4, e5, e6, e7, e8, e9, e10, e11, e12, e13]
      clear e0 e1 e2 e3 e4 e5 e6 e7 e8 e9 e10 e11 e12 e13 g0 g1 g2 g3 g4 g5 g6 g7 g8 g9 g10 g11 g12 g13
      go_simp
      have hbl := HBEL.out.trans (hg.mono HBEL.out.size)
      clear hg
      go_wp2
      go_ret
      exact ⟨ret_bool (by rw [HO.out]; rfl), hbl⟩
  · go_enter Try.func36, Try.ntmps36
    go_wp2_with fail
    rw [← hW]
    clear hW
    refine Cl.region0 18 rfl [] (fun _ => True) (fun _ => []) (fun jq v ww => match jq with | 0 => v = .pointer (some ⟨w.heap.size, 0, none⟩) | 1 => v = .string a.id | 2 => v = .pointer (some ⟨w.heap.size + 1, 0, none⟩) | 3 => v = .string b.id | 4 => v = .bool true | 5 => v = .bool true | 6 => v = .pointer (some ⟨w.heap.size, 6, none⟩) | 7 => v = .agg #[.slice xa a.past.vec.length ca, .slice ya a.past.more.length da] | 8 => DotsV v a.past | 9 => v = .pointer (some ⟨w.heap.size + 1, 1, none⟩) | 10 => v = .agg #[.int .i64 (s : Nat), .int .i64 (c : Nat)] | 11 => v = .bool (knIn a.past b.ds b.dc) | 12 => v = .bool (knIn a.past b.ds b.dc) | 13 => v = .bool (knIn a.past b.ds b.dc) | _ => True) (fun ww => Below W.heap.size W ww) (fun jq ww ww' => Below ww.heap.size ww ww') Try.mixed (by decide +kernel) (Below.refl _ _).drew trivial (fun q r v w w' _ _ _ h _ => h) (fun _ _ _ _ _ _ => trivial) ?_ ?_
    · refine ⟨?_, ?_, ?_, ?_, ?_, ?_, ?_, ?_, ?_, ?_, ?_, ?_, ?_, ?_, trivial⟩
      · intro x wx hG
        have f2 := hG.old 2 (by decide +kernel)
        have hg := hG.good
        clear hG
        go_wp2
        exact ⟨_, rfl, rfl, hg, Below.refl _ _⟩
      · intro x wx hG
        have g0 : (x.tmps.getD 5 undef) = .pointer (some ⟨w.heap.size, 0, none⟩) := hG.claims 0 _ rfl (by decide +kernel) (by decide +kernel)
        have hg := hG.good
        clear hG
        have c_A0 := ckeep hg A0.out
        go_wp2
        exact ⟨_, rfl, rfl, hg, Below.refl _ _⟩
      · intro x wx hG
        have f3 := hG.old 3 (by decide +kernel)
        have hg := hG.good
        clear hG
        go_wp2
        exact ⟨_, rfl, rfl, hg, Below.refl _ _⟩
      · intro x wx hG
        have g2 : (x.tmps.getD 7 undef) = .pointer (some ⟨w.heap.size + 1, 0, none⟩) := hG.claims 2 _ rfl (by decide +kernel) (by decide +kernel)
        have hg := hG.good
        clear hG
        have c_B0 := ckeep hg B0.out
        go_wp2
        exact ⟨_, rfl, rfl, hg, Below.refl _ _⟩
      · intro x wx hG
        have g1 : (x.tmps.getD 6 undef) = .string a.id := hG.claims 1 _ rfl (by decide +kernel) (by decide +kernel)
        have g3 : (x.tmps.getD 8 undef) = .string b.id := hG.claims 3 _ rfl (by decide +kernel) (by decide +kernel)
        have hg := hG.good
        clear hG
        go_wp2
        exact ⟨_, rfl, rfl, hg, Below.refl _ _⟩
      · intro x wx hG
        have g4 : (x.tmps.getD 9 undef) = .bool true := hG.claims 4 _ rfl (by decide +kernel) (by decide +kernel)
        have hg := hG.good
        clear hG
        go_wp2
        exact ⟨_, rfl, rfl, hg, Below.refl _ _⟩
      · intro x wx hG
        have f2 := hG.old 2 (by decide +kernel)
        have gg : (x.tmps.getD 10 undef) = .bool true := hG.claims 5 _ rfl (by decide +kernel) (by decide +kernel)
        replace gg := Cl.opt (hG.size.trans (show _ = 18 from rfl)) (by decide) gg
        have hg := hG.good
        clear hG
        go_wp2
        exact ⟨_, rfl, rfl, hg, Below.refl _ _⟩
      · intro x wx hG
        have g6 : (x.tmps.getD 11 undef) = .pointer (some ⟨w.heap.size, 6, none⟩) := hG.claims 6 _ rfl (by decide +kernel) (by decide +kernel)
        have gg : (x.tmps.getD 10 undef) = .bool true := hG.claims 5 _ rfl (by decide +kernel) (by decide +kernel)
        replace gg := Cl.opt (hG.size.trans (show _ = 18 from rfl)) (by decide) gg
        have hg := hG.good
        clear hG
        have c_A6 := ckeep hg A6.out
        have c_A7 := ckeep hg A7.out
        go_wp2
        exact ⟨_, rfl, rfl, hg, Below.refl _ _⟩
      · intro x wx hG
        have g7 : (x.tmps.getD 12 undef) = .agg #[.slice xa a.past.vec.length ca, .slice ya a.past.more.length da] := hG.claims 7 _ rfl (by decide +kernel) (by decide +kernel)
        have gg : (x.tmps.getD 10 undef) = .bool true := hG.claims 5 _ rfl (by decide +kernel) (by decide +kernel)
        replace gg := Cl.opt (hG.size.trans (show _ = 18 from rfl)) (by decide) gg
        have hg := hG.good
        clear hG
        have hk := HK.out.below hg
        have HKX := Lib.hid hk
        clear hk
        go_wp2_with fail
        (with_reducible refine (dall_c _ _ a.past _ HKX.out OK.out h60).mono ?_)
        rintro e wq ⟨m, rfl, hm1, hm2, hb⟩
        have H1 := Lib.hid hm1
        have H2 := Lib.hid hm2
        clear hm1 hm2
        go_wp2
        exact ⟨_, rfl, ⟨_, rfl, H1.out, H2.out⟩, bstep hg hb, hb⟩
      · intro x wx hG
        have f3 := hG.old 3 (by decide +kernel)
        have gg : (x.tmps.getD 10 undef) = .bool true := hG.claims 5 _ rfl (by decide +kernel) (by decide +kernel)
        replace gg := Cl.opt (hG.size.trans (show _ = 18 from rfl)) (by decide) gg
        have hg := hG.good
        clear hG
        go_wp2
        exact ⟨_, rfl, rfl, hg, Below.refl _ _⟩
      · intro x wx hG
        have g9 : (x.tmps.getD 14 undef) = .pointer (some ⟨w.heap.size + 1, 1, none⟩) := hG.claims 9 _ rfl (by decide +kernel) (by decide +kernel)
        have gg : (x.tmps.getD 10 undef) = .bool true := hG.claims 5 _ rfl (by decide +kernel) (by decide +kernel)
        replace gg := Cl.opt (hG.size.trans (show _ = 18 from rfl)) (by decide) gg
        have hg := hG.good
        clear hG
        have c_B1 := ckeep hg B1.out
        have c_B2 := ckeep hg B2.out
        go_wp2
        exact ⟨_, rfl, rfl, hg, Below.refl _ _⟩
      · intro x wx hG
        have g8 : DotsV (x.tmps.getD 13 undef) a.past := hG.claims 8 _ rfl (by decide +kernel) (by decide +kernel)
        have g10 : (x.tmps.getD 15 undef) = .agg #[.int .i64 (s : Nat), .int .i64 (c : Nat)] := hG.claims 10 _ rfl (by decide +kernel) (by decide +kernel)
        have g10b := g10
        rw [Array.getD_eq_getD_getElem?] at g10b
        have gg : (x.tmps.getD 10 undef) = .bool true := hG.claims 5 _ rfl (by decide +kernel) (by decide +kernel)
        replace gg := Cl.opt (hG.size.trans (show _ = 18 from rfl)) (by decide) gg
        have hg := hG.good
        clear hG
        obtain ⟨m, hm0, hm1, hm2⟩ := g8
        have hm0b := hm0
        rw [Array.getD_eq_getD_getElem?] at hm0b
        have H1 := Lib.hid hm1
        have H3 := Lib.hid (show memD m s c = knIn a.past b.ds b.dc by rw [hm2 s c hs5 hc1 hc2, HS.out, HC.out]; rfl)
        clear hm1 hm2
        go_wp2_with fail
        (with_reducible refine (dhas_c m s c _ H1.out hs5 hc2).mono ?_)
        rintro e wq ⟨rfl, hb⟩
        rw [H3.out]
        go_wp2
        exact ⟨_, rfl, rfl, bstep hg hb, hb⟩
      · intro x wx hG
        have g5 : (x.tmps.getD 10 undef) = .bool true := hG.claims 5 _ rfl (by decide +kernel) (by decide +kernel)
        have g11 : (x.tmps.getD 16 undef) = .bool (knIn a.past b.ds b.dc) := hG.claims 11 _ rfl (by decide +kernel) (by decide +kernel)
        have hg := hG.good
        clear hG
        go_wp2
        exact ⟨_, rfl, rfl, hg, Below.refl _ _⟩
      · intro x wx hG
        have g12 : (x.tmps.getD 17 undef) = .bool (knIn a.past b.ds b.dc) := hG.claims 12 _ rfl (by decide +kernel) (by decide +kernel)
        have hg := hG.good
        clear hG
        go_wp2
        exact ⟨_, rfl, rfl, hg, Below.refl _ _⟩
    · intro vals w2 hg hF
      obtain ⟨g0, g1, g2, g3, g4, g5, g6, g7, g8, g9, g10, g11, g12, g13, -⟩ := hF
      have e0 : vals 0 = .pointer (some ⟨w.heap.size, 0, none⟩) := g0 rfl
      have e1 : vals 1 = .string a.id := g1 rfl
      have e2 : vals 2 = .pointer (some ⟨w.heap.size + 1, 0, none⟩) := g2 rfl
      have e3 : vals 3 = .string b.id := g3 rfl
      have e4 : vals 4 = .bool true := g4 rfl
      have e5 : vals 5 = .bool true := g5 rfl
      have e6 : vals 6 = .pointer (some ⟨w.heap.size, 6, none⟩) := g6 rfl
      have e7 : vals 7 = .agg #[.slice xa a.past.vec.length ca, .slice ya a.past.more.length da] := g7 rfl
      have e9 : vals 9 = .pointer (some ⟨w.heap.size + 1, 1, none⟩) := g9 rfl
      have e10 : vals 10 = .agg #[.int .i64 (s : Nat), .int .i64 (c : Nat)] := g10 rfl
      have e11 : vals 11 = .bool (knIn a.past b.ds b.dc) := g11 rfl
      have e12 : vals 12 = .bool (knIn a.past b.ds b.dc) := g12 rfl
      have e13 : vals 13 = .bool (knIn a.past b.ds b.dc) := g13 rfl
      simp only [Cl.puts, e0, e1, e2, e3, e4, e5, e6, e7, e9, e10, e11, e12, e13]
      clear e0 e1 e2 e3 e4 e5 e6 e7 e9 e10 e11 e12 e13 g0 g1 g2 g3 g4 g5 g6 g7 g8 g9 g10 g11 g12 g13
      go_simp
      have hbl := HBEL.out.trans (hg.mono HBEL.out.size)
      clear hg
      go_wp2
      go_ret
      exact ⟨ret_bool (by rw [HO.out]; rfl), hbl⟩
end Go.Proofs.Ytliieljmfncmjaa
