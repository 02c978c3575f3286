/- What part.Copied does: each part's copy lies apart from the others'. Written by a small program (gen/parta.py). -/
import Derived.Test.YtboakoipdfmpcaaPartA0
import Derived.Test.YtboakoipdfmpcaaMPart5
namespace Go.Proofs.Ytboakoipdfmpcaa
open Go.RowKit
def CpRA (w : World) (base : Nat) (v : Value) (l : List Pt) : Prop := ∃ (a : Option Addr) (c : Nat), v = .slice a l.length c ∧ POwnA w base (.slice a l.length c) l
theorem CpRA.below {w w' : World} {base : Nat} {v : Value} {l : List Pt} (h : CpRA w base v l) (hb : Below w.heap.size w w') : CpRA w' base v l := by
  obtain ⟨a, c, h1, h2⟩ := h; exact ⟨a, c, h1, h2.below hb⟩
structure PcStA (w : World) (BK : Nat) (ce : Array Value) (ov : Value) (lk : List Pt) (wr : World) : Prop where
  blk : wr.heap[BK]? = some (Obj.cells ce 33 (0, 0))
  own : POwnT wr w.heap.size BK ov lk
  bel : Below w.heap.size w wr
  le : w.heap.size ≤ BK
theorem PcStA.below {w : World} {BK : Nat} {ce : Array Value} {ov : Value} {lk : List Pt} {wr wr' : World} (h : PcStA w BK ce ov lk wr) (hb : Below wr.heap.size wr wr') : PcStA w BK ce ov lk wr' :=
  ⟨below_keep hb h.blk, h.own.below hb, bstep h.bel hb, h.le⟩
theorem PcStA.drew {w : World} {BK : Nat} {ce : Array Value} {ov : Value} {lk : List Pt} {wr : World} (h : PcStA w BK ce ov lk wr) : PcStA w BK ce ov lk wr.drew := h.below ((Below.refl _ _).drew)
set_option maxRecDepth 100000 in
set_option maxHeartbeats 8000000 in
theorem pcopied_a (v : Value) (l : List Pt) (w : World) (hv : RowAt partE w v l) (hok : ∀ x ∈ l, PtOk x) (hl : l.length ≤ 1000) :
    Calls Try.prog 35 #[v] w fun e w' => ∃ ov, e = .returned ov ∧ POwnA w' w.heap.size ov l ∧ Below w.heap.size w w' := by
  obtain ⟨a, cap, rfl, hcap, hlen, -, hvl⟩ := hv.open_
  have HVL := Lib.hid hvl
  have HOK := Lib.hid hok
  clear hv hvl hok
  go_enter Try.func35, Try.ntmps35
  go_wp2
  go_loopw [3, 8] (fun ov i wr => ∃ k : Nat, k ≤ l.length ∧ i = .int .i64 k ∧ POwnA wr w.heap.size ov (l.take k) ∧ Below w.heap.size w wr) (fun _ i _ => l.length - (intOf i).toNat)
  case atStart => exact ⟨0, Nat.zero_le _, rfl, POwnA.nil _ _, Below.refl _ _⟩
  case round =>
    obtain ⟨k, hk, rfl, hown, hbl⟩ := hrel
    have HOW := Lib.hid hown
    have HBL := Lib.hid hbl
    clear hown hbl
    by_cases hlt : k < l.length
    · rcases HVL.out with hnil | ⟨b, off, rfl, hb, hc⟩
      · rw [hnil] at hlt; simp at hlt
      obtain ⟨c, hE, hcc⟩ := hc k hlt
      obtain ⟨FF, UU, XX, rfl, hfw, hkw⟩ := hE
      have hcl := fun (j : Nat) (y : Value) (hy : [FF, UU, XX][j]? = some y) => row3 (w := wr) (b := b) (off := off) (i := k) (fun j y hy => (HBL.out.cell (p := ⟨b, off + (k * partE.size + j), none⟩) hb).trans (hcc j y hy)) hy
      have d0 := hcl 0 _ rfl
      have d1 := hcl 1 _ rfl
      have d2 := hcl 2 _ rfl
      rw [Nat.add_zero] at d0
      obtain ⟨fa, fc, rfl⟩ := hfw.shape
      obtain ⟨ua, uc, rfl⟩ := hkw.vec.shape
      obtain ⟨xa, xc, rfl⟩ := hkw.more.shape
      have HT := Lib.hid (show l.take (k + 1) = l.take k ++ [l[k]] from List.take_succ_eq_append_getElem hlt)
      have htl : (l.take k).length = k := by rw [List.length_take]; omega
      have hpk := HOK.out _ (List.getElem_mem hlt)
      have HFC := Lib.hid hpk.f
      obtain ⟨hko, hk60⟩ := knChk_zero.1 hpk.k
      have hk5 := hko.len
      obtain ⟨BK, hBK⟩ : ∃ BK, BK = wr.heap.size := ⟨_, rfl⟩
      obtain ⟨w1, hw1⟩ : ∃ w1, w1 = wr.alloc (.cells #[.slice fa l[k].f.length fc, .slice ua l[k].k.vec.length uc, .slice xa l[k].k.more.length xc] 33) := ⟨_, rfl⟩
      have hb1 : Below wr.heap.size wr w1 := by rw [hw1]; exact bal _
      have HS := Lib.hid (show PcStA w BK #[.slice fa l[k].f.length fc, .slice ua l[k].k.vec.length uc, .slice xa l[k].k.more.length xc] _ (l.take k) w1 from ⟨by rw [hw1]; exact alloc_new _ _ _ _ hBK, by rw [hBK]; exact POwnT.below HOW.out hb1, bstep HBL.out hb1, by rw [hBK]; exact HBL.out.size⟩)
      have HFW := Lib.hid hfw
      have HKW := Lib.hid hkw
      obtain ⟨oa, oc, hoo⟩ := HOW.out.shape
      rw [htl] at hoo
      subst hoo
      clear hc hcc hcl hfw hkw hb1 HOW HBL hpk hko
      generalize l[k] = pp at *
      generalize l.take k = lk at *
      subst htl
      obtain ⟨ff, kk⟩ := pp
      simp only at *
      go_wp2_with fail
      rw [← hBK, ← hw1]
      clear hBK hw1 d0 d1 d2
      refine Cl.region0 24 rfl [9] (fun ww => PcStA w BK #[.slice fa ff.length fc, .slice ua kk.vec.length uc, .slice xa kk.more.length xc] (.slice oa lk.length oc) lk ww) (fun jq => match jq with | 3 => [9] | 6 => [9] | 7 => [9] | 8 => [9] | _ => []) (fun jq v ww => match jq with | 0 => v = .slice oa lk.length oc | 1 => v = .pointer (some ⟨BK, 0, none⟩) | 2 => v = .slice fa ff.length fc | 3 => CpF ww BK v ff | 4 => v = .pointer (some ⟨BK, 1, none⟩) | 5 => v = .agg #[.slice ua kk.vec.length uc, .slice xa kk.more.length xc] | 6 => CpK ww BK v kk | 7 => CpP ww BK v ⟨ff, kk⟩ | 8 => CpB ww BK v ⟨ff, kk⟩ | 9 => CpRA ww w.heap.size v (lk ++ [⟨ff, kk⟩]) | 10 => CpRA ww w.heap.size v (lk ++ [⟨ff, kk⟩]) | _ => True) (fun ww => Below w.heap.size w ww) (fun jq ww ww' => jq ≠ 9 → Below ww.heap.size ww ww') Try.mixed (by decide +kernel) HS.out.drew.bel HS.out.drew ?_ (fun jq ww ww' hk h hR => h.below (hR (by simpa using hk))) ?_ ?_
      · intro q r v w w' hne hk hlt h hR
        match r, hk, hlt, h, hne with
        | 0, _, _, h, _ => exact h
        | 1, _, _, h, _ => exact h
        | 2, _, _, h, _ => exact h
        | 3, hk, _, h, _ => exact CpF.below h (hR (by simpa using hk))
        | 4, _, _, h, _ => exact h
        | 5, _, _, h, _ => exact h
        | 6, hk, _, h, _ => exact CpK.below h (hR (by simpa using hk))
        | 7, hk, _, h, _ => exact CpP.below h (hR (by simpa using hk))
        | 8, hk, _, h, _ => exact CpB.below h (hR (by simpa using hk))
        | 9, _, _, h, hne => exact CpRA.below h (hR (by exact hne))
        | 10, _, hlt, h, _ => exact CpRA.below h (hR (by intro e; subst e; exact absurd hlt (by decide +kernel)))
        | _ + 11, _, _, _, _ => trivial
      · refine ⟨?_, ?_, ?_, ?_, ?_, ?_, ?_, ?_, ?_, ?_, ?_, trivial⟩
        · intro x wx hG
          have f3 := hG.old 3 (by decide +kernel)
          have hp := hG.pre (by decide +kernel)
          have hg := hG.good
          clear hG
          go_wp2
          exact ⟨_, rfl, rfl, hg, fun _ => Below.refl _ _⟩
        · intro x wx hG
          have f5 := hG.old 5 (by decide +kernel)
          have hp := hG.pre (by decide +kernel)
          have hg := hG.good
          clear hG
          go_wp2
          exact ⟨_, rfl, rfl, hg, fun _ => Below.refl _ _⟩
        · intro x wx hG
          have g1 : (x.tmps.getD 13 undef) = .pointer (some ⟨BK, 0, none⟩) := hG.claims 1 _ rfl (by decide +kernel) (by decide +kernel)
          have hp := hG.pre (by decide +kernel)
          have hg := hG.good
          clear hG
          have hbk := hp.blk
          have c0 := cell_of_block (j := 0) hbk rfl
          have hbkl := hlt_of hbk
          clear hbk hp
          go_wp2
          exact ⟨_, rfl, rfl, hg, fun _ => Below.refl _ _⟩
        · intro x wx hG
          have g2 : (x.tmps.getD 14 undef) = .slice fa ff.length fc := hG.claims 2 _ rfl (by decide +kernel) (by decide +kernel)
          have hp := hG.pre (by decide +kernel)
          have hg := hG.good
          clear hG
          have HX := Lib.hid (copied_c (.slice fa ff.length fc) ff wx (HFW.out.below hp.bel) HFC.out)
          have HPB := Lib.hid (Nat.le_of_lt (hlt_of hp.blk))
          clear hp
          go_wp2_with fail
          (with_reducible refine (HX.out).mono ?_)
          rintro e wq ⟨v9, rfl, h9, hb⟩
          obtain ⟨za, zc, hz⟩ := h9.shape
          subst hz
          have H9 := Lib.hid (BxsOwn.mono h9 HPB.out)
          clear h9
          go_wp2
          exact ⟨_, rfl, ⟨_, _, rfl, H9.out⟩, bstep hg hb, fun _ => hb⟩
        · intro x wx hG
          have f5 := hG.old 5 (by decide +kernel)
          have hp := hG.pre (by decide +kernel)
          have hg := hG.good
          clear hG
          go_wp2
          exact ⟨_, rfl, rfl, hg, fun _ => Below.refl _ _⟩
        · intro x wx hG
          have g4 : (x.tmps.getD 16 undef) = .pointer (some ⟨BK, 1, none⟩) := hG.claims 4 _ rfl (by decide +kernel) (by decide +kernel)
          have hp := hG.pre (by decide +kernel)
          have hg := hG.good
          clear hG
          have hbk := hp.blk
          have c1 := cell_of_block (j := 1) hbk rfl
          have c2 := cell_of_block (j := 2) hbk rfl
          have hbkl := hlt_of hbk
          clear hbk hp
          go_wp2
          exact ⟨_, rfl, rfl, hg, fun _ => Below.refl _ _⟩
        · intro x wx hG
          have g5 : (x.tmps.getD 17 undef) = .agg #[.slice ua kk.vec.length uc, .slice xa kk.more.length xc] := hG.claims 5 _ rfl (by decide +kernel) (by decide +kernel)
          have hp := hG.pre (by decide +kernel)
          have hg := hG.good
          clear hG
          have HX := Lib.hid (kcopied_c (.slice ua kk.vec.length uc) (.slice xa kk.more.length xc) kk wx (HKW.out.below hp.bel) hk5 hk60)
          have HPB := Lib.hid (Nat.le_of_lt (hlt_of hp.blk))
          clear hp
          go_wp2_with fail
          (with_reducible refine (HX.out).mono ?_)
          rintro e wq ⟨qa, qc, qb, qd, rfl, h9, hb⟩
          have H9 := Lib.hid (h9.mono HPB.out)
          clear h9
          go_wp2
          exact ⟨_, rfl, ⟨_, _, _, _, rfl, H9.out⟩, bstep hg hb, fun _ => hb⟩
        · intro x wx hG
          have g3 : CpF wx BK (x.tmps.getD 15 undef) ff := hG.claims 3 _ rfl (by decide +kernel) (by decide +kernel)
          have g6 : CpK wx BK (x.tmps.getD 18 undef) kk := hG.claims 6 _ rfl (by decide +kernel) (by decide +kernel)
          have hp := hG.pre (by decide +kernel)
          have hg := hG.good
          clear hG
          obtain ⟨za, zc, hz1, hz2⟩ := g3
          obtain ⟨ya, yc, yb, yd, hy1, hy2⟩ := g6
          have hz1b := hz1
          rw [Array.getD_eq_getD_getElem?] at hz1b
          have hy1b := hy1
          rw [Array.getD_eq_getD_getElem?] at hy1b
          have HZ := Lib.hid hz2
          have HY := Lib.hid hy2
          clear hz2 hy2 hp
          go_wp2
          exact ⟨_, rfl, ⟨_, _, _, _, _, _, rfl, HZ.out, HY.out⟩, hg, fun _ => Below.refl _ _⟩
        · intro x wx hG
          have g7 : CpP wx BK (x.tmps.getD 19 undef) ⟨ff, kk⟩ := hG.claims 7 _ rfl (by decide +kernel) (by decide +kernel)
          have hp := hG.pre (by decide +kernel)
          have hg := hG.good
          clear hG
          obtain ⟨a1, a2, a3, a4, a5, a6, hz1, hz2, hz3⟩ := g7
          have hz1b := hz1
          rw [Array.getD_eq_getD_getElem?] at hz1b
          have HZ := Lib.hid hz2
          have HY := Lib.hid hz3
          clear hz2 hz3 hp
          go_wp2
          exact ⟨_, rfl, ⟨_, _, _, _, rfl, alloc_new _ _ _ _ rfl, rfl, rfl, rfl, HZ.out.below (bal _), HY.out.below (bal _)⟩, hg.alloc hg.size _, fun _ => bal _⟩
        · intro x wx hG
          have g0 : (x.tmps.getD 12 undef) = .slice oa lk.length oc := hG.claims 0 _ rfl (by decide +kernel) (by decide +kernel)
          have g8 : CpB wx BK (x.tmps.getD 20 undef) ⟨ff, kk⟩ := hG.claims 8 _ rfl (by decide +kernel) (by decide +kernel)
          have hp := hG.pre (by decide +kernel)
          have hg := hG.good
          clear hG
          obtain ⟨g9, f9, u9, x9, hz1, hz2, o1, o2, o3, hz3, hz4⟩ := g8
          obtain ⟨css, Ss, hpo⟩ := hp.own
          have hz := g0
          have hzb := hz
          rw [Array.getD_eq_getD_getElem?] at hzb
          have hz1b := hz1
          rw [Array.getD_eq_getD_getElem?] at hz1b
          have H9 := Lib.hid hpo.row
          have HE := Lib.hid hpo
          have HLE := Lib.hid hp.le
          have HLT := Lib.hid (Nat.le_of_lt (hlt_of hp.blk))
          have HF := Lib.hid hz3
          have HK := Lib.hid hz4
          have HON := Lib.hid (show ∀ u ∈ [f9, u9, x9], u.oneCell' = true by intro u hu; simp only [List.mem_cons, List.not_mem_nil, or_false] at hu; rcases hu with rfl | rfl | rfl; exact o1; exact o2; exact o3)
          have HC := Lib.hid (show CellsAt wx (.slice (some ⟨g9, 0, none⟩) 1 1) 1 [f9, u9, x9] from CellsAt.mk (Nat.le_refl _) (by decide) (hlt_of hz2) (fun j z hj => by rw [Nat.zero_add]; exact cell_of_block hz2 (by simpa using hj)))
          have HPB := Lib.hid hp.bel
          have hbs := hp.bel.size
          have hkl : lk.length ≤ 1000 := by omega
          clear hpo hz2 hz3 hz4 hp
          go_wp2_with (at_builtin; refine wpList_append_cells2 rfl (.tmp 12) (.tmp 20) 34 rfl w.heap.size 33 _ 3 72 Try.underlying34 PartTy.info rfl (by decide) (.slice oa lk.length oc) lk.length _ hz H9.out (.slice (some ⟨g9, 0, none⟩) 1 1) 1 _ hz1 HC.out rfl HON.out hbs (by unfold maxLen; omega) (by omega) ?_)
          intro v' wq ho hgr
          obtain ⟨qa, qc, hq⟩ := owns_slice ho
          subst hq
          have HO := Lib.hid ho
          have HGR := Lib.hid hgr
          clear ho hgr
          go_wp2
          exact ⟨_, rfl, ⟨_, _, by rw [List.length_append]; rfl, by rw [List.length_append]; exact HE.out.push HF.out HK.out HLE.out HLT.out HO.out HGR.out⟩, hg.grown HGR.out hbs (fun k hk => (H9.out.lt k hk).1), fun h => absurd rfl h⟩
        · intro x wx hG
          have g9 : CpRA wx w.heap.size (x.tmps.getD 21 undef) (lk ++ [⟨ff, kk⟩]) := hG.claims 9 _ rfl (by decide +kernel) (by decide +kernel)
          have hg := hG.good
          clear hG
          obtain ⟨za, zc, hz, h9⟩ := g9
          have H9 := Lib.hid h9
          clear h9
          go_wp2
          exact ⟨_, rfl, ⟨_, _, by simp, H9.out⟩, hg, fun _ => Below.refl _ _⟩
      · intro vals w3 hg hF
        obtain ⟨g0, g1, g2, g3, g4, g5, g6, g7, g8, g9, g10, -⟩ := hF
        have e0 : vals 0 = .slice oa lk.length oc := g0 rfl
        have e1 : vals 1 = .pointer (some ⟨BK, 0, none⟩) := g1 rfl
        have e2 : vals 2 = .slice fa ff.length fc := g2 rfl
        have e4 : vals 4 = .pointer (some ⟨BK, 1, none⟩) := g4 rfl
        have e5 : vals 5 = .agg #[.slice ua kk.vec.length uc, .slice xa kk.more.length xc] := g5 rfl
        replace g10 : CpRA w3 w.heap.size (vals 10) (lk ++ [⟨ff, kk⟩]) := g10 rfl
        simp only [Cl.puts, e0, e1, e2, e4, e5]
        clear e0 e1 e2 e4 e5 g0 g1 g2 g3 g4 g5 g6 g7 g8 g9
        go_simp
        generalize vals 10 = ov2 at *
        obtain ⟨a8, c8, rfl, h8⟩ := g10
        have H8 := Lib.hid h8
        have HB8 := Lib.hid hg
        have hll : (lk ++ [(⟨ff, kk⟩ : Pt)]).length = lk.length + 1 := by rw [List.length_append]; rfl
        rw [hll] at H8 ⊢
        clear h8 hg
        go_wp2
        go_roundw
        case rel => exact ⟨lk.length + 1, by omega, by go_num, by rw [HT.out]; exact H8.out, HB8.out⟩
        case measure => simp [intOf] <;> omega
    · obtain rfl : k = l.length := by omega
      rw [List.take_length] at HOW
      obtain ⟨oa, oc, hoo⟩ := HOW.out.shape
      subst hoo
      go_wp2
      go_ret
      exact ⟨_, rfl, HOW.out, HBL.out⟩
end Go.Proofs.Ytboakoipdfmpcaa
