/- What ShelfOwn does: it returns true. Written by a small program (gen/sown.py). -/
import Derived.Test.YthnkmjjldggecaaMShOwn
import Derived.Test.YthnkmjjldggecaaMShelf13
import Derived.Test.YthnkmjjldggecaaMShelf18
import Derived.Test.YthnkmjjldggecaaWire8
import Derived.Test.YthnkmjjldggecaaMixed
namespace Go.Proofs.Ythnkmjjldggecaa
open Go.RowKit
set_option maxRecDepth 100000 in
theorem VlsTy.info : (Try.prog.info? 60).map (fun i => (i.zero, i.size, i.bytes)) = some (some (.slice none 0 0), 1, 24) := by kernel_rfl
def RoomVs (w : World) (base : Nat) (v : Value) (l : List Ver) : Prop := ∃ a c, v = .slice a l.length c ∧ RoomV w base (.slice a l.length c) l
theorem RoomVs.of {w : World} {base : Nat} {v : Value} {l : List Ver} (h : RoomV w base v l) : RoomVs w base v l := by
  have h2 := h
  obtain ⟨css, -, h1, -⟩ := h2
  obtain ⟨g, rfl, -, -⟩ := h1.shape
  exact ⟨_, _, rfl, h⟩
theorem RoomVs.below {w w' : World} {base : Nat} {v : Value} {l : List Ver} (h : RoomVs w base v l) (hb : Below w.heap.size w w') : RoomVs w' base v l := by
  obtain ⟨a, c, h1, h2⟩ := h; exact ⟨a, c, h1, h2.below hb⟩
theorem RoomVs.tk {T : Nat → Bool} {w w' : World} {base : Nat} {v : Value} {l : List Ver} (h : RoomVs w base v l) (hk : TKeep T w w') (h1 : T 3 = true) (h2 : T 92 = true) (h3 : T 109 = true) : RoomVs w' base v l := by
  obtain ⟨a, c, q1, q2⟩ := h; exact ⟨a, c, q1, q2.tk hk h1 h2 h3⟩
def FulKp (w : World) (base : Nat) (v : Value) (k : Kn) : Prop := ∃ g u x, v = .pointer (some ⟨g, 0, none⟩) ∧ w.heap[g]? = some (.cells #[u, x] 81 (0, 0)) ∧ RoomK w base u x k ∧ base ≤ g
theorem FulKp.below {w w' : World} {base : Nat} {v : Value} {k : Kn} (h : FulKp w base v k) (hb : Below w.heap.size w w') : FulKp w' base v k := by
  obtain ⟨g, u, x, h1, h2, h3, h4⟩ := h; exact ⟨g, u, x, h1, below_keep hb h2, h3.below hb, h4⟩
set_option maxRecDepth 100000 in
set_option maxHeartbeats 16000000 in
theorem ShelfOwn_walk (lv : Value) (l : List Ver) (v1 : Ver) (u x : Value) (gi : ByteArray) (gk : Kn) (y z : Value) (id : ByteArray) (b : Bt) (bv bg bp : Value) (w : World) (hl : RowAt verE w lv l) (hv : KnAt w u x v1.past) (hg : KnAt w y z gk) (hb : BtAt w bv bg bp b) (zl : SzV l) (zv : SzK v1.past) (zg : SzK gk) :
    Calls Try.prog 10 #[lv, .agg (verC v1 u x), .agg #[.string gi, y, z], .string id, .agg #[.int .i64 b.site, .int .i64 b.stamp, bv, bg, bp]] w fun e w' => e = .returned (.bool true) ∧ Below w.heap.size w w' := by
  obtain ⟨la, lc, rfl⟩ := hl.shape
  obtain ⟨ua, uc, rfl⟩ := hv.vec.shape
  obtain ⟨xa, xc, rfl⟩ := hv.more.shape
  obtain ⟨ya, yc, rfl⟩ := hg.vec.shape
  obtain ⟨za, zc, rfl⟩ := hg.more.shape
  obtain ⟨va, vc, rfl⟩ := hb.vers.shape
  obtain ⟨ga, gc, rfl⟩ := hb.gone.shape
  obtain ⟨pa, pc, rfl⟩ := hb.parts.shape
  obtain ⟨bs, bm, V, G, P⟩ := b
  simp only at hb ⊢
  obtain ⟨W0, hW0⟩ : ∃ W0, W0 = ((w.alloc (.cells (#[.string v1.id, .int .i64 v1.ds, .int .i64 v1.dc, .int .i64 v1.tg, .int .i64 v1.nm, .int .i64 v1.bd, .slice ua v1.past.vec.length uc, .slice xa v1.past.more.length xc]) 109)).alloc (.cells #[.string gi, .slice ya gk.vec.length yc, .slice za gk.more.length zc] 111)).alloc (.cells #[.int .i64 bs, .int .i64 bm, .slice va V.length vc, .slice ga G.length gc, .slice pa P.length pc] 64) := ⟨_, rfl⟩
  have hb0 : Below w.heap.size w W0 := by rw [hW0]; exact ((bal _).alloc (by simp) _).alloc (by simp; omega) _
  have K6 := Lib.hid (show W0.heap[w.heap.size]? = some (Obj.cells (#[.string v1.id, .int .i64 v1.ds, .int .i64 v1.dc, .int .i64 v1.tg, .int .i64 v1.nm, .int .i64 v1.bd, .slice ua v1.past.vec.length uc, .slice xa v1.past.more.length xc]) 109 (0, 0)) by rw [hW0]; exact alloc_keep _ (alloc_keep _ (alloc_new _ _ _ _ rfl)))
  have K7 := Lib.hid (show W0.heap[w.heap.size + 1]? = some (Obj.cells #[.string gi, .slice ya gk.vec.length yc, .slice za gk.more.length zc] 111 (0, 0)) by rw [hW0]; exact alloc_keep _ (alloc_new _ _ _ _ (by simp)))
  have K9 := Lib.hid (show W0.heap[w.heap.size + 2]? = some (Obj.cells #[.int .i64 bs, .int .i64 bm, .slice va V.length vc, .slice ga G.length gc, .slice pa P.length pc] 64 (0, 0)) by rw [hW0]; exact alloc_new _ _ _ _ (by simp))
  have HL := Lib.hid (hl.below hb0)
  have HV := Lib.hid (hv.below hb0)
  have HG := Lib.hid (hg.below hb0)
  have HBT := Lib.hid (hb.below hb0)
  have ZL := Lib.hid zl
  have ZV := Lib.hid zv
  have ZG := Lib.hid zg
  have HB := Lib.hid hb0
  have HB0 := Lib.hid (Below.refl W0.heap.size W0)
  have T0 := Lib.hid hb0.size
  clear hl hv hg hb zl zv zg hb0
  unfold verC
  go_enter Try.func10, Try.ntmps10
  have HC := Lib.hid (shelfBegun_c W0)
  go_wp2_with fail
  rw [← hW0]
  clear hW0
  (with_reducible refine (HC.out).mono ?_)
  rintro e w1 ⟨rfl, hbq⟩
  clear HC 
  replace HL := Lib.hid (HL.out.below hbq)
  replace HV := Lib.hid (HV.out.below hbq)
  replace HG := Lib.hid (HG.out.below hbq)
  replace HBT := Lib.hid (HBT.out.below hbq)
  replace K6 := Lib.hid (below_keep hbq K6.out)
  replace K7 := Lib.hid (below_keep hbq K7.out)
  replace K9 := Lib.hid (below_keep hbq K9.out)
  replace HB := Lib.hid (bstep HB.out hbq)
  replace HB0 := Lib.hid (bstep HB0.out hbq)
  have T1 := Lib.hid hbq.size
  clear hbq
  have HC := Lib.hid (roomyShelf_c _ l w1 HL.out ZL.out)
  go_wp2_with fail
  (with_reducible refine (HC.out).mono ?_)
  rintro e w2 ⟨nv, rfl, hx, hbq⟩
  clear HC 
  replace HL := Lib.hid (HL.out.below hbq)
  replace HV := Lib.hid (HV.out.below hbq)
  replace HG := Lib.hid (HG.out.below hbq)
  replace HBT := Lib.hid (HBT.out.below hbq)
  replace K6 := Lib.hid (below_keep hbq K6.out)
  replace K7 := Lib.hid (below_keep hbq K7.out)
  replace K9 := Lib.hid (below_keep hbq K9.out)
  replace HB := Lib.hid (bstep HB.out hbq)
  replace HB0 := Lib.hid (bstep HB0.out hbq)
  have T2 := Lib.hid hbq.size
  have HIN := Lib.hid hx
  clear hx
  clear hbq
  obtain ⟨ia, ic, rfl⟩ := (HIN.out.at_ ZL.out).shape
  have HINO := Lib.hid (OwnV.of_room HIN.out)
  go_wp2
  refine Cl2.region0 166 rfl [] (fun _ => True) (fun jq => match jq with | 2 => [4] | 3 => [5] | _ => []) (fun jq v ww => match jq with | 0 => v = .agg #[.string v1.id, .int .i64 v1.ds, .int .i64 v1.dc, .int .i64 v1.tg, .int .i64 v1.nm, .int .i64 v1.bd, .slice ua v1.past.vec.length uc, .slice xa v1.past.more.length xc] | 1 => v = .agg #[.string gi, .slice ya gk.vec.length yc, .slice za gk.more.length zc] | 2 => AtB 109 #[.string ⟨#[]⟩, .int .i64 0, .int .i64 0, .int .i64 0, .int .i64 0, .int .i64 0, .slice none 0 0, .slice none 0 0] ww w2.heap.size v | 3 => AtB 111 #[.string ⟨#[]⟩, .slice none 0 0, .slice none 0 0] ww w2.heap.size v | 4 => AtB 109 #[.string v1.id, .int .i64 v1.ds, .int .i64 v1.dc, .int .i64 v1.tg, .int .i64 v1.nm, .int .i64 v1.bd, .slice ua v1.past.vec.length uc, .slice xa v1.past.more.length xc] ww w2.heap.size v | 5 => AtB 111 #[.string gi, .slice ya gk.vec.length yc, .slice za gk.more.length zc] ww w2.heap.size v | _ => True) (fun ww => Below w2.heap.size w2 ww) (fun jq ww ww' => (jq ≠ 4 → jq ≠ 5 → Below ww.heap.size ww ww') ∧ (jq = 4 → TKeep (NotT 109) ww ww') ∧ (jq = 5 → TKeep (NotT 111) ww ww')) Try.mixed (by decide +kernel) (Below.refl _ _).drew trivial ?_ (fun _ _ _ _ _ _ => trivial) ?_ ?_
  · intro qq r v w w' hne hk hlt h hR
    match r, hk, hlt, h, hne with
    | 0, _, _, h, _ => exact h
    | 1, _, _, h, _ => exact h
    | 2, hk, _, h, hne =>
      by_cases q1 : qq = 5
      · exact AtB.tk h (hR.2.2 q1) (by decide)
      · exact AtB.below h (hR.1 (by simpa using hk) q1)
    | 3, hk, _, h, hne =>
      by_cases q1 : qq = 4
      · exact AtB.tk h (hR.2.1 q1) (by decide)
      · exact AtB.below h (hR.1 q1 (by simpa using hk))
    | 4, hk, _, h, hne =>
      by_cases q1 : qq = 5
      · exact AtB.tk h (hR.2.2 q1) (by decide)
      · exact AtB.below h (hR.1 (by exact hne) q1)
    | 5, hk, _, h, hne =>
      by_cases q1 : qq = 4
      · exact AtB.tk h (hR.2.1 q1) (by decide)
      · exact AtB.below h (hR.1 q1 (by exact hne))
    | _ + 6, _, _, _, _ => trivial
  · refine ⟨?_, ?_, ?_, ?_, ?_, ?_, trivial⟩
    · intro x wx hG
      have f6 := hG.old 6 (by decide +kernel)
      have hg := hG.good
      clear hG
      have kb := hg.block _ (hlt_of K6.out)
      rw [K6.out] at kb
      have k0 := cell_of_block (j := 0) kb rfl
      have k1 := cell_of_block (j := 1) kb rfl
      have k2 := cell_of_block (j := 2) kb rfl
      have k3 := cell_of_block (j := 3) kb rfl
      have k4 := cell_of_block (j := 4) kb rfl
      have k5 := cell_of_block (j := 5) kb rfl
      have k6 := cell_of_block (j := 6) kb rfl
      have k7 := cell_of_block (j := 7) kb rfl
      have kl := hlt_of kb
      clear kb
      go_wp2
      exact ⟨_, rfl, rfl, hg, ⟨fun _ _ => Below.refl _ _, fun h => absurd h (by decide), fun h => absurd h (by decide)⟩⟩
    · intro x wx hG
      have f7 := hG.old 7 (by decide +kernel)
      have hg := hG.good
      clear hG
      have kb := hg.block _ (hlt_of K7.out)
      rw [K7.out] at kb
      have k0 := cell_of_block (j := 0) kb rfl
      have k1 := cell_of_block (j := 1) kb rfl
      have k2 := cell_of_block (j := 2) kb rfl
      have kl := hlt_of kb
      clear kb
      go_wp2
      exact ⟨_, rfl, rfl, hg, ⟨fun _ _ => Below.refl _ _, fun h => absurd h (by decide), fun h => absurd h (by decide)⟩⟩
    · intro x wx hG
      have hg := hG.good
      clear hG
      go_wp2
      exact ⟨_, rfl, ⟨_, rfl, alloc_new _ _ _ _ rfl, hg.size⟩, hg.alloc hg.size _, ⟨fun _ _ => bal _, fun h => absurd h (by decide), fun h => absurd h (by decide)⟩⟩
    · intro x wx hG
      have hg := hG.good
      clear hG
      go_wp2
      exact ⟨_, rfl, ⟨_, rfl, alloc_new _ _ _ _ rfl, hg.size⟩, hg.alloc hg.size _, ⟨fun _ _ => bal _, fun h => absurd h (by decide), fun h => absurd h (by decide)⟩⟩
    · intro x wx hG
      have g2 : AtB 109 #[.string ⟨#[]⟩, .int .i64 0, .int .i64 0, .int .i64 0, .int .i64 0, .int .i64 0, .slice none 0 0, .slice none 0 0] wx w2.heap.size (x.tmps.getD 12 undef) := hG.claims 2 _ rfl (by decide +kernel) (by decide +kernel)
      have g0 : (x.tmps.getD 40 undef) = .agg #[.string v1.id, .int .i64 v1.ds, .int .i64 v1.dc, .int .i64 v1.tg, .int .i64 v1.nm, .int .i64 v1.bd, .slice ua v1.past.vec.length uc, .slice xa v1.past.more.length xc] := hG.claims 0 _ rfl (by decide +kernel) (by decide +kernel)
      have hg := hG.good
      clear hG
      obtain ⟨gb, hgb, hnil, hgs⟩ := g2
      have hgbb := hgb
      rw [Array.getD_eq_getD_getElem?] at hgbb
      have HGB := Lib.hid hgb
      have r0 := cell_of_block (j := 0) hnil rfl
      have r1 := cell_of_block (j := 1) hnil rfl
      have r2 := cell_of_block (j := 2) hnil rfl
      have r3 := cell_of_block (j := 3) hnil rfl
      have r4 := cell_of_block (j := 4) hnil rfl
      have r5 := cell_of_block (j := 5) hnil rfl
      have r6 := cell_of_block (j := 6) hnil rfl
      have r7 := cell_of_block (j := 7) hnil rfl
      have f0 := free_of_block (j := 0) hnil
      have f1 := free_of_block (j := 1) hnil
      have f2 := free_of_block (j := 2) hnil
      have f3 := free_of_block (j := 3) hnil
      have f4 := free_of_block (j := 4) hnil
      have f5 := free_of_block (j := 5) hnil
      have f6 := free_of_block (j := 6) hnil
      have f7 := free_of_block (j := 7) hnil
      have hRl := hlt_of hnil
      have HN := Lib.hid hnil
      have HGS := Lib.hid hgs
      clear hnil hgs hgb
      go_wp2
      exact ⟨undef, rfl, ⟨_, Eq.trans (by kernel_rfl) HGB.out, (sow_all (l := [.string v1.id, .int .i64 v1.ds, .int .i64 v1.dc, .int .i64 v1.tg, .int .i64 v1.nm, .int .i64 v1.bd, .slice ua v1.past.vec.length uc, .slice xa v1.past.more.length xc]) HN.out rfl).1, HGS.out⟩, sowRow_below HGS.out [.string v1.id, .int .i64 v1.ds, .int .i64 v1.dc, .int .i64 v1.tg, .int .i64 v1.nm, .int .i64 v1.bd, .slice ua v1.past.vec.length uc, .slice xa v1.past.more.length xc] _ _ 0 hg, ⟨fun h _ => absurd rfl h, fun _ => (sow_all (l := [.string v1.id, .int .i64 v1.ds, .int .i64 v1.dc, .int .i64 v1.tg, .int .i64 v1.nm, .int .i64 v1.bd, .slice ua v1.past.vec.length uc, .slice xa v1.past.more.length xc]) HN.out rfl).2, fun h => absurd h (by decide)⟩⟩
    · intro x wx hG
      have g3 : AtB 111 #[.string ⟨#[]⟩, .slice none 0 0, .slice none 0 0] wx w2.heap.size (x.tmps.getD 13 undef) := hG.claims 3 _ rfl (by decide +kernel) (by decide +kernel)
      have g1 : (x.tmps.getD 41 undef) = .agg #[.string gi, .slice ya gk.vec.length yc, .slice za gk.more.length zc] := hG.claims 1 _ rfl (by decide +kernel) (by decide +kernel)
      have hg := hG.good
      clear hG
      obtain ⟨gb, hgb, hnil, hgs⟩ := g3
      have hgbb := hgb
      rw [Array.getD_eq_getD_getElem?] at hgbb
      have HGB := Lib.hid hgb
      have r0 := cell_of_block (j := 0) hnil rfl
      have r1 := cell_of_block (j := 1) hnil rfl
      have r2 := cell_of_block (j := 2) hnil rfl
      have f0 := free_of_block (j := 0) hnil
      have f1 := free_of_block (j := 1) hnil
      have f2 := free_of_block (j := 2) hnil
      have hRl := hlt_of hnil
      have HN := Lib.hid hnil
      have HGS := Lib.hid hgs
      clear hnil hgs hgb
      go_wp2
      exact ⟨undef, rfl, ⟨_, Eq.trans (by kernel_rfl) HGB.out, (sow_all (l := [.string gi, .slice ya gk.vec.length yc, .slice za gk.more.length zc]) HN.out rfl).1, HGS.out⟩, sowRow_below HGS.out [.string gi, .slice ya gk.vec.length yc, .slice za gk.more.length zc] _ _ 0 hg, ⟨fun _ h => absurd rfl h, fun h => absurd h (by decide), fun _ => (sow_all (l := [.string gi, .slice ya gk.vec.length yc, .slice za gk.more.length zc]) HN.out rfl).2⟩⟩
  · intro vals wp hg hF
    obtain ⟨g0, g1, g2, g3, g4, g5, -⟩ := hF
    have e0 : vals 0 = .agg #[.string v1.id, .int .i64 v1.ds, .int .i64 v1.dc, .int .i64 v1.tg, .int .i64 v1.nm, .int .i64 v1.bd, .slice ua v1.past.vec.length uc, .slice xa v1.past.more.length xc] := g0 rfl
    have e1 : vals 1 = .agg #[.string gi, .slice ya gk.vec.length yc, .slice za gk.more.length zc] := g1 rfl
    have g4 := g4 rfl
    have g5 := g5 rfl
    simp only [Cl2.puts, e0, e1]
    clear e0 e1 g0 g1 g2 g3
    go_simp
    obtain ⟨gv, h12, kv, hgv⟩ := g4
    obtain ⟨gg, h13, kg, hgg⟩ := g5
    have hv12 : vals 2 = .pointer (some ⟨gv, 0, none⟩) := Eq.trans (by kernel_rfl) h12
    have hv13 : vals 3 = .pointer (some ⟨gg, 0, none⟩) := Eq.trans (by kernel_rfl) h13
    rw [hv12, hv13]
    have KV := Lib.hid kv
    have KG := Lib.hid kg
    have HGV := Lib.hid hgv
    have HGG := Lib.hid hgg
    have hbq := hg
    clear h12 h13 hv12 hv13 kv kg hgv hgg hg
    have HBP := Lib.hid hbq
    clear hbq
    have HRV := Lib.hid (fun wx (h : Below w2.heap.size w2 wx) => roomyKnow_c _ _ v1.past wx (HV.out.below h) ZV.out)
    have HRG := Lib.hid (fun wx (h : Below w2.heap.size w2 wx) => roomyKnow_c _ _ gk wx (HG.out.below h) ZG.out)
    go_wp2
    refine Cl.region0 166 rfl [] (fun _ => True) (fun _ => []) (fun jq v ww => match jq with | 0 => v = .pointer (some ⟨w.heap.size, 6, none⟩) | 1 => v = .agg #[.slice ua v1.past.vec.length uc, .slice xa v1.past.more.length xc] | 2 => RoomKv ww w2.heap.size v v1.past | 3 => v = .pointer (some ⟨w.heap.size + 1, 1, none⟩) | 4 => v = .agg #[.slice ya gk.vec.length yc, .slice za gk.more.length zc] | 5 => RoomKv ww w2.heap.size v gk | 6 => v = .pointer (some ⟨gv, 6, none⟩) | 7 => FulV gv v1 w2.heap.size ww | 8 => v = .pointer (some ⟨gg, 1, none⟩) | 9 => FulG gg gi gk w2.heap.size ww | _ => True) (fun ww => (Below w2.heap.size w2 ww ∧ BlkV gv v1 ww ∧ BlkG gg gi ww)) (fun jq ww ww' => (jq ≠ 7 → jq ≠ 9 → Below ww.heap.size ww ww') ∧ (jq = 7 → TKeep (NotT 109) ww ww') ∧ (jq = 9 → TKeep (NotT 111) ww ww')) Try.mixed (by decide +kernel) ⟨HBP.out.drew, ⟨_, _, KV.out⟩, ⟨_, _, KG.out⟩⟩ trivial ?_ (fun _ _ _ _ _ _ => trivial) ?_ ?_
    · intro qq r v w w' hne hk hlt h hR
      match r, hk, hlt, h, hne with
      | 0, _, _, h, _ => exact h
      | 1, _, _, h, _ => exact h
      | 2, hk, _, h, hne =>
        by_cases q1 : qq = 7
        · exact RoomKv.tk h (hR.2.1 q1) (by decide) (by decide)
        · by_cases q2 : qq = 9
          · exact RoomKv.tk h (hR.2.2 q2) (by decide) (by decide)
          · exact RoomKv.below h (hR.1 q1 q2)
      | 3, _, _, h, _ => exact h
      | 4, _, _, h, _ => exact h
      | 5, hk, _, h, hne =>
        by_cases q1 : qq = 7
        · exact RoomKv.tk h (hR.2.1 q1) (by decide) (by decide)
        · by_cases q2 : qq = 9
          · exact RoomKv.tk h (hR.2.2 q2) (by decide) (by decide)
          · exact RoomKv.below h (hR.1 q1 q2)
      | 6, _, _, h, _ => exact h
      | 7, hk, _, h, hne =>
        by_cases q1 : qq = 7
        · exact absurd q1 hne
        · by_cases q2 : qq = 9
          · exact FulV.tk h (hR.2.2 q2) (by decide) (by decide) (by decide)
          · exact FulV.below h (hR.1 q1 q2)
      | 8, _, _, h, _ => exact h
      | 9, hk, _, h, hne =>
        by_cases q1 : qq = 7
        · exact FulG.tk h (hR.2.1 q1) (by decide) (by decide) (by decide)
        · by_cases q2 : qq = 9
          · exact absurd q2 hne
          · exact FulG.below h (hR.1 q1 q2)
      | _ + 10, _, _, _, _ => trivial
    · refine ⟨?_, ?_, ?_, ?_, ?_, ?_, ?_, ?_, ?_, ?_, trivial⟩
      · intro x wx hG
        have f6 := hG.old 6 (by decide +kernel)
        have hg := hG.good
        clear hG
        go_wp2
        exact ⟨_, rfl, rfl, hg, ⟨fun _ _ => Below.refl _ _, fun h => absurd h (by decide), fun h => absurd h (by decide)⟩⟩
      · intro x wx hG
        have g0 : (x.tmps.getD 42 undef) = .pointer (some ⟨w.heap.size, 6, none⟩) := hG.claims 0 _ rfl (by decide +kernel) (by decide +kernel)
        have hg := hG.good
        clear hG
        have kb := hg.1.block _ (hlt_of K6.out)
        rw [K6.out] at kb
        have k6 := cell_of_block (j := 6) kb rfl
        have k7 := cell_of_block (j := 7) kb rfl
        have kl := hlt_of kb
        clear kb
        go_wp2
        exact ⟨_, rfl, rfl, hg, ⟨fun _ _ => Below.refl _ _, fun h => absurd h (by decide), fun h => absurd h (by decide)⟩⟩
      · intro x wx hG
        have g1 : (x.tmps.getD 43 undef) = .agg #[.slice ua v1.past.vec.length uc, .slice xa v1.past.more.length xc] := hG.claims 1 _ rfl (by decide +kernel) (by decide +kernel)
        have hg := hG.good
        clear hG
        go_wp2_with fail
        (with_reducible refine (HRV.out _ hg.1).mono ?_)
        rintro e wq ⟨u9, x9, rfl, hr9, hb9⟩
        have HR9 := Lib.hid (show RoomKv wq w2.heap.size (.agg #[u9, x9]) v1.past from ⟨_, _, rfl, hr9.mono hg.1.size⟩)
        have HB9 := Lib.hid hb9
        have HGG9 := Lib.hid hg
        clear hr9 hb9 hg
        go_wp2
        exact ⟨_, rfl, HR9.out, ⟨HGG9.out.1.trans (HB9.out.mono HGG9.out.1.size), HGG9.out.2.1.below HB9.out, HGG9.out.2.2.below HB9.out⟩, ⟨fun _ _ => HB9.out, fun h => absurd h (by decide), fun h => absurd h (by decide)⟩⟩
      · intro x wx hG
        have f7 := hG.old 7 (by decide +kernel)
        have hg := hG.good
        clear hG
        go_wp2
        exact ⟨_, rfl, rfl, hg, ⟨fun _ _ => Below.refl _ _, fun h => absurd h (by decide), fun h => absurd h (by decide)⟩⟩
      · intro x wx hG
        have g3 : (x.tmps.getD 45 undef) = .pointer (some ⟨w.heap.size + 1, 1, none⟩) := hG.claims 3 _ rfl (by decide +kernel) (by decide +kernel)
        have hg := hG.good
        clear hG
        have kb := hg.1.block _ (hlt_of K7.out)
        rw [K7.out] at kb
        have k1 := cell_of_block (j := 1) kb rfl
        have k2 := cell_of_block (j := 2) kb rfl
        have kl := hlt_of kb
        clear kb
        go_wp2
        exact ⟨_, rfl, rfl, hg, ⟨fun _ _ => Below.refl _ _, fun h => absurd h (by decide), fun h => absurd h (by decide)⟩⟩
      · intro x wx hG
        have g4 : (x.tmps.getD 46 undef) = .agg #[.slice ya gk.vec.length yc, .slice za gk.more.length zc] := hG.claims 4 _ rfl (by decide +kernel) (by decide +kernel)
        have hg := hG.good
        clear hG
        go_wp2_with fail
        (with_reducible refine (HRG.out _ hg.1).mono ?_)
        rintro e wq ⟨u9, x9, rfl, hr9, hb9⟩
        have HR9 := Lib.hid (show RoomKv wq w2.heap.size (.agg #[u9, x9]) gk from ⟨_, _, rfl, hr9.mono hg.1.size⟩)
        have HB9 := Lib.hid hb9
        have HGG9 := Lib.hid hg
        clear hr9 hb9 hg
        go_wp2
        exact ⟨_, rfl, HR9.out, ⟨HGG9.out.1.trans (HB9.out.mono HGG9.out.1.size), HGG9.out.2.1.below HB9.out, HGG9.out.2.2.below HB9.out⟩, ⟨fun _ _ => HB9.out, fun h => absurd h (by decide), fun h => absurd h (by decide)⟩⟩
      · intro x wx hG
        have f12 := hG.old 12 (by decide +kernel)
        have hg := hG.good
        clear hG
        go_wp2
        exact ⟨_, rfl, rfl, hg, ⟨fun _ _ => Below.refl _ _, fun h => absurd h (by decide), fun h => absurd h (by decide)⟩⟩
      · intro x wx hG
        have g6 : (x.tmps.getD 48 undef) = .pointer (some ⟨gv, 6, none⟩) := hG.claims 6 _ rfl (by decide +kernel) (by decide +kernel)
        have g2 : RoomKv wx w2.heap.size (x.tmps.getD 44 undef) v1.past := hG.claims 2 _ rfl (by decide +kernel) (by decide +kernel)
        have hg := hG.good
        clear hG
        obtain ⟨u9, x9, hv9, hr9⟩ := g2
        have hv9b := hv9
        rw [Array.getD_eq_getD_getElem?] at hv9b
        obtain ⟨gu, rfl, -, -⟩ := hr9.vec.shape
        obtain ⟨gx, rfl, -, -⟩ := hr9.more.shape
        obtain ⟨u0, x0, hk0⟩ := hg.2.1
        have r0 := cell_of_block (j := 6) hk0 rfl
        have r1 := cell_of_block (j := 7) hk0 rfl
        have f0 := free_of_block (j := 6) hk0
        have f1 := free_of_block (j := 7) hk0
        have hRl := hlt_of hk0
        have HN := Lib.hid (FulV.store (u := .slice (some ⟨gu, 0, none⟩) (v1.past).vec.length ((v1.past).vec.length + 3)) (x := .slice (some ⟨gx, 0, none⟩) (v1.past).more.length ((v1.past).more.length + 3)) hk0 hr9)
        have HG9 := Lib.hid hg
        clear hk0 hr9 hg
        go_wp2
        exact ⟨undef, rfl, HN.out.1, ⟨(HG9.out.1.setCell HGV.out _).setCell HGV.out _, ⟨_, _, HN.out.1.choose_spec.choose_spec.1⟩, HG9.out.2.2.tk HN.out.2 (by decide)⟩, ⟨fun h _ => absurd rfl h, fun _ => HN.out.2, fun h => absurd h (by decide)⟩⟩
      · intro x wx hG
        have f13 := hG.old 13 (by decide +kernel)
        have hg := hG.good
        clear hG
        go_wp2
        exact ⟨_, rfl, rfl, hg, ⟨fun _ _ => Below.refl _ _, fun h => absurd h (by decide), fun h => absurd h (by decide)⟩⟩
      · intro x wx hG
        have g8 : (x.tmps.getD 49 undef) = .pointer (some ⟨gg, 1, none⟩) := hG.claims 8 _ rfl (by decide +kernel) (by decide +kernel)
        have g5 : RoomKv wx w2.heap.size (x.tmps.getD 47 undef) gk := hG.claims 5 _ rfl (by decide +kernel) (by decide +kernel)
        have hg := hG.good
        clear hG
        obtain ⟨u9, x9, hv9, hr9⟩ := g5
        have hv9b := hv9
        rw [Array.getD_eq_getD_getElem?] at hv9b
        obtain ⟨gu, rfl, -, -⟩ := hr9.vec.shape
        obtain ⟨gx, rfl, -, -⟩ := hr9.more.shape
        obtain ⟨u0, x0, hk0⟩ := hg.2.2
        have r0 := cell_of_block (j := 1) hk0 rfl
        have r1 := cell_of_block (j := 2) hk0 rfl
        have f0 := free_of_block (j := 1) hk0
        have f1 := free_of_block (j := 2) hk0
        have hRl := hlt_of hk0
        have HN := Lib.hid (FulG.store (u := .slice (some ⟨gu, 0, none⟩) (gk).vec.length ((gk).vec.length + 3)) (x := .slice (some ⟨gx, 0, none⟩) (gk).more.length ((gk).more.length + 3)) hk0 hr9)
        have HG9 := Lib.hid hg
        clear hk0 hr9 hg
        go_wp2
        exact ⟨undef, rfl, HN.out.1, ⟨(HG9.out.1.setCell HGG.out _).setCell HGG.out _, HG9.out.2.1.tk HN.out.2 (by decide), ⟨_, _, HN.out.1.choose_spec.choose_spec.1⟩⟩, ⟨fun _ h => absurd rfl h, fun h => absurd h (by decide), fun _ => HN.out.2⟩⟩
    · intro vals w5 hg hF
      obtain ⟨g0, g1, g2, g3, g4, g5, g6, g7, g8, g9, -⟩ := hF
      have e0 : vals 0 = .pointer (some ⟨w.heap.size, 6, none⟩) := g0 rfl
      have e1 : vals 1 = .agg #[.slice ua v1.past.vec.length uc, .slice xa v1.past.more.length xc] := g1 rfl
      have e3 : vals 3 = .pointer (some ⟨w.heap.size + 1, 1, none⟩) := g3 rfl
      have e4 : vals 4 = .agg #[.slice ya gk.vec.length yc, .slice za gk.more.length zc] := g4 rfl
      have e6 : vals 6 = .pointer (some ⟨gv, 6, none⟩) := g6 rfl
      replace g7 : FulV gv v1 w2.heap.size w5 := g7 rfl
      have e8 : vals 8 = .pointer (some ⟨gg, 1, none⟩) := g8 rfl
      replace g9 : FulG gg gi gk w2.heap.size w5 := g9 rfl
      simp only [Cl.puts, e0, e1, e3, e4, e6, e8]
      clear e0 e1 e3 e4 e6 e8 g0 g1 g2 g3 g4 g5 g6 g8
      go_simp
      obtain ⟨u3, x3, k3, r3⟩ := g7
      obtain ⟨u4, x4, k4, r4⟩ := g9
      obtain ⟨gu3, rfl, -, -⟩ := r3.vec.shape
      obtain ⟨gx3, rfl, -, -⟩ := r3.more.shape
      obtain ⟨gu4, rfl, -, -⟩ := r4.vec.shape
      obtain ⟨gx4, rfl, -, -⟩ := r4.more.shape
      have KV5 := Lib.hid (show w5.heap[gv]? = some (.cells #[.string v1.id, .int .i64 v1.ds, .int .i64 v1.dc, .int .i64 v1.tg, .int .i64 v1.nm, .int .i64 v1.bd, .slice (some ⟨gu3, 0, none⟩) v1.past.vec.length (v1.past.vec.length + 3), .slice (some ⟨gx3, 0, none⟩) v1.past.more.length (v1.past.more.length + 3)] 109 (0, 0)) from k3)
      have KG5 := Lib.hid k4
      have R3 := Lib.hid r3
      have R4 := Lib.hid r4
      have hbq := hg.1
      have T5 := Lib.hid hg.1.size
      have RU3 := Lib.hid (inR_owns r3.own.vec)
      have RX3 := Lib.hid (inR_owns r3.own.more)
      have RU4 := Lib.hid (inR_owns r4.own.vec)
      have RX4 := Lib.hid (inR_owns r4.own.more)
      clear k3 k4 r3 r4 hg KV KG HRV HRG HBP
      replace HL := Lib.hid (HL.out.below hbq)
      replace HV := Lib.hid (HV.out.below hbq)
      replace HG := Lib.hid (HG.out.below hbq)
      replace HBT := Lib.hid (HBT.out.below hbq)
      replace K6 := Lib.hid (below_keep hbq K6.out)
      replace K7 := Lib.hid (below_keep hbq K7.out)
      replace K9 := Lib.hid (below_keep hbq K9.out)
      replace HB := Lib.hid (bstep HB.out hbq)
      replace HB0 := Lib.hid (bstep HB0.out hbq)
      replace HIN := Lib.hid (HIN.out.below hbq)
      replace HINO := Lib.hid (HINO.out.below hbq)
      clear hbq
      skip
      have HC := Lib.hid ((by have h := put_c (.slice ia l.length ic) l v1 (.slice (some ⟨gu3, 0, none⟩) v1.past.vec.length (v1.past.vec.length + 3)) (.slice (some ⟨gx3, 0, none⟩) v1.past.more.length (v1.past.more.length + 3)) w5 (HIN.out.at_ ZL.out) (R3.out.own.atZ ZV.out); unfold verC at h; exact h : Calls Try.prog 63 #[.slice ia l.length ic, .agg #[.string v1.id, .int .i64 v1.ds, .int .i64 v1.dc, .int .i64 v1.tg, .int .i64 v1.nm, .int .i64 v1.bd, .slice (some ⟨gu3, 0, none⟩) v1.past.vec.length (v1.past.vec.length + 3), .slice (some ⟨gx3, 0, none⟩) v1.past.more.length (v1.past.more.length + 3)]] w5 fun e w' => ∃ ov, e = .returned (.tuple #[ov, .int .i64 (putE l v1)]) ∧ VOwn w' w5.heap.size ov (putR l v1) ∧ Below w5.heap.size w5 w'))
      have x0 := cell_of_block (j := 0) KV5.out rfl
      have x1 := cell_of_block (j := 1) KV5.out rfl
      have x2 := cell_of_block (j := 2) KV5.out rfl
      have x3 := cell_of_block (j := 3) KV5.out rfl
      have x4 := cell_of_block (j := 4) KV5.out rfl
      have x5 := cell_of_block (j := 5) KV5.out rfl
      have x6 := cell_of_block (j := 6) KV5.out rfl
      have x7 := cell_of_block (j := 7) KV5.out rfl
      have xl := hlt_of KV5.out
      go_wp2_with fail
      (with_reducible refine (HC.out).mono ?_)
      rintro e w6 ⟨av, rfl, hx, hbq⟩
      clear HC x0 x1 x2 x3 x4 x5 x6 x7 xl
      replace HL := Lib.hid (HL.out.below hbq)
      replace HV := Lib.hid (HV.out.below hbq)
      replace HG := Lib.hid (HG.out.below hbq)
      replace HBT := Lib.hid (HBT.out.below hbq)
      replace K6 := Lib.hid (below_keep hbq K6.out)
      replace K7 := Lib.hid (below_keep hbq K7.out)
      replace K9 := Lib.hid (below_keep hbq K9.out)
      replace HB := Lib.hid (bstep HB.out hbq)
      replace HB0 := Lib.hid (bstep HB0.out hbq)
      replace HIN := Lib.hid (HIN.out.below hbq)
      replace HINO := Lib.hid (HINO.out.below hbq)
      replace KV5 := Lib.hid (below_keep hbq KV5.out)
      replace KG5 := Lib.hid (below_keep hbq KG5.out)
      replace R3 := Lib.hid (R3.out.below hbq)
      replace R4 := Lib.hid (R4.out.below hbq)
      have T6 := Lib.hid hbq.size
      have Ha := Lib.hid (OwnV.of_own hx)
      have Za := Lib.hid (SzV.put l v1)
      clear hx
      obtain ⟨sa, ta, rfl⟩ := Ha.out.shape
      clear hbq
      have HC := Lib.hid (drop_c _ l gi gk (.slice (some ⟨gu4, 0, none⟩) gk.vec.length (gk.vec.length + 3)) (.slice (some ⟨gx4, 0, none⟩) gk.more.length (gk.more.length + 3)) w6 (HIN.out.at_ ZL.out) (R4.out.own.atZ ZG.out))
      have x0 := cell_of_block (j := 0) KG5.out rfl
      have x1 := cell_of_block (j := 1) KG5.out rfl
      have x2 := cell_of_block (j := 2) KG5.out rfl
      have xl := hlt_of KG5.out
      go_wp2_with fail
      (with_reducible refine (HC.out).mono ?_)
      rintro e w7 ⟨bv, rfl, hx, hbq⟩
      clear HC x0 x1 x2 xl
      replace HL := Lib.hid (HL.out.below hbq)
      replace HV := Lib.hid (HV.out.below hbq)
      replace HG := Lib.hid (HG.out.below hbq)
      replace HBT := Lib.hid (HBT.out.below hbq)
      replace K6 := Lib.hid (below_keep hbq K6.out)
      replace K7 := Lib.hid (below_keep hbq K7.out)
      replace K9 := Lib.hid (below_keep hbq K9.out)
      replace HB := Lib.hid (bstep HB.out hbq)
      replace HB0 := Lib.hid (bstep HB0.out hbq)
      replace HIN := Lib.hid (HIN.out.below hbq)
      replace HINO := Lib.hid (HINO.out.below hbq)
      replace KV5 := Lib.hid (below_keep hbq KV5.out)
      replace KG5 := Lib.hid (below_keep hbq KG5.out)
      replace R3 := Lib.hid (R3.out.below hbq)
      replace R4 := Lib.hid (R4.out.below hbq)
      replace Ha := Lib.hid (Ha.out.below hbq)
      have T7 := Lib.hid hbq.size
      have Hb := Lib.hid (OwnV.of_own hx)
      have Zb := Lib.hid (SzV.drop l gi gk)
      clear hx
      obtain ⟨sb, tb, rfl⟩ := Hb.out.shape
      clear hbq
      have HC := Lib.hid (get_c _ l id w7 (HIN.out.at_ ZL.out))
      go_wp2_with fail
      (with_reducible refine (HC.out).mono ?_)
      rintro e w8 ⟨cv, rfl, hx, hbq⟩
      clear HC 
      replace HL := Lib.hid (HL.out.below hbq)
      replace HV := Lib.hid (HV.out.below hbq)
      replace HG := Lib.hid (HG.out.below hbq)
      replace HBT := Lib.hid (HBT.out.below hbq)
      replace K6 := Lib.hid (below_keep hbq K6.out)
      replace K7 := Lib.hid (below_keep hbq K7.out)
      replace K9 := Lib.hid (below_keep hbq K9.out)
      replace HB := Lib.hid (bstep HB.out hbq)
      replace HB0 := Lib.hid (bstep HB0.out hbq)
      replace HIN := Lib.hid (HIN.out.below hbq)
      replace HINO := Lib.hid (HINO.out.below hbq)
      replace KV5 := Lib.hid (below_keep hbq KV5.out)
      replace KG5 := Lib.hid (below_keep hbq KG5.out)
      replace R3 := Lib.hid (R3.out.below hbq)
      replace R4 := Lib.hid (R4.out.below hbq)
      replace Ha := Lib.hid (Ha.out.below hbq)
      replace Hb := Lib.hid (Hb.out.below hbq)
      have T8 := Lib.hid hbq.size
      have Hc := Lib.hid (OwnV.of_own hx)
      have Zc := Lib.hid (SzV.get l id)
      clear hx
      obtain ⟨sc, tc, rfl⟩ := Hc.out.shape
      clear hbq
      have HC := Lib.hid (past_c _ l id w8 (HIN.out.at_ ZL.out))
      go_wp2_with fail
      (with_reducible refine (HC.out).mono ?_)
      rintro e w9 ⟨kx, ky, rfl, hx, hbq⟩
      clear HC 
      replace HL := Lib.hid (HL.out.below hbq)
      replace HV := Lib.hid (HV.out.below hbq)
      replace HG := Lib.hid (HG.out.below hbq)
      replace HBT := Lib.hid (HBT.out.below hbq)
      replace K6 := Lib.hid (below_keep hbq K6.out)
      replace K7 := Lib.hid (below_keep hbq K7.out)
      replace K9 := Lib.hid (below_keep hbq K9.out)
      replace HB := Lib.hid (bstep HB.out hbq)
      replace HB0 := Lib.hid (bstep HB0.out hbq)
      replace HIN := Lib.hid (HIN.out.below hbq)
      replace HINO := Lib.hid (HINO.out.below hbq)
      replace KV5 := Lib.hid (below_keep hbq KV5.out)
      replace KG5 := Lib.hid (below_keep hbq KG5.out)
      replace R3 := Lib.hid (R3.out.below hbq)
      replace R4 := Lib.hid (R4.out.below hbq)
      replace Ha := Lib.hid (Ha.out.below hbq)
      replace Hb := Lib.hid (Hb.out.below hbq)
      replace Hc := Lib.hid (Hc.out.below hbq)
      have T9 := Lib.hid hbq.size
      obtain ⟨kk, q1, q2⟩ := hx.any
      have Hk := Lib.hid q1
      have Zk := Lib.hid q2
      clear q1 q2 hx
      obtain ⟨kxa, kxc, rfl⟩ := owns_slice Hk.out.own.vec
      obtain ⟨kya, kyc, rfl⟩ := owns_slice Hk.out.own.more
      clear hbq
      obtain ⟨Wk, hWk⟩ : ∃ Wk, Wk = w9.alloc (.cells #[.slice kxa kk.vec.length kxc, .slice kya kk.more.length kyc] 81) := ⟨_, rfl⟩
      have hbq : Below w9.heap.size w9 Wk := by rw [hWk]; exact bal _
      have KK := Lib.hid (show Wk.heap[w9.heap.size]? = some (.cells #[.slice kxa kk.vec.length kxc, .slice kya kk.more.length kyc] 81 (0, 0)) by rw [hWk]; exact alloc_new _ _ _ _ rfl)
      replace HL := Lib.hid (HL.out.below hbq)
      replace HV := Lib.hid (HV.out.below hbq)
      replace HG := Lib.hid (HG.out.below hbq)
      replace HBT := Lib.hid (HBT.out.below hbq)
      replace K6 := Lib.hid (below_keep hbq K6.out)
      replace K7 := Lib.hid (below_keep hbq K7.out)
      replace K9 := Lib.hid (below_keep hbq K9.out)
      replace HB := Lib.hid (bstep HB.out hbq)
      replace HB0 := Lib.hid (bstep HB0.out hbq)
      replace HIN := Lib.hid (HIN.out.below hbq)
      replace HINO := Lib.hid (HINO.out.below hbq)
      replace KV5 := Lib.hid (below_keep hbq KV5.out)
      replace KG5 := Lib.hid (below_keep hbq KG5.out)
      replace R3 := Lib.hid (R3.out.below hbq)
      replace R4 := Lib.hid (R4.out.below hbq)
      replace Ha := Lib.hid (Ha.out.below hbq)
      replace Hb := Lib.hid (Hb.out.below hbq)
      replace Hc := Lib.hid (Hc.out.below hbq)
      replace Hk := Lib.hid (Hk.out.below hbq)
      have TWk := Lib.hid hbq.size
      clear hbq
      have HKL := Lib.hid (hlt_of KK.out)
      have HC := Lib.hid (pack_c _ _ _ ⟨bs, bm, V, G, P⟩ Wk HBT.out)
      have x0 := cell_of_block (j := 0) K9.out rfl
      have x1 := cell_of_block (j := 1) K9.out rfl
      have x2 := cell_of_block (j := 2) K9.out rfl
      have x3 := cell_of_block (j := 3) K9.out rfl
      have x4 := cell_of_block (j := 4) K9.out rfl
      have xl := hlt_of K9.out
      rw [hWk] at x0 x1 x2 x3 x4 xl
      go_wp2_with fail
      rw [← hWk]
      clear hWk
      (with_reducible refine (HC.out).mono ?_)
      rintro e w10 ⟨rfl, hbq⟩
      clear HC x0 x1 x2 x3 x4 xl
      replace HL := Lib.hid (HL.out.below hbq)
      replace HV := Lib.hid (HV.out.below hbq)
      replace HG := Lib.hid (HG.out.below hbq)
      replace HBT := Lib.hid (HBT.out.below hbq)
      replace K6 := Lib.hid (below_keep hbq K6.out)
      replace K7 := Lib.hid (below_keep hbq K7.out)
      replace K9 := Lib.hid (below_keep hbq K9.out)
      replace HB := Lib.hid (bstep HB.out hbq)
      replace HB0 := Lib.hid (bstep HB0.out hbq)
      replace HIN := Lib.hid (HIN.out.below hbq)
      replace HINO := Lib.hid (HINO.out.below hbq)
      replace KV5 := Lib.hid (below_keep hbq KV5.out)
      replace KG5 := Lib.hid (below_keep hbq KG5.out)
      replace R3 := Lib.hid (R3.out.below hbq)
      replace R4 := Lib.hid (R4.out.below hbq)
      replace Ha := Lib.hid (Ha.out.below hbq)
      replace Hb := Lib.hid (Hb.out.below hbq)
      replace Hc := Lib.hid (Hc.out.below hbq)
      replace Hk := Lib.hid (Hk.out.below hbq)
      replace KK := Lib.hid (below_keep hbq KK.out)
      have T10 := Lib.hid hbq.size
      have HPL := Lib.hid (pack_len ⟨bs, bm, V, G, P⟩)
      generalize packS ⟨bs, bm, V, G, P⟩ = ps at *
      generalize packE ⟨bs, bm, V, G, P⟩ = pe at *
      clear hbq
      have HC := Lib.hid (unpack_c ps w10 (by have := HPL.out; omega))
      go_wp2_with fail
      (with_reducible refine (HC.out).mono ?_)
      rintro e w11 ⟨uv, ug, up, rfl, hr, hbq⟩
      clear HC 
      replace HL := Lib.hid (HL.out.below hbq)
      replace HV := Lib.hid (HV.out.below hbq)
      replace HG := Lib.hid (HG.out.below hbq)
      replace HBT := Lib.hid (HBT.out.below hbq)
      replace K6 := Lib.hid (below_keep hbq K6.out)
      replace K7 := Lib.hid (below_keep hbq K7.out)
      replace K9 := Lib.hid (below_keep hbq K9.out)
      replace HB := Lib.hid (bstep HB.out hbq)
      replace HB0 := Lib.hid (bstep HB0.out hbq)
      replace HIN := Lib.hid (HIN.out.below hbq)
      replace HINO := Lib.hid (HINO.out.below hbq)
      replace KV5 := Lib.hid (below_keep hbq KV5.out)
      replace KG5 := Lib.hid (below_keep hbq KG5.out)
      replace R3 := Lib.hid (R3.out.below hbq)
      replace R4 := Lib.hid (R4.out.below hbq)
      replace Ha := Lib.hid (Ha.out.below hbq)
      replace Hb := Lib.hid (Hb.out.below hbq)
      replace Hc := Lib.hid (Hc.out.below hbq)
      replace Hk := Lib.hid (Hk.out.below hbq)
      replace KK := Lib.hid (below_keep hbq KK.out)
      have T11 := Lib.hid hbq.size
      have Hd := Lib.hid (OwnV.of_own hr.v)
      have Zd := Lib.hid (SzV.up ps)
      obtain ⟨uga, ugc, rfl⟩ := GOwn.shape hr.g
      obtain ⟨upa, upc, rfl⟩ := POwn.shape hr.p
      clear hr
      obtain ⟨sd, td, rfl⟩ := Hd.out.shape
      clear hbq
      obtain ⟨Wu, hWu⟩ : ∃ Wu, Wu = w11.alloc (.cells #[.int .i64 (upB ps).site, .int .i64 (upB ps).stamp, .slice sd (upB ps).vers.length td, .slice uga (upB ps).gone.length ugc, .slice upa (upB ps).parts.length upc] 64) := ⟨_, rfl⟩
      have hbq : Below w11.heap.size w11 Wu := by rw [hWu]; exact bal _
      have KU := Lib.hid (show Wu.heap[w11.heap.size]? = some (.cells #[.int .i64 (upB ps).site, .int .i64 (upB ps).stamp, .slice sd (upB ps).vers.length td, .slice uga (upB ps).gone.length ugc, .slice upa (upB ps).parts.length upc] 64 (0, 0)) by rw [hWu]; exact alloc_new _ _ _ _ rfl)
      replace HL := Lib.hid (HL.out.below hbq)
      replace HV := Lib.hid (HV.out.below hbq)
      replace HG := Lib.hid (HG.out.below hbq)
      replace HBT := Lib.hid (HBT.out.below hbq)
      replace K6 := Lib.hid (below_keep hbq K6.out)
      replace K7 := Lib.hid (below_keep hbq K7.out)
      replace K9 := Lib.hid (below_keep hbq K9.out)
      replace HB := Lib.hid (bstep HB.out hbq)
      replace HB0 := Lib.hid (bstep HB0.out hbq)
      replace HIN := Lib.hid (HIN.out.below hbq)
      replace HINO := Lib.hid (HINO.out.below hbq)
      replace KV5 := Lib.hid (below_keep hbq KV5.out)
      replace KG5 := Lib.hid (below_keep hbq KG5.out)
      replace R3 := Lib.hid (R3.out.below hbq)
      replace R4 := Lib.hid (R4.out.below hbq)
      replace Ha := Lib.hid (Ha.out.below hbq)
      replace Hb := Lib.hid (Hb.out.below hbq)
      replace Hc := Lib.hid (Hc.out.below hbq)
      replace Hk := Lib.hid (Hk.out.below hbq)
      replace KK := Lib.hid (below_keep hbq KK.out)
      replace Hd := Lib.hid (Hd.out.below hbq)
      have TWu := Lib.hid hbq.size
      clear hbq
      have HC := Lib.hid (unpack_c ps Wu (by have := HPL.out; omega))
      go_wp2_with fail
      rw [← hWu]
      clear hWu
      (with_reducible refine (HC.out).mono ?_)
      rintro e w12 ⟨wv, wg, wp2, rfl, hr, hbq⟩
      clear HC 
      replace HL := Lib.hid (HL.out.below hbq)
      replace HV := Lib.hid (HV.out.below hbq)
      replace HG := Lib.hid (HG.out.below hbq)
      replace HBT := Lib.hid (HBT.out.below hbq)
      replace K6 := Lib.hid (below_keep hbq K6.out)
      replace K7 := Lib.hid (below_keep hbq K7.out)
      replace K9 := Lib.hid (below_keep hbq K9.out)
      replace HB := Lib.hid (bstep HB.out hbq)
      replace HB0 := Lib.hid (bstep HB0.out hbq)
      replace HIN := Lib.hid (HIN.out.below hbq)
      replace HINO := Lib.hid (HINO.out.below hbq)
      replace KV5 := Lib.hid (below_keep hbq KV5.out)
      replace KG5 := Lib.hid (below_keep hbq KG5.out)
      replace R3 := Lib.hid (R3.out.below hbq)
      replace R4 := Lib.hid (R4.out.below hbq)
      replace Ha := Lib.hid (Ha.out.below hbq)
      replace Hb := Lib.hid (Hb.out.below hbq)
      replace Hc := Lib.hid (Hc.out.below hbq)
      replace Hk := Lib.hid (Hk.out.below hbq)
      replace KK := Lib.hid (below_keep hbq KK.out)
      replace Hd := Lib.hid (Hd.out.below hbq)
      replace KU := Lib.hid (below_keep hbq KU.out)
      have T12 := Lib.hid hbq.size
      have He := Lib.hid (OwnV.of_own hr.v)
      have Ze := Lib.hid (SzV.up ps)
      obtain ⟨wga, wgc, rfl⟩ := GOwn.shape hr.g
      obtain ⟨wpa, wpc, rfl⟩ := POwn.shape hr.p
      clear hr
      obtain ⟨se, te, rfl⟩ := He.out.shape
      clear hbq
      obtain ⟨Ww, hWw⟩ : ∃ Ww, Ww = w12.alloc (.cells #[.int .i64 (upB ps).site, .int .i64 (upB ps).stamp, .slice se (upB ps).vers.length te, .slice wga (upB ps).gone.length wgc, .slice wpa (upB ps).parts.length wpc] 64) := ⟨_, rfl⟩
      have hbq : Below w12.heap.size w12 Ww := by rw [hWw]; exact bal _
      have KW := Lib.hid (show Ww.heap[w12.heap.size]? = some (.cells #[.int .i64 (upB ps).site, .int .i64 (upB ps).stamp, .slice se (upB ps).vers.length te, .slice wga (upB ps).gone.length wgc, .slice wpa (upB ps).parts.length wpc] 64 (0, 0)) by rw [hWw]; exact alloc_new _ _ _ _ rfl)
      replace HL := Lib.hid (HL.out.below hbq)
      replace HV := Lib.hid (HV.out.below hbq)
      replace HG := Lib.hid (HG.out.below hbq)
      replace HBT := Lib.hid (HBT.out.below hbq)
      replace K6 := Lib.hid (below_keep hbq K6.out)
      replace K7 := Lib.hid (below_keep hbq K7.out)
      replace K9 := Lib.hid (below_keep hbq K9.out)
      replace HB := Lib.hid (bstep HB.out hbq)
      replace HB0 := Lib.hid (bstep HB0.out hbq)
      replace HIN := Lib.hid (HIN.out.below hbq)
      replace HINO := Lib.hid (HINO.out.below hbq)
      replace KV5 := Lib.hid (below_keep hbq KV5.out)
      replace KG5 := Lib.hid (below_keep hbq KG5.out)
      replace R3 := Lib.hid (R3.out.below hbq)
      replace R4 := Lib.hid (R4.out.below hbq)
      replace Ha := Lib.hid (Ha.out.below hbq)
      replace Hb := Lib.hid (Hb.out.below hbq)
      replace Hc := Lib.hid (Hc.out.below hbq)
      replace Hk := Lib.hid (Hk.out.below hbq)
      replace KK := Lib.hid (below_keep hbq KK.out)
      replace Hd := Lib.hid (Hd.out.below hbq)
      replace KU := Lib.hid (below_keep hbq KU.out)
      replace He := Lib.hid (He.out.below hbq)
      have TWw := Lib.hid hbq.size
      clear hbq
      have HC := Lib.hid (keptShelf_c _ _ _ l Ww HIN.out HL.out ZL.out)
      go_wp2_with fail
      rw [← hWw]
      clear hWw
      (with_reducible refine (HC.out).mono ?_)
      rintro e w13 ⟨rfl, hbq⟩
      clear HC 
      replace HL := Lib.hid (HL.out.below hbq)
      replace HV := Lib.hid (HV.out.below hbq)
      replace HG := Lib.hid (HG.out.below hbq)
      replace HBT := Lib.hid (HBT.out.below hbq)
      replace K6 := Lib.hid (below_keep hbq K6.out)
      replace K7 := Lib.hid (below_keep hbq K7.out)
      replace K9 := Lib.hid (below_keep hbq K9.out)
      replace HB := Lib.hid (bstep HB.out hbq)
      replace HB0 := Lib.hid (bstep HB0.out hbq)
      replace HIN := Lib.hid (HIN.out.below hbq)
      replace HINO := Lib.hid (HINO.out.below hbq)
      replace KV5 := Lib.hid (below_keep hbq KV5.out)
      replace KG5 := Lib.hid (below_keep hbq KG5.out)
      replace R3 := Lib.hid (R3.out.below hbq)
      replace R4 := Lib.hid (R4.out.below hbq)
      replace Ha := Lib.hid (Ha.out.below hbq)
      replace Hb := Lib.hid (Hb.out.below hbq)
      replace Hc := Lib.hid (Hc.out.below hbq)
      replace Hk := Lib.hid (Hk.out.below hbq)
      replace KK := Lib.hid (below_keep hbq KK.out)
      replace Hd := Lib.hid (Hd.out.below hbq)
      replace KU := Lib.hid (below_keep hbq KU.out)
      replace He := Lib.hid (He.out.below hbq)
      replace KW := Lib.hid (below_keep hbq KW.out)
      have T13 := Lib.hid hbq.size
      clear hbq
      have HC := Lib.hid (keptKnow_c _ _ _ _ _ v1.past w13 R3.out HV.out ZV.out)
      have x6 := cell_of_block (j := 6) KV5.out rfl
      have x7 := cell_of_block (j := 7) KV5.out rfl
      have xl := hlt_of KV5.out
      have y6 := cell_of_block (j := 6) K6.out rfl
      have y7 := cell_of_block (j := 7) K6.out rfl
      have yl := hlt_of K6.out
      go_wp2_with fail
      (with_reducible refine (HC.out).mono ?_)
      rintro e w14 ⟨rfl, hbq⟩
      clear HC x6 x7 xl y6 y7 yl
      replace HL := Lib.hid (HL.out.below hbq)
      replace HV := Lib.hid (HV.out.below hbq)
      replace HG := Lib.hid (HG.out.below hbq)
      replace HBT := Lib.hid (HBT.out.below hbq)
      replace K6 := Lib.hid (below_keep hbq K6.out)
      replace K7 := Lib.hid (below_keep hbq K7.out)
      replace K9 := Lib.hid (below_keep hbq K9.out)
      replace HB := Lib.hid (bstep HB.out hbq)
      replace HB0 := Lib.hid (bstep HB0.out hbq)
      replace HIN := Lib.hid (HIN.out.below hbq)
      replace HINO := Lib.hid (HINO.out.below hbq)
      replace KV5 := Lib.hid (below_keep hbq KV5.out)
      replace KG5 := Lib.hid (below_keep hbq KG5.out)
      replace R3 := Lib.hid (R3.out.below hbq)
      replace R4 := Lib.hid (R4.out.below hbq)
      replace Ha := Lib.hid (Ha.out.below hbq)
      replace Hb := Lib.hid (Hb.out.below hbq)
      replace Hc := Lib.hid (Hc.out.below hbq)
      replace Hk := Lib.hid (Hk.out.below hbq)
      replace KK := Lib.hid (below_keep hbq KK.out)
      replace Hd := Lib.hid (Hd.out.below hbq)
      replace KU := Lib.hid (below_keep hbq KU.out)
      replace He := Lib.hid (He.out.below hbq)
      replace KW := Lib.hid (below_keep hbq KW.out)
      have T14 := Lib.hid hbq.size
      clear hbq
      have HC := Lib.hid (keptKnow_c _ _ _ _ _ gk w14 R4.out HG.out ZG.out)
      have x1 := cell_of_block (j := 1) KG5.out rfl
      have x2 := cell_of_block (j := 2) KG5.out rfl
      have xl := hlt_of KG5.out
      have y1 := cell_of_block (j := 1) K7.out rfl
      have y2 := cell_of_block (j := 2) K7.out rfl
      have yl := hlt_of K7.out
      go_wp2_with fail
      (with_reducible refine (HC.out).mono ?_)
      rintro e w15 ⟨rfl, hbq⟩
      clear HC x1 x2 xl y1 y2 yl
      replace HL := Lib.hid (HL.out.below hbq)
      replace HV := Lib.hid (HV.out.below hbq)
      replace HG := Lib.hid (HG.out.below hbq)
      replace HBT := Lib.hid (HBT.out.below hbq)
      replace K6 := Lib.hid (below_keep hbq K6.out)
      replace K7 := Lib.hid (below_keep hbq K7.out)
      replace K9 := Lib.hid (below_keep hbq K9.out)
      replace HB := Lib.hid (bstep HB.out hbq)
      replace HB0 := Lib.hid (bstep HB0.out hbq)
      replace HIN := Lib.hid (HIN.out.below hbq)
      replace HINO := Lib.hid (HINO.out.below hbq)
      replace KV5 := Lib.hid (below_keep hbq KV5.out)
      replace KG5 := Lib.hid (below_keep hbq KG5.out)
      replace R3 := Lib.hid (R3.out.below hbq)
      replace R4 := Lib.hid (R4.out.below hbq)
      replace Ha := Lib.hid (Ha.out.below hbq)
      replace Hb := Lib.hid (Hb.out.below hbq)
      replace Hc := Lib.hid (Hc.out.below hbq)
      replace Hk := Lib.hid (Hk.out.below hbq)
      replace KK := Lib.hid (below_keep hbq KK.out)
      replace Hd := Lib.hid (Hd.out.below hbq)
      replace KU := Lib.hid (below_keep hbq KU.out)
      replace He := Lib.hid (He.out.below hbq)
      replace KW := Lib.hid (below_keep hbq KW.out)
      have T15 := Lib.hid hbq.size
      clear hbq
      obtain ⟨ZL4, hZL⟩ : ∃ ZL4 : List Zv, ZL4 = [⟨.slice sa (putR l v1).length ta, putR l v1, w5.heap.size, w6.heap.size⟩, ⟨.slice sb (dropR l gi gk).length tb, dropR l gi gk, w6.heap.size, w7.heap.size⟩, ⟨.slice sc (getR l id).length tc, getR l id, w7.heap.size, w8.heap.size⟩, ⟨.slice sd ((upB ps).vers).length td, (upB ps).vers, w10.heap.size, w11.heap.size⟩] := ⟨_, rfl⟩
      have HZ := Lib.hid (show VOk w15 w5.heap.size Ww.heap.size ZL4 by
        have T0 := T0.out; have T1 := T1.out; have T2 := T2.out; have T5 := T5.out; have T6 := T6.out; have T7 := T7.out; have T8 := T8.out; have T9 := T9.out; have T10 := T10.out; have T11 := T11.out; have T12 := T12.out; have T13 := T13.out; have T14 := T14.out; have T15 := T15.out; have TWk := TWk.out; have TWu := TWu.out; have TWw := TWw.out; have h1 := HKL.out
        rw [hZL]
        exact ⟨⟨Ha.out, Za.out⟩, by dsimp only; omega, by dsimp only; omega, ⟨Hb.out, Zb.out⟩, by dsimp only; omega, by dsimp only; omega, ⟨Hc.out, Zc.out⟩, by dsimp only; omega, by dsimp only; omega, ⟨Hd.out, Zd.out⟩, by dsimp only; omega, by dsimp only; omega, by show _ ≤ _; dsimp only; omega⟩)
      have HD := Lib.hid (show (∀ z ∈ ZL4, z.hi ≤ w8.heap.size ∨ w9.heap.size < z.lo) ∧ (∀ z ∈ ZL4, z.hi ≤ Wu.heap.size ∨ w12.heap.size < z.lo) by
        have T0 := T0.out; have T1 := T1.out; have T2 := T2.out; have T5 := T5.out; have T6 := T6.out; have T7 := T7.out; have T8 := T8.out; have T9 := T9.out; have T10 := T10.out; have T11 := T11.out; have T12 := T12.out; have T13 := T13.out; have T14 := T14.out; have T15 := T15.out; have TWk := TWk.out; have TWu := TWu.out; have TWw := TWw.out; have h1 := HKL.out
        rw [hZL]
        constructor <;> (intro z hz; simp only [List.mem_cons, List.not_mem_nil, or_false] at hz; rcases hz with rfl | rfl | rfl | rfl <;> dsimp only <;> omega))
      have HLEN := Lib.hid (show ZL4.length = 4 by rw [hZL]; rfl)
      have HTT := Lib.hid (show w.heap.size ≤ w1.heap.size ∧ w1.heap.size ≤ w2.heap.size ∧ w2.heap.size ≤ w5.heap.size ∧ w5.heap.size ≤ w8.heap.size ∧ w8.heap.size ≤ w9.heap.size ∧ w9.heap.size ≤ Wu.heap.size ∧ Wu.heap.size ≤ w12.heap.size ∧ w12.heap.size ≤ Ww.heap.size ∧ Ww.heap.size ≤ w15.heap.size by
        have T0 := T0.out; have T1 := T1.out; have T2 := T2.out; have T5 := T5.out; have T6 := T6.out; have T7 := T7.out; have T8 := T8.out; have T9 := T9.out; have T10 := T10.out; have T11 := T11.out; have T12 := T12.out; have T13 := T13.out; have T14 := T14.out; have T15 := T15.out; have TWk := TWk.out; have TWu := TWu.out; have TWw := TWw.out; have h1 := HKL.out
        omega)
      obtain ⟨WA, hWA⟩ : ∃ WA, WA = w15.alloc (.cells #[.slice sa (putR l v1).length ta, .slice sb (dropR l gi gk).length tb, .slice sc (getR l id).length tc, .slice sd ((upB ps).vers).length td] 60) := ⟨_, rfl⟩
      have hbq : Below w15.heap.size w15 WA := by rw [hWA]; exact bal _
      have HKA := Lib.hid (show WA.heap[w15.heap.size]? = some (.cells (ZL4.map Zv.v).toArray 60 (0, 0)) by rw [hWA, hZL]; exact alloc_new _ _ _ _ rfl)
      have x2 := cell_of_block (j := 2) KU.out rfl
      have xl := hlt_of KU.out
      replace HB := Lib.hid (bstep HB.out hbq)
      replace HINO := Lib.hid (HINO.out.below hbq)
      replace KV5 := Lib.hid (below_keep hbq KV5.out)
      replace KG5 := Lib.hid (below_keep hbq KG5.out)
      replace R3 := Lib.hid (R3.out.below hbq)
      replace R4 := Lib.hid (R4.out.below hbq)
      replace Hk := Lib.hid (Hk.out.below hbq)
      replace KK := Lib.hid (below_keep hbq KK.out)
      replace KU := Lib.hid (below_keep hbq KU.out)
      replace He := Lib.hid (He.out.below hbq)
      replace KW := Lib.hid (below_keep hbq KW.out)
      replace HZ := Lib.hid (HZ.out.below hbq)
      have HTA := Lib.hid hbq.size
      have HKW := Lib.hid (hlt_of HKA.out)
      clear hbq hZL Ha Hb Hc Hd Za Zb Zc Zd HL HV HG HBT HIN K6 K7 K9 HB0 T0 T1 T2 T5 T6 T7 T8 T9 T10 T11 T12 T13 T14 T15 TWk TWu TWw
      go_wp2_with fail
      rw [← hWA]
      clear hWA x2 xl KU
      go_wp2
      go_loopw [29, 117] (fun ov i wr => ∃ (k : Nat) (ws : List Value), k ≤ 4 ∧ i = .int .i64 k ∧ WanV WA wr WA.heap.size ZL4 k ov ws) (fun _ i _ => 4 - (intOf i).toNat)
      case atStart => exact ⟨0, [], Nat.zero_le _, rfl, WanV.nil⟩
      case round =>
        obtain ⟨k, ws, hk, rfl, hM⟩ := hrel
        have M := Lib.hid hM
        obtain ⟨wa, wc, hov⟩ := owns_slice hM.row
        subst hov
        clear hM
        by_cases hlt : k < 4
        · have hltb : decide ((k : Int) < 4) = true := by simp; omega
          have hkz : k < ZL4.length := by rw [HLEN.out]; exact hlt
          have ka := below_keep M.out.bel HKA.out
          have c1 := cell_of_block (j := k) ka (by rw [List.getElem?_toArray, List.getElem?_map, List.getElem?_eq_getElem hkz]; rfl)
          have kl := hlt_of ka
          have hzk := (HZ.out.get _ (List.getElem_mem hkz)).1
          obtain ⟨zqa, zqc, hzv⟩ := hzk.1.shape
          have HRM := Lib.hid (roomyShelf_c _ ZL4[k].l wr ((hzk.1.below M.out.bel).at_ hzk.2) hzk.2)
          have HST := Lib.hid (fun w2 w3 v' wv' hb hr hw hg => M.out.step (w2 := w2) (w3 := w3) (v' := v') (wv' := wv') hkz M.out.bel.size (Nat.le_refl _) hb hr hw hg)
          have HLN := Lib.hid M.out.len
          have HRW := Lib.hid M.out.row
          have HBR := Lib.hid M.out.bel
          rw [hzv] at c1 HRM
          generalize ZL4[k].l = zl at *
          clear ka hzk hzv M
          clear hkz
          go_wp2_with fail
          (with_reducible refine (HRM.out).mono ?_)
          rintro e w2 ⟨v', rfl, hr, hb⟩
          have HBL := Lib.hid (bstep hb (bal (.cells #[v'] 60)))
          have HRR := Lib.hid (hr.below (bal (.cells #[v'] 60)))
          have HCC := Lib.hid (show CellsAt (w2.alloc (.cells #[v'] 60)) (.slice (some ⟨w2.heap.size, 0, none⟩) 1 1) 1 [v'] from CellsAt.mk (Nat.le_refl _) (by decide) (hlt_of (alloc_new w2 #[v'] 60 _ rfl)) (fun j z hj => by rw [Nat.zero_add]; exact cell_of_block (alloc_new w2 #[v'] 60 _ rfl) (by simpa using hj)))
          have HOW := Lib.hid (owns_below HRW.out HBL.out)
          obtain ⟨us9, -, hr9, -⟩ := hr
          obtain ⟨gv9, hv9, -, -⟩ := hr9.shape
          have hsz9 := Nat.le_trans HBR.out.size HBL.out.size
          clear hr9 hb HRM c1 kl
          subst hv9
          go_wp2_with (at_builtin; refine wpList_append_cells2 rfl (.tmp 121) (.tmp 124) 119 rfl WA.heap.size 60 (.slice none 0 0) 1 24 Try.underlying119 VlsTy.info rfl (by decide) _ k ws rfl HOW.out (.slice (some ⟨w2.heap.size, 0, none⟩) 1 1) 1 [.slice (some ⟨gv9, 0, none⟩) zl.length (zl.length + 3)] rfl HCC.out rfl (by intro u hu; simp only [List.mem_singleton] at hu; subst hu; rfl) hsz9 (by unfold maxLen; omega) (by omega) ?_)
          rintro wv' w3 hown3 hgr3
          have HN := Lib.hid (HST.out _ _ _ _ HBL.out HRR.out hown3 hgr3)
          obtain ⟨wa', wc', hwv'⟩ := owns_slice hown3
          subst hwv'
          clear hown3 hgr3 HBL HRR HCC HOW hsz9 HST HRW HBR
          go_wp2
          go_roundw
          case rel => exact ⟨k + 1, _, by omega, by go_num, HN.out⟩
          case measure => simp [intOf] <;> omega
        · obtain rfl : k = 4 := by omega
          obtain ⟨wz, hwz⟩ : ∃ wz, wz = wr := ⟨_, rfl⟩
          rw [← hwz] at M ⊢
          obtain ⟨gw, cw, hwv, -, -⟩ := World.ownsRow.form M.out.row (by decide)
          simp only [Value.slice.injEq, true_and] at hwv
          obtain ⟨rfl, rfl⟩ := hwv
          clear hwz hlt hk
          have hbq := M.out.bel
          replace HB := Lib.hid (bstep HB.out hbq)
          replace HINO := Lib.hid (HINO.out.below hbq)
          replace KV5 := Lib.hid (below_keep hbq KV5.out)
          replace KG5 := Lib.hid (below_keep hbq KG5.out)
          replace R3 := Lib.hid (R3.out.below hbq)
          replace R4 := Lib.hid (R4.out.below hbq)
          replace Hk := Lib.hid (Hk.out.below hbq)
          replace KK := Lib.hid (below_keep hbq KK.out)
          replace He := Lib.hid (He.out.below hbq)
          replace KW := Lib.hid (below_keep hbq KW.out)
          replace HZ := Lib.hid (HZ.out.below hbq)
          replace HKA := Lib.hid (below_keep hbq HKA.out)
          clear hbq
          have HTM := Lib.hid M.out.bel.size
          have HEACH := Lib.hid M.out.each
          have HWR := Lib.hid M.out.row
          have HWL := Lib.hid M.out.len
          clear M
          have HRK := Lib.hid (fun wx (h : Below wz.heap.size wz wx) => roomyKnow_c _ _ kk wx ((Hk.out.own.atZ Zk.out).below h) Zk.out)
          have HRS := Lib.hid (fun wx (h : Below wz.heap.size wz wx) => roomyShelf_c _ (upB ps).vers wx ((He.out.at_ Ze.out).below h) Ze.out)
          go_wp2
          refine Cl2.region0 166 rfl [] (fun _ => True) (fun jq => match jq with | 5 => [6] | _ => []) (fun jq v ww => match jq with | 0 => v = .agg #[.slice kxa kk.vec.length kxc, .slice kya kk.more.length kyc] | 1 => RoomKv ww wz.heap.size v kk | 2 => v = .pointer (some ⟨w12.heap.size, 2, none⟩) | 3 => v = .slice se (upB ps).vers.length te | 4 => RoomVs ww wz.heap.size v (upB ps).vers | 5 => AtB 81 #[.slice none 0 0, .slice none 0 0] ww wz.heap.size v | 6 => FulKp ww wz.heap.size v kk | 7 => RoomVs ww wz.heap.size v (upB ps).vers | _ => True) (fun ww => Below wz.heap.size wz ww) (fun jq ww ww' => (jq ≠ 6 → Below ww.heap.size ww ww') ∧ (jq = 6 → TKeep (NotT 81) ww ww')) Try.mixed (by decide +kernel) (Below.refl _ _).drew trivial ?_ (fun _ _ _ _ _ _ => trivial) ?_ ?_
          · intro qq r v w w' hne hk hlt h hR
            match r, hk, hlt, h, hne with
            | 0, _, _, h, _ => exact h
            | 1, _, _, h, _ =>
              by_cases q1 : qq = 6
              · exact RoomKv.tk h (hR.2 q1) (by decide) (by decide)
              · exact RoomKv.below h (hR.1 q1)
            | 2, _, _, h, _ => exact h
            | 3, _, _, h, _ => exact h
            | 4, _, _, h, _ =>
              by_cases q1 : qq = 6
              · exact RoomVs.tk h (hR.2 q1) (by decide) (by decide) (by decide)
              · exact RoomVs.below h (hR.1 q1)
            | 5, hk, _, h, _ => exact AtB.below h (hR.1 (by simpa using hk))
            | 6, _, _, h, hne => exact FulKp.below h (hR.1 (by exact hne))
            | 7, _, _, h, _ =>
              by_cases q1 : qq = 6
              · exact RoomVs.tk h (hR.2 q1) (by decide) (by decide) (by decide)
              · exact RoomVs.below h (hR.1 q1)
            | _ + 8, _, _, _, _ => trivial
          · refine ⟨?_, ?_, ?_, ?_, ?_, ?_, ?_, ?_, trivial⟩
            · intro x wx hG
              have f20 := hG.old 20 (by decide +kernel)
              have hg := hG.good
              clear hG
              have kb := below_keep hg KK.out
              have k0 := cell_of_block (j := 0) kb rfl
              have k1 := cell_of_block (j := 1) kb rfl
              have kl := hlt_of kb
              clear kb
              go_wp2
              exact ⟨_, rfl, rfl, hg, ⟨fun _ => Below.refl _ _, fun h => absurd h (by decide)⟩⟩
            · intro x wx hG
              have g0 : (x.tmps.getD 127 undef) = .agg #[.slice kxa kk.vec.length kxc, .slice kya kk.more.length kyc] := hG.claims 0 _ rfl (by decide +kernel) (by decide +kernel)
              have hg := hG.good
              clear hG
              go_wp2_with fail
              (with_reducible refine (HRK.out _ hg).mono ?_)
              rintro e wq ⟨u9, x9, rfl, hr9, hb9⟩
              have HR9 := Lib.hid (show RoomKv wq wz.heap.size (.agg #[u9, x9]) kk from ⟨_, _, rfl, hr9.mono hg.size⟩)
              have HB9 := Lib.hid hb9
              have HG9 := Lib.hid hg
              clear hr9 hb9 hg
              go_wp2
              exact ⟨_, rfl, HR9.out, bstep HG9.out HB9.out, ⟨fun _ => HB9.out, fun h => absurd h (by decide)⟩⟩
            · intro x wx hG
              have f26 := hG.old 26 (by decide +kernel)
              have hg := hG.good
              clear hG
              go_wp2
              exact ⟨_, rfl, rfl, hg, ⟨fun _ => Below.refl _ _, fun h => absurd h (by decide)⟩⟩
            · intro x wx hG
              have g2 : (x.tmps.getD 129 undef) = .pointer (some ⟨w12.heap.size, 2, none⟩) := hG.claims 2 _ rfl (by decide +kernel) (by decide +kernel)
              have hg := hG.good
              clear hG
              have kb := below_keep hg KW.out
              have k2 := cell_of_block (j := 2) kb rfl
              have kl := hlt_of kb
              clear kb
              go_wp2
              exact ⟨_, rfl, rfl, hg, ⟨fun _ => Below.refl _ _, fun h => absurd h (by decide)⟩⟩
            · intro x wx hG
              have g3 : (x.tmps.getD 130 undef) = .slice se (upB ps).vers.length te := hG.claims 3 _ rfl (by decide +kernel) (by decide +kernel)
              have hg := hG.good
              clear hG
              go_wp2_with fail
              (with_reducible refine (HRS.out _ hg).mono ?_)
              rintro e wq ⟨v9, rfl, hr9, hb9⟩
              have HR9 := Lib.hid (show RoomVs wq wz.heap.size v9 (upB ps).vers from RoomVs.of (hr9.mono hg.size))
              have HB9 := Lib.hid hb9
              have HG9 := Lib.hid hg
              clear hr9 hb9 hg
              go_wp2
              exact ⟨_, rfl, HR9.out, bstep HG9.out HB9.out, ⟨fun _ => HB9.out, fun h => absurd h (by decide)⟩⟩
            · intro x wx hG
              have hg := hG.good
              clear hG
              go_wp2
              exact ⟨_, rfl, ⟨_, rfl, alloc_new _ _ _ _ rfl, hg.size⟩, hg.alloc hg.size _, ⟨fun _ => bal _, fun h => absurd h (by decide)⟩⟩
            · intro x wx hG
              have g5 : AtB 81 #[.slice none 0 0, .slice none 0 0] wx wz.heap.size (x.tmps.getD 32 undef) := hG.claims 5 _ rfl (by decide +kernel) (by decide +kernel)
              have g1 : RoomKv wx wz.heap.size (x.tmps.getD 128 undef) kk := hG.claims 1 _ rfl (by decide +kernel) (by decide +kernel)
              have hg := hG.good
              clear hG
              obtain ⟨u9, x9, hv9, hr9⟩ := g1
              have hv9b := hv9
              rw [Array.getD_eq_getD_getElem?] at hv9b
              obtain ⟨gu, rfl, -, -⟩ := hr9.vec.shape
              obtain ⟨gx, rfl, -, -⟩ := hr9.more.shape
              obtain ⟨gb, hgb, hnil, hgs⟩ := g5
              have hgbb := hgb
              rw [Array.getD_eq_getD_getElem?] at hgbb
              have HGB := Lib.hid hgb
              have r0 := cell_of_block (j := 0) hnil rfl
              have r1 := cell_of_block (j := 1) hnil rfl
              have f0 := free_of_block (j := 0) hnil
              have f1 := free_of_block (j := 1) hnil
              have hRl := hlt_of hnil
              have HN := Lib.hid (sow_all (l := [.slice (some ⟨gu, 0, none⟩) kk.vec.length (kk.vec.length + 3), .slice (some ⟨gx, 0, none⟩) kk.more.length (kk.more.length + 3)]) hnil rfl)
              have HGS := Lib.hid hgs
              have HR9 := Lib.hid hr9
              clear hnil hgs hgb hr9
              go_wp2
              exact ⟨undef, rfl, ⟨_, _, _, Eq.trans (by kernel_rfl) HGB.out, HN.out.1, HR9.out.tk HN.out.2 (by decide) (by decide), HGS.out⟩, sowRow_below HGS.out [.slice (some ⟨gu, 0, none⟩) kk.vec.length (kk.vec.length + 3), .slice (some ⟨gx, 0, none⟩) kk.more.length (kk.more.length + 3)] _ _ 0 hg, ⟨fun h => absurd rfl h, fun _ => HN.out.2⟩⟩
            · intro x wx hG
              have g4 : RoomVs wx wz.heap.size (x.tmps.getD 131 undef) (upB ps).vers := hG.claims 4 _ rfl (by decide +kernel) (by decide +kernel)
              have hg := hG.good
              clear hG
              obtain ⟨qa9, qc9, hx9, h9⟩ := g4
              have H9 := Lib.hid h9
              clear h9
              go_wp2
              exact ⟨_, rfl, ⟨_, _, rfl, H9.out⟩, hg, ⟨fun _ => Below.refl _ _, fun h => absurd h (by decide)⟩⟩
          · intro vals w22 hg hF
            obtain ⟨g0, g1, g2, g3, g4, g5, g6, g7, -⟩ := hF
            have e0 : vals 0 = .agg #[.slice kxa kk.vec.length kxc, .slice kya kk.more.length kyc] := g0 rfl
            have e2 : vals 2 = .pointer (some ⟨w12.heap.size, 2, none⟩) := g2 rfl
            have e3 : vals 3 = .slice se (upB ps).vers.length te := g3 rfl
            have g6 := g6 rfl
            replace g7 : RoomVs w22 wz.heap.size (vals 7) (upB ps).vers := g7 rfl
            simp only [Cl2.puts, e0, e2, e3]
            clear e0 e2 e3 g0 g1 g2 g3 g4 g5
            go_simp
            generalize vals 7 = tv at *
            obtain ⟨gp, up, xp, h32, kp, rp, hgp⟩ := g6
            have hv32 : vals 5 = .pointer (some ⟨gp, 0, none⟩) := Eq.trans (by kernel_rfl) h32
            rw [hv32]
            obtain ⟨tva, tvc, rfl, rtv⟩ := g7
            obtain ⟨gup, rfl, -, -⟩ := rp.vec.shape
            obtain ⟨gxp, rfl, -, -⟩ := rp.more.shape
            have KP := Lib.hid kp
            have RP := Lib.hid rp
            have RTV := Lib.hid rtv
            have HGP := Lib.hid hgp
            have hbq := hg
            clear h32 hv32 kp rp rtv hgp hg HRK HRS
            replace HB := Lib.hid (bstep HB.out hbq)
            replace HINO := Lib.hid (HINO.out.below hbq)
            replace KV5 := Lib.hid (below_keep hbq KV5.out)
            replace KG5 := Lib.hid (below_keep hbq KG5.out)
            replace R3 := Lib.hid (R3.out.below hbq)
            replace R4 := Lib.hid (R4.out.below hbq)
            replace Hk := Lib.hid (Hk.out.below hbq)
            replace KK := Lib.hid (below_keep hbq KK.out)
            replace He := Lib.hid (He.out.below hbq)
            replace KW := Lib.hid (below_keep hbq KW.out)
            replace HZ := Lib.hid (HZ.out.below hbq)
            replace HKA := Lib.hid (below_keep hbq HKA.out)
            replace HEACH := Lib.hid (fun i h h' => (HEACH.out i h h').below hbq)
            replace HWR := Lib.hid (owns_below HWR.out hbq)
            have TZ := Lib.hid hbq.size
            clear hbq
            have HSP := Lib.hid (Sp.refl (fun q => w1.heap.size ≤ q ∧ q < w5.heap.size) w22)
            have HC := Lib.hid (wasteShelf_c _ _ _ l w22 HINO.out ZL.out)
            go_wp2_with fail
            (with_reducible refine (HC.out).mono ?_)
            rintro e v1q ⟨rfl, hsq⟩
            clear HC 
            have hs0 : Sp (fun q => w1.heap.size ≤ q ∧ q < w5.heap.size) w22 v1q := hsq.mono fun q hq => by have ht := HTT.out; have h4 := hq.1; have h5 := hq.2; omega
            replace HSP := Lib.hid (HSP.out.trans hs0)
            replace KV5 := Lib.hid (hsq.block KV5.out (fun h3 => by have h4 := h3.1; have h5 := h3.2; have h6 := HGV.out; omega))
            replace KG5 := Lib.hid (hsq.block KG5.out (fun h3 => by have h4 := h3.1; have h5 := h3.2; have h6 := HGG.out; omega))
            clear hsq hs0
            have SU3 := Lib.hid ((ShRow.of_owns R3.out.own.vec).sp HSP.out)
            have SX3 := Lib.hid ((ShRow.of_owns R3.out.own.more).sp HSP.out)
            have HC := Lib.hid (wasteKnow_s _ _ v1q SU3.out SX3.out)
            have x6 := cell_of_block (j := 6) KV5.out rfl
            have x7 := cell_of_block (j := 7) KV5.out rfl
            have xl := hlt_of KV5.out
            go_wp2_with fail
            (with_reducible refine (HC.out).mono ?_)
            rintro e v2q ⟨rfl, hsq⟩
            clear HC x6 x7 xl
            have hs0 : Sp (fun q => w1.heap.size ≤ q ∧ q < w5.heap.size) v1q v2q := hsq.mono fun q hq => by have ht := HTT.out; rcases hq with hq | hq; have := RU3.out q hq; omega; have := RX3.out q hq; omega
            replace HSP := Lib.hid (HSP.out.trans hs0)
            replace KG5 := Lib.hid (hsq.block KG5.out (fun h3 => h3.elim (SU3.out.off KG5.out (by decide)) (SX3.out.off KG5.out (by decide))))
            clear hsq hs0
            have SU4 := Lib.hid ((ShRow.of_owns R4.out.own.vec).sp HSP.out)
            have SX4 := Lib.hid ((ShRow.of_owns R4.out.own.more).sp HSP.out)
            have HC := Lib.hid (wasteKnow_s _ _ v2q SU4.out SX4.out)
            have x1 := cell_of_block (j := 1) KG5.out rfl
            have x2 := cell_of_block (j := 2) KG5.out rfl
            have xl := hlt_of KG5.out
            go_wp2_with fail
            (with_reducible refine (HC.out).mono ?_)
            rintro e v3q ⟨rfl, hsq⟩
            clear HC x1 x2 xl
            have hs0 : Sp (fun q => w1.heap.size ≤ q ∧ q < w5.heap.size) v2q v3q := hsq.mono fun q hq => by have ht := HTT.out; rcases hq with hq | hq; have := RU4.out q hq; omega; have := RX4.out q hq; omega
            replace HSP := Lib.hid (HSP.out.trans hs0)
            clear hsq hs0
            have HTZ := Lib.hid (show w15.heap.size < WA.heap.size ∧ WA.heap.size ≤ wz.heap.size ∧ wz.heap.size ≤ w22.heap.size ∧ Ww.heap.size ≤ w15.heap.size by have h1 := HTM.out; have h2 := HKW.out; have h3 := TZ.out; have ht := HTT.out; omega)
            have HZ2 := Lib.hid (HZ.out.sp HSP.out fun q h1 _ h3 => by have h4 := h3.1; have h5 := h3.2; omega)
            have HKA2 := Lib.hid (HSP.out.block HKA.out (fun h3 => by have h4 := h3.1; have h5 := h3.2; have ht := HTT.out; have hz := HTZ.out; omega))
            have HEA2 := Lib.hid (fun i h h' => (HEACH.out i h h').sp HSP.out fun q h1 h3 => by have h4 := h3.1; have h5 := h3.2; have ht := HTT.out; have hz := HTZ.out; omega)
            have HWR2 := Lib.hid (owns_sp HWR.out HSP.out fun q hq h3 => by have h4 := h3.1; have h5 := h3.2; have ht := HTT.out; have hz := HTZ.out; have := (HWR.out.lt q hq).1; omega)
            have Hk2 := Lib.hid (Hk.out.sp HSP.out fun q h1 _ h3 => by have h4 := h3.1; have h5 := h3.2; have ht := HTT.out; omega)
            have He2 := Lib.hid (He.out.sp HSP.out fun q h1 _ h3 => by have h4 := h3.1; have h5 := h3.2; have ht := HTT.out; omega)
            have KK2 := Lib.hid (HSP.out.block KK.out (fun h3 => by have h4 := h3.1; have h5 := h3.2; have ht := HTT.out; omega))
            have KW2 := Lib.hid (HSP.out.block KW.out (fun h3 => by have h4 := h3.1; have h5 := h3.2; have ht := HTT.out; omega))
            have KP2 := Lib.hid (HSP.out.block KP.out (fun h3 => by have h4 := h3.1; have h5 := h3.2; have ht := HTT.out; have hz := HTZ.out; have h6 := HGP.out; omega))
            have RP2 := Lib.hid (RP.out.sp HSP.out fun q h1 h3 => by have h4 := h3.1; have h5 := h3.2; have ht := HTT.out; have hz := HTZ.out; omega)
            have RT2 := Lib.hid (RTV.out.sp HSP.out fun q h1 h3 => by have h4 := h3.1; have h5 := h3.2; have ht := HTT.out; have hz := HTZ.out; omega)
            have HB2 := Lib.hid (HB.out.trans (HSP.out.toBelow (base := w.heap.size) (fun q h => by have h4 := h.1; have ht := HTT.out; omega) HB.out.size))
            clear HZ HKA HEACH HWR Hk He KK KW KP RP RTV HSP HINO SU3 SX3 SU4 SX4 R3 R4 KV5 KG5 HB
            go_wp2
            go_loopw [142] (fun i wr => ∃ k : Nat, k ≤ 4 ∧ i = .int .i64 k ∧ Sp (VS ZL4 k) v3q wr) (fun i _ => 4 - (intOf i).toNat)
            case atStart => exact ⟨0, Nat.zero_le _, rfl, Sp.refl _ _⟩
            case round =>
              obtain ⟨k, hk, rfl, hb⟩ := hrel
              have HS := Lib.hid hb
              clear hb
              have HRNG := Lib.hid (fun q (h : VS ZL4 k q) => VS.range HZ2.out h)
              by_cases hlt : k < 4
              · have hltb : decide ((k : Int) < 4) = true := by simp; omega
                have hkz : k < ZL4.length := by rw [HLEN.out]; exact hlt
                have hkw : k < ws.length := by rw [HWL.out]; exact hlt
                have ka := HS.out.block HKA2.out (fun h => by have := HRNG.out _ h; have ht := HTT.out; have hz := HTZ.out; omega)
                have c1 := cell_of_block (j := k) ka (by rw [List.getElem?_toArray, List.getElem?_map, List.getElem?_eq_getElem hkz]; rfl)
                have kl := hlt_of ka
                have c2 := HWR2.out.cells (g := gw) rfl k ws[k] (List.getElem?_eq_getElem hkw)
                rw [Addr.add_lit, Nat.zero_add] at c2
                have hgw3 := (HWR2.out.lt gw rfl).2
                have c3 := (HS.out.cell (p := ⟨gw, k, none⟩) hgw3 (fun h => by have h8 : gw < Ww.heap.size := (HRNG.out _ h).2; have ht := HTT.out; have hz := HTZ.out; have := (HWR2.out.lt gw rfl).1; omega)).trans c2
                have hgw4 : gw < wr.heap.size := Nat.lt_of_lt_of_le hgw3 HS.out.size
                have hz := HZ2.out.still hkz HS.out
                have hwk := (HEA2.out k hkz hkw).sp HS.out (fun q h1 h2 => by have := HRNG.out _ h2; have ht := HTT.out; have hz := HTZ.out; omega)
                have hwk2 := hwk.at_ hz.2
                obtain ⟨zqa, zqc, hzv⟩ := hz.1.shape
                obtain ⟨wka, wkc, hwv⟩ := hwk2.shape
                rw [hzv] at hz
                have HSM := Lib.hid (sameS_c _ _ ZL4[k].l ZL4[k].l wr (hz.1.at_ hz.2) hwk2)
                have HWS := Lib.hid (fun w2 (hb : Below wr.heap.size wr w2) => wasteShelf_c _ _ _ ZL4[k].l w2 (hz.1.below hb) hz.2)
                have HST := Lib.hid (fun w2 (h : Sp (fun q => ZL4[k].lo ≤ q ∧ q < ZL4[k].hi) wr w2) => VS.step hkz HS.out h)
                rw [hzv] at c1
                rw [hwv] at c3 HSM
                generalize ZL4[k].l = zl at *
                clear ka c2 hgw3 hz hwk hwk2 hzv hwv
                go_wp2_with fail
                (with_reducible refine (HSM.out).mono ?_)
                rintro e w2 ⟨q, rfl, hq, hb2⟩
                obtain rfl : q = true := by simpa using hq
                have HWC := Lib.hid (HWS.out w2 hb2)
                have HB3 := Lib.hid hb2
                clear hq hb2 HSM HWS c1 c3 kl hgw4
                go_wp2_with fail
                (with_reducible refine (HWC.out).mono ?_)
                rintro e w3 ⟨rfl, hs3⟩
                have HN := Lib.hid (HST.out w3 ((Sp.of_below HB3.out).trans hs3))
                clear hs3 HWC HST HB3
                go_wp2
                go_roundw
                case rel => exact ⟨k + 1, by omega, by go_num, HN.out⟩
                case measure => simp [intOf] <;> omega
              · obtain rfl : k = 4 := by omega
                have hkf := Hk2.out.sp HS.out (VS.far fun z hz => (HD.out.1 z hz).imp (fun h => h) Nat.le_of_lt)
                have hef := He2.out.sp HS.out (VS.far fun z hz => (HD.out.2 z hz).imp (fun h => h) Nat.le_of_lt)
                have KK3 := Lib.hid (HS.out.block KK2.out (VS.far (lo := w9.heap.size) (hi := w9.heap.size + 1) (fun z hz => (HD.out.1 z hz).imp (fun h => Nat.le_trans h HTT.out.2.2.2.2.1) (fun h => h)) _ (Nat.le_refl _) (Nat.lt_succ_self _)))
                have KW3 := Lib.hid (HS.out.block KW2.out (VS.far (lo := w12.heap.size) (hi := w12.heap.size + 1) (fun z hz => (HD.out.2 z hz).imp (fun h => Nat.le_trans h HTT.out.2.2.2.2.2.2.1) (fun h => h)) _ (Nat.le_refl _) (Nat.lt_succ_self _)))
                have KP3 := Lib.hid (HS.out.block KP2.out (fun h => by have := HRNG.out _ h; have ht := HTT.out; have hz := HTZ.out; have h6 := HGP.out; omega))
                have rpf := RP2.out.sp HS.out (fun q h1 h => by have := HRNG.out _ h; have ht := HTT.out; have hz := HTZ.out; omega)
                have rtf := RT2.out.sp HS.out (fun q h1 h => by have := HRNG.out _ h; have ht := HTT.out; have hz := HTZ.out; omega)
                have HE1 := Lib.hid (sameK_c _ _ _ _ kk kk wr (hkf.own.atZ Zk.out) (rpf.own.atZ Zk.out))
                have HE2 := Lib.hid (fun w2 (hb : Below wr.heap.size wr w2) => sameS_c _ _ (upB ps).vers (upB ps).vers w2 ((hef.at_ Ze.out).below hb) ((rtf.at_ Ze.out).below hb))
                have HBF := Lib.hid (HB2.out.trans (HS.out.toBelow (base := w.heap.size) (fun q h => by have := HRNG.out _ h; have ht := HTT.out; omega) HB2.out.size))
                clear hkf hef rpf rtf HS HRNG
                have x0 := cell_of_block (j := 0) KK3.out rfl
                have x1 := cell_of_block (j := 1) KK3.out rfl
                have xl := hlt_of KK3.out
                have y0 := cell_of_block (j := 0) KP3.out rfl
                have y1 := cell_of_block (j := 1) KP3.out rfl
                have yl := hlt_of KP3.out
                go_wp2_with fail
                (with_reducible refine (HE1.out).mono ?_)
                rintro e w2 ⟨rfl, hb2⟩
                simp only [decide_true]
                have HE3 := Lib.hid (HE2.out w2 hb2)
                have KW4 := Lib.hid (below_keep hb2 KW3.out)
                replace HBF := Lib.hid (bstep HBF.out hb2)
                clear hb2 HE1 HE2 x0 x1 xl y0 y1 yl
                have x2 := cell_of_block (j := 2) KW4.out rfl
                have xl := hlt_of KW4.out
                go_wp2_with fail
                (with_reducible refine (HE3.out).mono ?_)
                rintro e w3 ⟨q, rfl, hq, hb3⟩
                obtain rfl : q = true := by simpa using hq
                have HBG := Lib.hid (bstep HBF.out hb3)
                clear hb3 HE3 HBF x2 xl hq
                go_wp2
                go_ret
                exact ⟨rfl, HBG.out⟩
end Go.Proofs.Ythnkmjjldggecaa
