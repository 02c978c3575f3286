/- Sets of dots, and versions, with room behind their lists: what memory holds. No walk here. What the laws' roomyKnow, keptKnow and wasteKnow do. Written by a small program (gen/roomk.py). -/
import Derived.Test.YtboakoipdfmpcaaMRoom
import Derived.Test.YtboakoipdfmpcaaShelf3
import Derived.Test.YtboakoipdfmpcaaMClaims
import Derived.Deep.QuietTactic
import Derived.BigQuiet
import Derived.Test.YtboakoipdfmpcaaKnow10
import Derived.Test.YtboakoipdfmpcaaMElt
import Derived.Test.YtboakoipdfmpcaaMDots
import Derived.Test.YtboakoipdfmpcaaMKnow7
namespace Go.Proofs.Ytboakoipdfmpcaa
open Go.RowKit
def spI : List Value := (List.replicate 3 [Value.int .i64 (-7)]).flatten
def spD : List Value := (List.replicate 3 [Value.int .i64 (-7), .int .i64 0]).flatten
/-- A set of dots with room behind its lists. -/
structure RoomK (w : World) (base : Nat) (u x : Value) (k : Kn) : Prop where
  vec : Roomy w base 3 1 u k.vec.length (intsC k.vec) spI
  more : Roomy w base 27 2 x k.more.length (spansCells k.more) spD
theorem RoomK.below {w w' : World} {base : Nat} {u x : Value} {k : Kn} (h : RoomK w base u x k) (hb : Below w.heap.size w w') : RoomK w' base u x k := ⟨h.vec.below hb, h.more.below hb⟩
theorem RoomK.mono {w : World} {base base' : Nat} {u x : Value} {k : Kn} (h : RoomK w base u x k) (hb : base' ≤ base) : RoomK w base' u x k := ⟨h.vec.mono hb, h.more.mono hb⟩
theorem RoomK.own {w : World} {base : Nat} {u x : Value} {k : Kn} (h : RoomK w base u x k) : KnOwn w base u x k := ⟨h.vec.owns, h.more.owns⟩
theorem RoomK.grown {w w' : World} {base base2 e2 size2 n2 : Nat} {u x v2 : Value} {k : Kn} {xs2 : List Value} (h : RoomK w base u x k) (h2 : w.ownsRow base2 e2 size2 v2 n2 xs2) (hg : w.grownBy w' v2.ownBlock) (h3 : 3 ≠ e2) (h4 : 27 ≠ e2) : RoomK w' base u x k := ⟨h.vec.grown h2 hg h3, h.more.grown h2 hg h4⟩
theorem RoomK.setOther {w : World} {base e' g j : Nat} {u x y : Value} {k : Kn} {cs : Array Value} (h : RoomK w base u x k) (hg : w.heap[g]? = some (.cells cs e' (0, 0))) (h3 : 3 ≠ e') (h4 : 27 ≠ e') : RoomK (w.setCell ⟨g, j, none⟩ y) base u x k := ⟨h.vec.setOther hg h3, h.more.setOther hg h4⟩
theorem RoomK.sp {S : Nat → Prop} {w w' : World} {base : Nat} {u x : Value} {k : Kn} (h : RoomK w base u x k) (hs : Sp S w w') (hd : ∀ q, base ≤ q → ¬ S q) : RoomK w' base u x k := ⟨h.vec.sp hs fun q hq => hd q (h.vec.owns.lt q hq).1, h.more.sp hs fun q hq => hd q (h.more.owns.lt q hq).1⟩
/-- Sizes that came in. -/
structure SzK (k : Kn) : Prop where
  vec : k.vec.length * 8 ≤ 140737488355328
  more : k.more.length * 16 ≤ 140737488355328
theorem SzK.of_ok {k : Kn} (h : k.vec.length ≤ 5) (h2 : k.more.length ≤ 60) : SzK k := ⟨by omega, by omega⟩
theorem KnOwn.atZ {w : World} {base : Nat} {u x : Value} {k : Kn} (h : KnOwn w base u x k) (hz : SzK k) : KnAt w u x k := ⟨CellsAt.of_owns h.vec (by have := hz.vec; omega), CellsAt.of_owns h.more (by have := hz.more; omega)⟩
/-- A set of dots whose memory lies between two marks. -/
structure OwnK (w : World) (lo hi : Nat) (u x : Value) (k : Kn) : Prop where
  own : KnOwn w lo u x k
  ru : InR lo hi u
  rx : InR lo hi x
theorem OwnK.of_own {w : World} {base : Nat} {u x : Value} {k : Kn} (h : KnOwn w base u x k) : OwnK w base w.heap.size u x k := ⟨h, inR_owns h.vec, inR_owns h.more⟩
theorem OwnK.nil (w : World) (lo hi : Nat) : OwnK w lo hi (.slice none 0 0) (.slice none 0 0) ⟨[], []⟩ := ⟨⟨World.ownsRow_nil _ _ _ _, World.ownsRow_nil _ _ _ _⟩, fun k hk => by simp [Value.ownBlock] at hk, fun k hk => by simp [Value.ownBlock] at hk⟩
theorem OwnK.sp {S : Nat → Prop} {w w' : World} {lo hi : Nat} {u x : Value} {k : Kn} (h : OwnK w lo hi u x k) (hs : Sp S w w') (hd : ∀ q, lo ≤ q → q < hi → ¬ S q) : OwnK w' lo hi u x k :=
  ⟨⟨owns_sp h.own.vec hs fun q hq => hd q (h.ru q hq).1 (h.ru q hq).2, owns_sp h.own.more hs fun q hq => hd q (h.rx q hq).1 (h.rx q hq).2⟩, h.ru, h.rx⟩
theorem OwnK.below {w w' : World} {lo hi : Nat} {u x : Value} {k : Kn} (h : OwnK w lo hi u x k) (hb : Below w.heap.size w w') : OwnK w' lo hi u x k := h.sp (S := fun _ => False) (Sp.of_below hb) fun _ _ _ h => h
end Go.Proofs.Ytboakoipdfmpcaa
namespace Go.Proofs.Ytboakoipdfmpcaa
open Go.RowKit
/-- A value that is a set of dots with room. -/
def RoomKv (w : World) (base : Nat) (v : Value) (k : Kn) : Prop := ∃ u x, v = .agg #[u, x] ∧ RoomK w base u x k
theorem RoomKv.below {w w' : World} {base : Nat} {v : Value} {k : Kn} (h : RoomKv w base v k) (hb : Below w.heap.size w w') : RoomKv w' base v k := by
  obtain ⟨u, x, h1, h2⟩ := h; exact ⟨u, x, h1, h2.below hb⟩
/-- The result's cell is filled. -/
def RkDone (w0 : World) (w : World) (k : Kn) : Prop := ∃ u x, w.heap[w0.heap.size + 1]? = some (.cells #[u, x] 25 (0, 0)) ∧ RoomK w w0.heap.size u x k ∧ Below w0.heap.size w0 w
theorem RoomK.low {w : World} {base g j : Nat} {u x y : Value} {k : Kn} {cs : Array Value} (h : RoomK w base u x k) (hg : w.heap[g]? = some (.cells cs 25 (0, 0))) : RoomK (w.setCell ⟨g, j, none⟩ y) base u x k := h.setOther hg (by decide) (by decide)
theorem RkDone.below {w0 w w' : World} {k : Kn} (h : RkDone w0 w k) (hb : Below w.heap.size w w') : RkDone w0 w' k := by
  obtain ⟨u, x, h1, h2, h3⟩ := h
  exact ⟨u, x, below_keep hb h1, h2.below hb, bstep h3 hb⟩
set_option maxRecDepth 100000 in
set_option maxHeartbeats 4000000 in
theorem roomyKnow_c (u x : Value) (k : Kn) (w : World) (hk : KnAt w u x k) (hz : SzK k) :
    Calls Try.prog 5 #[.agg #[u, x]] w fun e w' => ∃ u' x', e = .returned (.agg #[u', x']) ∧ RoomK w' w.heap.size u' x' k ∧ Below w.heap.size w w' := by
  obtain ⟨ua, uc, rfl⟩ := hk.vec.shape
  obtain ⟨xa, xc, rfl⟩ := hk.more.shape
  obtain ⟨W, hW⟩ : ∃ W, W = (w.alloc (.cells #[.slice ua k.vec.length uc, .slice xa k.more.length xc] 25)).alloc (.cells #[.slice none 0 0, .slice none 0 0] 25) := ⟨_, rfl⟩
  have hb : Below w.heap.size w W := by rw [hW]; exact (bal _).alloc (by simp) _
  have K1 := (show W.heap[w.heap.size]? = some (Obj.cells #[.slice ua k.vec.length uc, .slice xa k.more.length xc] 25 (0, 0)) by rw [hW]; exact alloc_keep _ (alloc_new _ _ _ _ rfl))
  have K2 := Lib.hid (show W.heap[w.heap.size + 1]? = some (Obj.cells #[.slice none 0 0, .slice none 0 0] 25 (0, 0)) by rw [hW]; exact alloc_new _ _ _ _ (by simp))
  have A0 := Lib.hid (cell_of_block (j := 0) K1 rfl)
  have A1 := Lib.hid (cell_of_block (j := 1) K1 rfl)
  have HB := Lib.hid hb
  have HK := Lib.hid (hk.below hb)
  have HZ := Lib.hid hz
  have HV := Lib.hid (fun wx (h : Below W.heap.size W wx) => roomy_int _ k.vec.length (intsC k.vec) (-7) wx (HK.out.below h).vec (by rw [intsC_length, Nat.mul_one]) (intsC_one _) HZ.out.vec)
  have HM := Lib.hid (fun wx (h : Below W.heap.size W wx) => roomy_dot _ k.more.length (spansCells k.more) (-7) 0 wx (HK.out.below h).more (spansCells_length _) (spansCells_one _) HZ.out.more)
  clear hk hb hz K1
  go_enter Try.func5, Try.ntmps5
  go_wp2_with fail
  rw [← hW]
  clear hW
  refine Cl.region0 11 rfl [8] (fun w => Below W.heap.size W w) (fun jq => match jq with | 2 => [8] | 6 => [8] | 7 => [8] | _ => []) (fun jq v ww => match jq with | 0 => v = .pointer (some ⟨w.heap.size, 0, none⟩) | 1 => v = .slice ua k.vec.length uc | 2 => Roomy ww w.heap.size 3 1 v k.vec.length (intsC k.vec) spI | 3 => v = .pointer (some ⟨w.heap.size, 1, none⟩) | 4 => v = .slice xa k.more.length xc | 5 => v = .agg #[.int .i64 (-7), .int .i64 0] | 6 => Roomy ww w.heap.size 27 2 v k.more.length (spansCells k.more) spD | 7 => RoomKv ww w.heap.size v k | 8 => RkDone w ww k | _ => True) (fun ww => Below w.heap.size w ww) (fun jq ww ww' => jq ≠ 8 → Below ww.heap.size ww ww') Try.mixed (by decide +kernel) (HB.out).drew ((Below.refl _ _).drew) ?_ (fun q w w' hk h hR => bstep h (hR (by simpa using hk))) ?_ ?_
  · intro q r v w w' hne hk hlt h hR
    match r, hk, hlt, h, hne with
    | 0, _, _, h, _ => exact h
    | 1, _, _, h, _ => exact h
    | 2, hk, _, h, _ => exact h.below (hR (by simpa using hk))
    | 3, _, _, h, _ => exact h
    | 4, _, _, h, _ => exact h
    | 5, _, _, h, _ => exact h
    | 6, hk, _, h, _ => exact h.below (hR (by simpa using hk))
    | 7, hk, _, h, _ => exact h.below (hR (by simpa using hk))
    | 8, _, _, h, hne => exact h.below (hR (by exact hne))
    | _ + 9, _, _, _, _ => trivial
  · refine ⟨?_, ?_, ?_, ?_, ?_, ?_, ?_, ?_, ?_, trivial⟩
    · intro x wx hG
      have f1 := hG.old 1 (by decide +kernel)
      have hp := hG.pre (by decide +kernel)
      have hg := hG.good
      clear hG
      go_wp2
      exact ⟨_, rfl, rfl, hg, fun _ => Below.refl _ _⟩
    · intro x wx hG
      have g0 : (x.tmps.getD 3 undef) = .pointer (some ⟨w.heap.size, 0, none⟩) := hG.claims 0 _ rfl (by decide +kernel) (by decide +kernel)
      have hp := hG.pre (by decide +kernel)
      have hg := hG.good
      clear hG
      have c_A := ckeep hp A0.out
      go_wp2
      exact ⟨_, rfl, rfl, hg, fun _ => Below.refl _ _⟩
    · intro x wx hG
      have g1 : (x.tmps.getD 4 undef) = .slice ua k.vec.length uc := hG.claims 1 _ rfl (by decide +kernel) (by decide +kernel)
      have hp := hG.pre (by decide +kernel)
      have hg := hG.good
      clear hG
      have hp9 := Lib.hid hp
      go_wp2_with fail
      (with_reducible refine (HV.out _ hp).mono ?_)
      rintro e wq ⟨v9, rfl, hr, hb⟩
      have HR := Lib.hid (hr.mono (Nat.le_trans HB.out.size hp9.out.size))
      have HBB := Lib.hid hb
      have HG := Lib.hid hg
      clear hr hb hp hg
      go_wp2
      exact ⟨_, rfl, HR.out, bstep HG.out HBB.out, fun _ => HBB.out⟩
    · intro x wx hG
      have f1 := hG.old 1 (by decide +kernel)
      have hp := hG.pre (by decide +kernel)
      have hg := hG.good
      clear hG
      go_wp2
      exact ⟨_, rfl, rfl, hg, fun _ => Below.refl _ _⟩
    · intro x wx hG
      have g3 : (x.tmps.getD 6 undef) = .pointer (some ⟨w.heap.size, 1, none⟩) := hG.claims 3 _ rfl (by decide +kernel) (by decide +kernel)
      have hp := hG.pre (by decide +kernel)
      have hg := hG.good
      clear hG
      have c_A := ckeep hp A1.out
      go_wp2
      exact ⟨_, rfl, rfl, hg, fun _ => Below.refl _ _⟩
    · intro x wx hG
      have hp := hG.pre (by decide +kernel)
      have hg := hG.good
      clear hG
      go_wp2
      exact ⟨_, rfl, rfl, hg, fun _ => Below.refl _ _⟩
    · intro x wx hG
      have g4 : (x.tmps.getD 7 undef) = .slice xa k.more.length xc := hG.claims 4 _ rfl (by decide +kernel) (by decide +kernel)
      have g5 : (x.tmps.getD 8 undef) = .agg #[.int .i64 (-7), .int .i64 0] := hG.claims 5 _ rfl (by decide +kernel) (by decide +kernel)
      have hp := hG.pre (by decide +kernel)
      have hg := hG.good
      clear hG
      have hp9 := Lib.hid hp
      go_wp2_with fail
      (with_reducible refine (HM.out _ hp).mono ?_)
      rintro e wq ⟨v9, rfl, hr, hb⟩
      have HR := Lib.hid (hr.mono (Nat.le_trans HB.out.size hp9.out.size))
      have HBB := Lib.hid hb
      have HG := Lib.hid hg
      clear hr hb hp hg
      go_wp2
      exact ⟨_, rfl, HR.out, bstep HG.out HBB.out, fun _ => HBB.out⟩
    · intro x wx hG
      have g2 : Roomy wx w.heap.size 3 1 (x.tmps.getD 5 undef) k.vec.length (intsC k.vec) spI := hG.claims 2 _ rfl (by decide +kernel) (by decide +kernel)
      have g6 : Roomy wx w.heap.size 27 2 (x.tmps.getD 9 undef) k.more.length (spansCells k.more) spD := hG.claims 6 _ rfl (by decide +kernel) (by decide +kernel)
      have hp := hG.pre (by decide +kernel)
      have hg := hG.good
      clear hG
      obtain ⟨gu, hgu, -, -⟩ := g2.shape
      obtain ⟨gx, hgx, -, -⟩ := g6.shape
      have hgub := hgu
      have hgxb := hgx
      rw [Array.getD_eq_getD_getElem?] at hgub hgxb
      rw [hgu] at g2
      rw [hgx] at g6
      have HV9 := Lib.hid g2
      have HD9 := Lib.hid g6
      clear g2 g6
      go_wp2
      exact ⟨_, rfl, ⟨_, _, rfl, ⟨HV9.out, HD9.out⟩⟩, hg, fun _ => Below.refl _ _⟩
    · intro x wx hG
      have f2 := hG.old 2 (by decide +kernel)
      have g7 : RoomKv wx w.heap.size (x.tmps.getD 10 undef) k := hG.claims 7 _ rfl (by decide +kernel) (by decide +kernel)
      have hp := hG.pre (by decide +kernel)
      have hg := hG.good
      clear hG
      obtain ⟨u9, x9, hv9, hr9⟩ := g7
      have hv9b := hv9
      rw [Array.getD_eq_getD_getElem?] at hv9b
      obtain ⟨gu, rfl, -, -⟩ := hr9.vec.shape
      obtain ⟨gx, rfl, -, -⟩ := hr9.more.shape
      have kb := below_keep hp K2.out
      have r0 := cell_of_block (j := 0) kb rfl
      have r1 := cell_of_block (j := 1) kb rfl
      have f0 := free_of_block (j := 0) kb
      have f1 := free_of_block (j := 1) kb
      have hRl := hlt_of kb
      have h4 := heap_set_same (j := 0) (v := .slice (some ⟨gu, 0, none⟩) k.vec.length (k.vec.length + 3)) kb
      have HN := Lib.hid (show RkDone w (((wx.setCell ⟨w.heap.size + 1, 0, none⟩ (.slice (some ⟨gu, 0, none⟩) k.vec.length (k.vec.length + 3))).setCell ⟨w.heap.size + 1, 1, none⟩ (.slice (some ⟨gx, 0, none⟩) k.more.length (k.more.length + 3)))) k from ⟨_, _, heap_set_same h4, (hr9.low kb).low h4, ((bstep HB.out hp).setCell (Nat.le_succ _) _).setCell (Nat.le_succ _) _⟩)
      clear kb h4 hr9 hp hg
      go_wp2
      exact ⟨undef, rfl, HN.out, HN.out.choose_spec.choose_spec.2.2, fun h => absurd rfl h⟩
  · intro vals wz hg hF
    obtain ⟨g0, g1, g2, g3, g4, g5, g6, g7, g8, -⟩ := hF
    have e0 : vals 0 = .pointer (some ⟨w.heap.size, 0, none⟩) := g0 rfl
    have e1 : vals 1 = .slice ua k.vec.length uc := g1 rfl
    have e3 : vals 3 = .pointer (some ⟨w.heap.size, 1, none⟩) := g3 rfl
    have e4 : vals 4 = .slice xa k.more.length xc := g4 rfl
    have e5 : vals 5 = .agg #[.int .i64 (-7), .int .i64 0] := g5 rfl
    replace g8 : RkDone w wz k := g8 rfl
    simp only [Cl.puts, e0, e1, e3, e4, e5]
    clear e0 e1 e3 e4 e5 g0 g1 g2 g3 g4 g5 g6 g7
    go_simp
    obtain ⟨u', x', h1, h2, h3⟩ := g8
    obtain ⟨gu, rfl, -, -⟩ := h2.vec.shape
    obtain ⟨gx, rfl, -, -⟩ := h2.more.shape
    have r0 := cell_of_block (j := 0) h1 rfl
    have r1 := cell_of_block (j := 1) h1 rfl
    have hl := hlt_of h1
    have HR := Lib.hid h2
    have HBF := Lib.hid h3
    clear h1 h2 h3 hg
    go_wp2
    refine bodyPost_ret (v := .agg #[.slice (some ⟨gu, 0, none⟩) k.vec.length (k.vec.length + 3), .slice (some ⟨gx, 0, none⟩) k.more.length (k.more.length + 3)]) (by simp [results, Try.results5, go_sem, *]) rfl ?_
    exact ⟨_, _, rfl, HR.out, HBF.out⟩
set_option maxRecDepth 100000 in
set_option maxHeartbeats 4000000 in
theorem keptKnow_c (u x y z : Value) (base : Nat) (k : Kn) (w : World) (ha : RoomK w base u x k) (hb : KnAt w y z k) (hz : SzK k) :
    Calls Try.prog 12 #[.agg #[u, x], .agg #[y, z]] w fun e w' => e = .returned (.bool true) ∧ Below w.heap.size w w' := by
  obtain ⟨gu, rfl, -, -⟩ := ha.vec.shape
  obtain ⟨gx, rfl, -, -⟩ := ha.more.shape
  obtain ⟨ya, yc, rfl⟩ := hb.vec.shape
  obtain ⟨za, zc, rfl⟩ := hb.more.shape
  obtain ⟨W, hW⟩ : ∃ W, W = (w.alloc (.cells #[.slice (some ⟨gu, 0, none⟩) k.vec.length (k.vec.length + 3), .slice (some ⟨gx, 0, none⟩) k.more.length (k.more.length + 3)] 25)).alloc (.cells #[.slice ya k.vec.length yc, .slice za k.more.length zc] 25) := ⟨_, rfl⟩
  have hbw : Below w.heap.size w W := by rw [hW]; exact (bal _).alloc (by simp) _
  have K1 := Lib.hid (show W.heap[w.heap.size]? = some (Obj.cells #[.slice (some ⟨gu, 0, none⟩) k.vec.length (k.vec.length + 3), .slice (some ⟨gx, 0, none⟩) k.more.length (k.more.length + 3)] 25 (0, 0)) by rw [hW]; exact alloc_keep _ (alloc_new _ _ _ _ rfl))
  have HB := Lib.hid hbw
  have HR := Lib.hid (ha.below hbw)
  have HZ := Lib.hid hz
  have HS := Lib.hid (sameK_c _ _ _ _ k k W ((ha.own.atZ hz).below hbw) (hb.below hbw))
  have K2 := (show W.heap[w.heap.size + 1]? = some (Obj.cells #[.slice ya k.vec.length yc, .slice za k.more.length zc] 25 (0, 0)) by rw [hW]; exact alloc_new _ _ _ _ (by simp))
  have x0 := cell_of_block (j := 0) K1.out rfl
  have x1 := cell_of_block (j := 1) K1.out rfl
  have y0 := cell_of_block (j := 0) K2 rfl
  have y1 := cell_of_block (j := 1) K2 rfl
  have l1 := hlt_of K1.out
  have l2 := hlt_of K2
  rw [hW] at x0 x1 y0 y1 l1 l2
  clear ha hb hz hbw K2
  go_enter Try.func12, Try.ntmps12
  go_wp2_with fail
  rw [← hW]
  clear x0 x1 y0 y1 l1 l2 hW
  (with_reducible refine (HS.out).mono ?_)
  rintro e w1 ⟨rfl, hb1⟩
  have HB1 := Lib.hid hb1
  have HM1 := Lib.hid (marked_int _ _ k.vec.length (intsC k.vec) (-7) w1 (HR.out.vec.below hb1) (by have := HZ.out.vec; omega))
  have k1 := below_keep hb1 K1.out
  have x0 := cell_of_block (j := 0) k1 rfl
  have l1 := hlt_of k1
  simp only [decide_true]
  clear hb1 HS k1
  go_wp2_with fail
  (with_reducible refine (HM1.out).mono ?_)
  rintro e w2 ⟨rfl, hb2⟩
  have HB2 := Lib.hid (bstep HB1.out hb2)
  have HM2 := Lib.hid (marked_dot _ _ k.more.length (spansCells k.more) (-7) 0 w2 (HR.out.more.below HB2.out) (by have := HZ.out.more; omega))
  have k1 := below_keep HB2.out K1.out
  have x1 := cell_of_block (j := 1) k1 rfl
  clear x0 l1
  have l1 := hlt_of k1
  clear hb2 HM1 k1 HB1
  go_wp2_with fail
  (with_reducible refine (HM2.out).mono ?_)
  rintro e w3 ⟨rfl, hb3⟩
  have HB3 := Lib.hid (HB.out.trans ((bstep HB2.out hb3).mono HB.out.size))
  clear hb3 HM2 x1 l1
  go_wp2
  go_ret
  exact ⟨rfl, HB3.out⟩
theorem ShRow.off {w : World} {e size g : Nat} {v : Value} {cs : Array Value} {t : TypeId} (h : ShRow w e size v) (hg : w.heap[g]? = some (.cells cs t (0, 0))) (hne : t ≠ e) : v.ownBlock ≠ some g := by
  rcases h with rfl | ⟨g', n, cap, cur, rfl, -, -, h4, -⟩
  · simp [Value.ownBlock]
  · simp only [Value.ownBlock, ne_eq, Option.some.injEq]
    rintro rfl
    rw [h4] at hg
    simp only [Option.some.injEq, Obj.cells.injEq] at hg
    exact hne hg.2.1.symm
theorem ShRow.shape {w : World} {e size : Nat} {v : Value} (h : ShRow w e size v) : ∃ a n c, v = .slice a n c := by
  rcases h with rfl | ⟨g', n, cap, cur, rfl, -⟩
  · exact ⟨_, _, _, rfl⟩
  · exact ⟨_, _, _, rfl⟩
set_option maxRecDepth 100000 in
set_option maxHeartbeats 4000000 in
theorem wasteKnow_s (u x : Value) (w : World) (hu : ShRow w 3 1 u) (hx : ShRow w 27 2 x) :
    Calls Try.prog 15 #[.agg #[u, x]] w fun e w' => e = .returned (.tuple #[]) ∧ Sp (fun q => u.ownBlock = some q ∨ x.ownBlock = some q) w w' := by
  have HU := Lib.hid hu
  have HX := Lib.hid hx
  obtain ⟨ua, un, uc, rfl⟩ := hu.shape
  obtain ⟨xa, xn, xc, rfl⟩ := hx.shape
  obtain ⟨W, hW⟩ : ∃ W, W = w.alloc (.cells #[.slice ua un uc, .slice xa xn xc] 25) := ⟨_, rfl⟩
  have hbw : Below w.heap.size w W := by rw [hW]; exact bal _
  have K1 := Lib.hid (show W.heap[w.heap.size]? = some (Obj.cells #[.slice ua un uc, .slice xa xn xc] 25 (0, 0)) by rw [hW]; exact alloc_new _ _ _ _ rfl)
  have HB := Lib.hid hbw
  have HV := Lib.hid ((hu.sp (S := fun _ => False) (Sp.of_below hbw)).off K1.out (by decide))
  have HC := Lib.hid (spoil_int _ 9 W (HU.out.sp (S := fun _ => False) (Sp.of_below hbw)))
  have x0 := cell_of_block (j := 0) K1.out rfl
  have l1 := hlt_of K1.out
  rw [hW] at x0 l1
  clear hu hx hbw
  go_enter Try.func15, Try.ntmps15
  go_wp2_with fail
  rw [← hW]
  clear x0 l1 hW
  (with_reducible refine (HC.out).mono ?_)
  rintro e w1 ⟨rfl, hs1⟩
  have HS1 := Lib.hid hs1
  have k1 := hs1.block K1.out (fun hq => HV.out hq)
  have x1 := cell_of_block (j := 1) k1 rfl
  have l1 := hlt_of k1
  have HD := Lib.hid (spoil_dot _ 3 9 w1 ((HX.out.sp (S := fun _ => False) (Sp.of_below HB.out)).sp hs1))
  clear hs1 HC k1
  go_wp2_with fail
  (with_reducible refine (HD.out).mono ?_)
  rintro e w2 ⟨rfl, hs2⟩
  have HF := Lib.hid ((Sp.of_below HB.out).trans ((HS1.out.mono (T := fun q => (Value.slice ua un uc).ownBlock = some q ∨ (Value.slice xa xn xc).ownBlock = some q) fun q hq => .inl hq).trans (hs2.mono fun q hq => .inr hq)))
  clear hs2 HD x1 l1
  go_wp2
  refine bodyPost_end (v := .tuple #[]) ?_ rfl ?_
  · simp [results, Try.results15, go_sem]
  · exact ⟨rfl, HF.out⟩
end Go.Proofs.Ytboakoipdfmpcaa
