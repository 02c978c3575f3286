/- Batches: what wire.Check does. A batch's bytes. No program in sight. -/
import Derived.Test.YthnkmjjldggecaaPart1
import Derived.Test.YthnkmjjldggecaaMShelf4
import Derived.Test.YthnkmjjldggecaaMShelf1
import Derived.Test.YthnkmjjldggecaaMWire1
namespace Go.Proofs.Ythnkmjjldggecaa
open Go.RowKit
structure Gn where
  id : ByteArray
  past : Kn
/-- Slices of what is gone. -/
def goneE : Elt Gn where
  size := 3
  El w g cs := ∃ u x, cs = [.string g.id, u, x] ∧ KnAt w u x g.past
  len := by rintro w g cs ⟨u, x, rfl, -⟩; rfl
  one := by
    rintro w g cs ⟨u, x, rfl, h⟩ z hz
    obtain ⟨a, c, rfl⟩ := h.vec.shape
    obtain ⟨b, d, rfl⟩ := h.more.shape
    simp only [List.mem_cons, List.not_mem_nil, or_false] at hz
    rcases hz with rfl | rfl | rfl <;> rfl
  sub := by rintro w w' g cs ⟨u, x, rfl, h⟩ hs; exact ⟨u, x, rfl, h.sub hs⟩
  pos := by decide
theorem gone_cells {w wr : World} {b off i : Nat} {g : Gn} {c : List Value} (hb : b < w.heap.size) (hbl : Below w.heap.size w wr) (hE : goneE.El w g c) (hc : ∀ j x, c[j]? = some x → w.cell? ⟨b, off + (i * goneE.size + j), none⟩ = some x) :
    ∃ u x, wr.cell? ⟨b, off + i * 3, none⟩ = some (.string g.id) ∧ wr.cell? ⟨b, off + i * 3 + 1, none⟩ = some u ∧ wr.cell? ⟨b, off + i * 3 + 2, none⟩ = some x ∧ KnAt wr u x g.past := by
  obtain ⟨u, x, rfl, h1⟩ := hE
  have hk := fun (j : Nat) (y : Value) (hy : [.string g.id, u, x][j]? = some y) => row3 (w := wr) (b := b) (off := off) (i := i) (fun j y hy => (hbl.cell (p := ⟨b, off + (i * 3 + j), none⟩) hb).trans (hc j y hy)) hy
  exact ⟨u, x, by simpa using hk 0 _ rfl, hk 1 _ rfl, hk 2 _ rfl, h1.below hbl⟩
structure Bt where
  site : Int
  stamp : Int
  vers : List Ver
  gone : List Gn
  parts : List Pt
structure BtAt (w : World) (vv gv pv : Value) (b : Bt) : Prop where
  vers : RowAt verE w vv b.vers
  gone : RowAt goneE w gv b.gone
  parts : RowAt partE w pv b.parts
theorem BtAt.below {w w' : World} {vv gv pv : Value} {b : Bt} (h : BtAt w vv gv pv b) (hb : Below w.heap.size w w') : BtAt w' vv gv pv b := ⟨h.vers.below hb, h.gone.below hb, h.parts.below hb⟩
def firstE {α : Type} (f : α → Int) : List α → Int
  | [] => 0
  | a :: l => if f a ≠ 0 then f a else firstE f l
theorem firstE_step {α : Type} (f : α → Int) {l : List α} {k : Nat} (h : k < l.length) : firstE f (l.drop k) = if f l[k] ≠ 0 then f l[k] else firstE f (l.drop (k + 1)) := by
  rw [List.drop_eq_getElem_cons h]; rfl
theorem firstE_zero {α : Type} (f : α → Int) : ∀ {l : List α}, firstE f l = 0 ↔ ∀ x ∈ l, f x = 0
  | [] => by simp [firstE]
  | a :: l => by
    unfold firstE
    by_cases h : f a ≠ 0
    · rw [if_pos h]; exact ⟨fun e => absurd e h, fun k => k a (by simp)⟩
    · rw [if_neg h, firstE_zero f]
      have h0 : f a = 0 := by simpa using h
      simp [h0]
def goneChk (g : Gn) : Int := if idOk g.id = false then 3 else knChk g.past
def headBad (s t : Int) : Bool := ((decide (s < 0) || decide (5 ≤ s)) || decide (t < 0)) || decide (1000000 < t)
def batchChk (b : Bt) : Int :=
  if headBad b.site b.stamp = true then 1
  else if 60 < b.vers.length ∨ 60 < b.gone.length then 2
  else if firstE verChk b.vers ≠ 0 then firstE verChk b.vers
  else if firstE goneChk b.gone ≠ 0 then firstE goneChk b.gone
  else ptsChk b.parts
set_option maxRecDepth 100000 in
set_option maxHeartbeats 4000000 in
theorem batchChk_c (vv gv pv : Value) (b : Bt) (w : World) (hb : BtAt w vv gv pv b) :
    Calls Try.prog 40 #[.agg #[.int .i64 b.site, .int .i64 b.stamp, vv, gv, pv]] w fun e w' => e = .returned (.int .i64 (batchChk b)) ∧ Below w.heap.size w w' := by
  obtain ⟨va, vc, rfl⟩ := hb.vers.shape
  obtain ⟨ga, gc, rfl⟩ := hb.gone.shape
  obtain ⟨pa, pc, rfl⟩ := hb.parts.shape
  obtain ⟨s, t, V, G, P⟩ := b
  simp only at hb ⊢
  obtain ⟨W, hW⟩ : ∃ W, W = w.alloc (.cells #[.int .i64 s, .int .i64 t, .slice va V.length vc, .slice ga G.length gc, .slice pa P.length pc] 64) := ⟨_, rfl⟩
  have hbW : Below w.heap.size w W := by rw [hW]; exact bal _
  have hbk : W.heap[w.heap.size]? = some (Obj.cells #[.int .i64 s, .int .i64 t, .slice va V.length vc, .slice ga G.length gc, .slice pa P.length pc] 64 (0, 0)) := by rw [hW]; exact alloc_new _ _ _ _ rfl
  have HBK := Lib.hid hbk
  have HBV := Lib.hid (show RowAt verE W (.slice va V.length vc) V from (hb.below hbW).vers)
  have HBG := Lib.hid (show RowAt goneE W (.slice ga G.length gc) G from (hb.below hbW).gone)
  have HBP := Lib.hid (show RowAt partE W (.slice pa P.length pc) P from (hb.below hbW).parts)
  have HB := Lib.hid hbW
  have H0 := Lib.hid (show batchChk ⟨s, t, V, G, P⟩ = if headBad s t = true then 1 else if 60 < V.length ∨ 60 < G.length then 2 else if firstE verChk V ≠ 0 then firstE verChk V else if firstE goneChk G ≠ 0 then firstE goneChk G else ptsChk P from rfl)
  have HHB := Lib.hid (show headBad s t = (((decide (s < 0) || decide (5 ≤ s)) || decide (t < 0)) || decide (1000000 < t)) from rfl)
  clear hb hbk hbW
  go_enter Try.func40, Try.ntmps40
  have k0 := cell_of_block (j := 0) HBK.out rfl
  have k1 := cell_of_block (j := 1) HBK.out rfl
  have k2 := cell_of_block (j := 2) HBK.out rfl
  have k3 := cell_of_block (j := 3) HBK.out rfl
  have hkl := hlt_of HBK.out
  rw [hW] at k0 k1 k2 k3 hkl
  cases hh : headBad s t
  rotate_left
  · have hq := HHB.out.symm.trans hh
    have H1 := Lib.hid (show batchChk ⟨s, t, V, G, P⟩ = 1 by rw [H0.out, if_pos hh])
    have HB2 := HB.out
    rw [hW] at HB2
    clear H0 HHB hh hW
    go_wp2
    all_goals go_ret
    all_goals exact ⟨by rw [H1.out]; rfl, HB2⟩
  have hq := HHB.out.symm.trans hh
  rw [Bool.or_eq_false_iff, Bool.or_eq_false_iff, Bool.or_eq_false_iff] at hq
  obtain ⟨⟨⟨e1, e2⟩, e3⟩, e4⟩ := hq
  cases hz : (decide (60 < (V.length : Int)) || decide (60 < (G.length : Int)))
  rotate_left
  · have H1 := Lib.hid (show batchChk ⟨s, t, V, G, P⟩ = 2 by
      rw [H0.out, if_neg (by rw [hh]; decide), if_pos]
      simp only [Bool.or_eq_true, decide_eq_true_eq] at hz; omega)
    have HB2 := HB.out
    rw [hW] at HB2
    clear H0 HHB hh hW
    go_wp2
    all_goals go_ret
    all_goals exact ⟨by rw [H1.out]; rfl, HB2⟩
  have hvl : V.length ≤ 60 := by simp only [Bool.or_eq_false_iff, decide_eq_false_iff_not] at hz; omega
  have hgl : G.length ≤ 60 := by simp only [Bool.or_eq_false_iff, decide_eq_false_iff_not] at hz; omega
  have H1 := Lib.hid (show batchChk ⟨s, t, V, G, P⟩ = if firstE verChk V ≠ 0 then firstE verChk V else if firstE goneChk G ≠ 0 then firstE goneChk G else ptsChk P by
    rw [H0.out, if_neg (by rw [hh]; decide), if_neg (by omega)])
  rw [Bool.or_eq_false_iff] at hz
  obtain ⟨e5, e6⟩ := hz
  clear H0 HHB hh
  have hWH := Lib.hid hW
  clear hW
  go_wp2
  rw [← hWH.out]
  obtain ⟨BB, hBB⟩ : ∃ BB, BB = w.heap.size := ⟨_, rfl⟩
  rw [← hBB] at HBK ⊢
  clear hBB hWH k0 k1 k2 k3 hkl e1 e2 e3 e4 e5 e6
  go_loopw [40] (fun i wr => ∃ k : Nat, k ≤ V.length ∧ i = .int .i64 k ∧ firstE verChk V = firstE verChk (V.drop k) ∧ Below W.heap.size W wr) (fun i _ => V.length - (intOf i).toNat)
  case atStart => exact ⟨0, Nat.zero_le _, rfl, rfl, Below.refl _ _⟩
  case round =>
    obtain ⟨k, hk, rfl, hf, hbl⟩ := hrel
    by_cases hlt : k < V.length
    · have HVr := Lib.hid (HBV.out.below hbl)
      have HF := Lib.hid (hf.trans (firstE_step verChk hlt))
      have HBr := Lib.hid hbl
      obtain ⟨a', cap', ha', -, -, -, hvl2⟩ := HVr.out.open_
      simp only [Value.slice.injEq, true_and] at ha'
      obtain ⟨ha', rfl⟩ := ha'
      rcases hvl2 with hnil | ⟨b, off, rfl, hb, hc⟩
      · rw [hnil] at hlt; simp at hlt
      subst ha'
      obtain ⟨c, ⟨u, x, rfl, hk2⟩, hcc⟩ := hc k hlt
      obtain ⟨ua, uc, rfl⟩ := hk2.vec.shape
      obtain ⟨xa, xc, rfl⟩ := hk2.more.shape
      have hcl := fun (i : Nat) (y : Value) (hy : (verC V[k] (.slice ua V[k].past.vec.length uc) (.slice xa V[k].past.more.length xc)).toList[i]? = some y) => row8 (b := b) (off := off) (i := k) hcc hy
      have c0 := hcl 0 _ rfl
      have c1 := hcl 1 _ rfl
      have c2 := hcl 2 _ rfl
      have c3 := hcl 3 _ rfl
      have c4 := hcl 4 _ rfl
      have c5 := hcl 5 _ rfl
      have c6 := hcl 6 _ rfl
      have c7 := hcl 7 _ rfl
      rw [Nat.add_zero] at c0
      clear hc hcc hcl hf hbl
      generalize V[k] = v1 at *
      obtain ⟨W1, hW1⟩ : ∃ W1, W1 = wr.alloc (.cells #[.string v1.id, .int .i64 v1.ds, .int .i64 v1.dc, .int .i64 v1.tg, .int .i64 v1.nm, .int .i64 v1.bd, .slice ua v1.past.vec.length uc, .slice xa v1.past.more.length xc] 109) := ⟨_, rfl⟩
      have hb1 : Below wr.heap.size wr W1 := by rw [hW1]; exact bal _
      have HB1 := Lib.hid (bstep HBr.out hb1)
      have HC := Lib.hid (one_c v1 _ _ W1 (hk2.below hb1))
      unfold verC at HC
      have hltb : decide ((k : Int) < (V.length : Int)) = true := by simp; omega
      clear hk2 hb1
      go_wp2_with fail
      rw [← hW1]
      clear hW1
      (with_reducible refine (HC.out).mono ?_)
      rintro e w2 ⟨rfl, hb2⟩
      have HB2 := Lib.hid (bstep HB1.out hb2)
      clear hb2 HC c0 c1 c2 c3 c4 c5 c6 c7 hb HB1
      by_cases hz : verChk v1 = 0
      · have HF2 := Lib.hid (show firstE verChk V = firstE verChk (V.drop (k + 1)) by rw [HF.out, if_neg (by omega)])
        clear HF
        rw [hz]
        go_wp2
        go_roundw
        case rel => exact ⟨k + 1, by omega, by go_num, HF2.out, HB2.out⟩
        case measure => simp [intOf] <;> omega
      · have H2 := Lib.hid (show batchChk ⟨s, t, V, G, P⟩ = verChk v1 by
          rw [H1.out, HF.out, if_pos hz, if_pos hz])
        have hd : decide (verChk v1 = 0) = false := by simpa using hz
        have hd2 : (verChk v1 != 0) = true := bne_iff_ne.2 hz
        have hfin := bstep HB.out HB2.out
        clear HF
        generalize verChk v1 = q at *
        go_wp2
        go_ret
        exact ⟨by rw [H2.out]; rfl, hfin⟩
    · obtain rfl : k = V.length := by omega
      rw [List.drop_length] at hf
      have H2 := Lib.hid (show batchChk ⟨s, t, V, G, P⟩ = if firstE goneChk G ≠ 0 then firstE goneChk G else ptsChk P by rw [H1.out, hf]; rfl)
      have hfin0 := bstep HB.out hbl
      obtain ⟨w3, hw3⟩ : ∃ w3, w3 = wr := ⟨_, rfl⟩
      rw [← hw3] at hbl hfin0 ⊢
      have HBG3 := Lib.hid (HBG.out.below hbl)
      have HBP3 := Lib.hid (HBP.out.below hbl)
      have HBK3 := Lib.hid (below_keep hbl HBK.out)
      have HB3 := Lib.hid hfin0
      clear hw3 hf hbl hfin0 HBV HBG HBP HBK H1
      have k3 := cell_of_block (j := 3) HBK3.out rfl
      go_wp2
      clear k3
      go_loopw [53] (fun i wr => ∃ k : Nat, k ≤ G.length ∧ i = .int .i64 k ∧ firstE goneChk G = firstE goneChk (G.drop k) ∧ Below w3.heap.size w3 wr) (fun i _ => G.length - (intOf i).toNat)
      case atStart => exact ⟨0, Nat.zero_le _, rfl, rfl, Below.refl _ _⟩
      case round =>
        obtain ⟨k, hk, rfl, hf, hbl⟩ := hrel
        by_cases hlt : k < G.length
        · have HF := Lib.hid (hf.trans (firstE_step goneChk hlt))
          have HBr := Lib.hid hbl
          obtain ⟨a', cap', ha', -, -, -, hvl2⟩ := HBG3.out.open_
          simp only [Value.slice.injEq, true_and] at ha'
          obtain ⟨ha', rfl⟩ := ha'
          rcases hvl2 with hnil | ⟨b, off, rfl, hb, hc⟩
          · rw [hnil] at hlt; simp at hlt
          subst ha'
          obtain ⟨c, hE, hcc⟩ := hc k hlt
          obtain ⟨u, x, d0, d1, d2, hk2⟩ := gone_cells hb HBr.out hE hcc
          obtain ⟨ua, uc, rfl⟩ := hk2.vec.shape
          obtain ⟨xa, xc, rfl⟩ := hk2.more.shape
          clear hc hcc hE hf hbl
          generalize G[k] = g1 at *
          obtain ⟨BG, hBG⟩ : ∃ BG, BG = wr.heap.size := ⟨_, rfl⟩
          obtain ⟨W1, hW1⟩ : ∃ W1, W1 = wr.alloc (.cells #[.string g1.id, .slice ua g1.past.vec.length uc, .slice xa g1.past.more.length xc] 111) := ⟨_, rfl⟩
          have hb1 : Below wr.heap.size wr W1 := by rw [hW1]; exact bal _
          have HKG := Lib.hid (show W1.heap[BG]? = some (Obj.cells #[.string g1.id, .slice ua g1.past.vec.length uc, .slice xa g1.past.more.length xc] 111 (0, 0)) by rw [hW1]; exact alloc_new _ _ _ _ hBG)
          have HB1 := Lib.hid (bstep HBr.out hb1)
          have HID := Lib.hid (id_c g1.id W1)
          have HC := Lib.hid (knChk_c _ _ g1.past W1 (hk2.below hb1))
          have hltb : decide ((k : Int) < (G.length : Int)) = true := by simp; omega
          clear hk2 hb1
          go_wp2_with fail
          rw [← hBG, ← hW1]
          clear hBG hW1 d0 d1 d2 hb
          (with_reducible refine (HID.out).mono ?_)
          rintro e w4 ⟨rfl, rfl⟩
          cases hid : idOk g1.id
          · have H3 := Lib.hid (show batchChk ⟨s, t, V, G, P⟩ = 3 by
              have h9 : firstE goneChk G = 3 := (by have h8 : goneChk g1 = 3 := (by unfold goneChk; rw [if_pos hid]); rw [HF.out, h8, if_pos (by decide)])
              rw [H2.out, h9, if_pos (by decide)])
            have hfin := bstep HB3.out HB1.out
            clear hid HF HC
            go_wp2
            go_ret
            exact ⟨by rw [H3.out]; rfl, hfin⟩
          have HGC := Lib.hid (show goneChk g1 = knChk g1.past by unfold goneChk; rw [if_neg (by rw [hid]; decide)])
          have g1c := cell_of_block (j := 1) HKG.out rfl
          have g2c := cell_of_block (j := 2) HKG.out rfl
          have hgl2 := hlt_of HKG.out
          clear hid
          go_wp2_with fail
          (with_reducible refine (HC.out).mono ?_)
          rintro e w5 ⟨rfl, hb2⟩
          have HB2 := Lib.hid (bstep HB1.out hb2)
          clear hb2 HC g1c g2c hgl2 HB1
          by_cases hz : knChk g1.past = 0
          · have HF2 := Lib.hid (show firstE goneChk G = firstE goneChk (G.drop (k + 1)) by rw [HF.out, HGC.out, if_neg (by omega)])
            clear HF
            rw [hz]
            go_wp2
            go_roundw
            case rel => exact ⟨k + 1, by omega, by go_num, HF2.out, HB2.out⟩
            case measure => simp [intOf] <;> omega
          · have H3 := Lib.hid (show batchChk ⟨s, t, V, G, P⟩ = knChk g1.past by
              rw [H2.out, HF.out, HGC.out, if_pos hz, if_pos hz])
            have hd : decide (knChk g1.past = 0) = false := by simpa using hz
            have hd2 : (knChk g1.past != 0) = true := bne_iff_ne.2 hz
            have hfin := bstep HB3.out HB2.out
            clear HF HGC
            generalize knChk g1.past = q at *
            go_wp2
            go_ret
            exact ⟨by rw [H3.out]; rfl, hfin⟩
        · obtain rfl : k = G.length := by omega
          rw [List.drop_length] at hf
          have H3 := Lib.hid (show batchChk ⟨s, t, V, G, P⟩ = ptsChk P by rw [H2.out, hf]; rfl)
          have HC := Lib.hid (ptsChk_c _ P wr (HBP3.out.below hbl))
          have k4 := cell_of_block (j := 4) (below_keep hbl HBK3.out) rfl
          have HB4 := Lib.hid (bstep HB3.out hbl)
          clear hf hbl
          go_wp2_with fail
          (with_reducible refine (HC.out).mono ?_)
          rintro e w6 ⟨rfl, hb6⟩
          have hfin := bstep HB4.out hb6
          clear hb6 HC k4
          go_wp2
          go_ret
          exact ⟨by rw [H3.out]; rfl, hfin⟩
end Go.Proofs.Ythnkmjjldggecaa
namespace Go.Proofs.Ythnkmjjldggecaa
open Go.RowKit
def verW (v : Ver) : List UInt8 := textW v.id ++ nums [v.ds, v.dc, v.tg, v.nm, v.bd] ++ knW v.past
def goneW (g : Gn) : List UInt8 := textW g.id ++ knW g.past
def boxW (x : Bx) : List UInt8 := nums [x.y, x.n, (x.sp.length : Int)] ++ nums (dotI x.sp)
def partW (p : Pt) : List UInt8 := nums [(p.f.length : Int)] ++ p.f.flatMap boxW ++ knW p.k
def bodyW (b : Bt) : List UInt8 := nums [b.site, b.stamp, (b.vers.length : Int)] ++ b.vers.flatMap verW ++ nums [(b.gone.length : Int)] ++ b.gone.flatMap goneW ++ nums [(b.parts.length : Int)] ++ b.parts.flatMap partW
theorem flat_le {α : Type} {f : α → List UInt8} {M : Nat} : ∀ {l : List α}, (∀ x ∈ l, (f x).length ≤ M) → (l.flatMap f).length ≤ l.length * M
  | [], _ => by simp
  | a :: l, h => by
    have ih := flat_le (l := l) fun x hx => h x (List.mem_cons_of_mem _ hx)
    have h1 := h a List.mem_cons_self
    rw [List.flatMap_cons, List.length_append, List.length_cons, Nat.succ_mul]; omega
theorem flatw_take {α : Type} (f : α → List UInt8) {l : List α} {k : Nat} (h : k < l.length) : (l.take (k + 1)).flatMap f = (l.take k).flatMap f ++ f l[k] := by
  rw [List.take_succ_eq_append_getElem h, List.flatMap_append]; simp
theorem textW_len (s : ByteArray) : (textW s).length = 3 + s.size := by
  unfold textW; rw [List.length_append, Array.length_toList]; rfl
theorem id_size {s : ByteArray} (h : idOk s = true) : s.size ≤ 8 := by
  simp only [idOk, Bool.and_eq_true, decide_eq_true_eq] at h; exact h.1.2
theorem verW_len {v : Ver} (h : VerOk v) : (verW v).length ≤ 500 := by
  have h1 := id_size h.id
  have h2 := h.past.len
  have h3 := h.len
  unfold verW
  rw [List.length_append, List.length_append, textW_len, nums_len, knW_len]; simp only [List.length_cons, List.length_nil]; omega
structure GnOk (g : Gn) : Prop where
  id : idOk g.id = true
  past : KnOk g.past
  len : g.past.more.length ≤ 60
theorem goneChk_zero {g : Gn} : goneChk g = 0 ↔ GnOk g := by
  unfold goneChk
  constructor
  · intro h
    split at h
    · exact absurd h (by decide)
    · rename_i h1
      have h2 := knChk_zero.1 h
      exact ⟨by simpa using h1, h2.1, h2.2⟩
  · intro h
    rw [if_neg (by rw [h.id]; decide)]
    exact knChk_zero.2 ⟨h.past, h.len⟩
theorem goneW_len {g : Gn} (h : GnOk g) : (goneW g).length ≤ 500 := by
  have h1 := id_size h.id
  have h2 := h.past.len
  have h3 := h.len
  unfold goneW
  rw [List.length_append, textW_len, knW_len]; omega
theorem boxW_len (x : Bx) : (boxW x).length = 9 + 6 * x.sp.length := by
  unfold boxW
  rw [List.length_append, nums_len, nums_len, dotI_len]; simp only [List.length_cons, List.length_nil]; omega
theorem bx_spans {x : Bx} (h : bxChk x = 0) : x.sp.length ≤ 16 := by
  have h2 : spansChk x.sp = 0 := by
    unfold bxChk at h
    split at h
    · exact h
    · rename_i h1; exact absurd h h1
  unfold spansChk at h2
  split at h2
  · exact absurd h2 (by decide)
  · omega
theorem partW_len {p : Pt} (h : PtOk p) : (partW p).length ≤ 5000 := by
  have h1 := fChk_zero.1 h.f
  have h2 := knChk_zero.1 h.k
  have h3 : (p.f.flatMap boxW).length ≤ p.f.length * 105 := flat_le fun x hx => by rw [boxW_len]; have := bx_spans (h1.2 x hx); omega
  have h4 : p.f.length * 105 ≤ 40 * 105 := Nat.mul_le_mul_right _ h1.1
  have h5 := h2.1.len
  have h6 := h2.2
  unfold partW
  rw [List.length_append, List.length_append, nums_len, knW_len]; simp only [List.length_cons, List.length_nil]; omega
structure BtOk (b : Bt) : Prop where
  site : 0 ≤ b.site ∧ b.site < 5
  stamp : 0 ≤ b.stamp ∧ b.stamp ≤ 1000000
  vlen : b.vers.length ≤ 60
  glen : b.gone.length ≤ 60
  plen : b.parts.length ≤ 30
  vers : ∀ v ∈ b.vers, VerOk v
  gone : ∀ g ∈ b.gone, GnOk g
  parts : ∀ p ∈ b.parts, PtOk p
theorem batchChk_zero {b : Bt} : batchChk b = 0 ↔ BtOk b := by
  unfold batchChk
  constructor
  · intro h
    split at h
    · exact absurd h (by decide)
    rename_i h1
    split at h
    · exact absurd h (by decide)
    rename_i h2
    split at h
    · rename_i h3; exact absurd h h3
    rename_i h3
    split at h
    · rename_i h4; exact absurd h h4
    rename_i h4
    have h5 := ptsChk_zero.1 h
    simp only [headBad, Bool.or_eq_true, decide_eq_true_eq] at h1
    exact ⟨by omega, by omega, by omega, by omega, h5.1, fun v hv => verChk_zero.1 ((firstE_zero verChk).1 (by omega) v hv), fun g hg => goneChk_zero.1 ((firstE_zero goneChk).1 (by omega) g hg), h5.2⟩
  · intro h
    have h1 := h.site
    have h2 := h.stamp
    rw [if_neg (by simp only [headBad, Bool.or_eq_true, decide_eq_true_eq]; omega), if_neg (by have := h.vlen; have := h.glen; omega)]
    rw [if_neg (by have := (firstE_zero verChk).2 fun v hv => verChk_zero.2 (h.vers v hv); omega), if_neg (by have := (firstE_zero goneChk).2 fun g hg => goneChk_zero.2 (h.gone g hg); omega)]
    exact ptsChk_zero.2 ⟨h.plen, h.parts⟩
end Go.Proofs.Ythnkmjjldggecaa
