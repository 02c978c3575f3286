/- Pure vectors in memory, as KnowVectors goes on. -/
import Derived.Test.YtippljiicnpieaaVecMade
import Derived.Test.YtippljiicnpieaaKnowCount2
import Derived.Test.YtippljiicnpieaaClaims2
namespace Go.Proofs.Ytippljiicnpieaa
open Go.RowKit
def VKv (w : World) (v : Value) (l : List Int) : Prop := ∃ (a : Option Addr) (c : Nat), v = .agg #[.slice a (trimZ l).length c, .slice none 0 0] ∧ KnAt w (.slice a (trimZ l).length c) (.slice none 0 0) (vecK l)
theorem VKv.below {w w' : World} {v : Value} {l : List Int} (h : VKv w v l) (hb : Below w.heap.size w w') : VKv w' v l := by
  obtain ⟨a, c, h1, h2⟩ := h; exact ⟨a, c, h1, h2.below hb⟩
def TupK (w : World) (v : Value) (k : Kn) : Prop := ∃ (a : Option Addr) (n c : Nat) (b : Option Addr) (m d : Nat), v = .tuple #[.agg #[.slice a n c, .slice b m d], .int .i64 0] ∧ KnOwn w 0 (.slice a n c) (.slice b m d) k
def AggK (w : World) (v : Value) (k : Kn) : Prop := ∃ (a : Option Addr) (n c : Nat) (b : Option Addr) (m d : Nat), v = .agg #[.slice a n c, .slice b m d] ∧ KnOwn w 0 (.slice a n c) (.slice b m d) k
theorem TupK.below {w w' : World} {v : Value} {k : Kn} (h : TupK w v k) (hb : Below w.heap.size w w') : TupK w' v k := by
  obtain ⟨a, n, c, b, m, d, h1, h2⟩ := h; exact ⟨a, n, c, b, m, d, h1, h2.below hb⟩
theorem AggK.below {w w' : World} {v : Value} {k : Kn} (h : AggK w v k) (hb : Below w.heap.size w w') : AggK w' v k := by
  obtain ⟨a, n, c, b, m, d, h1, h2⟩ := h; exact ⟨a, n, c, b, m, d, h1, h2.below hb⟩
def Sets (w w' : World) : Prop := ∃ g, SetsK g w w'
theorem TupK.sets {w w' : World} {v : Value} {k : Kn} (h : TupK w v k) (hb : Sets w w') : TupK w' v k := by
  obtain ⟨a, n, c, b, m, d, h1, h2⟩ := h; obtain ⟨g, cs, u, x, h3, rfl⟩ := hb; exact ⟨a, n, c, b, m, d, h1, h2.set2 h3⟩
theorem AggK.sets {w w' : World} {v : Value} {k : Kn} (h : AggK w v k) (hb : Sets w w') : AggK w' v k := by
  obtain ⟨a, n, c, b, m, d, h1, h2⟩ := h; obtain ⟨g, cs, u, x, h3, rfl⟩ := hb; exact ⟨a, n, c, b, m, d, h1, h2.set2 h3⟩
/-- A new block that is still empty; the same when it was written. -/
def NewB (w : World) (S : Nat) (v : Value) : Prop := ∃ g, v = .pointer (some ⟨g, 0, none⟩) ∧ w.heap[g]? = some (Obj.cells #[.slice none 0 0, .slice none 0 0] 30 (0, 0)) ∧ S ≤ g
def FullB (w : World) (S : Nat) (v : Value) (k : Kn) : Prop := ∃ (g : Nat) (a : Option Addr) (n c : Nat) (b : Option Addr) (m d : Nat), v = .pointer (some ⟨g, 0, none⟩) ∧ w.heap[g]? = some (Obj.cells #[.slice a n c, .slice b m d] 30 (0, 0)) ∧ KnOwn w 0 (.slice a n c) (.slice b m d) k ∧ S ≤ g
theorem NewB.below {w w' : World} {S : Nat} {v : Value} (h : NewB w S v) (hb : Below w.heap.size w w') : NewB w' S v := by
  obtain ⟨g, h1, h2, h3⟩ := h; exact ⟨g, h1, below_keep hb h2, h3⟩
theorem FullB.below {w w' : World} {S : Nat} {v : Value} {k : Kn} (h : FullB w S v k) (hb : Below w.heap.size w w') : FullB w' S v k := by
  obtain ⟨g, a, n, c, b, m, d, h1, h2, h3, h4⟩ := h; exact ⟨g, a, n, c, b, m, d, h1, below_keep hb h2, h3.below hb, h4⟩
set_option maxRecDepth 100000 in
theorem vjoin_c (ua va ub vb : Value) (f g : Nat → Int) (w : World) (hf : FB f) (hg : FB g) (ha : KnAt w ua va (vecK (upV f 5))) (hb : KnAt w ub vb (vecK (upV g 5))) :
    Calls Try.prog 49 #[.agg #[ua, va], .agg #[ub, vb]] w fun e w' => ∃ v, e = .returned v ∧ TupK w' v (vecK (upV (fun s => max (f s) (g s)) 5)) ∧ Below w.heap.size w w' := by
  refine (kjoin_c ua va ub vb _ _ w ha hb).mono ?_
  rintro e w' ⟨x, y, rfl, hr, hbl⟩
  have h0 : resE (knTwo (vecK (upV f 5)) (vecK (upV g 5))) (orK (knIn (vecK (upV f 5))) (knIn (vecK (upV g 5)))) = 0 := by
    unfold resE; rw [if_pos (two_vec hf hg), join_vec hf hg]; rfl
  rw [h0, join_vec hf hg] at hr
  obtain ⟨a, n, c, b, m, d, rfl, rfl⟩ := hr.shape
  rw [h0]
  exact ⟨_, rfl, ⟨a, n, c, b, m, d, rfl, (hr.resolve_right fun h => h.1 rfl).2.mono (Nat.zero_le _)⟩, hbl⟩
set_option maxRecDepth 100000 in
theorem vmeet_c (ua va ub vb : Value) (f g : Nat → Int) (w : World) (hf : FB f) (hg : FB g) (ha : KnAt w ua va (vecK (upV f 5))) (hb : KnAt w ub vb (vecK (upV g 5))) :
    Calls Try.prog 53 #[.agg #[ua, va], .agg #[ub, vb]] w fun e w' => ∃ v, e = .returned v ∧ TupK w' v (vecK (upV (fun s => min (f s) (g s)) 5)) ∧ Below w.heap.size w w' := by
  refine (kmeet_c ua va ub vb _ _ w ha hb).mono ?_
  rintro e w' ⟨x, y, rfl, hr, hbl⟩
  have h0 : resE (knTwo (vecK (upV f 5)) (vecK (upV g 5))) (andK (knIn (vecK (upV f 5))) (knIn (vecK (upV g 5)))) = 0 := by
    unfold resE; rw [if_pos (two_vec hf hg), meet_vec hf hg]; rfl
  rw [h0, meet_vec hf hg] at hr
  obtain ⟨a, n, c, b, m, d, rfl, rfl⟩ := hr.shape
  rw [h0]
  exact ⟨_, rfl, ⟨a, n, c, b, m, d, rfl, (hr.resolve_right fun h => h.1 rfl).2.mono (Nat.zero_le _)⟩, hbl⟩
set_option maxRecDepth 100000 in
theorem vwithin_c (ua va ub vb : Value) (f g : Nat → Int) (w : World) (hf : FB f) (hg : FB g) (ha : KnAt w ua va (vecK (upV f 5))) (hb : KnAt w ub vb (vecK (upV g 5))) :
    Calls Try.prog 47 #[.agg #[ua, va], .agg #[ub, vb]] w fun e w' => e = .returned (.tuple #[.bool (withinN f g 5), .int .i64 0]) ∧ Below w.heap.size w w' := by
  refine (kwithin_c ua va ub vb _ _ w ha hb).mono ?_
  rintro e w' ⟨rfl, hbl⟩
  rw [within_vec hf hg, two_vec hf hg]
  exact ⟨rfl, hbl⟩
set_option maxRecDepth 100000 in
theorem vsame_c (ua va ub vb : Value) (k : Kn) (w : World) (ha : KnAt w ua va k) (hb : KnAt w ub vb k) :
    Calls Try.prog 50 #[.agg #[ua, va], .agg #[ub, vb]] w fun e w' => e = .returned (.bool true) ∧ Below w.heap.size w w' := by
  refine (sameK_c ua va ub vb k k w ha hb).mono ?_
  rintro e w' ⟨rfl, hbl⟩
  rw [decide_eq_true rfl]
  exact ⟨rfl, hbl⟩
/-- The four arrays. -/
structure VSt (w wr : World) (B : Nat) (f g : Nat → Int) (kx ky ko ka : Nat) : Prop where
  x : wr.heap[B]? = some (Obj.cells (intsC (upV f kx)).toArray 83 (0, 0))
  y : wr.heap[B + 1]? = some (Obj.cells (intsC (upV g ky)).toArray 83 (0, 0))
  o : wr.heap[B + 2]? = some (Obj.cells (intsC (upV (fun s => max (f s) (g s)) ko)).toArray 83 (0, 0))
  a : wr.heap[B + 3]? = some (Obj.cells (intsC (upV (fun s => min (f s) (g s)) ka)).toArray 83 (0, 0))
  bel : Below w.heap.size w wr
  lt : w.heap.size ≤ B
section
variable {w wr : World} {B : Nat} {f g : Nat → Int} {kx ky ko ka : Nat}
theorem VSt.below {w2 : World} (h : VSt w wr B f g kx ky ko ka) (hb : Below wr.heap.size wr w2) : VSt w w2 B f g kx ky ko ka :=
  ⟨below_keep hb h.x, below_keep hb h.y, below_keep hb h.o, below_keep hb h.a, h.bel.trans (hb.mono h.bel.size), h.lt⟩
theorem VSt.setX (h : VSt w wr B f g kx ky ko ka) (hk : kx < 5) : VSt w (wr.setCell ⟨B, kx, none⟩ (.int .i64 (f kx))) B f g (kx + 1) ky ko ka :=
  ⟨by rw [heap_set_same h.x, intsC_set, upV_set f kx hk], (heap_set_other (by omega)).trans h.y, (heap_set_other (by omega)).trans h.o, (heap_set_other (by omega)).trans h.a, h.bel.setCell h.lt _, h.lt⟩
theorem VSt.setY (h : VSt w wr B f g kx ky ko ka) (hk : ky < 5) : VSt w (wr.setCell ⟨B + 1, ky, none⟩ (.int .i64 (g ky))) B f g kx (ky + 1) ko ka :=
  ⟨(heap_set_other (by omega)).trans h.x, by rw [heap_set_same h.y, intsC_set, upV_set g ky hk], (heap_set_other (by omega)).trans h.o, (heap_set_other (by omega)).trans h.a, h.bel.setCell (by have := h.lt; simp only; omega) _, h.lt⟩
theorem VSt.skipX (h : VSt w wr B f g kx ky ko ka) (hk : f kx = 0) : VSt w wr B f g (kx + 1) ky ko ka := ⟨by rw [← upV_skip f kx hk]; exact h.x, h.y, h.o, h.a, h.bel, h.lt⟩
theorem VSt.skipY (h : VSt w wr B f g kx ky ko ka) (hk : g ky = 0) : VSt w wr B f g kx (ky + 1) ko ka := ⟨h.x, by rw [← upV_skip g ky hk]; exact h.y, h.o, h.a, h.bel, h.lt⟩
end
theorem upC_get (f : Nat → Int) (k j : Nat) (hj : j < 5) (hk : j < k) : (intsC (upV f k)).toArray[j]? = some (.int .i64 (f j)) := by
  have := upV_get f k j hj
  rw [if_pos hk] at this
  simp [intsC, this]
theorem upC_get0 (f : Nat → Int) (k : Nat) (hk : k < 5) : (intsC (upV f k)).toArray[k]? = some (.int .i64 0) := by
  have := upV_get f k k hk
  rw [if_neg (Nat.lt_irrefl _)] at this
  simp [intsC, this]
theorem upV_set2 (f : Nat → Int) (k : Nat) (hk : k < 5) : (upV f (k + 1)).set k (f k) = upV f (k + 1) := by
  rw [← upV_set f k hk, List.set_set]
/-- While the two stores of a round are drawn in whatever order. -/
def VG (w wr : World) (B : Nat) (f g : Nat → Int) (q : Nat) : Prop :=
  wr.heap[B]? = some (Obj.cells (intsC (upV f (q + 1))).toArray 83 (0, 0)) ∧ wr.heap[B + 1]? = some (Obj.cells (intsC (upV g (q + 1))).toArray 83 (0, 0)) ∧
  (∃ cs : Array Value, wr.heap[B + 2]? = some (Obj.cells cs 83 (0, 0)) ∧ q < cs.size ∧ cs.setIfInBounds q (.int .i64 (max (f q) (g q))) = (intsC (upV (fun s => max (f s) (g s)) (q + 1))).toArray) ∧
  (∃ cs : Array Value, wr.heap[B + 3]? = some (Obj.cells cs 83 (0, 0)) ∧ q < cs.size ∧ cs.setIfInBounds q (.int .i64 (min (f q) (g q))) = (intsC (upV (fun s => min (f s) (g s)) (q + 1))).toArray) ∧
  Below w.heap.size w wr ∧ w.heap.size ≤ B ∧ q < 5
theorem intsC_size5 (f : Nat → Int) (k : Nat) : (intsC (upV f k)).toArray.size = 5 := by simp [intsC, upV_len]
theorem VG.of {w wr : World} {B : Nat} {f g : Nat → Int} {q : Nat} (hq : q < 5) (h : VSt w wr B f g (q + 1) (q + 1) q q) : VG w wr.drew B f g q :=
  ⟨h.x, h.y, ⟨_, h.o, by rw [intsC_size5]; exact hq, by rw [intsC_set]; exact congrArg (fun l => (intsC l).toArray) (upV_set (fun s => max (f s) (g s)) q hq)⟩, ⟨_, h.a, by rw [intsC_size5]; exact hq, by rw [intsC_set]; exact congrArg (fun l => (intsC l).toArray) (upV_set (fun s => min (f s) (g s)) q hq)⟩, h.bel.drew, h.lt, hq⟩
theorem VG.setO {w wr : World} {B : Nat} {f g : Nat → Int} {q : Nat} {cs : Array Value} (h : VG w wr B f g q) (hcs : wr.heap[B + 2]? = some (Obj.cells cs 83 (0, 0))) (hs : cs.setIfInBounds q (.int .i64 (max (f q) (g q))) = (intsC (upV (fun s => max (f s) (g s)) (q + 1))).toArray) : VG w (wr.setCell ⟨B + 2, q, none⟩ (.int .i64 (max (f q) (g q)))) B f g q := by
  obtain ⟨hx, hy, -, ⟨ca, h1, h2, h3⟩, hb, hl, hq⟩ := h
  exact ⟨(heap_set_other (by omega)).trans hx, (heap_set_other (by omega)).trans hy, ⟨_, heap_set_same hcs, by rw [hs, intsC_size5]; exact hq, by rw [hs, intsC_set]; exact congrArg (fun l => (intsC l).toArray) (upV_set2 (fun s => max (f s) (g s)) q hq)⟩, ⟨ca, (heap_set_other (by omega)).trans h1, h2, h3⟩, hb.setCell (by simp only; omega) _, hl, hq⟩
theorem VG.setA {w wr : World} {B : Nat} {f g : Nat → Int} {q : Nat} {cs : Array Value} (h : VG w wr B f g q) (hcs : wr.heap[B + 3]? = some (Obj.cells cs 83 (0, 0))) (hs : cs.setIfInBounds q (.int .i64 (min (f q) (g q))) = (intsC (upV (fun s => min (f s) (g s)) (q + 1))).toArray) : VG w (wr.setCell ⟨B + 3, q, none⟩ (.int .i64 (min (f q) (g q)))) B f g q := by
  obtain ⟨hx, hy, ⟨ca, h1, h2, h3⟩, -, hb, hl, hq⟩ := h
  exact ⟨(heap_set_other (by omega)).trans hx, (heap_set_other (by omega)).trans hy, ⟨ca, (heap_set_other (by omega)).trans h1, h2, h3⟩, ⟨_, heap_set_same hcs, by rw [hs, intsC_size5]; exact hq, by rw [hs, intsC_set]; exact congrArg (fun l => (intsC l).toArray) (upV_set2 (fun s => min (f s) (g s)) q hq)⟩, hb.setCell (by simp only; omega) _, hl, hq⟩
theorem VG.done {w wr : World} {B : Nat} {f g : Nat → Int} {q : Nat} (h : VG w wr B f g q) (ho : wr.heap[B + 2]? = some (Obj.cells (intsC (upV (fun s => max (f s) (g s)) (q + 1))).toArray 83 (0, 0))) (ha : wr.heap[B + 3]? = some (Obj.cells (intsC (upV (fun s => min (f s) (g s)) (q + 1))).toArray 83 (0, 0))) : VSt w wr B f g (q + 1) (q + 1) (q + 1) (q + 1) :=
  ⟨h.1, h.2.1, ho, ha, h.2.2.2.2.1, h.2.2.2.2.2.1⟩
/-- What an argument gives for a site. -/
def xOf (l : List Int) (s : Nat) : Int := if h : s < l.length then (wiN l[s] 50 : Nat) else 0
theorem xOf_bd (l : List Int) : FB (xOf l) := by
  intro s
  unfold xOf
  split
  · rename_i h
    have := wiN_lt l[s] 50 (by decide)
    change wiN l[s] 50 < 50 at this
    omega
  · omega
def litB : Kn := ⟨[3, 5], []⟩
theorem lit_join : formK (orK (knIn ⟨[3, 1], []⟩) (knIn ⟨[2, 5], []⟩)) = litB := by
  refine (formK_uniq (vecKn_ok (by decide) (by simp) (by simp)) fun s c h0 h5 h1 _ => ?_).symm
  have e : ∀ l : List Int, knIn ⟨l, []⟩ s c = decide (c ≤ vecAt l s) := fun l => by show (decide (c ≤ vecAt l s) || decide ((s, c) ∈ ([] : Dots))) = _; simp
  simp only [orK, e, litB]
  have : s = 0 ∨ s = 1 ∨ s = 2 ∨ s = 3 ∨ s = 4 := by omega
  rcases this with rfl | rfl | rfl | rfl | rfl
  · show decide (c ≤ 3) = (decide (c ≤ 3) || decide (c ≤ 2)); rw [Bool.eq_iff_iff]; simp; omega
  · show decide (c ≤ 5) = (decide (c ≤ 1) || decide (c ≤ 5)); rw [Bool.eq_iff_iff]; simp; omega
  · show decide (c ≤ 0) = (decide (c ≤ 0) || decide (c ≤ 0)); simp
  · show decide (c ≤ 0) = (decide (c ≤ 0) || decide (c ≤ 0)); simp
  · show decide (c ≤ 0) = (decide (c ≤ 0) || decide (c ≤ 0)); simp
end Go.Proofs.Ytippljiicnpieaa
