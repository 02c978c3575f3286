/- What part.at does: all that is known of a point. Written by a small program (gen/gath.py). What part.within and part.Within do. Written by a small program (gen/pwithin.py). What part.Within does. Written by a small program (gen/pwithin2.py). Package part, told by what parts say. -/
import Derived.Test.YthnkmjjldggecaaMGath
import Derived.Test.YthnkmjjldggecaaMPart1
import Derived.Test.YthnkmjjldggecaaMClone
import Derived.Test.YthnkmjjldggecaaMKnow7
import Derived.Test.YthnkmjjldggecaaMClaims
import Derived.Test.YthnkmjjldggecaaMFilterP
import Derived.Test.YthnkmjjldggecaaMPart5
namespace Go.Proofs.Ythnkmjjldggecaa
open Go.RowKit
def atK (l : List Pt) (t n : Int) : List Kn := (l.filter fun x => inF x.f t n).map Pt.k
theorem atK_snoc (l : List Pt) (x : Pt) (t n : Int) : atK (l ++ [x]) t n = if inF x.f t n = true then atK l t n ++ [x.k] else atK l t n := by
  unfold atK
  cases h : inF x.f t n <;> simp [List.filter_append, h]
theorem atK_any (l : List Pt) (t n s c : Int) : (atK l t n).any (fun k => knIn k s c) = ptsIn l t n s c := by
  unfold atK ptsIn
  rw [List.any_map, List.any_filter]
  rfl
theorem atK_mem {l : List Pt} {t n : Int} {k : Kn} (h : k ∈ atK l t n) : ∃ x ∈ l, x.k = k := by
  unfold atK at h
  obtain ⟨x, hx, rfl⟩ := List.mem_map.1 h
  exact ⟨x, (List.mem_filter.1 hx).1, rfl⟩
theorem atK_len (l : List Pt) (t n : Int) : (atK l t n).length ≤ l.length := by
  unfold atK; rw [List.length_map]; exact List.length_filter_le _ _
structure AtSt (w : World) (t n : Int) (vv dv : Value) (ks : List Kn) (wr : World) : Prop where
  pt : wr.heap[w.heap.size]? = some (Obj.cells #[.int .i64 t, .int .i64 n] 107 (0, 0))
  res : wr.heap[w.heap.size + 1]? = some (Obj.cells #[.slice none 0 0, .slice none 0 0] 81 (0, 0))
  vec : RowOwn vecE w wr w.heap.size 23 vv (ks.map Kn.vec)
  dot : wr.ownsRow w.heap.size 92 2 dv (ks.flatMap Kn.more).length (spansCells (ks.flatMap Kn.more))
  bel : Below w.heap.size w wr
theorem AtSt.below {w : World} {t n : Int} {vv dv : Value} {ks : List Kn} {wr wr' : World} (h : AtSt w t n vv dv ks wr) (hb : Below wr.heap.size wr wr') : AtSt w t n vv dv ks wr' :=
  ⟨below_keep hb h.pt, below_keep hb h.res, h.vec.below hb, owns_below h.dot hb, bstep h.bel hb⟩
end Go.Proofs.Ythnkmjjldggecaa
namespace Go.Proofs.Ythnkmjjldggecaa
open Go.RowKit
set_option maxRecDepth 100000 in
theorem concat2' (x u1 u2 : Value) (a b : Kn) (w : World) (h : RowsAt w x [(u1, a.more.length, spansCells a.more), (u2, b.more.length, spansCells b.more)]) (ha : a.more.length ≤ 100000) (hb : b.more.length ≤ 100000) :
    Calls Try.prog 113 #[x] w fun e w' => ∃ v, e = .returned v ∧ DsAt w' v (a.more ++ b.more) ∧ Below w.heap.size w w' := by
  refine (DlConcat_c x _ w h ?_ ?_ ?_).mono ?_
  · intro r hr
    simp only [List.mem_cons, List.not_mem_nil, or_false] at hr
    rcases hr with rfl | rfl <;> exact spansCells_length _
  · intro r hr
    simp only [List.mem_cons, List.not_mem_nil, or_false] at hr
    rcases hr with rfl | rfl <;> exact spansCells_one _
  · simp [tot]; omega
  · rintro e w' ⟨v, rfl, ho, hbl⟩
    refine ⟨v, rfl, ?_, hbl⟩
    have e1 : tot [(u1, a.more.length, spansCells a.more), (u2, b.more.length, spansCells b.more)] = (a.more ++ b.more).length := by simp [tot]
    have e2 : flat [(u1, a.more.length, spansCells a.more), (u2, b.more.length, spansCells b.more)] = spansCells (a.more ++ b.more) := by simp [flat, spansCells_append]
    rw [e1, e2] at ho
    exact CellsAt.of_owns ho (by simp; omega)
def PNew (w : World) (base : Nat) (v : Value) : Prop := ∃ g, v = .pointer (some ⟨g, 0, none⟩) ∧ w.heap[g]? = some (Obj.cells #[.slice none 0 0, .slice none 0 0] 81 (0, 0)) ∧ base ≤ g
theorem PNew.below {w w' : World} {base : Nat} {v : Value} (h : PNew w base v) (hb : Below w.heap.size w w') : PNew w' base v := by
  obtain ⟨g, h1, h2, h3⟩ := h; exact ⟨g, h1, below_keep hb h2, h3⟩
def PFull (w : World) (base : Nat) (v : Value) (k : Kn) : Prop := ∃ (g : Nat) (a : Option Addr) (c : Nat) (b : Option Addr) (d : Nat), v = .pointer (some ⟨g, 0, none⟩) ∧ w.heap[g]? = some (Obj.cells #[.slice a k.vec.length c, .slice b k.more.length d] 81 (0, 0)) ∧ KnOwn w base (.slice a k.vec.length c) (.slice b k.more.length d) k
theorem PFull.below {w w' : World} {base : Nat} {v : Value} {k : Kn} (h : PFull w base v k) (hb : Below w.heap.size w w') : PFull w' base v k := by
  obtain ⟨g, a, c, b, d, h1, h2, h3⟩ := h; exact ⟨g, a, c, b, d, h1, below_keep hb h2, h3.below hb⟩
def PAgg (w : World) (base : Nat) (v : Value) (k : Kn) : Prop := ∃ (a : Option Addr) (c : Nat) (b : Option Addr) (d : Nat), v = .agg #[.slice a k.vec.length c, .slice b k.more.length d] ∧ KnOwn w base (.slice a k.vec.length c) (.slice b k.more.length d) k
theorem PAgg.below {w w' : World} {base : Nat} {v : Value} {k : Kn} (h : PAgg w base v k) (hb : Below w.heap.size w w') : PAgg w' base v k := by
  obtain ⟨a, c, b, d, h1, h3⟩ := h; exact ⟨a, c, b, d, h1, h3.below hb⟩
end Go.Proofs.Ythnkmjjldggecaa
namespace Go.Proofs.Ythnkmjjldggecaa
open Go.RowKit
def atF (l : List Pt) (t n : Int) : Kn := formK fun s c => ptsIn l t n s c
def wAt (a b : List Pt) (t n : Int) : Bool := knWithin (atF a t n) (atF b t n)
def pwB (a b : List Pt) : Bool := allPt fun t n => wAt a b t n
def pTwo (a b : List Pt) : Int := if ptsChk a ≠ 0 then ptsChk a else ptsChk b
def pwE (a b : List Pt) : Bool := decide (pTwo a b = 0) && pwB a b
theorem pwB_true {a b : List Pt} (h : ∀ t n : Nat, t < 16 → n < 32 → wAt a b t n = true) : pwB a b = true := (allPt_iff _).2 h
theorem pwB_false {a b : List Pt} {t n : Nat} (ht : t < 16) (hn : n < 32) (h : wAt a b t n = false) : pwB a b = false := by
  cases hp : pwB a b
  · rfl
  · rw [(allPt_iff _).1 hp t n ht hn] at h; exact absurd h (by decide)
theorem atF_ok (l : List Pt) (t n : Int) : KnOk (atF l t n) ∧ (atF l t n).more.length ≤ 5005 := ⟨formK_ok _, formM_len _⟩
end Go.Proofs.Ythnkmjjldggecaa
namespace Go.Proofs.Ythnkmjjldggecaa
open Go.RowKit
theorem pts_knows {l : List Pt} {t n : Nat} (ht : t < 16) (hn : n < 32) (s c : Int) : ptsIn l t n s c = knowsS (l.map sem) t n s c := by
  unfold ptsIn knowsS
  rw [List.any_map]
  congr 1
  funext x
  simp only [Function.comp_apply, ptIn, sem, ptsOf_in ht hn]
theorem atF_in {l : List Pt} {t n : Nat} (ht : t < 16) (hn : n < 32) {s c : Int} (h0 : 0 ≤ s) (h5 : s < 5) (h1 : 1 ≤ c) (h2 : c ≤ 1000) : knIn (atF l t n) s c = knowsS (l.map sem) t n s c := by
  unfold atF
  rw [formK_in _ s c h0 h5 h1 h2, pts_knows ht hn]
theorem wAt_iff {a b : List Pt} {t n : Nat} (ht : t < 16) (hn : n < 32) : wAt a b t n = true ↔ ∀ s c : Int, 0 ≤ s → s < 5 → 1 ≤ c → c ≤ 1000 → knowsS (a.map sem) t n s c = true → knowsS (b.map sem) t n s c = true := by
  unfold wAt
  rw [knWithin_iff (atF_ok b t n).1]
  constructor
  · intro h s c h0 h5 h1 h2 hk
    rw [← atF_in ht hn h0 h5 h1 h2] at hk ⊢
    exact h s c h0 h5 h1 h2 hk
  · intro h s c h0 h5 h1 h2 hk
    rw [atF_in ht hn h0 h5 h1 h2] at hk ⊢
    exact h s c h0 h5 h1 h2 hk
theorem pwB_sem (a b : List Pt) : pwB a b = withinS (a.map sem) (b.map sem) := by
  rw [Bool.eq_iff_iff, withinS_iff]
  unfold pwB
  rw [allPt_iff]
  constructor
  · intro h t n ht hn
    exact (wAt_iff ht hn).1 (h t n ht hn)
  · intro h t n ht hn
    exact (wAt_iff ht hn).2 (h t n ht hn)
theorem PtsSem.chk {l : List Pt} (hok : ∀ x ∈ l, PtOk x) (hl : (l.map sem).length ≤ 30) : ptsChk l = 0 := ptsChk_zero.2 ⟨by rw [List.length_map] at hl; exact hl, hok⟩
set_option maxRecDepth 100000 in
theorem pjoin_s (va vb : Value) (A B : List SP) (w : World) (ha : PtsSem w va A) (hb : PtsSem w vb B) (la : A.length ≤ 30) (lb : B.length ≤ 30) (hl : (fewS (A ++ B)).length ≤ 30) :
    Calls Try.prog 42 #[va, vb] w fun e w' => ∃ a c, e = .returned (.tuple #[.slice a (fewS (A ++ B)).length c, .int .i64 0]) ∧ PtsOwn w' w.heap.size (.slice a (fewS (A ++ B)).length c) (fewS (A ++ B)) ∧ Below w.heap.size w w' := by
  obtain ⟨a, h1, h2, rfl⟩ := ha
  obtain ⟨b, h3, h4, rfl⟩ := hb
  have he : pjE a b = 0 := by
    unfold pjE
    rw [if_neg (by rw [PtsSem.chk h2 la]; decide), if_neg (by rw [PtsSem.chk h4 lb]; decide), List.map_append, if_neg (by omega)]
  refine (pjoin_c va vb a b w h1 h3).mono ?_
  rintro e w' ⟨v, rfl, hr, hb⟩
  rw [he] at hr ⊢
  have ho := hr.1 rfl
  rw [List.map_append] at ho
  obtain ⟨x, c, rfl⟩ := ho.shape
  exact ⟨x, c, rfl, ho, hb⟩
theorem narrow_congr {A : List SP} {p q : Nat → Nat → Bool} (hA : ∀ x ∈ A, SPOk x) (h : ∀ t n, t < 16 → n < 32 → p t n = q t n) : narrowS A p = narrowS A q := by
  unfold narrowS
  congr 1
  refine List.map_congr_left fun x hx => ?_
  congr 1
  funext t n
  by_cases hr : t < 16 ∧ n < 32
  · rw [h t n hr.1 hr.2]
  · rw [(hA x hx).p t n hr]; rfl
set_option maxRecDepth 100000 in
theorem pnarrow_s (va vf : Value) (A : List SP) (p : Nat → Nat → Bool) (w : World) (ha : PtsSem w va A) (hf : FV w vf p) (la : A.length ≤ 30) :
    Calls Try.prog 54 #[va, vf] w fun e w' => ∃ a c, e = .returned (.tuple #[.slice a (narrowS A p).length c, .int .i64 0]) ∧ PtsOwn w' w.heap.size (.slice a (narrowS A p).length c) (narrowS A p) ∧ Below w.heap.size w w' := by
  have hok := ha.ok
  obtain ⟨a, h1, h2, rfl⟩ := ha
  obtain ⟨f, f1, f2, f3⟩ := hf
  have he : pnE a f = 0 := by
    unfold pnE
    rw [if_neg (by rw [PtsSem.chk h2 la]; decide), f2]
  refine (pnarrow_c va vf a f w h1 f1).mono ?_
  rintro e w' ⟨v, rfl, hr, hb⟩
  rw [he] at hr ⊢
  have ho := hr.1 rfl
  rw [narrow_congr hok (q := p) fun t n ht hn => by rw [ptsOf_in ht hn]; exact f3 t n ht hn] at ho
  obtain ⟨x, c, rfl⟩ := ho.shape
  exact ⟨x, c, rfl, ho, hb⟩
def hasS (A : List SP) (t n s c : Int) : Bool := ptOk t n && dotOk (s, c) && knowsS A t.toNat n.toNat s c
def hasSE (t n s c : Int) : Int := if (ptOk t n && dotOk (s, c)) = true then 0 else 1
theorem pt_rng {t n : Int} (h : ptOk t n = true) : 0 ≤ t ∧ t ≤ 15 ∧ 0 ≤ n ∧ n < 32 := by
  simp only [ptOk, tagsB, Bool.and_eq_true, decide_eq_true_eq] at h; omega
set_option maxRecDepth 100000 in
theorem pchk_s (va : Value) (A : List SP) (w : World) (ha : PtsSem w va A) (la : A.length ≤ 30) :
    Calls Try.prog 44 #[va] w fun e w' => e = .returned (.int .i64 0) ∧ Below w.heap.size w w' := by
  obtain ⟨a, h1, h2, rfl⟩ := ha
  refine (ptsChk_c va a w h1).mono ?_
  rintro e w' ⟨rfl, hb⟩
  rw [PtsSem.chk h2 la]
  exact ⟨rfl, hb⟩
end Go.Proofs.Ythnkmjjldggecaa
