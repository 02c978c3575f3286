/- What was written is read again: whole batches. No program in sight. A packed batch is unpacked as it was. No program in sight. What wire.same does with one set of dots twice: it says that they are the same. What wire.Same does with one batch twice: it says that they are the same. Written by a small program (gen/samew.py). What the reference's three, knows and Sum do: which texts they give, and how long these are. Written by a small program (gen/rpack.py). What the reference's Pack does: how long its text is. Written by a small program (gen/rpack.py). What WireBack does: it returns true. -/
import Derived.Test.YthnkmjjldggecaaWireLaw
import Derived.Test.YthnkmjjldggecaaMTold2
import Derived.Test.YthnkmjjldggecaaMShelf7
import Derived.Test.YthnkmjjldggecaaMKnow9
import Derived.Test.YthnkmjjldggecaaMFilter4
import Derived.Test.YthnkmjjldggecaaMWire3
import Derived.Test.YthnkmjjldggecaaMClaims
import Derived.Test.YthnkmjjldggecaaMWire1
import Derived.Test.YthnkmjjldggecaaMixed
import Derived.Test.YthnkmjjldggecaaMPure
import Derived.Laws.IdiomStrings
import Derived.Test.YthnkmjjldggecaaMSameB
namespace Go.Proofs.Ythnkmjjldggecaa
open Go.RowKit
theorem many_back {α : Type} {f : ByteArray → Bool → α × ByteArray × Bool} {W : α → List UInt8} {l : List α} (hf : ∀ x ∈ l, ∀ (s : ByteArray) (b : Bool) (r : List UInt8), s.data.toList = W x ++ r → (f s b).1 = x ∧ (f s b).2.1.data.toList = r ∧ (f s b).2.2 = b)
    {s : ByteArray} {bad : Bool} {r : List UInt8} (h : s.data.toList = l.flatMap W ++ r) : ∀ k, k ≤ l.length → (manyR f s bad k).1 = l.take k ∧ (manyR f s bad k).2.1.data.toList = (l.drop k).flatMap W ++ r ∧ (manyR f s bad k).2.2 = bad
  | 0, _ => ⟨rfl, h, rfl⟩
  | k + 1, hk => by
    obtain ⟨h1, h2, h3⟩ := many_back hf h k (by omega)
    have hlt : k < l.length := by omega
    rw [List.drop_eq_getElem_cons hlt, List.flatMap_cons, List.append_assoc] at h2
    obtain ⟨h4, h5, h6⟩ := hf l[k] (List.getElem_mem hlt) _ (manyR f s bad k).2.2 _ h2
    refine ⟨?_, h5, ?_⟩
    · show (manyR f s bad k).1 ++ [(f (manyR f s bad k).2.1 (manyR f s bad k).2.2).1] = _
      rw [h1, h4, List.take_succ_eq_append_getElem hlt]
    · exact h6.trans h3
theorem many_whole {α : Type} {f : ByteArray → Bool → α × ByteArray × Bool} {W : α → List UInt8} {l : List α} (hf : ∀ x ∈ l, ∀ (s : ByteArray) (b : Bool) (r : List UInt8), s.data.toList = W x ++ r → (f s b).1 = x ∧ (f s b).2.1.data.toList = r ∧ (f s b).2.2 = b)
    {s : ByteArray} {bad : Bool} {r : List UInt8} (h : s.data.toList = l.flatMap W ++ r) : (manyR f s bad l.length).1 = l ∧ (manyR f s bad l.length).2.1.data.toList = r ∧ (manyR f s bad l.length).2.2 = bad := by
  obtain ⟨h1, h2, h3⟩ := many_back hf h l.length (Nat.le_refl _)
  rw [List.take_length] at h1
  rw [List.drop_length] at h2
  exact ⟨h1, h2, h3⟩
def num1 (most : Int) (s : ByteArray) (b : Bool) : Int × ByteArray × Bool := (numV s most, numR s, numB s b most)
def pair1 (m1 m2 : Int) (s : ByteArray) (b : Bool) : (Int × Int) × ByteArray × Bool := ((numV s m1, numV (numR s) m2), numR (numR s), numB (numR s) (numB s b m1) m2)
theorem numsR_many (most : Int) (s : ByteArray) (bad : Bool) : ∀ k, numsR most s bad k = manyR (num1 most) s bad k
  | 0 => rfl
  | k + 1 => by
    have ih := numsR_many most s bad k
    rw [numsR, manyR, ih, num1]
theorem pairsR_many (m1 m2 : Int) (s : ByteArray) (bad : Bool) : ∀ k, pairsR m1 m2 s bad k = manyR (pair1 m1 m2) s bad k
  | 0 => rfl
  | k + 1 => by
    have ih := pairsR_many m1 m2 s bad k
    rw [pairsR, manyR, ih, pair1]
theorem nums_back {l : List Int} {most : Int} (hm : most < 16777216) (hl : ∀ n ∈ l, 0 ≤ n ∧ n ≤ most) {s : ByteArray} {bad : Bool} {r : List UInt8} (h : s.data.toList = nums l ++ r) : (numsR most s bad l.length).1 = l ∧ (numsR most s bad l.length).2.1.data.toList = r ∧ (numsR most s bad l.length).2.2 = bad := by
  rw [numsR_many]
  refine many_whole (f := num1 most) (W := b3) (fun n hn s b r hs => ?_) h
  obtain ⟨h1, h2, h3⟩ := numV_back hs (hl n hn).1 (by have := (hl n hn).2; omega) (hl n hn).2 b
  unfold num1
  exact ⟨h1, h2, h3⟩
theorem dotI_flat (l : List (Int × Int)) : nums (dotI l) = l.flatMap fun d => b3 d.1 ++ b3 d.2 := by
  induction l with
  | nil => rfl
  | cons d l ih => 
    unfold dotI nums at *
    simp only [List.flatMap_cons, List.flatMap_append, List.flatMap_nil, List.append_nil] at *
    rw [ih]
theorem pairs_back {l : List (Int × Int)} {m1 m2 : Int} (hm1 : m1 < 16777216) (hm2 : m2 < 16777216) (hl : ∀ d ∈ l, (0 ≤ d.1 ∧ d.1 ≤ m1) ∧ 0 ≤ d.2 ∧ d.2 ≤ m2) {s : ByteArray} {bad : Bool} {r : List UInt8} (h : s.data.toList = nums (dotI l) ++ r) : (pairsR m1 m2 s bad l.length).1 = l ∧ (pairsR m1 m2 s bad l.length).2.1.data.toList = r ∧ (pairsR m1 m2 s bad l.length).2.2 = bad := by
  rw [pairsR_many]
  rw [dotI_flat] at h
  refine many_whole (f := pair1 m1 m2) (W := fun d => b3 d.1 ++ b3 d.2) (fun d hd s b r hs => ?_) h
  rw [List.append_assoc] at hs
  obtain ⟨⟨a1, a2⟩, a3, a4⟩ := hl d hd
  obtain ⟨h1, h2, h3⟩ := numV_back hs a1 (by omega) a2 b
  obtain ⟨h4, h5, h6⟩ := numV_back h2 a3 (by omega) a4 (numB s b m1)
  unfold pair1
  refine ⟨?_, h5, h6.trans h3⟩
  dsimp only
  rw [h1, h4]
theorem kn_back {k : Kn} (hk : KnOk k) (hl : k.more.length ≤ 60) {s : ByteArray} {r : List UInt8} (bad : Bool) (h : s.data.toList = knW k ++ r) : knRd s bad = k ∧ (dotRd s bad).2.1.data.toList = r ∧ (dotRd s bad).2.2 = bad := by
  unfold knW at h
  rw [nums_append, nums_append, nums_append, nums_one, nums_one] at h
  simp only [List.append_assoc] at h
  have h5 := hk.len
  obtain ⟨a1, a2, a3⟩ := numV_back h (by omega) (by omega) (show ((k.vec.length : Nat) : Int) ≤ 5 by omega) bad
  obtain ⟨b1, b2, b3'⟩ := nums_back (most := 1000) (bad := numB s bad 5) (by decide) hk.bd a2
  have hv : vecRd s bad = numsR 1000 (numR s) (numB s bad 5) k.vec.length := by unfold vecRd; rw [a1]; simp
  rw [← hv] at b1 b2 b3'
  obtain ⟨c1, c2, c3⟩ := numV_back b2 (by omega) (by omega) (show ((k.more.length : Nat) : Int) ≤ 60 by omega) (vecRd s bad).2.2
  obtain ⟨d1, d2, d3⟩ := pairs_back (m1 := 5) (m2 := 1000) (bad := numB (vecRd s bad).2.1 (vecRd s bad).2.2 60) (by decide) (by decide) (fun d hd => by
    have h9 := (hk.dots d hd).1
    simp only [dotOk, Bool.and_eq_true, decide_eq_true_eq] at h9
    omega) c2
  have hd : dotRd s bad = pairsR 5 1000 (numR (vecRd s bad).2.1) (numB (vecRd s bad).2.1 (vecRd s bad).2.2 60) k.more.length := by unfold dotRd; rw [c1]; simp
  rw [← hd] at d1 d2 d3
  refine ⟨?_, d2, d3.trans (c3.trans (b3'.trans a3))⟩
  unfold knRd
  rw [b1, d1]
theorem cube_bd {y n : Int} (h : cubeChk y n = 0) : (0 ≤ y ∧ y ≤ 15) ∧ 0 ≤ n ∧ n ≤ 15 := by
  unfold cubeChk at h
  split at h
  · rename_i h1
    simp only [tagsB, Bool.and_eq_true, decide_eq_true_eq] at h1
    omega
  · exact absurd h (by decide)
theorem bx_back {x : Bx} (hx : bxChk x = 0) {s : ByteArray} {r : List UInt8} (bad : Bool) (h : s.data.toList = boxW x ++ r) : (bx1 s bad).1 = x ∧ (bx1 s bad).2.1.data.toList = r ∧ (bx1 s bad).2.2 = bad := by
  obtain ⟨hc, hs⟩ := bxChk_zero.1 hx
  obtain ⟨⟨y0, y1⟩, n0, n1⟩ := cube_bd hc
  obtain ⟨hl, hb⟩ := spansChk_bounds hs
  unfold boxW at h
  rw [show ([x.y, x.n, (x.sp.length : Int)] : List Int) = [x.y] ++ [x.n] ++ [(x.sp.length : Int)] from rfl, nums_append, nums_append, nums_one, nums_one, nums_one] at h
  simp only [List.append_assoc] at h
  obtain ⟨a1, a2, a3⟩ := numV_back h y0 (by omega) y1 bad
  obtain ⟨b1, b2, b3'⟩ := numV_back a2 n0 (by omega) n1 (numB s bad 15)
  obtain ⟨c1, c2, c3⟩ := numV_back b2 (by omega) (by omega) (show ((x.sp.length : Nat) : Int) ≤ 16 by omega) (numB (numR s) (numB s bad 15) 15)
  obtain ⟨d1, d2, d3⟩ := pairs_back (m1 := 32) (m2 := 32) (bad := numB (numR (numR s)) (numB (numR s) (numB s bad 15) 15) 16) (by decide) (by decide) (fun d hd => by have := hb d hd; omega) c2
  have hsp : spRd s bad = pairsR 32 32 (numR (numR (numR s))) (numB (numR (numR s)) (numB (numR s) (numB s bad 15) 15) 16) x.sp.length := by unfold spRd; rw [c1]; simp
  rw [← hsp] at d1 d2 d3
  unfold bx1 bxRd
  refine ⟨?_, d2, d3.trans (c3.trans (b3'.trans a3))⟩
  dsimp only
  rw [a1, b1, d1]
theorem fil_back {l : Bxs} (hl : fChk l = 0) {s : ByteArray} {r : List UInt8} (bad : Bool) (h : s.data.toList = nums [(l.length : Int)] ++ l.flatMap boxW ++ r) : (filRd s bad).1 = l ∧ (filRd s bad).2.1.data.toList = r ∧ (filRd s bad).2.2 = bad := by
  obtain ⟨h1, h2⟩ := fChk_zero.1 hl
  rw [nums_one, List.append_assoc] at h
  obtain ⟨a1, a2, a3⟩ := numV_back h (by omega) (by omega) (show ((l.length : Nat) : Int) ≤ 40 by omega) bad
  have hf : filRd s bad = manyR bx1 (numR s) (numB s bad 40) l.length := by unfold filRd; rw [a1]; simp
  rw [hf]
  obtain ⟨b1, b2, b3'⟩ := many_whole (f := bx1) (W := boxW) (bad := numB s bad 40) (fun x hx s b r hs => bx_back (h2 x hx) b hs) a2
  exact ⟨b1, b2, b3'.trans a3⟩
theorem gone_back {g : Gn} (hg : GnOk g) {s : ByteArray} {r : List UInt8} (bad : Bool) (h : s.data.toList = goneW g ++ r) : (gone1 s bad).1 = g ∧ (gone1 s bad).2.1.data.toList = r ∧ (gone1 s bad).2.2 = bad := by
  unfold goneW at h
  rw [List.append_assoc] at h
  obtain ⟨a1, a2, a3⟩ := text_back h (id_size hg.id) bad
  obtain ⟨b1, b2, b3'⟩ := kn_back hg.past hg.len (textB s bad) a2
  unfold gone1
  refine ⟨?_, b2, b3'.trans a3⟩
  dsimp only
  rw [a1, b1]
theorem part_back {p : Pt} (hp : PtOk p) {s : ByteArray} {r : List UInt8} (bad : Bool) (h : s.data.toList = partW p ++ r) : (part1 s bad).1 = p ∧ (part1 s bad).2.1.data.toList = r ∧ (part1 s bad).2.2 = bad := by
  unfold partW at h
  rw [List.append_assoc] at h
  obtain ⟨a1, a2, a3⟩ := fil_back hp.f bad h
  obtain ⟨k1, k2⟩ := knChk_zero.1 hp.k
  obtain ⟨b1, b2, b3'⟩ := kn_back k1 k2 (filRd s bad).2.2 a2
  unfold part1
  refine ⟨?_, b2, b3'.trans a3⟩
  dsimp only
  rw [a1, b1]
theorem ver_back {v : Ver} (hv : VerOk v) {s : ByteArray} {r : List UInt8} (bad : Bool) (h : s.data.toList = verW v ++ r) : (ver1 s bad).1 = v ∧ (ver1 s bad).2.1.data.toList = r ∧ (ver1 s bad).2.2 = bad := by
  have hd := hv.dot
  have hp := hv.pt
  have hb := hv.bd
  simp only [dotOk, Bool.and_eq_true, decide_eq_true_eq] at hd
  simp only [ptOk, tagsB, Bool.and_eq_true, decide_eq_true_eq] at hp
  unfold verW at h
  rw [show ([v.ds, v.dc, v.tg, v.nm, v.bd] : List Int) = [v.ds] ++ [v.dc] ++ [v.tg] ++ [v.nm] ++ [v.bd] from rfl, nums_append, nums_append, nums_append, nums_append, nums_one, nums_one, nums_one, nums_one, nums_one] at h
  simp only [List.append_assoc] at h
  obtain ⟨a1, a2, a3⟩ := text_back h (id_size hv.id) bad
  obtain ⟨c1, c2, c3⟩ := numV_back a2 (by omega) (by omega) (show v.ds ≤ 5 by omega) (textB s bad)
  obtain ⟨d1, d2, d3⟩ := numV_back c2 (by omega) (by omega) (show v.dc ≤ 1000 by omega) (numB (textR s) (textB s bad) 5)
  obtain ⟨e1, e2, e3⟩ := numV_back d2 (by omega) (by omega) (show v.tg ≤ 15 by omega) (numB (numR (textR s)) (numB (textR s) (textB s bad) 5) 1000)
  obtain ⟨f1, f2, f3⟩ := numV_back e2 (by omega) (by omega) (show v.nm ≤ 32 by omega) (numB (numR (numR (textR s))) (numB (numR (textR s)) (numB (textR s) (textB s bad) 5) 1000) 15)
  obtain ⟨g1, g2, g3⟩ := numV_back f2 (by omega) (by omega) (show v.bd ≤ 1000000 by omega) (numB (numR (numR (numR (textR s)))) (numB (numR (numR (textR s))) (numB (numR (textR s)) (numB (textR s) (textB s bad) 5) 1000) 15) 32)
  have hh : (verHead s bad).1.data.toList = knW v.past ++ r := by unfold verHead; dsimp only; exact g2
  have hhb : (verHead s bad).2 = bad := by unfold verHead; dsimp only; exact g3.trans (f3.trans (e3.trans (d3.trans (c3.trans a3))))
  obtain ⟨k1, k2, k3⟩ := kn_back hv.past hv.len (verHead s bad).2 hh
  unfold ver1
  dsimp only
  refine ⟨?_, k2, k3.trans hhb⟩
  rw [a1, c1, d1, e1, f1, g1, k1]
end Go.Proofs.Ythnkmjjldggecaa
namespace Go.Proofs.Ythnkmjjldggecaa
open Go.RowKit
theorem bt_back {b : Bt} (hb : BtOk b) {s : ByteArray} (h : s.data.toList = bodyW b) : btRd s = b ∧ (partsRd s).2.1 = ⟨#[]⟩ ∧ (partsRd s).2.2 = false := by
  have hvl := hb.vlen
  have hgl := hb.glen
  have hpl := hb.plen
  have hst := hb.site
  have hsm := hb.stamp
  unfold bodyW at h
  rw [show ([b.site, b.stamp, (b.vers.length : Int)] : List Int) = [b.site] ++ [b.stamp] ++ [(b.vers.length : Int)] from rfl, nums_append, nums_append, nums_one, nums_one, nums_one, nums_one, nums_one] at h
  simp only [List.append_assoc] at h
  obtain ⟨a1, a2, a3⟩ := numV_back h (by omega) (by omega) (show b.site ≤ 5 by omega) false
  obtain ⟨c1, c2, c3⟩ := numV_back a2 (by omega) (by omega) (show b.stamp ≤ 1000000 by omega) (numB s false 5)
  have k0 : (stampS s).data.toList = b3 (b.vers.length : Nat) ++ (b.vers.flatMap verW ++ (b3 (b.gone.length : Nat) ++ (b.gone.flatMap goneW ++ (b3 (b.parts.length : Nat) ++ b.parts.flatMap partW)))) := by unfold stampS; exact c2
  have k1 : stampB s = false := by unfold stampB; exact c3.trans a3
  obtain ⟨d1, d2, d3⟩ := numV_back k0 (by omega) (by omega) (show ((b.vers.length : Nat) : Int) ≤ 60 by omega) (stampB s)
  obtain ⟨e1, e2, e3⟩ := many_whole (f := ver1) (W := verW) (bad := numB (stampS s) (stampB s) 60) (fun x hx s b r hs => ver_back (hb.vers x hx) b hs) d2
  have hv : versRd s = manyR ver1 (numR (stampS s)) (numB (stampS s) (stampB s) 60) b.vers.length := by unfold versRd; rw [d1]; simp
  rw [← hv] at e1 e2 e3
  obtain ⟨f1, f2, f3⟩ := numV_back e2 (by omega) (by omega) (show ((b.gone.length : Nat) : Int) ≤ 60 by omega) (versRd s).2.2
  obtain ⟨g1, g2, g3⟩ := many_whole (f := gone1) (W := goneW) (bad := numB (versRd s).2.1 (versRd s).2.2 60) (fun x hx s b r hs => gone_back (hb.gone x hx) b hs) f2
  have hg : gonesRd s = manyR gone1 (numR (versRd s).2.1) (numB (versRd s).2.1 (versRd s).2.2 60) b.gone.length := by unfold gonesRd; rw [f1]; simp
  rw [← hg] at g1 g2 g3
  obtain ⟨i1, i2, i3⟩ := numV_back g2 (by omega) (by omega) (show ((b.parts.length : Nat) : Int) ≤ 30 by omega) (gonesRd s).2.2
  obtain ⟨j1, j2, j3⟩ := many_whole (f := part1) (W := partW) (bad := numB (gonesRd s).2.1 (gonesRd s).2.2 30) (r := []) (fun x hx s b r hs => part_back (hb.parts x hx) b hs) (by rw [List.append_nil]; exact i2)
  have hp : partsRd s = manyR part1 (numR (gonesRd s).2.1) (numB (gonesRd s).2.1 (gonesRd s).2.2 30) b.parts.length := by unfold partsRd; rw [i1]; simp
  rw [← hp] at j1 j2 j3
  refine ⟨?_, ?_, j3.trans (i3.trans (g3.trans (f3.trans (e3.trans (d3.trans k1)))))⟩
  · unfold btRd
    rw [a1, c1, e1, g1, j1]
  · have := bytes_list (partsRd s).2.1
    rw [j2] at this
    exact this.symm
theorem pack_ok {b : Bt} (h : packE b = 0) : BtOk b := by
  unfold packE at h
  split at h
  · rename_i h1; exact absurd h h1
  · rename_i h1; exact batchChk_zero.1 (by omega)
/-- A packed batch is unpacked as it was. -/
theorem pack_back {b : Bt} (h : packE b = 0) : upE (packS b) = 0 ∧ upB (packS b) = b := by
  have hb := pack_ok h
  obtain ⟨h1, h2, h3⟩ := pack_size h
  have hg := pack_good h
  have h4 := split3 (s := packS b) (by omega)
  have hl : (packS b).data.toList = bodyW b ++ b3 (sumOf ⟨(bodyW b).toArray⟩) := by rw [h3]; unfold fullW; rw [nums_one]
  have h5 : (upT (packS b)).data.toList = bodyW b := by
    have h6 : (upT (packS b)).data.toList.length = (bodyW b).length := by
      have h7 := congrArg List.length h4
      rw [hl] at h7
      simp only [List.length_append] at h7
      have h8 : ∀ n, (b3 n).length = 3 := fun _ => rfl
      rw [h8, h8] at h7
      omega
    rw [hl] at h4
    exact (List.append_inj h4.symm h6).1
  obtain ⟨k1, k2, k3⟩ := bt_back hb h5
  have hbad : upBad (upT (packS b)) = false := by
    unfold upBad
    rw [k1, k2, k3, batchChk_zero.2 hb]; simp
  have hE : upE (packS b) = 0 := by
    unfold upE
    rw [if_neg (by omega), if_neg (by omega), if_neg (by rw [hg]; simp), if_neg (by rw [hbad]; decide)]
  exact ⟨hE, by unfold upB; rw [if_pos hE, k1]⟩
theorem pack_inj {b c : Bt} (hb : packE b = 0) (hc : packE c = 0) : packS b = packS c ↔ b = c := by
  constructor
  · intro h
    have h1 := (pack_back hb).2
    rw [h, (pack_back hc).2] at h1
    exact h1.symm
  · rintro rfl; rfl
end Go.Proofs.Ythnkmjjldggecaa
namespace Go.Proofs.Ythnkmjjldggecaa
open Go.RowKit
theorem within_self {k : Kn} (hk : knChk k = 0) : knWithinB k k = true := by
  obtain ⟨h1, h2⟩ := knChk_zero.1 hk
  have h3 : knTwo k k = 0 := by unfold knTwo; simp [hk]
  unfold knWithinB knWithin
  rw [if_pos h3, decide_eq_true_eq]
  exact (formK_uniq h1 fun s c _ _ _ _ => by unfold orK; simp).symm
theorem sameE_self {f : Bxs} (hf : fChk f = 0) : sameE f f = true := by
  have h3 : fTwo f f = 0 := by unfold fTwo; simp [hf]
  unfold sameE
  rw [if_pos h3]
  exact (allPt_iff _).2 fun t n _ _ => by simp
set_option maxRecDepth 100000 in
set_option maxHeartbeats 2000000 in
theorem wsame_c (u x y z : Value) (k : Kn) (w : World) (ha : KnAt w u x k) (hb : KnAt w y z k) (hk : knChk k = 0) :
    Calls Try.prog 124 #[.agg #[u, x], .agg #[y, z]] w fun e w' => e = .returned (.bool true) ∧ Below w.heap.size w w' := by
  obtain ⟨xa, ca, rfl⟩ := ha.vec.shape
  obtain ⟨ya, da, rfl⟩ := ha.more.shape
  obtain ⟨xb, cb, rfl⟩ := hb.vec.shape
  obtain ⟨yb, db, rfl⟩ := hb.more.shape
  have HBL := Lib.hid (show Below w.heap.size w ((w.alloc (.cells #[.slice xa k.vec.length ca, .slice ya k.more.length da] 81)).alloc (.cells #[.slice xb k.vec.length cb, .slice yb k.more.length db] 81)) from (bal _).alloc (by simp) _)
  have K1 := Lib.hid (show ((w.alloc (.cells #[.slice xa k.vec.length ca, .slice ya k.more.length da] 81)).alloc (.cells #[.slice xb k.vec.length cb, .slice yb k.more.length db] 81)).heap[w.heap.size]? = some (Obj.cells #[.slice xa k.vec.length ca, .slice ya k.more.length da] 81 (0, 0)) from alloc_keep _ (alloc_new _ _ _ _ rfl))
  have K2 := Lib.hid (alloc_new (w.alloc (.cells #[.slice xa k.vec.length ca, .slice ya k.more.length da] 81)) #[.slice xb k.vec.length cb, .slice yb k.more.length db] 81 (w.heap.size + 1) (by simp))
  have HW := Lib.hid (kwithin_c _ _ _ _ k k _ (ha.below HBL.out) (hb.below HBL.out))
  have HA := Lib.hid (ha.below HBL.out)
  have HB := Lib.hid (hb.below HBL.out)
  have HS := Lib.hid (within_self hk)
  rw [HS.out] at HW
  clear ha hb hk
  go_enter Try.func124, Try.ntmps124
  go_wp2_with fail
  (with_reducible refine (HW.out).mono ?_)
  rintro e w1 ⟨rfl, hb1⟩
  have HB1 := Lib.hid (bstep HBL.out hb1)
  have HW2 := Lib.hid (kwithin_c _ _ _ _ k k _ (HB.out.below hb1) (HA.out.below hb1))
  rw [HS.out] at HW2
  have L1 := Lib.hid (below_keep hb1 K1.out)
  have L2 := Lib.hid (below_keep hb1 K2.out)
  have x0 := cell_of_block (j := 0) L1.out rfl
  have x1 := cell_of_block (j := 1) L1.out rfl
  have y0 := cell_of_block (j := 0) L2.out rfl
  have y1 := cell_of_block (j := 1) L2.out rfl
  have l1 := hlt_of L1.out
  have l2 := hlt_of L2.out
  clear hb1 HW HBL K1 K2 L1 L2 HA HB HS
  go_wp2_with fail
  (with_reducible refine (HW2.out).mono ?_)
  rintro e w2 ⟨rfl, hb2⟩
  have HB2 := Lib.hid (bstep HB1.out hb2)
  clear hb2 HW2 x0 x1 y0 y1 l1 l2
  go_wp2
  go_ret
  exact ⟨rfl, HB2.out⟩
end Go.Proofs.Ythnkmjjldggecaa
namespace Go.Proofs.Ythnkmjjldggecaa
open Go.RowKit
theorem two_self {f : Bxs} (hf : fChk f = 0) : fTwo f f = 0 := by unfold fTwo; simp [hf]
set_option maxRecDepth 100000 in
set_option maxHeartbeats 8000000 in
theorem sameW_c (vv gv pv vv2 gv2 pv2 : Value) (b : Bt) (w : World) (ha : BtAt w vv gv pv b) (hb : BtAt w vv2 gv2 pv2 b) (hok : BtOk b) :
    Calls Try.prog 60 #[.agg #[.int .i64 b.site, .int .i64 b.stamp, vv, gv, pv], .agg #[.int .i64 b.site, .int .i64 b.stamp, vv2, gv2, pv2]] w fun e w' => e = .returned (.tuple #[.bool true, .int .i64 0]) ∧ Below w.heap.size w w' := by
  obtain ⟨va, vc, rfl⟩ := ha.vers.shape
  obtain ⟨ga, gc, rfl⟩ := ha.gone.shape
  obtain ⟨pa, pc, rfl⟩ := ha.parts.shape
  obtain ⟨va2, vc2, rfl⟩ := hb.vers.shape
  obtain ⟨ga2, gc2, rfl⟩ := hb.gone.shape
  obtain ⟨pa2, pc2, rfl⟩ := hb.parts.shape
  have HZ := Lib.hid (batchChk_zero.2 hok)
  obtain ⟨s, t, V, G, P⟩ := b
  simp only at ha hb hok ⊢
  obtain ⟨W, hW⟩ : ∃ W, W = (w.alloc (.cells #[.int .i64 s, .int .i64 t, .slice va V.length vc, .slice ga G.length gc, .slice pa P.length pc] 64)).alloc (.cells #[.int .i64 s, .int .i64 t, .slice va2 V.length vc2, .slice ga2 G.length gc2, .slice pa2 P.length pc2] 64) := ⟨_, rfl⟩
  have hbel : Below w.heap.size w W := by rw [hW]; exact (bal _).alloc (by simp) _
  have K1 := Lib.hid (show W.heap[w.heap.size]? = some (Obj.cells #[.int .i64 s, .int .i64 t, .slice va V.length vc, .slice ga G.length gc, .slice pa P.length pc] 64 (0, 0)) by rw [hW]; exact alloc_keep _ (alloc_new _ _ _ _ rfl))
  have K2 := Lib.hid (show W.heap[w.heap.size + 1]? = some (Obj.cells #[.int .i64 s, .int .i64 t, .slice va2 V.length vc2, .slice ga2 G.length gc2, .slice pa2 P.length pc2] 64 (0, 0)) by rw [hW]; exact alloc_new _ _ _ _ (by simp))
  have HBEL := Lib.hid hbel
  have HA := Lib.hid (ha.below hbel)
  have HB := Lib.hid (hb.below hbel)
  have HVA := Lib.hid (show RowAt verE W (.slice va V.length vc) V from HA.out.vers)
  have HVB := Lib.hid (show RowAt verE W (.slice va2 V.length vc2) V from HB.out.vers)
  have HGA := Lib.hid (show RowAt goneE W (.slice ga G.length gc) G from HA.out.gone)
  have HGB := Lib.hid (show RowAt goneE W (.slice ga2 G.length gc2) G from HB.out.gone)
  have HPA := Lib.hid (show RowAt partE W (.slice pa P.length pc) P from HA.out.parts)
  have HPB := Lib.hid (show RowAt partE W (.slice pa2 P.length pc2) P from HB.out.parts)
  have HOV := Lib.hid (show ∀ v ∈ V, VerOk v from hok.vers)
  have HOG := Lib.hid (show ∀ g ∈ G, GnOk g from hok.gone)
  have HOP := Lib.hid (show ∀ x ∈ P, PtOk x from hok.parts)
  have hvl : V.length ≤ 60 := hok.vlen
  have hgl : G.length ≤ 60 := hok.glen
  have hpl : P.length ≤ 30 := hok.plen
  have HC := Lib.hid (batchChk_c _ _ _ ⟨s, t, V, G, P⟩ W HA.out)
  rw [HZ.out] at HC
  clear ha hb hok hbel
  have HC2 := Lib.hid (fun w' (h : Below W.heap.size W w') => show Calls Try.prog 40 #[.agg #[.int .i64 s, .int .i64 t, .slice va2 V.length vc2, .slice ga2 G.length gc2, .slice pa2 P.length pc2]] w' fun e w'' => e = .returned (.int .i64 0) ∧ Below w'.heap.size w' w'' from by
    have h1 := batchChk_c _ _ _ ⟨s, t, V, G, P⟩ w' (HB.out.below h)
    rwa [HZ.out] at h1)
  go_enter Try.func60, Try.ntmps60
  go_wp2_with fail
  rw [← hW]
  clear hW
  (with_reducible refine (HC.out).mono ?_)
  rintro e w1 ⟨rfl, hb1⟩
  have HB1 := Lib.hid (show Below W.heap.size W w1 from hb1)
  have k1 := below_keep hb1 K1.out
  have k2 := below_keep hb1 K2.out
  have y0 := cell_of_block (j := 0) k2 rfl
  have y1 := cell_of_block (j := 1) k2 rfl
  have y2 := cell_of_block (j := 2) k2 rfl
  have y3 := cell_of_block (j := 3) k2 rfl
  have y4 := cell_of_block (j := 4) k2 rfl
  have yl := hlt_of k2
  clear k1 k2 hb1 HC
  go_wp2_with fail
  (with_reducible refine (HC2.out _ HB1.out).mono ?_)
  rintro e w2 ⟨rfl, hb2⟩
  have HB2 := Lib.hid (bstep HB1.out hb2)
  have k1 := below_keep HB2.out K1.out
  have k2 := below_keep HB2.out K2.out
  clear hb2 HC2 HB1 y0 y1 y2 y3 y4 yl HZ
  have x0 := cell_of_block (j := 0) k1 rfl
  have x1 := cell_of_block (j := 1) k1 rfl
  have x2 := cell_of_block (j := 2) k1 rfl
  have x3 := cell_of_block (j := 3) k1 rfl
  have x4 := cell_of_block (j := 4) k1 rfl
  have xl := hlt_of k1
  have y0 := cell_of_block (j := 0) k2 rfl
  have y1 := cell_of_block (j := 1) k2 rfl
  have y2 := cell_of_block (j := 2) k2 rfl
  have y3 := cell_of_block (j := 3) k2 rfl
  have y4 := cell_of_block (j := 4) k2 rfl
  have yl := hlt_of k2
  clear k1 k2
  go_wp2
  clear x0 x1 x2 x3 x4 xl y0 y1 y2 y3 y4 yl
  go_loopw [67] (fun i wr => ∃ k : Nat, k ≤ P.length ∧ i = .int .i64 k ∧ Below W.heap.size W wr) (fun i _ => P.length - (intOf i).toNat)
  case atStart => exact ⟨0, Nat.zero_le _, rfl, HB2.out⟩
  case round =>
    obtain ⟨k, hk, rfl, hb⟩ := hrel
    have HBR := Lib.hid hb
    clear HB2 hb
    by_cases hlt : k < P.length
    · obtain ⟨a', cap', ha', hcap1, hlen1, -, hvl1⟩ := HPA.out.open_
      simp only [Value.slice.injEq, true_and] at ha'
      obtain ⟨rfl, rfl⟩ := ha'
      obtain ⟨a'', cap'', ha'', hcap2, hlen2, -, hvl2⟩ := HPB.out.open_
      simp only [Value.slice.injEq, true_and] at ha''
      obtain ⟨rfl, rfl⟩ := ha''
      rcases hvl1 with hnil | ⟨b1, off1, rfl, hb1, hc1⟩
      · rw [hnil] at hlt; simp at hlt
      rcases hvl2 with hnil | ⟨b2, off2, rfl, hb2, hc2⟩
      · rw [hnil] at hlt; simp at hlt
      obtain ⟨c1, hE1, hcc1⟩ := hc1 k hlt
      obtain ⟨c2, hE2, hcc2⟩ := hc2 k hlt
      clear hc1 hc2
      obtain ⟨f1, u1, z1, rfl, hf1, hk1⟩ := hE1
      obtain ⟨f2, u2, z2, rfl, hf2, hk2⟩ := hE2
      have X0 := Lib.hid (hcc1 0 _ rfl)
      have X1 := Lib.hid (hcc1 1 _ rfl)
      have X2 := Lib.hid (hcc1 2 _ rfl)
      have Y0 := Lib.hid (hcc2 0 _ rfl)
      have Y1 := Lib.hid (hcc2 1 _ rfl)
      have Y2 := Lib.hid (hcc2 2 _ rfl)
      have HOK := HOP.out _ (List.getElem_mem hlt)
      have HF := Lib.hid (fun wx (hg : Below W.heap.size W wx) => show Calls Try.prog 123 #[f1, f2] wx fun e w' => e = .returned (.tuple #[.bool true, .int .i64 0]) ∧ Below wx.heap.size wx w' from by
        have h1 := samef_c _ _ _ _ wx (hf1.below hg) (hf2.below hg)
        rwa [sameE_self HOK.f, two_self HOK.f] at h1)
      have HS := Lib.hid (fun wx (hg : Below W.heap.size W wx) => wsame_c _ _ _ _ _ wx (hk1.below hg) (hk2.below hg) HOK.k)
      clear hcc1 hcc2 hf1 hf2 hk1 hk2 HOK
      have hltb : decide ((k : Int) < (P.length : Int)) = true := by simp; omega
      have M1 := Lib.hid hb1
      have M2 := Lib.hid hb2
      simp only [show partE.size = 3 from rfl, Nat.add_zero] at X0 X1 X2 Y0 Y1 Y2
      try rw [show off1 + (k * 3 + 1) = off1 + k * 3 + 1 by omega] at X1
      try rw [show off1 + (k * 3 + 2) = off1 + k * 3 + 2 by omega] at X2
      try rw [show off2 + (k * 3 + 1) = off2 + k * 3 + 1 by omega] at Y1
      try rw [show off2 + (k * 3 + 2) = off2 + k * 3 + 2 by omega] at Y2
      go_wp2
      refine Cl.region0 189 rfl [] (fun _ => True) (fun _ => []) (fun jq v ww => match jq with | 0 => v = .pointer (some ⟨w.heap.size, 4, none⟩) | 1 => v = .slice (some ⟨b1, off1, none⟩) P.length pc | 2 => v = .int .i64 (k : Nat) | 3 => v = .pointer (some ⟨b1, off1 + k * 3, none⟩) | 4 => v = .pointer (some ⟨b1, off1 + k * 3, none⟩) | 5 => v = f1 | 6 => v = .pointer (some ⟨w.heap.size + 1, 4, none⟩) | 7 => v = .slice (some ⟨b2, off2, none⟩) P.length pc2 | 8 => v = .int .i64 (k : Nat) | 9 => v = .pointer (some ⟨b2, off2 + k * 3, none⟩) | 10 => v = .pointer (some ⟨b2, off2 + k * 3, none⟩) | 11 => v = f2 | 12 => v = .tuple #[.bool true, .int .i64 0] | 13 => v = .tuple #[.bool true, .int .i64 0] | 14 => v = .bool true | 15 => v = .int .i64 0 | 16 => v = .bool true | 17 => v = .int .i64 0 | _ => True) (fun ww => Below W.heap.size W ww) (fun jq ww ww' => Below ww.heap.size ww ww') Try.mixed (by decide +kernel) (HBR.out).drew trivial (fun q r v w w' _ _ _ h _ => h) (fun _ _ _ _ _ _ => trivial) ?_ ?_
      · refine ⟨?_, ?_, ?_, ?_, ?_, ?_, ?_, ?_, ?_, ?_, ?_, ?_, ?_, ?_, ?_, ?_, ?_, ?_, trivial⟩
        · intro x wx hG
          have f2 := hG.old 2 (by decide +kernel)
          have hg := hG.good
          clear hG
          go_wp2
          exact ⟨_, rfl, rfl, hg, Below.refl _ _⟩
        · intro x wx hG
          have g0 : (x.tmps.getD 71 undef) = .pointer (some ⟨w.heap.size, 4, none⟩) := hG.claims 0 _ rfl (by decide +kernel) (by decide +kernel)
          have hg := hG.good
          clear hG
          have kb := below_keep hg K1.out
          have kc := cell_of_block (j := 4) kb rfl
          have kl := hlt_of kb
          clear kb
          go_wp2
          exact ⟨_, rfl, rfl, hg, Below.refl _ _⟩
        · intro x wx hG
          have f8 := hG.old 8 (by decide +kernel)
          have hg := hG.good
          clear hG
          go_wp2
          exact ⟨_, rfl, rfl, hg, Below.refl _ _⟩
        · intro x wx hG
          have g1 : (x.tmps.getD 72 undef) = .slice (some ⟨b1, off1, none⟩) P.length pc := hG.claims 1 _ rfl (by decide +kernel) (by decide +kernel)
          have g2 : (x.tmps.getD 73 undef) = .int .i64 (k : Nat) := hG.claims 2 _ rfl (by decide +kernel) (by decide +kernel)
          have hg := hG.good
          clear hG
          have hlt9 := hlt
          have hl1 := Nat.lt_of_lt_of_le M1.out hg.size
          have hl2 := Nat.lt_of_lt_of_le M2.out hg.size
          go_wp2
          exact ⟨_, rfl, rfl, hg, Below.refl _ _⟩
        · intro x wx hG
          have g3 : (x.tmps.getD 74 undef) = .pointer (some ⟨b1, off1 + k * 3, none⟩) := hG.claims 3 _ rfl (by decide +kernel) (by decide +kernel)
          have hg := hG.good
          clear hG
          go_wp2
          exact ⟨_, rfl, rfl, hg, Below.refl _ _⟩
        · intro x wx hG
          have g4 : (x.tmps.getD 75 undef) = .pointer (some ⟨b1, off1 + k * 3, none⟩) := hG.claims 4 _ rfl (by decide +kernel) (by decide +kernel)
          have hg := hG.good
          clear hG
          have c_X0 := ckeep hg X0.out
          go_wp2
          exact ⟨_, rfl, rfl, hg, Below.refl _ _⟩
        · intro x wx hG
          have f3 := hG.old 3 (by decide +kernel)
          have hg := hG.good
          clear hG
          go_wp2
          exact ⟨_, rfl, rfl, hg, Below.refl _ _⟩
        · intro x wx hG
          have g6 : (x.tmps.getD 77 undef) = .pointer (some ⟨w.heap.size + 1, 4, none⟩) := hG.claims 6 _ rfl (by decide +kernel) (by decide +kernel)
          have hg := hG.good
          clear hG
          have kb := below_keep hg K2.out
          have kc := cell_of_block (j := 4) kb rfl
          have kl := hlt_of kb
          clear kb
          go_wp2
          exact ⟨_, rfl, rfl, hg, Below.refl _ _⟩
        · intro x wx hG
          have f8 := hG.old 8 (by decide +kernel)
          have hg := hG.good
          clear hG
          go_wp2
          exact ⟨_, rfl, rfl, hg, Below.refl _ _⟩
        · intro x wx hG
          have g7 : (x.tmps.getD 78 undef) = .slice (some ⟨b2, off2, none⟩) P.length pc2 := hG.claims 7 _ rfl (by decide +kernel) (by decide +kernel)
          have g8 : (x.tmps.getD 79 undef) = .int .i64 (k : Nat) := hG.claims 8 _ rfl (by decide +kernel) (by decide +kernel)
          have hg := hG.good
          clear hG
          have hlt9 := hlt
          have hl1 := Nat.lt_of_lt_of_le M1.out hg.size
          have hl2 := Nat.lt_of_lt_of_le M2.out hg.size
          go_wp2
          exact ⟨_, rfl, rfl, hg, Below.refl _ _⟩
        · intro x wx hG
          have g9 : (x.tmps.getD 80 undef) = .pointer (some ⟨b2, off2 + k * 3, none⟩) := hG.claims 9 _ rfl (by decide +kernel) (by decide +kernel)
          have hg := hG.good
          clear hG
          go_wp2
          exact ⟨_, rfl, rfl, hg, Below.refl _ _⟩
        · intro x wx hG
          have g10 : (x.tmps.getD 81 undef) = .pointer (some ⟨b2, off2 + k * 3, none⟩) := hG.claims 10 _ rfl (by decide +kernel) (by decide +kernel)
          have hg := hG.good
          clear hG
          have c_Y0 := ckeep hg Y0.out
          go_wp2
          exact ⟨_, rfl, rfl, hg, Below.refl _ _⟩
        · intro x wx hG
          have g5 : (x.tmps.getD 76 undef) = f1 := hG.claims 5 _ rfl (by decide +kernel) (by decide +kernel)
          have g11 : (x.tmps.getD 82 undef) = f2 := hG.claims 11 _ rfl (by decide +kernel) (by decide +kernel)
          have hg := hG.good
          clear hG
          go_wp2_with fail
          (with_reducible refine (HF.out _ hg).mono ?_)
          rintro e wq ⟨rfl, hb⟩
          go_wp2
          exact ⟨_, rfl, rfl, bstep hg hb, hb⟩
        · intro x wx hG
          have g12 : (x.tmps.getD 83 undef) = .tuple #[.bool true, .int .i64 0] := hG.claims 12 _ rfl (by decide +kernel) (by decide +kernel)
          have hg := hG.good
          clear hG
          go_wp2
          exact ⟨_, rfl, rfl, hg, Below.refl _ _⟩
        · intro x wx hG
          have g13 : (x.tmps.getD 70 undef) = .tuple #[.bool true, .int .i64 0] := hG.claims 13 _ rfl (by decide +kernel) (by decide +kernel)
          have hg := hG.good
          clear hG
          go_wp2
          exact ⟨_, rfl, rfl, hg, Below.refl _ _⟩
        · intro x wx hG
          have g13 : (x.tmps.getD 70 undef) = .tuple #[.bool true, .int .i64 0] := hG.claims 13 _ rfl (by decide +kernel) (by decide +kernel)
          have hg := hG.good
          clear hG
          go_wp2
          exact ⟨_, rfl, rfl, hg, Below.refl _ _⟩
        · intro x wx hG
          have g14 : (x.tmps.getD 84 undef) = .bool true := hG.claims 14 _ rfl (by decide +kernel) (by decide +kernel)
          have hg := hG.good
          clear hG
          go_wp2
          exact ⟨_, rfl, rfl, hg, Below.refl _ _⟩
        · intro x wx hG
          have g15 : (x.tmps.getD 85 undef) = .int .i64 0 := hG.claims 15 _ rfl (by decide +kernel) (by decide +kernel)
          have hg := hG.good
          clear hG
          go_wp2
          exact ⟨_, rfl, rfl, hg, Below.refl _ _⟩
      · intro vals wz hg hF
        obtain ⟨g0, g1, g2, g3, g4, g5, g6, g7, g8, g9, g10, g11, g12, g13, g14, g15, g16, g17, -⟩ := hF
        have e0 : vals 0 = .pointer (some ⟨w.heap.size, 4, none⟩) := g0 rfl
        have e1 : vals 1 = .slice (some ⟨b1, off1, none⟩) P.length pc := g1 rfl
        have e2 : vals 2 = .int .i64 (k : Nat) := g2 rfl
        have e3 : vals 3 = .pointer (some ⟨b1, off1 + k * 3, none⟩) := g3 rfl
        have e4 : vals 4 = .pointer (some ⟨b1, off1 + k * 3, none⟩) := g4 rfl
        have e5 : vals 5 = f1 := g5 rfl
        have e6 : vals 6 = .pointer (some ⟨w.heap.size + 1, 4, none⟩) := g6 rfl
        have e7 : vals 7 = .slice (some ⟨b2, off2, none⟩) P.length pc2 := g7 rfl
        have e8 : vals 8 = .int .i64 (k : Nat) := g8 rfl
        have e9 : vals 9 = .pointer (some ⟨b2, off2 + k * 3, none⟩) := g9 rfl
        have e10 : vals 10 = .pointer (some ⟨b2, off2 + k * 3, none⟩) := g10 rfl
        have e11 : vals 11 = f2 := g11 rfl
        have e12 : vals 12 = .tuple #[.bool true, .int .i64 0] := g12 rfl
        have e13 : vals 13 = .tuple #[.bool true, .int .i64 0] := g13 rfl
        have e14 : vals 14 = .bool true := g14 rfl
        have e15 : vals 15 = .int .i64 0 := g15 rfl
        have e16 : vals 16 = .bool true := g16 rfl
        have e17 : vals 17 = .int .i64 0 := g17 rfl
        simp only [Cl.puts, e0, e1, e2, e3, e4, e5, e6, e7, e8, e9, e10, e11, e12, e13, e14, e15, e16, e17]
        clear e0 e1 e2 e3 e4 e5 e6 e7 e8 e9 e10 e11 e12 e13 e14 e15 e16 e17 g0 g1 g2 g3 g4 g5 g6 g7 g8 g9 g10 g11 g12 g13 g14 g15 g16 g17
        go_simp
        have HBR1 := Lib.hid (show Below W.heap.size W wz from hg)
        clear hg HBR HF X0 Y0
        go_wp2
        refine Cl.region0 189 rfl [] (fun _ => True) (fun _ => []) (fun jq v ww => match jq with | 0 => v = .bool true | 1 => v = .bool false | 2 => v = .bool false | 3 => v = .pointer (some ⟨w.heap.size, 4, none⟩) | 4 => v = .slice (some ⟨b1, off1, none⟩) P.length pc | 5 => v = .int .i64 (k : Nat) | 6 => v = .pointer (some ⟨b1, off1 + k * 3, none⟩) | 7 => v = .pointer (some ⟨b1, off1 + k * 3 + 1, none⟩) | 8 => v = .agg #[u1, z1] | 9 => v = .pointer (some ⟨w.heap.size + 1, 4, none⟩) | 10 => v = .slice (some ⟨b2, off2, none⟩) P.length pc2 | 11 => v = .int .i64 (k : Nat) | 12 => v = .pointer (some ⟨b2, off2 + k * 3, none⟩) | 13 => v = .pointer (some ⟨b2, off2 + k * 3 + 1, none⟩) | 14 => v = .agg #[u2, z2] | 15 => v = .bool true | 16 => v = .bool false | 17 => v = .bool false | _ => True) (fun ww => Below W.heap.size W ww) (fun jq ww ww' => Below ww.heap.size ww ww') Try.mixed (by decide +kernel) (HBR1.out).drew trivial (fun q r v w w' _ _ _ h _ => h) (fun _ _ _ _ _ _ => trivial) ?_ ?_
        · refine ⟨?_, ?_, ?_, ?_, ?_, ?_, ?_, ?_, ?_, ?_, ?_, ?_, ?_, ?_, ?_, ?_, ?_, ?_, trivial⟩
          · intro x wx hG
            have f9 := hG.old 9 (by decide +kernel)
            have hg := hG.good
            clear hG
            go_wp2
            exact ⟨_, rfl, rfl, hg, Below.refl _ _⟩
          · intro x wx hG
            have g0 : (x.tmps.getD 86 undef) = .bool true := hG.claims 0 _ rfl (by decide +kernel) (by decide +kernel)
            have hg := hG.good
            clear hG
            go_wp2
            exact ⟨_, rfl, rfl, hg, Below.refl _ _⟩
          · intro x wx hG
            have g1 : (x.tmps.getD 87 undef) = .bool false := hG.claims 1 _ rfl (by decide +kernel) (by decide +kernel)
            have hg := hG.good
            clear hG
            go_wp2
            exact ⟨_, rfl, rfl, hg, Below.refl _ _⟩
          · intro x wx hG
            have f2 := hG.old 2 (by decide +kernel)
            have gg : (x.tmps.getD 88 undef) = .bool false := hG.claims 2 _ rfl (by decide +kernel) (by decide +kernel)
            replace gg := Cl.opt (hG.size.trans (show _ = 189 from rfl)) (by decide) gg
            have hg := hG.good
            clear hG
            go_wp2
            exact ⟨_, rfl, rfl, hg, Below.refl _ _⟩
          · intro x wx hG
            have g3 : (x.tmps.getD 89 undef) = .pointer (some ⟨w.heap.size, 4, none⟩) := hG.claims 3 _ rfl (by decide +kernel) (by decide +kernel)
            have gg : (x.tmps.getD 88 undef) = .bool false := hG.claims 2 _ rfl (by decide +kernel) (by decide +kernel)
            replace gg := Cl.opt (hG.size.trans (show _ = 189 from rfl)) (by decide) gg
            have hg := hG.good
            clear hG
            have kb := below_keep hg K1.out
            have kc := cell_of_block (j := 4) kb rfl
            have kl := hlt_of kb
            clear kb
            go_wp2
            exact ⟨_, rfl, rfl, hg, Below.refl _ _⟩
          · intro x wx hG
            have f8 := hG.old 8 (by decide +kernel)
            have gg : (x.tmps.getD 88 undef) = .bool false := hG.claims 2 _ rfl (by decide +kernel) (by decide +kernel)
            replace gg := Cl.opt (hG.size.trans (show _ = 189 from rfl)) (by decide) gg
            have hg := hG.good
            clear hG
            go_wp2
            exact ⟨_, rfl, rfl, hg, Below.refl _ _⟩
          · intro x wx hG
            have g4 : (x.tmps.getD 90 undef) = .slice (some ⟨b1, off1, none⟩) P.length pc := hG.claims 4 _ rfl (by decide +kernel) (by decide +kernel)
            have g5 : (x.tmps.getD 91 undef) = .int .i64 (k : Nat) := hG.claims 5 _ rfl (by decide +kernel) (by decide +kernel)
            have gg : (x.tmps.getD 88 undef) = .bool false := hG.claims 2 _ rfl (by decide +kernel) (by decide +kernel)
            replace gg := Cl.opt (hG.size.trans (show _ = 189 from rfl)) (by decide) gg
            have hg := hG.good
            clear hG
            have hlt9 := hlt
            have hl1 := Nat.lt_of_lt_of_le M1.out hg.size
            have hl2 := Nat.lt_of_lt_of_le M2.out hg.size
            go_wp2
            exact ⟨_, rfl, rfl, hg, Below.refl _ _⟩
          · intro x wx hG
            have g6 : (x.tmps.getD 92 undef) = .pointer (some ⟨b1, off1 + k * 3, none⟩) := hG.claims 6 _ rfl (by decide +kernel) (by decide +kernel)
            have gg : (x.tmps.getD 88 undef) = .bool false := hG.claims 2 _ rfl (by decide +kernel) (by decide +kernel)
            replace gg := Cl.opt (hG.size.trans (show _ = 189 from rfl)) (by decide) gg
            have hg := hG.good
            clear hG
            go_wp2
            exact ⟨_, rfl, rfl, hg, Below.refl _ _⟩
          · intro x wx hG
            have g7 : (x.tmps.getD 93 undef) = .pointer (some ⟨b1, off1 + k * 3 + 1, none⟩) := hG.claims 7 _ rfl (by decide +kernel) (by decide +kernel)
            have gg : (x.tmps.getD 88 undef) = .bool false := hG.claims 2 _ rfl (by decide +kernel) (by decide +kernel)
            replace gg := Cl.opt (hG.size.trans (show _ = 189 from rfl)) (by decide) gg
            have hg := hG.good
            clear hG
            have c_X1 := ckeep hg X1.out
            have c_X2 := ckeep hg X2.out
            go_wp2
            exact ⟨_, rfl, rfl, hg, Below.refl _ _⟩
          · intro x wx hG
            have f3 := hG.old 3 (by decide +kernel)
            have gg : (x.tmps.getD 88 undef) = .bool false := hG.claims 2 _ rfl (by decide +kernel) (by decide +kernel)
            replace gg := Cl.opt (hG.size.trans (show _ = 189 from rfl)) (by decide) gg
            have hg := hG.good
            clear hG
            go_wp2
            exact ⟨_, rfl, rfl, hg, Below.refl _ _⟩
          · intro x wx hG
            have g9 : (x.tmps.getD 95 undef) = .pointer (some ⟨w.heap.size + 1, 4, none⟩) := hG.claims 9 _ rfl (by decide +kernel) (by decide +kernel)
            have gg : (x.tmps.getD 88 undef) = .bool false := hG.claims 2 _ rfl (by decide +kernel) (by decide +kernel)
            replace gg := Cl.opt (hG.size.trans (show _ = 189 from rfl)) (by decide) gg
            have hg := hG.good
            clear hG
            have kb := below_keep hg K2.out
            have kc := cell_of_block (j := 4) kb rfl
            have kl := hlt_of kb
            clear kb
            go_wp2
            exact ⟨_, rfl, rfl, hg, Below.refl _ _⟩
          · intro x wx hG
            have f8 := hG.old 8 (by decide +kernel)
            have gg : (x.tmps.getD 88 undef) = .bool false := hG.claims 2 _ rfl (by decide +kernel) (by decide +kernel)
            replace gg := Cl.opt (hG.size.trans (show _ = 189 from rfl)) (by decide) gg
            have hg := hG.good
            clear hG
            go_wp2
            exact ⟨_, rfl, rfl, hg, Below.refl _ _⟩
          · intro x wx hG
            have g10 : (x.tmps.getD 96 undef) = .slice (some ⟨b2, off2, none⟩) P.length pc2 := hG.claims 10 _ rfl (by decide +kernel) (by decide +kernel)
            have g11 : (x.tmps.getD 97 undef) = .int .i64 (k : Nat) := hG.claims 11 _ rfl (by decide +kernel) (by decide +kernel)
            have gg : (x.tmps.getD 88 undef) = .bool false := hG.claims 2 _ rfl (by decide +kernel) (by decide +kernel)
            replace gg := Cl.opt (hG.size.trans (show _ = 189 from rfl)) (by decide) gg
            have hg := hG.good
            clear hG
            have hlt9 := hlt
            have hl1 := Nat.lt_of_lt_of_le M1.out hg.size
            have hl2 := Nat.lt_of_lt_of_le M2.out hg.size
            go_wp2
            exact ⟨_, rfl, rfl, hg, Below.refl _ _⟩
          · intro x wx hG
            have g12 : (x.tmps.getD 98 undef) = .pointer (some ⟨b2, off2 + k * 3, none⟩) := hG.claims 12 _ rfl (by decide +kernel) (by decide +kernel)
            have gg : (x.tmps.getD 88 undef) = .bool false := hG.claims 2 _ rfl (by decide +kernel) (by decide +kernel)
            replace gg := Cl.opt (hG.size.trans (show _ = 189 from rfl)) (by decide) gg
            have hg := hG.good
            clear hG
            go_wp2
            exact ⟨_, rfl, rfl, hg, Below.refl _ _⟩
          · intro x wx hG
            have g13 : (x.tmps.getD 99 undef) = .pointer (some ⟨b2, off2 + k * 3 + 1, none⟩) := hG.claims 13 _ rfl (by decide +kernel) (by decide +kernel)
            have gg : (x.tmps.getD 88 undef) = .bool false := hG.claims 2 _ rfl (by decide +kernel) (by decide +kernel)
            replace gg := Cl.opt (hG.size.trans (show _ = 189 from rfl)) (by decide) gg
            have hg := hG.good
            clear hG
            have c_Y1 := ckeep hg Y1.out
            have c_Y2 := ckeep hg Y2.out
            go_wp2
            exact ⟨_, rfl, rfl, hg, Below.refl _ _⟩
          · intro x wx hG
            have g8 : (x.tmps.getD 94 undef) = .agg #[u1, z1] := hG.claims 8 _ rfl (by decide +kernel) (by decide +kernel)
            have g14 : (x.tmps.getD 100 undef) = .agg #[u2, z2] := hG.claims 14 _ rfl (by decide +kernel) (by decide +kernel)
            have gg : (x.tmps.getD 88 undef) = .bool false := hG.claims 2 _ rfl (by decide +kernel) (by decide +kernel)
            replace gg := Cl.opt (hG.size.trans (show _ = 189 from rfl)) (by decide) gg
            have hg := hG.good
            clear hG
            go_wp2_with fail
            (with_reducible refine (HS.out _ hg).mono ?_)
            rintro e wq ⟨rfl, hb⟩
            go_wp2
            exact ⟨_, rfl, rfl, bstep hg hb, hb⟩
          · intro x wx hG
            have g15 : (x.tmps.getD 101 undef) = .bool true := hG.claims 15 _ rfl (by decide +kernel) (by decide +kernel)
            have gg : (x.tmps.getD 88 undef) = .bool false := hG.claims 2 _ rfl (by decide +kernel) (by decide +kernel)
            replace gg := Cl.opt (hG.size.trans (show _ = 189 from rfl)) (by decide) gg
            have hg := hG.good
            clear hG
            go_wp2
            exact ⟨_, rfl, rfl, hg, Below.refl _ _⟩
          · intro x wx hG
            have g2 : (x.tmps.getD 88 undef) = .bool false := hG.claims 2 _ rfl (by decide +kernel) (by decide +kernel)
            have g16 : (x.tmps.getD 102 undef) = .bool false := hG.claims 16 _ rfl (by decide +kernel) (by decide +kernel)
            have hg := hG.good
            clear hG
            go_wp2
            exact ⟨_, rfl, rfl, hg, Below.refl _ _⟩
        · intro vals wz hg hF
          obtain ⟨g0, g1, g2, g3, g4, g5, g6, g7, g8, g9, g10, g11, g12, g13, g14, g15, g16, g17, -⟩ := hF
          have e0 : vals 0 = .bool true := g0 rfl
          have e1 : vals 1 = .bool false := g1 rfl
          have e2 : vals 2 = .bool false := g2 rfl
          have e3 : vals 3 = .pointer (some ⟨w.heap.size, 4, none⟩) := g3 rfl
          have e4 : vals 4 = .slice (some ⟨b1, off1, none⟩) P.length pc := g4 rfl
          have e5 : vals 5 = .int .i64 (k : Nat) := g5 rfl
          have e6 : vals 6 = .pointer (some ⟨b1, off1 + k * 3, none⟩) := g6 rfl
          have e7 : vals 7 = .pointer (some ⟨b1, off1 + k * 3 + 1, none⟩) := g7 rfl
          have e8 : vals 8 = .agg #[u1, z1] := g8 rfl
          have e9 : vals 9 = .pointer (some ⟨w.heap.size + 1, 4, none⟩) := g9 rfl
          have e10 : vals 10 = .slice (some ⟨b2, off2, none⟩) P.length pc2 := g10 rfl
          have e11 : vals 11 = .int .i64 (k : Nat) := g11 rfl
          have e12 : vals 12 = .pointer (some ⟨b2, off2 + k * 3, none⟩) := g12 rfl
          have e13 : vals 13 = .pointer (some ⟨b2, off2 + k * 3 + 1, none⟩) := g13 rfl
          have e14 : vals 14 = .agg #[u2, z2] := g14 rfl
          have e15 : vals 15 = .bool true := g15 rfl
          have e16 : vals 16 = .bool false := g16 rfl
          have e17 : vals 17 = .bool false := g17 rfl
          simp only [Cl.puts, e0, e1, e2, e3, e4, e5, e6, e7, e8, e9, e10, e11, e12, e13, e14, e15, e16, e17]
          clear e0 e1 e2 e3 e4 e5 e6 e7 e8 e9 e10 e11 e12 e13 e14 e15 e16 e17 g0 g1 g2 g3 g4 g5 g6 g7 g8 g9 g10 g11 g12 g13 g14 g15 g16 g17
          go_simp
          have HBF := Lib.hid (show Below W.heap.size W wz from hg)
          clear hg HBR1 HS X1 X2 Y1 Y2 M1 M2
          go_wp2
          go_roundw
          case rel => exact ⟨k + 1, by omega, by go_num, HBF.out⟩
          case measure => simp [intOf] <;> omega
    · obtain rfl : k = P.length := by omega
      obtain ⟨w5, hw5⟩ : ∃ w5, w5 = wr := ⟨_, rfl⟩
      rw [← hw5] at HBR ⊢
      have HB2 := Lib.hid HBR.out
      clear hw5 HBR hlt hk
      have k1 := below_keep HB2.out K1.out
      have x3 := cell_of_block (j := 3) k1 rfl
      have xl := hlt_of k1
      clear k1
      go_wp2
      clear x3 xl
      go_loopw [108] (fun i wr => ∃ k : Nat, k ≤ G.length ∧ i = .int .i64 k ∧ Below W.heap.size W wr) (fun i _ => G.length - (intOf i).toNat)
      case atStart => exact ⟨0, Nat.zero_le _, rfl, HB2.out⟩
      case round =>
        obtain ⟨k, hk, rfl, hb⟩ := hrel
        have HBR := Lib.hid hb
        clear HB2 hb
        by_cases hlt : k < G.length
        · obtain ⟨a', cap', ha', hcap1, hlen1, -, hvl1⟩ := HGA.out.open_
          simp only [Value.slice.injEq, true_and] at ha'
          obtain ⟨rfl, rfl⟩ := ha'
          obtain ⟨a'', cap'', ha'', hcap2, hlen2, -, hvl2⟩ := HGB.out.open_
          simp only [Value.slice.injEq, true_and] at ha''
          obtain ⟨rfl, rfl⟩ := ha''
          rcases hvl1 with hnil | ⟨b1, off1, rfl, hb1, hc1⟩
          · rw [hnil] at hlt; simp at hlt
          rcases hvl2 with hnil | ⟨b2, off2, rfl, hb2, hc2⟩
          · rw [hnil] at hlt; simp at hlt
          obtain ⟨c1, hE1, hcc1⟩ := hc1 k hlt
          obtain ⟨c2, hE2, hcc2⟩ := hc2 k hlt
          clear hc1 hc2
          obtain ⟨u1, z1, rfl, hk1⟩ := hE1
          obtain ⟨u2, z2, rfl, hk2⟩ := hE2
          have X0 := Lib.hid (hcc1 0 _ rfl)
          have X1 := Lib.hid (hcc1 1 _ rfl)
          have X2 := Lib.hid (hcc1 2 _ rfl)
          have Y0 := Lib.hid (hcc2 0 _ rfl)
          have Y1 := Lib.hid (hcc2 1 _ rfl)
          have Y2 := Lib.hid (hcc2 2 _ rfl)
          have HOK := HOG.out _ (List.getElem_mem hlt)
          have HS := Lib.hid (fun wx (hg : Below W.heap.size W wx) => wsame_c _ _ _ _ _ wx (hk1.below hg) (hk2.below hg) (knChk_zero.2 ⟨HOK.past, HOK.len⟩))
          clear hcc1 hcc2 hk1 hk2 HOK
          generalize G[k] = gg at *
          have hltb : decide ((k : Int) < (G.length : Int)) = true := by simp; omega
          have M1 := Lib.hid hb1
          have M2 := Lib.hid hb2
          simp only [show goneE.size = 3 from rfl, Nat.add_zero] at X0 X1 X2 Y0 Y1 Y2
          try rw [show off1 + (k * 3 + 1) = off1 + k * 3 + 1 by omega] at X1
          try rw [show off1 + (k * 3 + 2) = off1 + k * 3 + 2 by omega] at X2
          try rw [show off2 + (k * 3 + 1) = off2 + k * 3 + 1 by omega] at Y1
          try rw [show off2 + (k * 3 + 2) = off2 + k * 3 + 2 by omega] at Y2
          go_wp2
          refine Cl.region0 189 rfl [] (fun _ => True) (fun _ => []) (fun jq v ww => match jq with | 0 => v = .pointer (some ⟨w.heap.size, 3, none⟩) | 1 => v = .slice (some ⟨b1, off1, none⟩) G.length gc | 2 => v = .int .i64 (k : Nat) | 3 => v = .pointer (some ⟨b1, off1 + k * 3, none⟩) | 4 => v = .pointer (some ⟨b1, off1 + k * 3, none⟩) | 5 => v = .string gg.id | 6 => v = .pointer (some ⟨w.heap.size + 1, 3, none⟩) | 7 => v = .slice (some ⟨b2, off2, none⟩) G.length gc2 | 8 => v = .int .i64 (k : Nat) | 9 => v = .pointer (some ⟨b2, off2 + k * 3, none⟩) | 10 => v = .pointer (some ⟨b2, off2 + k * 3, none⟩) | 11 => v = .string gg.id | 12 => v = .bool false | 13 => v = .bool false | 14 => v = .pointer (some ⟨w.heap.size, 3, none⟩) | 15 => v = .slice (some ⟨b1, off1, none⟩) G.length gc | 16 => v = .int .i64 (k : Nat) | 17 => v = .pointer (some ⟨b1, off1 + k * 3, none⟩) | 18 => v = .pointer (some ⟨b1, off1 + k * 3 + 1, none⟩) | 19 => v = .agg #[u1, z1] | 20 => v = .pointer (some ⟨w.heap.size + 1, 3, none⟩) | 21 => v = .slice (some ⟨b2, off2, none⟩) G.length gc2 | 22 => v = .int .i64 (k : Nat) | 23 => v = .pointer (some ⟨b2, off2 + k * 3, none⟩) | 24 => v = .pointer (some ⟨b2, off2 + k * 3 + 1, none⟩) | 25 => v = .agg #[u2, z2] | 26 => v = .bool true | 27 => v = .bool false | 28 => v = .bool false | _ => True) (fun ww => Below W.heap.size W ww) (fun jq ww ww' => Below ww.heap.size ww ww') Try.mixed (by decide +kernel) (HBR.out).drew trivial (fun q r v w w' _ _ _ h _ => h) (fun _ _ _ _ _ _ => trivial) ?_ ?_
          · refine ⟨?_, ?_, ?_, ?_, ?_, ?_, ?_, ?_, ?_, ?_, ?_, ?_, ?_, ?_, ?_, ?_, ?_, ?_, ?_, ?_, ?_, ?_, ?_, ?_, ?_, ?_, ?_, ?_, ?_, trivial⟩
            · intro x wx hG
              have f2 := hG.old 2 (by decide +kernel)
              have hg := hG.good
              clear hG
              go_wp2
              exact ⟨_, rfl, rfl, hg, Below.refl _ _⟩
            · intro x wx hG
              have g0 : (x.tmps.getD 111 undef) = .pointer (some ⟨w.heap.size, 3, none⟩) := hG.claims 0 _ rfl (by decide +kernel) (by decide +kernel)
              have hg := hG.good
              clear hG
              have kb := below_keep hg K1.out
              have kc := cell_of_block (j := 3) kb rfl
              have kl := hlt_of kb
              clear kb
              go_wp2
              exact ⟨_, rfl, rfl, hg, Below.refl _ _⟩
            · intro x wx hG
              have f11 := hG.old 11 (by decide +kernel)
              have hg := hG.good
              clear hG
              go_wp2
              exact ⟨_, rfl, rfl, hg, Below.refl _ _⟩
            · intro x wx hG
              have g1 : (x.tmps.getD 112 undef) = .slice (some ⟨b1, off1, none⟩) G.length gc := hG.claims 1 _ rfl (by decide +kernel) (by decide +kernel)
              have g2 : (x.tmps.getD 113 undef) = .int .i64 (k : Nat) := hG.claims 2 _ rfl (by decide +kernel) (by decide +kernel)
              have hg := hG.good
              clear hG
              have hlt9 := hlt
              have hl1 := Nat.lt_of_lt_of_le M1.out hg.size
              have hl2 := Nat.lt_of_lt_of_le M2.out hg.size
              go_wp2
              exact ⟨_, rfl, rfl, hg, Below.refl _ _⟩
            · intro x wx hG
              have g3 : (x.tmps.getD 114 undef) = .pointer (some ⟨b1, off1 + k * 3, none⟩) := hG.claims 3 _ rfl (by decide +kernel) (by decide +kernel)
              have hg := hG.good
              clear hG
              go_wp2
              exact ⟨_, rfl, rfl, hg, Below.refl _ _⟩
            · intro x wx hG
              have g4 : (x.tmps.getD 115 undef) = .pointer (some ⟨b1, off1 + k * 3, none⟩) := hG.claims 4 _ rfl (by decide +kernel) (by decide +kernel)
              have hg := hG.good
              clear hG
              have c_X0 := ckeep hg X0.out
              go_wp2
              exact ⟨_, rfl, rfl, hg, Below.refl _ _⟩
            · intro x wx hG
              have f3 := hG.old 3 (by decide +kernel)
              have hg := hG.good
              clear hG
              go_wp2
              exact ⟨_, rfl, rfl, hg, Below.refl _ _⟩
            · intro x wx hG
              have g6 : (x.tmps.getD 117 undef) = .pointer (some ⟨w.heap.size + 1, 3, none⟩) := hG.claims 6 _ rfl (by decide +kernel) (by decide +kernel)
              have hg := hG.good
              clear hG
              have kb := below_keep hg K2.out
              have kc := cell_of_block (j := 3) kb rfl
              have kl := hlt_of kb
              clear kb
              go_wp2
              exact ⟨_, rfl, rfl, hg, Below.refl _ _⟩
            · intro x wx hG
              have f11 := hG.old 11 (by decide +kernel)
              have hg := hG.good
              clear hG
              go_wp2
              exact ⟨_, rfl, rfl, hg, Below.refl _ _⟩
            · intro x wx hG
              have g7 : (x.tmps.getD 118 undef) = .slice (some ⟨b2, off2, none⟩) G.length gc2 := hG.claims 7 _ rfl (by decide +kernel) (by decide +kernel)
              have g8 : (x.tmps.getD 119 undef) = .int .i64 (k : Nat) := hG.claims 8 _ rfl (by decide +kernel) (by decide +kernel)
              have hg := hG.good
              clear hG
              have hlt9 := hlt
              have hl1 := Nat.lt_of_lt_of_le M1.out hg.size
              have hl2 := Nat.lt_of_lt_of_le M2.out hg.size
              go_wp2
              exact ⟨_, rfl, rfl, hg, Below.refl _ _⟩
            · intro x wx hG
              have g9 : (x.tmps.getD 120 undef) = .pointer (some ⟨b2, off2 + k * 3, none⟩) := hG.claims 9 _ rfl (by decide +kernel) (by decide +kernel)
              have hg := hG.good
              clear hG
              go_wp2
              exact ⟨_, rfl, rfl, hg, Below.refl _ _⟩
            · intro x wx hG
              have g10 : (x.tmps.getD 121 undef) = .pointer (some ⟨b2, off2 + k * 3, none⟩) := hG.claims 10 _ rfl (by decide +kernel) (by decide +kernel)
              have hg := hG.good
              clear hG
              have c_Y0 := ckeep hg Y0.out
              go_wp2
              exact ⟨_, rfl, rfl, hg, Below.refl _ _⟩
            · intro x wx hG
              have g5 : (x.tmps.getD 116 undef) = .string gg.id := hG.claims 5 _ rfl (by decide +kernel) (by decide +kernel)
              have g11 : (x.tmps.getD 122 undef) = .string gg.id := hG.claims 11 _ rfl (by decide +kernel) (by decide +kernel)
              have hg := hG.good
              clear hG
              go_wp2
              exact ⟨_, rfl, rfl, hg, Below.refl _ _⟩
            · intro x wx hG
              have g12 : (x.tmps.getD 123 undef) = .bool false := hG.claims 12 _ rfl (by decide +kernel) (by decide +kernel)
              have hg := hG.good
              clear hG
              go_wp2
              exact ⟨_, rfl, rfl, hg, Below.refl _ _⟩
            · intro x wx hG
              have f2 := hG.old 2 (by decide +kernel)
              have gg : (x.tmps.getD 124 undef) = .bool false := hG.claims 13 _ rfl (by decide +kernel) (by decide +kernel)
              replace gg := Cl.opt (hG.size.trans (show _ = 189 from rfl)) (by decide) gg
              have hg := hG.good
              clear hG
              go_wp2
              exact ⟨_, rfl, rfl, hg, Below.refl _ _⟩
            · intro x wx hG
              have g14 : (x.tmps.getD 125 undef) = .pointer (some ⟨w.heap.size, 3, none⟩) := hG.claims 14 _ rfl (by decide +kernel) (by decide +kernel)
              have gg : (x.tmps.getD 124 undef) = .bool false := hG.claims 13 _ rfl (by decide +kernel) (by decide +kernel)
              replace gg := Cl.opt (hG.size.trans (show _ = 189 from rfl)) (by decide) gg
              have hg := hG.good
              clear hG
              have kb := below_keep hg K1.out
              have kc := cell_of_block (j := 3) kb rfl
              have kl := hlt_of kb
              clear kb
              go_wp2
              exact ⟨_, rfl, rfl, hg, Below.refl _ _⟩
            · intro x wx hG
              have f11 := hG.old 11 (by decide +kernel)
              have gg : (x.tmps.getD 124 undef) = .bool false := hG.claims 13 _ rfl (by decide +kernel) (by decide +kernel)
              replace gg := Cl.opt (hG.size.trans (show _ = 189 from rfl)) (by decide) gg
              have hg := hG.good
              clear hG
              go_wp2
              exact ⟨_, rfl, rfl, hg, Below.refl _ _⟩
            · intro x wx hG
              have g15 : (x.tmps.getD 126 undef) = .slice (some ⟨b1, off1, none⟩) G.length gc := hG.claims 15 _ rfl (by decide +kernel) (by decide +kernel)
              have g16 : (x.tmps.getD 127 undef) = .int .i64 (k : Nat) := hG.claims 16 _ rfl (by decide +kernel) (by decide +kernel)
              have gg : (x.tmps.getD 124 undef) = .bool false := hG.claims 13 _ rfl (by decide +kernel) (by decide +kernel)
              replace gg := Cl.opt (hG.size.trans (show _ = 189 from rfl)) (by decide) gg
              have hg := hG.good
              clear hG
              have hlt9 := hlt
              have hl1 := Nat.lt_of_lt_of_le M1.out hg.size
              have hl2 := Nat.lt_of_lt_of_le M2.out hg.size
              go_wp2
              exact ⟨_, rfl, rfl, hg, Below.refl _ _⟩
            · intro x wx hG
              have g17 : (x.tmps.getD 128 undef) = .pointer (some ⟨b1, off1 + k * 3, none⟩) := hG.claims 17 _ rfl (by decide +kernel) (by decide +kernel)
              have gg : (x.tmps.getD 124 undef) = .bool false := hG.claims 13 _ rfl (by decide +kernel) (by decide +kernel)
              replace gg := Cl.opt (hG.size.trans (show _ = 189 from rfl)) (by decide) gg
              have hg := hG.good
              clear hG
              go_wp2
              exact ⟨_, rfl, rfl, hg, Below.refl _ _⟩
            · intro x wx hG
              have g18 : (x.tmps.getD 129 undef) = .pointer (some ⟨b1, off1 + k * 3 + 1, none⟩) := hG.claims 18 _ rfl (by decide +kernel) (by decide +kernel)
              have gg : (x.tmps.getD 124 undef) = .bool false := hG.claims 13 _ rfl (by decide +kernel) (by decide +kernel)
              replace gg := Cl.opt (hG.size.trans (show _ = 189 from rfl)) (by decide) gg
              have hg := hG.good
              clear hG
              have c_X1 := ckeep hg X1.out
              have c_X2 := ckeep hg X2.out
              go_wp2
              exact ⟨_, rfl, rfl, hg, Below.refl _ _⟩
            · intro x wx hG
              have f3 := hG.old 3 (by decide +kernel)
              have gg : (x.tmps.getD 124 undef) = .bool false := hG.claims 13 _ rfl (by decide +kernel) (by decide +kernel)
              replace gg := Cl.opt (hG.size.trans (show _ = 189 from rfl)) (by decide) gg
              have hg := hG.good
              clear hG
              go_wp2
              exact ⟨_, rfl, rfl, hg, Below.refl _ _⟩
            · intro x wx hG
              have g20 : (x.tmps.getD 131 undef) = .pointer (some ⟨w.heap.size + 1, 3, none⟩) := hG.claims 20 _ rfl (by decide +kernel) (by decide +kernel)
              have gg : (x.tmps.getD 124 undef) = .bool false := hG.claims 13 _ rfl (by decide +kernel) (by decide +kernel)
              replace gg := Cl.opt (hG.size.trans (show _ = 189 from rfl)) (by decide) gg
              have hg := hG.good
              clear hG
              have kb := below_keep hg K2.out
              have kc := cell_of_block (j := 3) kb rfl
              have kl := hlt_of kb
              clear kb
              go_wp2
              exact ⟨_, rfl, rfl, hg, Below.refl _ _⟩
            · intro x wx hG
              have f11 := hG.old 11 (by decide +kernel)
              have gg : (x.tmps.getD 124 undef) = .bool false := hG.claims 13 _ rfl (by decide +kernel) (by decide +kernel)
              replace gg := Cl.opt (hG.size.trans (show _ = 189 from rfl)) (by decide) gg
              have hg := hG.good
              clear hG
              go_wp2
              exact ⟨_, rfl, rfl, hg, Below.refl _ _⟩
            · intro x wx hG
              have g21 : (x.tmps.getD 132 undef) = .slice (some ⟨b2, off2, none⟩) G.length gc2 := hG.claims 21 _ rfl (by decide +kernel) (by decide +kernel)
              have g22 : (x.tmps.getD 133 undef) = .int .i64 (k : Nat) := hG.claims 22 _ rfl (by decide +kernel) (by decide +kernel)
              have gg : (x.tmps.getD 124 undef) = .bool false := hG.claims 13 _ rfl (by decide +kernel) (by decide +kernel)
              replace gg := Cl.opt (hG.size.trans (show _ = 189 from rfl)) (by decide) gg
              have hg := hG.good
              clear hG
              have hlt9 := hlt
              have hl1 := Nat.lt_of_lt_of_le M1.out hg.size
              have hl2 := Nat.lt_of_lt_of_le M2.out hg.size
              go_wp2
              exact ⟨_, rfl, rfl, hg, Below.refl _ _⟩
            · intro x wx hG
              have g23 : (x.tmps.getD 134 undef) = .pointer (some ⟨b2, off2 + k * 3, none⟩) := hG.claims 23 _ rfl (by decide +kernel) (by decide +kernel)
              have gg : (x.tmps.getD 124 undef) = .bool false := hG.claims 13 _ rfl (by decide +kernel) (by decide +kernel)
              replace gg := Cl.opt (hG.size.trans (show _ = 189 from rfl)) (by decide) gg
              have hg := hG.good
              clear hG
              go_wp2
              exact ⟨_, rfl, rfl, hg, Below.refl _ _⟩
            · intro x wx hG
              have g24 : (x.tmps.getD 135 undef) = .pointer (some ⟨b2, off2 + k * 3 + 1, none⟩) := hG.claims 24 _ rfl (by decide +kernel) (by decide +kernel)
              have gg : (x.tmps.getD 124 undef) = .bool false := hG.claims 13 _ rfl (by decide +kernel) (by decide +kernel)
              replace gg := Cl.opt (hG.size.trans (show _ = 189 from rfl)) (by decide) gg
              have hg := hG.good
              clear hG
              have c_Y1 := ckeep hg Y1.out
              have c_Y2 := ckeep hg Y2.out
              go_wp2
              exact ⟨_, rfl, rfl, hg, Below.refl _ _⟩
            · intro x wx hG
              have g19 : (x.tmps.getD 130 undef) = .agg #[u1, z1] := hG.claims 19 _ rfl (by decide +kernel) (by decide +kernel)
              have g25 : (x.tmps.getD 136 undef) = .agg #[u2, z2] := hG.claims 25 _ rfl (by decide +kernel) (by decide +kernel)
              have gg : (x.tmps.getD 124 undef) = .bool false := hG.claims 13 _ rfl (by decide +kernel) (by decide +kernel)
              replace gg := Cl.opt (hG.size.trans (show _ = 189 from rfl)) (by decide) gg
              have hg := hG.good
              clear hG
              go_wp2_with fail
              (with_reducible refine (HS.out _ hg).mono ?_)
              rintro e wq ⟨rfl, hb⟩
              go_wp2
              exact ⟨_, rfl, rfl, bstep hg hb, hb⟩
            · intro x wx hG
              have g26 : (x.tmps.getD 137 undef) = .bool true := hG.claims 26 _ rfl (by decide +kernel) (by decide +kernel)
              have gg : (x.tmps.getD 124 undef) = .bool false := hG.claims 13 _ rfl (by decide +kernel) (by decide +kernel)
              replace gg := Cl.opt (hG.size.trans (show _ = 189 from rfl)) (by decide) gg
              have hg := hG.good
              clear hG
              go_wp2
              exact ⟨_, rfl, rfl, hg, Below.refl _ _⟩
            · intro x wx hG
              have g13 : (x.tmps.getD 124 undef) = .bool false := hG.claims 13 _ rfl (by decide +kernel) (by decide +kernel)
              have g27 : (x.tmps.getD 138 undef) = .bool false := hG.claims 27 _ rfl (by decide +kernel) (by decide +kernel)
              have hg := hG.good
              clear hG
              go_wp2
              exact ⟨_, rfl, rfl, hg, Below.refl _ _⟩
          · intro vals wz hg hF
            obtain ⟨g0, g1, g2, g3, g4, g5, g6, g7, g8, g9, g10, g11, g12, g13, g14, g15, g16, g17, g18, g19, g20, g21, g22, g23, g24, g25, g26, g27, g28, -⟩ := hF
            have e0 : vals 0 = .pointer (some ⟨w.heap.size, 3, none⟩) := g0 rfl
            have e1 : vals 1 = .slice (some ⟨b1, off1, none⟩) G.length gc := g1 rfl
            have e2 : vals 2 = .int .i64 (k : Nat) := g2 rfl
            have e3 : vals 3 = .pointer (some ⟨b1, off1 + k * 3, none⟩) := g3 rfl
            have e4 : vals 4 = .pointer (some ⟨b1, off1 + k * 3, none⟩) := g4 rfl
            have e5 : vals 5 = .string gg.id := g5 rfl
            have e6 : vals 6 = .pointer (some ⟨w.heap.size + 1, 3, none⟩) := g6 rfl
            have e7 : vals 7 = .slice (some ⟨b2, off2, none⟩) G.length gc2 := g7 rfl
            have e8 : vals 8 = .int .i64 (k : Nat) := g8 rfl
            have e9 : vals 9 = .pointer (some ⟨b2, off2 + k * 3, none⟩) := g9 rfl
            have e10 : vals 10 = .pointer (some ⟨b2, off2 + k * 3, none⟩) := g10 rfl
            have e11 : vals 11 = .string gg.id := g11 rfl
            have e12 : vals 12 = .bool false := g12 rfl
            have e13 : vals 13 = .bool false := g13 rfl
            have e14 : vals 14 = .pointer (some ⟨w.heap.size, 3, none⟩) := g14 rfl
            have e15 : vals 15 = .slice (some ⟨b1, off1, none⟩) G.length gc := g15 rfl
            have e16 : vals 16 = .int .i64 (k : Nat) := g16 rfl
            have e17 : vals 17 = .pointer (some ⟨b1, off1 + k * 3, none⟩) := g17 rfl
            have e18 : vals 18 = .pointer (some ⟨b1, off1 + k * 3 + 1, none⟩) := g18 rfl
            have e19 : vals 19 = .agg #[u1, z1] := g19 rfl
            have e20 : vals 20 = .pointer (some ⟨w.heap.size + 1, 3, none⟩) := g20 rfl
            have e21 : vals 21 = .slice (some ⟨b2, off2, none⟩) G.length gc2 := g21 rfl
            have e22 : vals 22 = .int .i64 (k : Nat) := g22 rfl
            have e23 : vals 23 = .pointer (some ⟨b2, off2 + k * 3, none⟩) := g23 rfl
            have e24 : vals 24 = .pointer (some ⟨b2, off2 + k * 3 + 1, none⟩) := g24 rfl
            have e25 : vals 25 = .agg #[u2, z2] := g25 rfl
            have e26 : vals 26 = .bool true := g26 rfl
            have e27 : vals 27 = .bool false := g27 rfl
            have e28 : vals 28 = .bool false := g28 rfl
            simp only [Cl.puts, e0, e1, e2, e3, e4, e5, e6, e7, e8, e9, e10, e11, e12, e13, e14, e15, e16, e17, e18, e19, e20, e21, e22, e23, e24, e25, e26, e27, e28]
            clear e0 e1 e2 e3 e4 e5 e6 e7 e8 e9 e10 e11 e12 e13 e14 e15 e16 e17 e18 e19 e20 e21 e22 e23 e24 e25 e26 e27 e28 g0 g1 g2 g3 g4 g5 g6 g7 g8 g9 g10 g11 g12 g13 g14 g15 g16 g17 g18 g19 g20 g21 g22 g23 g24 g25 g26 g27 g28
            go_simp
            have HBF := Lib.hid (show Below W.heap.size W wz from hg)
            clear hg HBR HS X0 Y0 X1 X2 Y1 Y2 M1 M2
            go_wp2
            go_roundw
            case rel => exact ⟨k + 1, by omega, by go_num, HBF.out⟩
            case measure => simp [intOf] <;> omega
        · obtain rfl : k = G.length := by omega
          obtain ⟨w6, hw6⟩ : ∃ w6, w6 = wr := ⟨_, rfl⟩
          rw [← hw6] at HBR ⊢
          have HB2 := Lib.hid HBR.out
          clear hw6 HBR hlt hk
          have k1 := below_keep HB2.out K1.out
          have x2 := cell_of_block (j := 2) k1 rfl
          have xl := hlt_of k1
          clear k1
          go_wp2
          clear x2 xl
          go_loopw [144] (fun i wr => ∃ k : Nat, k ≤ V.length ∧ i = .int .i64 k ∧ Below W.heap.size W wr) (fun i _ => V.length - (intOf i).toNat)
          case atStart => exact ⟨0, Nat.zero_le _, rfl, HB2.out⟩
          case round =>
            obtain ⟨k, hk, rfl, hb⟩ := hrel
            have HBR := Lib.hid hb
            clear HB2 hb
            by_cases hlt : k < V.length
            · obtain ⟨a', cap', ha', hcap1, hlen1, -, hvl1⟩ := HVA.out.open_
              simp only [Value.slice.injEq, true_and] at ha'
              obtain ⟨rfl, rfl⟩ := ha'
              obtain ⟨a'', cap'', ha'', hcap2, hlen2, -, hvl2⟩ := HVB.out.open_
              simp only [Value.slice.injEq, true_and] at ha''
              obtain ⟨rfl, rfl⟩ := ha''
              rcases hvl1 with hnil | ⟨b1, off1, rfl, hb1, hc1⟩
              · rw [hnil] at hlt; simp at hlt
              rcases hvl2 with hnil | ⟨b2, off2, rfl, hb2, hc2⟩
              · rw [hnil] at hlt; simp at hlt
              obtain ⟨c1, hE1, hcc1⟩ := hc1 k hlt
              obtain ⟨c2, hE2, hcc2⟩ := hc2 k hlt
              clear hc1 hc2
              obtain ⟨u1, z1, rfl, hk1⟩ := hE1
              obtain ⟨u2, z2, rfl, hk2⟩ := hE2
              obtain ⟨ua1, uc1, rfl⟩ := hk1.vec.shape
              obtain ⟨za1, zc1, rfl⟩ := hk1.more.shape
              obtain ⟨ua2, uc2, rfl⟩ := hk2.vec.shape
              obtain ⟨za2, zc2, rfl⟩ := hk2.more.shape
              have HOK := HOV.out _ (List.getElem_mem hlt)
              have hcl1 := fun (j : Nat) (y : Value) (hy : (verC V[k] (.slice ua1 V[k].past.vec.length uc1) (.slice za1 V[k].past.more.length zc1)).toList[j]? = some y) => row8 (w := wr) (b := b1) (off := off1) (i := k) (fun j y hy => (HBR.out.cell (p := ⟨b1, off1 + (k * verE.size + j), none⟩) hb1).trans (hcc1 j y hy)) hy
              have hcl2 := fun (j : Nat) (y : Value) (hy : (verC V[k] (.slice ua2 V[k].past.vec.length uc2) (.slice za2 V[k].past.more.length zc2)).toList[j]? = some y) => row8 (w := wr) (b := b2) (off := off2) (i := k) (fun j y hy => (HBR.out.cell (p := ⟨b2, off2 + (k * verE.size + j), none⟩) hb2).trans (hcc2 j y hy)) hy
              have c0 := hcl1 0 _ rfl
              have c1 := hcl1 1 _ rfl
              have c2 := hcl1 2 _ rfl
              have c3 := hcl1 3 _ rfl
              have c4 := hcl1 4 _ rfl
              have c5 := hcl1 5 _ rfl
              have c6 := hcl1 6 _ rfl
              have c7 := hcl1 7 _ rfl
              have d0 := hcl2 0 _ rfl
              have d1 := hcl2 1 _ rfl
              have d2 := hcl2 2 _ rfl
              have d3 := hcl2 3 _ rfl
              have d4 := hcl2 4 _ rfl
              have d5 := hcl2 5 _ rfl
              have d6 := hcl2 6 _ rfl
              have d7 := hcl2 7 _ rfl
              rw [Nat.add_zero] at c0 d0
              have hbw1 : b1 < wr.heap.size := Nat.lt_of_lt_of_le hb1 HBR.out.size
              have hbw2 : b2 < wr.heap.size := Nat.lt_of_lt_of_le hb2 HBR.out.size
              have HS := Lib.hid (fun wx (hg : Below W.heap.size W wx) => wsame_c _ _ _ _ _ wx (hk1.below hg) (hk2.below hg) (knChk_zero.2 ⟨HOK.past, HOK.len⟩))
              clear hcc1 hcc2 hk1 hk2 HOK hcl1 hcl2 hb1 hb2
              generalize V[k] = vv1 at *
              obtain ⟨WV, hWV⟩ : ∃ WV, WV = (wr.alloc (.cells #[.string vv1.id, .int .i64 vv1.ds, .int .i64 vv1.dc, .int .i64 vv1.tg, .int .i64 vv1.nm, .int .i64 vv1.bd, .slice ua1 vv1.past.vec.length uc1, .slice za1 vv1.past.more.length zc1] 109)).alloc (.cells #[.string vv1.id, .int .i64 vv1.ds, .int .i64 vv1.dc, .int .i64 vv1.tg, .int .i64 vv1.nm, .int .i64 vv1.bd, .slice ua2 vv1.past.vec.length uc2, .slice za2 vv1.past.more.length zc2] 109) := ⟨_, rfl⟩
              have hbV : Below wr.heap.size wr WV := by rw [hWV]; exact (bal _).alloc (by simp) _
              have HBV := Lib.hid (bstep HBR.out hbV)
              clear hbV
              have hltb : decide ((k : Int) < (V.length : Int)) = true := by simp; omega
              have kk2 := below_keep HBR.out K2.out
              have y2 := cell_of_block (j := 2) kk2 rfl
              have yl := hlt_of kk2
              clear kk2
              go_wp2_with fail
              rw [← hWV]
              clear hWV c0 c1 c2 c3 c4 c5 c6 c7 d0 d1 d2 d3 d4 d5 d6 d7 y2 yl
              (with_reducible refine (HS.out _ HBV.out).mono ?_)
              rintro e w7 ⟨rfl, hb7⟩
              have HBF := Lib.hid (bstep HBV.out hb7)
              clear hb7 HS HBR HBV
              go_wp2
              go_roundw
              case rel => exact ⟨k + 1, by omega, by go_num, HBF.out⟩
              case measure => simp [intOf] <;> omega
            · obtain rfl : k = V.length := by omega
              obtain ⟨w8, hw8⟩ : ∃ w8, w8 = wr := ⟨_, rfl⟩
              rw [← hw8] at HBR ⊢
              have HB2 := Lib.hid HBR.out
              clear hw8 HBR hlt hk
              go_wp2
              go_ret2
              exact ⟨rfl, HBEL.out.trans (HB2.out.mono HBEL.out.size)⟩
end Go.Proofs.Ythnkmjjldggecaa
namespace Go.Proofs.Ythnkmjjldggecaa
open Go.RowKit
def thr (n : Int) : ByteArray := ⟨(b3 n).toArray⟩
theorem thr_size (n : Int) : (thr n).size = 3 := rfl
theorem three_cells (n : Int) : ∀ (j : Nat) (hj : j < (b3 n).length), [Value.int .u8 (n / 65536 % 256), .int .u8 (n / 256 % 256), .int .u8 (n % 256)][j]? = some (.int .u8 ((b3 n)[j].toNat : Nat)) := by
  intro j hj
  have h := congrArg (fun l => l[j]?) (b3_cells n)
  rw [← h]
  unfold byteC
  rw [List.getElem?_map, List.getElem?_eq_getElem hj]
  rfl
set_option maxRecDepth 100000 in
set_option maxHeartbeats 2000000 in
theorem three_c (n : Int) (w : World) (h0 : 0 ≤ n) (h1 : n < 16777216) :
    Calls Try.prog 120 #[.int .i64 n] w fun e w' => e = .returned (.string (thr n)) ∧ Below w.heap.size w w' := by
  obtain ⟨W, hW⟩ : ∃ W, W = w.alloc (.cells #[.int .u8 (n / 65536 % 256), .int .u8 (n / 256 % 256), .int .u8 (n % 256)] 5) := ⟨_, rfl⟩
  have hb : Below w.heap.size w W := by rw [hW]; exact bal _
  have HB := Lib.hid hb
  have hcv := run_convert_bytes_back W 69 9 5 ⟨w.heap.size, 0, none⟩ 3 (b3 n) Try.underlying69 Try.underlying5 Try.underlying9 (fun j hj => by
    have h : W.heap[w.heap.size]? = some (Obj.cells #[.int .u8 (n / 65536 % 256), .int .u8 (n / 256 % 256), .int .u8 (n % 256)] 5 (0, 0)) := by rw [hW]; exact alloc_new _ _ _ _ rfl
    have h2 := cell_of_block (j := j) h (by rw [List.getElem?_toArray]; exact three_cells n j hj)
    rw [Addr.add_lit, Nat.zero_add]; exact h2)
  have hq1 : n.tdiv 65536 = n / 65536 := Int.tdiv_eq_ediv_of_nonneg h0
  have hq2 : n.tdiv 256 = n / 256 := Int.tdiv_eq_ediv_of_nonneg h0
  have hq3 : (n / 256).tmod 256 = n / 256 % 256 := Int.tmod_eq_emod_of_nonneg (by omega)
  have hq4 : n.tmod 256 = n % 256 := Int.tmod_eq_emod_of_nonneg h0
  have hw1 : IntKind.u8.wrap (n / 65536) = n / 65536 % 256 := rfl
  have hw2 : IntKind.u8.wrap (n / 256 % 256) = n / 256 % 256 := by show n / 256 % 256 % 256 = _; omega
  have hw3 : IntKind.u8.wrap (n % 256) = n % 256 := by show n % 256 % 256 = _; omega
  simp only [show (b3 n).length = 3 from rfl] at hcv
  rw [hW] at hcv
  clear hb
  go_enter Try.func120, Try.ntmps120
  go_wp2
  go_ret
  have h := HB.out
  rw [hW] at h
  exact ⟨rfl, h⟩
/-- What stands for a set of dots. -/
def vecT (s0 : ByteArray) (l : List Int) : ByteArray := l.foldl (fun s x => s ++ thr x) s0
def moreT (s0 : ByteArray) (l : Dots) : ByteArray := l.foldl (fun s d => s ++ (thr d.1 ++ thr d.2)) s0
def knT (k : Kn) : ByteArray := moreT (vecT (thr (k.vec.length : Nat)) k.vec ++ thr (k.more.length : Nat)) k.more
theorem vecT_take {s0 : ByteArray} {l : List Int} {k : Nat} (h : k < l.length) : vecT s0 (l.take (k + 1)) = vecT s0 (l.take k) ++ thr l[k] := by
  unfold vecT; rw [List.take_succ_eq_append_getElem h, List.foldl_append]; rfl
theorem moreT_take {s0 : ByteArray} {l : Dots} {k : Nat} (h : k < l.length) : moreT s0 (l.take (k + 1)) = moreT s0 (l.take k) ++ (thr l[k].1 ++ thr l[k].2) := by
  unfold moreT; rw [List.take_succ_eq_append_getElem h, List.foldl_append]; rfl
theorem vecT_size : ∀ (l : List Int) (s0 : ByteArray), (vecT s0 l).size = s0.size + 3 * l.length
  | [], _ => rfl
  | x :: l, s0 => by
    have := vecT_size l (s0 ++ thr x)
    rw [ByteArray.size_append, thr_size] at this
    show (vecT (s0 ++ thr x) l).size = _
    rw [this, List.length_cons]; omega
theorem moreT_size : ∀ (l : Dots) (s0 : ByteArray), (moreT s0 l).size = s0.size + 6 * l.length
  | [], _ => rfl
  | x :: l, s0 => by
    have := moreT_size l (s0 ++ (thr x.1 ++ thr x.2))
    rw [ByteArray.size_append, ByteArray.size_append, thr_size, thr_size] at this
    show (moreT (s0 ++ (thr x.1 ++ thr x.2)) l).size = _
    rw [this, List.length_cons]; omega
theorem knT_size (k : Kn) : (knT k).size = (knW k).length := by
  unfold knT
  rw [moreT_size, ByteArray.size_append, vecT_size, thr_size, thr_size, knW_len]; omega
def S24 (n : Int) : Prop := 0 ≤ n ∧ n < 16777216
set_option maxRecDepth 100000 in
set_option maxHeartbeats 4000000 in
theorem rknows_c (u x : Value) (k : Kn) (w : World) (hk : KnAt w u x k) (hok : KnOk k) (h60 : k.more.length ≤ 60) :
    Calls Try.prog 121 #[.agg #[u, x]] w fun e w' => e = .returned (.string (knT k)) ∧ Below w.heap.size w w' := by
  obtain ⟨v, m⟩ := k
  obtain ⟨ua, uc, rfl⟩ := hk.vec.shape
  obtain ⟨xa, xc, rfl⟩ := hk.more.shape
  have hvl : v.length ≤ 5 := hok.len
  have hml : m.length ≤ 60 := h60
  have HV := Lib.hid (show ∀ n ∈ v, S24 n from fun n hn => by have := hok.bd n hn; unfold S24; omega)
  have HM := Lib.hid (show ∀ d ∈ m, S24 d.1 ∧ S24 d.2 from fun d hd => by have := dotOk_iff.1 (hok.dots d hd).1; unfold S24; omega)
  have HK := Lib.hid (show knT ⟨v, m⟩ = moreT (vecT (thr (v.length : Nat)) v ++ thr (m.length : Nat)) m from rfl)
  clear hok h60
  simp only at hk ⊢
  obtain ⟨W, hW⟩ : ∃ W, W = w.alloc (.cells #[.slice ua v.length uc, .slice xa m.length xc] 81) := ⟨_, rfl⟩
  have hb : Below w.heap.size w W := by rw [hW]; exact bal _
  have K1 := Lib.hid (show W.heap[w.heap.size]? = some (Obj.cells #[.slice ua v.length uc, .slice xa m.length xc] 81 (0, 0)) by rw [hW]; exact alloc_new _ _ _ _ rfl)
  have HBEL := Lib.hid hb
  have HVA := Lib.hid (hk.vec.below hb)
  have HMA := Lib.hid (hk.more.below hb)
  have HT1 := Lib.hid (three_c (v.length : Nat) W (by omega) (by omega))
  have HT2 := Lib.hid (fun w' => three_c (m.length : Nat) w' (by omega) (by omega))
  clear hk hb
  have x0 := cell_of_block (j := 0) K1.out rfl
  have xl := hlt_of K1.out
  rw [hW] at x0 xl
  go_enter Try.func121, Try.ntmps121
  go_wp2_with fail
  rw [← hW]
  clear x0 xl hW
  (with_reducible refine (HT1.out).mono ?_)
  rintro e w1 ⟨rfl, hb1⟩
  have HB := Lib.hid (show Below W.heap.size W w1 from hb1)
  have k1 := below_keep hb1 K1.out
  have x0 := cell_of_block (j := 0) k1 rfl
  have xl := hlt_of k1
  clear k1 hb1 HT1
  go_wp2
  clear x0 xl
  go_loopw [3, 15] (fun ov i wr => ∃ k : Nat, k ≤ v.length ∧ i = .int .i64 k ∧ ov = .string (vecT (thr (v.length : Nat)) (v.take k)) ∧ Below W.heap.size W wr) (fun _ i _ => v.length - (intOf i).toNat)
  case atStart => exact ⟨0, Nat.zero_le _, rfl, rfl, HB.out⟩
  case round =>
    obtain ⟨k, hk, rfl, rfl, hb⟩ := hrel
    clear HB
    by_cases hlt : k < v.length
    · have HB := Lib.hid hb
      have HS := Lib.hid (vecT_take (s0 := thr (v.length : Nat)) hlt)
      have hsm := HV.out _ (List.getElem_mem hlt)
      obtain ⟨a', cap', ha', -, -, -, hvl1⟩ := HVA.out.open_
      simp only [Value.slice.injEq, true_and] at ha'
      obtain ⟨rfl, rfl⟩ := ha'
      rcases hvl1 with hnil | ⟨b1, off1, rfl, hb1, hc1⟩
      · rw [hnil] at hlt; simp at hlt
      have c1 := (HB.out.cell (p := ⟨b1, off1 + k, none⟩) hb1).trans (hc1 k hlt)
      have HTT := Lib.hid (three_c v[k] wr hsm.1 hsm.2)
      have hsz0 : (vecT (thr (v.length : Nat)) (v.take k)).size ≤ 100 := by rw [vecT_size, thr_size, List.length_take]; omega
      clear hc1 hsm hb
      generalize v[k] = q at *
      have hsz1 := thr_size q
      generalize vecT (thr (v.length : Nat)) (v.take k) = s1 at *
      have hltb : decide ((k : Int) < (v.length : Int)) = true := by simp; omega
      go_wp2_with fail
      (with_reducible refine (HTT.out).mono ?_)
      rintro e w2 ⟨rfl, hb2⟩
      have HB2 := Lib.hid (bstep HB.out hb2)
      clear hb2 HTT HB c1
      have hsz : ¬ 9223372036854775807 < s1.size + (thr q).size := by omega
      go_wp2
      go_roundw
      case rel => exact ⟨k + 1, by omega, by go_num, by rw [HS.out], HB2.out⟩
      case measure => simp [intOf] <;> omega
    · obtain rfl : k = v.length := by omega
      rw [List.take_length]
      obtain ⟨w3, hw3⟩ : ∃ w3, w3 = wr := ⟨_, rfl⟩
      rw [← hw3] at hb ⊢
      have HB := Lib.hid hb
      have k1 := below_keep hb K1.out
      have x1 := cell_of_block (j := 1) k1 rfl
      have xl := hlt_of k1
      clear hw3 hb hlt hk k1
      have hsz0 : (vecT (thr (v.length : Nat)) v).size ≤ 100 := by rw [vecT_size, thr_size]; omega
      have hsz1 := thr_size (m.length : Nat)
      generalize vecT (thr (v.length : Nat)) v = s1 at *
      have hsz : ¬ 9223372036854775807 < s1.size + (thr (m.length : Nat)).size := by omega
      go_wp2_with fail
      (with_reducible refine (HT2.out _).mono ?_)
      rintro e w4 ⟨rfl, hb4⟩
      have HB4 := Lib.hid (bstep HB.out hb4)
      have k1 := below_keep HB4.out K1.out
      have x1 := cell_of_block (j := 1) k1 rfl
      have xl := hlt_of k1
      clear hb4 HT2 HB k1
      go_wp2
      clear x1 xl hsz
      have hs2 : (s1 ++ thr (m.length : Nat)).size ≤ 200 := by rw [ByteArray.size_append]; omega
      generalize s1 ++ thr (m.length : Nat) = s2 at *
      clear hsz0 hsz1
      go_loopw [3, 33] (fun ov i wr => ∃ k : Nat, k ≤ m.length ∧ i = .int .i64 k ∧ ov = .string (moreT s2 (m.take k)) ∧ Below W.heap.size W wr) (fun _ i _ => m.length - (intOf i).toNat)
      case atStart => exact ⟨0, Nat.zero_le _, rfl, rfl, HB4.out⟩
      case round =>
        obtain ⟨k, hk, rfl, rfl, hb⟩ := hrel
        clear HB4
        by_cases hlt : k < m.length
        · have HB := Lib.hid hb
          have HS := Lib.hid (moreT_take (s0 := s2) hlt)
          have hsm := HM.out _ (List.getElem_mem hlt)
          obtain ⟨a', cap', ha', -, -, -, hvl1⟩ := HMA.out.open_
          simp only [Value.slice.injEq, true_and] at ha'
          obtain ⟨rfl, rfl⟩ := ha'
          rcases hvl1 with hnil | ⟨b1, off1, rfl, hb1, hc1⟩
          · rw [hnil] at hlt; simp at hlt
          have c1 := (HB.out.cell (p := ⟨b1, off1 + k * 2, none⟩) hb1).trans (hc1 k hlt).1
          have c2 := (HB.out.cell (p := ⟨b1, off1 + k * 2 + 1, none⟩) hb1).trans (hc1 k hlt).2
          have hbw : b1 < wr.heap.size := Nat.lt_of_lt_of_le hb1 HB.out.size
          have HT1 := Lib.hid (fun w' => three_c m[k].1 w' hsm.1.1 hsm.1.2)
          have HT3 := Lib.hid (fun w' => three_c m[k].2 w' hsm.2.1 hsm.2.2)
          clear hc1 hsm hb
          generalize m[k] = q at *
          obtain ⟨q1, q2⟩ := q
          simp only at c1 c2 HS HT1 HT3
          have hsz0 : (moreT s2 (m.take k)).size ≤ 1000 := by rw [moreT_size, List.length_take]; omega
          generalize moreT s2 (m.take k) = s1 at *
          have hsz1 := thr_size q1
          have hsz2 := thr_size q2
          obtain ⟨BD, hBD⟩ : ∃ BD, BD = wr.heap.size := ⟨_, rfl⟩
          obtain ⟨WD, hWD⟩ : ∃ WD, WD = wr.alloc (.cells #[.int .i64 q1, .int .i64 q2] 92) := ⟨_, rfl⟩
          have hbD : Below wr.heap.size wr WD := by rw [hWD]; exact bal _
          have HBD := Lib.hid (bstep HB.out hbD)
          have hD := alloc_new wr #[.int .i64 q1, .int .i64 q2] 92 BD hBD
          rw [← hWD] at hD
          have D0 := Lib.hid (cell_of_block (j := 0) hD rfl)
          have D1 := Lib.hid (cell_of_block (j := 1) hD rfl)
          clear hbD hD
          have hltb : decide ((k : Int) < (m.length : Int)) = true := by simp; omega
          go_wp2_with fail
          rw [← hBD, ← hWD]
          clear hBD hWD c1 c2
          refine Cl.region0 48 rfl [] (fun _ => True) (fun _ => []) (fun jq v ww => match jq with | 0 => v = .string s1 | 1 => v = .pointer (some ⟨BD, 0, none⟩) | 2 => v = .int .i64 q1 | 3 => v = .string (thr q1) | 4 => v = .pointer (some ⟨BD, 1, none⟩) | 5 => v = .int .i64 q2 | 6 => v = .string (thr q2) | 7 => v = .string ((thr q1) ++ (thr q2)) | 8 => v = .string (s1 ++ ((thr q1) ++ (thr q2))) | 9 => v = .string (s1 ++ ((thr q1) ++ (thr q2))) | _ => True) (fun ww => Below WD.heap.size WD ww) (fun jq ww ww' => Below ww.heap.size ww ww') Try.mixed (by decide +kernel) (Below.refl _ _).drew trivial (fun q r v w w' _ _ _ h _ => h) (fun _ _ _ _ _ _ => trivial) ?_ ?_
          · refine ⟨?_, ?_, ?_, ?_, ?_, ?_, ?_, ?_, ?_, ?_, trivial⟩
            · intro x wx hG
              have f3 := hG.old 3 (by decide +kernel)
              have hg := hG.good
              clear hG
              go_wp2
              exact ⟨_, rfl, rfl, hg, Below.refl _ _⟩
            · intro x wx hG
              have f7 := hG.old 7 (by decide +kernel)
              have hg := hG.good
              clear hG
              go_wp2
              exact ⟨_, rfl, rfl, hg, Below.refl _ _⟩
            · intro x wx hG
              have g1 : (x.tmps.getD 38 undef) = .pointer (some ⟨BD, 0, none⟩) := hG.claims 1 _ rfl (by decide +kernel) (by decide +kernel)
              have hg := hG.good
              clear hG
              have c_D0 := ckeep hg D0.out
              go_wp2
              exact ⟨_, rfl, rfl, hg, Below.refl _ _⟩
            · intro x wx hG
              have g2 : (x.tmps.getD 39 undef) = .int .i64 q1 := hG.claims 2 _ rfl (by decide +kernel) (by decide +kernel)
              have hg := hG.good
              clear hG
              go_wp2_with fail
              (with_reducible refine (HT1.out _).mono ?_)
              rintro e wq ⟨rfl, hb⟩
              go_wp2
              exact ⟨_, rfl, rfl, bstep hg hb, hb⟩
            · intro x wx hG
              have f7 := hG.old 7 (by decide +kernel)
              have hg := hG.good
              clear hG
              go_wp2
              exact ⟨_, rfl, rfl, hg, Below.refl _ _⟩
            · intro x wx hG
              have g4 : (x.tmps.getD 41 undef) = .pointer (some ⟨BD, 1, none⟩) := hG.claims 4 _ rfl (by decide +kernel) (by decide +kernel)
              have hg := hG.good
              clear hG
              have c_D1 := ckeep hg D1.out
              go_wp2
              exact ⟨_, rfl, rfl, hg, Below.refl _ _⟩
            · intro x wx hG
              have g5 : (x.tmps.getD 42 undef) = .int .i64 q2 := hG.claims 5 _ rfl (by decide +kernel) (by decide +kernel)
              have hg := hG.good
              clear hG
              go_wp2_with fail
              (with_reducible refine (HT3.out _).mono ?_)
              rintro e wq ⟨rfl, hb⟩
              go_wp2
              exact ⟨_, rfl, rfl, bstep hg hb, hb⟩
            · intro x wx hG
              have g3 : (x.tmps.getD 40 undef) = .string (thr q1) := hG.claims 3 _ rfl (by decide +kernel) (by decide +kernel)
              have g6 : (x.tmps.getD 43 undef) = .string (thr q2) := hG.claims 6 _ rfl (by decide +kernel) (by decide +kernel)
              have hg := hG.good
              clear hG
              have hsz : ¬ 9223372036854775807 < (thr q1).size + (thr q2).size := by (try simp only [ByteArray.size_append]); omega
              go_wp2
              exact ⟨_, rfl, rfl, hg, Below.refl _ _⟩
            · intro x wx hG
              have g0 : (x.tmps.getD 37 undef) = .string s1 := hG.claims 0 _ rfl (by decide +kernel) (by decide +kernel)
              have g7 : (x.tmps.getD 44 undef) = .string ((thr q1) ++ (thr q2)) := hG.claims 7 _ rfl (by decide +kernel) (by decide +kernel)
              have hg := hG.good
              clear hG
              have hsz : ¬ 9223372036854775807 < s1.size + ((thr q1) ++ (thr q2)).size := by (try simp only [ByteArray.size_append]); omega
              go_wp2
              exact ⟨_, rfl, rfl, hg, Below.refl _ _⟩
            · intro x wx hG
              have g8 : (x.tmps.getD 45 undef) = .string (s1 ++ ((thr q1) ++ (thr q2))) := hG.claims 8 _ rfl (by decide +kernel) (by decide +kernel)
              have hg := hG.good
              clear hG
              go_wp2
              exact ⟨_, rfl, rfl, hg, Below.refl _ _⟩
          · intro vals wz hg hF
            obtain ⟨g0, g1, g2, g3, g4, g5, g6, g7, g8, g9, -⟩ := hF
            have e0 : vals 0 = .string s1 := g0 rfl
            have e1 : vals 1 = .pointer (some ⟨BD, 0, none⟩) := g1 rfl
            have e2 : vals 2 = .int .i64 q1 := g2 rfl
            have e3 : vals 3 = .string (thr q1) := g3 rfl
            have e4 : vals 4 = .pointer (some ⟨BD, 1, none⟩) := g4 rfl
            have e5 : vals 5 = .int .i64 q2 := g5 rfl
            have e6 : vals 6 = .string (thr q2) := g6 rfl
            have e7 : vals 7 = .string ((thr q1) ++ (thr q2)) := g7 rfl
            have e8 : vals 8 = .string (s1 ++ ((thr q1) ++ (thr q2))) := g8 rfl
            have e9 : vals 9 = .string (s1 ++ ((thr q1) ++ (thr q2))) := g9 rfl
            simp only [Cl.puts, e0, e1, e2, e3, e4, e5, e6, e7, e8, e9]
            clear e0 e1 e2 e3 e4 e5 e6 e7 e8 e9 g0 g1 g2 g3 g4 g5 g6 g7 g8 g9
            go_simp
            have HBF := Lib.hid (HBD.out.trans (hg.mono HBD.out.size))
            clear hg HBD D0 D1 HT1 HT3
            go_wp2
            go_roundw
            case rel => exact ⟨k + 1, by omega, by go_num, by rw [HS.out], HBF.out⟩
            case measure => simp [intOf] <;> omega
        · obtain rfl : k = m.length := by omega
          rw [List.take_length]
          have HB := Lib.hid (HBEL.out.trans (hb.mono HBEL.out.size))
          have HKF := HK.out
          clear hb
          go_wp2
          go_ret
          exact ⟨by rw [HKF]; rfl, HB.out⟩
end Go.Proofs.Ythnkmjjldggecaa
namespace Go.Proofs.Ythnkmjjldggecaa
open Go.RowKit
theorem flat_take_le' {α : Type} {f : α → List UInt8} {l : List α} (k : Nat) : ((l.take k).flatMap f).length ≤ (l.flatMap f).length := by
  have h := congrArg (fun l => (l.flatMap f).length) (List.take_append_drop k l)
  simp only [List.flatMap_append, List.length_append] at h
  omega
set_option maxRecDepth 100000 in
set_option maxHeartbeats 1000000 in
theorem rsum_c (s : ByteArray) (hs : s.size ≤ 140737488355328) (w : World) :
    Calls Try.prog 122 #[.string s] w fun e w' => ∃ n, e = .returned (.int .i64 n) ∧ 0 ≤ n ∧ n < 16777216 ∧ w' = w := by
  go_enter Try.func122, Try.ntmps122
  go_wp2
  go_loop [3, 4] (fun n i => ∃ (k : Nat) (m : Int), k ≤ s.size ∧ i = .int .i64 k ∧ n = .int .i64 m ∧ 0 ≤ m ∧ m < 65521) (fun _ i => (intOf i).toNat)
  case atStart => exact ⟨s.size, 0, Nat.le_refl _, rfl, rfl, by omega, by omega⟩
  case round =>
    obtain ⟨k, m, hk, rfl, rfl, b0, b1⟩ := hrel
    by_cases hlt : 0 < k
    · obtain ⟨k, rfl⟩ : ∃ q, k = q + 1 := ⟨k - 1, by omega⟩
      have hks : k < s.size := by omega
      have hc : (s[k].toNat : Int) ≤ 255 := by have := s[k].toNat_lt; omega
      have hm0 : 0 ≤ ((k : Int) + 1) * (s[k].toNat : Int) := Int.mul_nonneg (by omega) (by omega)
      have hm1 : ((k : Int) + 1) * (s[k].toNat : Int) ≤ 140737488355328 * 255 := Int.mul_le_mul (by omega) hc (by omega) (by omega)
      have hz := Int.natCast_add k 1
      go_wp2
      go_round
      case rel => exact ⟨k, (m + ((k : Int) + 1) * (s[k].toNat : Int)) % 65521, by omega, by go_num, by go_num, by omega, by omega⟩
      case measure => simp [intOf] <;> omega
    · obtain rfl : k = 0 := by omega
      go_wp2
      go_ret
      exact ⟨_, rfl, b0, by omega, rfl⟩
set_option maxRecDepth 100000 in
set_option maxHeartbeats 16000000 in
theorem rpack_c (vv gv pv : Value) (b : Bt) (w : World) (hb : BtAt w vv gv pv b) (hok : BtOk b) :
    Calls Try.prog 59 #[.agg #[.int .i64 b.site, .int .i64 b.stamp, vv, gv, pv]] w fun e w' => ∃ s, e = .returned (.string s) ∧ s.size = (bodyW b).length + 3 ∧ Below w.heap.size w w' := by
  obtain ⟨va, vc, rfl⟩ := hb.vers.shape
  obtain ⟨ga, gc, rfl⟩ := hb.gone.shape
  obtain ⟨pa, pc, rfl⟩ := hb.parts.shape
  obtain ⟨s, t, V, G, P⟩ := b
  simp only at hb hok ⊢
  have HBO := Lib.hid (show (bodyW ⟨s, t, V, G, P⟩).length + 3 = 9 + (V.flatMap verW).length + 3 + (G.flatMap goneW).length + 3 + (P.flatMap partW).length + 3 by
    show (nums [s, t, (V.length : Int)] ++ V.flatMap verW ++ nums [(G.length : Int)] ++ G.flatMap goneW ++ nums [(P.length : Int)] ++ P.flatMap partW).length + 3 = _
    simp only [List.length_append, nums_len, List.length_cons, List.length_nil])
  obtain ⟨W, hW⟩ : ∃ W, W = w.alloc (.cells #[.int .i64 s, .int .i64 t, .slice va V.length vc, .slice ga G.length gc, .slice pa P.length pc] 64) := ⟨_, rfl⟩
  have hbel : Below w.heap.size w W := by rw [hW]; exact bal _
  have K1 := (show W.heap[w.heap.size]? = some (Obj.cells #[.int .i64 s, .int .i64 t, .slice va V.length vc, .slice ga G.length gc, .slice pa P.length pc] 64 (0, 0)) by rw [hW]; exact alloc_new _ _ _ _ rfl)
  have B0 := Lib.hid (cell_of_block (j := 0) K1 rfl)
  have B1 := Lib.hid (cell_of_block (j := 1) K1 rfl)
  have B2 := Lib.hid (cell_of_block (j := 2) K1 rfl)
  have B3 := Lib.hid (cell_of_block (j := 3) K1 rfl)
  have B4 := Lib.hid (cell_of_block (j := 4) K1 rfl)
  have BL := Lib.hid (hlt_of K1)
  have HBEL := Lib.hid hbel
  have hbx := hb.below hbel
  have HRV := Lib.hid (show RowAt verE W (.slice va V.length vc) V from hbx.vers)
  have HRG := Lib.hid (show RowAt goneE W (.slice ga G.length gc) G from hbx.gone)
  have HRP := Lib.hid (show RowAt partE W (.slice pa P.length pc) P from hbx.parts)
  clear hbx
  have HOV := Lib.hid (show ∀ v ∈ V, VerOk v from hok.vers)
  have HOG := Lib.hid (show ∀ g ∈ G, GnOk g from hok.gone)
  have HOP := Lib.hid (show ∀ x ∈ P, PtOk x from hok.parts)
  have hvl : V.length ≤ 60 := hok.vlen
  have hgl : G.length ≤ 60 := hok.glen
  have hpl : P.length ≤ 30 := hok.plen
  have HFV := Lib.hid (flat_le (l := V) (f := verW) (M := 500) fun x hx => verW_len (HOV.out x hx))
  have HFG := Lib.hid (flat_le (l := G) (f := goneW) (M := 500) fun x hx => goneW_len (HOG.out x hx))
  have HFP := Lib.hid (flat_le (l := P) (f := partW) (M := 5000) fun x hx => partW_len (HOP.out x hx))
  have hst : S24 s := by have h := hok.site; dsimp only at h; unfold S24; omega
  have htt : S24 t := by have h := hok.stamp; dsimp only at h; unfold S24; omega
  have HTs := Lib.hid (fun w' => three_c s w' hst.1 hst.2)
  have HTt := Lib.hid (fun w' => three_c t w' htt.1 htt.2)
  have HTV := Lib.hid (fun w' => three_c (V.length : Nat) w' (by omega) (by omega))
  have HTG := Lib.hid (fun w' => three_c (G.length : Nat) w' (by omega) (by omega))
  have HTP := Lib.hid (fun w' => three_c (P.length : Nat) w' (by omega) (by omega))
  clear hb hok hbel K1 hst htt
  go_enter Try.func59, Try.ntmps59
  go_wp2_with fail
  rw [← hW]
  clear hW
  refine Cl.region0 169 rfl [] (fun _ => True) (fun _ => []) (fun jq v ww => match jq with | 0 => v = .pointer (some ⟨w.heap.size, 0, none⟩) | 1 => v = .int .i64 s | 2 => v = .string (thr s) | 3 => v = .pointer (some ⟨w.heap.size, 1, none⟩) | 4 => v = .int .i64 t | 5 => v = .string (thr t) | 6 => v = .string ((thr s) ++ (thr t)) | 7 => v = .pointer (some ⟨w.heap.size, 2, none⟩) | 8 => v = .slice va V.length vc | 9 => v = .int .i64 (V.length : Nat) | 10 => v = .string (thr (V.length : Nat)) | 11 => v = .string (((thr s) ++ (thr t)) ++ (thr (V.length : Nat))) | 12 => v = .string (((thr s) ++ (thr t)) ++ (thr (V.length : Nat))) | _ => True) (fun ww => Below W.heap.size W ww) (fun jq ww ww' => Below ww.heap.size ww ww') Try.mixed (by decide +kernel) (Below.refl _ _).drew trivial (fun q r v w w' _ _ _ h _ => h) (fun _ _ _ _ _ _ => trivial) ?_ ?_
  · refine ⟨?_, ?_, ?_, ?_, ?_, ?_, ?_, ?_, ?_, ?_, ?_, ?_, ?_, trivial⟩
    · intro x wx hG
      have f1 := hG.old 1 (by decide +kernel)
      have hg := hG.good
      clear hG
      go_wp2
      exact ⟨_, rfl, rfl, hg, Below.refl _ _⟩
    · intro x wx hG
      have g0 : (x.tmps.getD 14 undef) = .pointer (some ⟨w.heap.size, 0, none⟩) := hG.claims 0 _ rfl (by decide +kernel) (by decide +kernel)
      have hg := hG.good
      clear hG
      have c_B0 := ckeep hg B0.out
      go_wp2
      exact ⟨_, rfl, rfl, hg, Below.refl _ _⟩
    · intro x wx hG
      have g1 : (x.tmps.getD 15 undef) = .int .i64 s := hG.claims 1 _ rfl (by decide +kernel) (by decide +kernel)
      have hg := hG.good
      clear hG
      go_wp2_with fail
      (with_reducible refine (HTs.out _).mono ?_)
      rintro e wq ⟨rfl, hb⟩
      go_wp2
      exact ⟨_, rfl, rfl, bstep hg hb, hb⟩
    · intro x wx hG
      have f1 := hG.old 1 (by decide +kernel)
      have hg := hG.good
      clear hG
      go_wp2
      exact ⟨_, rfl, rfl, hg, Below.refl _ _⟩
    · intro x wx hG
      have g3 : (x.tmps.getD 17 undef) = .pointer (some ⟨w.heap.size, 1, none⟩) := hG.claims 3 _ rfl (by decide +kernel) (by decide +kernel)
      have hg := hG.good
      clear hG
      have c_B1 := ckeep hg B1.out
      go_wp2
      exact ⟨_, rfl, rfl, hg, Below.refl _ _⟩
    · intro x wx hG
      have g4 : (x.tmps.getD 18 undef) = .int .i64 t := hG.claims 4 _ rfl (by decide +kernel) (by decide +kernel)
      have hg := hG.good
      clear hG
      go_wp2_with fail
      (with_reducible refine (HTt.out _).mono ?_)
      rintro e wq ⟨rfl, hb⟩
      go_wp2
      exact ⟨_, rfl, rfl, bstep hg hb, hb⟩
    · intro x wx hG
      have g2 : (x.tmps.getD 16 undef) = .string (thr s) := hG.claims 2 _ rfl (by decide +kernel) (by decide +kernel)
      have g5 : (x.tmps.getD 19 undef) = .string (thr t) := hG.claims 5 _ rfl (by decide +kernel) (by decide +kernel)
      have hg := hG.good
      clear hG
      have z0 := thr_size s
      have z1 := thr_size t
      have z2 := thr_size (V.length : Nat)
      have hsz : ¬ 9223372036854775807 < (thr s).size + (thr t).size := by (try simp only [ByteArray.size_append]); omega
      go_wp2
      exact ⟨_, rfl, rfl, hg, Below.refl _ _⟩
    · intro x wx hG
      have f1 := hG.old 1 (by decide +kernel)
      have hg := hG.good
      clear hG
      go_wp2
      exact ⟨_, rfl, rfl, hg, Below.refl _ _⟩
    · intro x wx hG
      have g7 : (x.tmps.getD 21 undef) = .pointer (some ⟨w.heap.size, 2, none⟩) := hG.claims 7 _ rfl (by decide +kernel) (by decide +kernel)
      have hg := hG.good
      clear hG
      have c_B2 := ckeep hg B2.out
      go_wp2
      exact ⟨_, rfl, rfl, hg, Below.refl _ _⟩
    · intro x wx hG
      have g8 : (x.tmps.getD 22 undef) = .slice va V.length vc := hG.claims 8 _ rfl (by decide +kernel) (by decide +kernel)
      have hg := hG.good
      clear hG
      go_wp2
      exact ⟨_, rfl, rfl, hg, Below.refl _ _⟩
    · intro x wx hG
      have g9 : (x.tmps.getD 23 undef) = .int .i64 (V.length : Nat) := hG.claims 9 _ rfl (by decide +kernel) (by decide +kernel)
      have hg := hG.good
      clear hG
      go_wp2_with fail
      (with_reducible refine (HTV.out _).mono ?_)
      rintro e wq ⟨rfl, hb⟩
      go_wp2
      exact ⟨_, rfl, rfl, bstep hg hb, hb⟩
    · intro x wx hG
      have g6 : (x.tmps.getD 20 undef) = .string ((thr s) ++ (thr t)) := hG.claims 6 _ rfl (by decide +kernel) (by decide +kernel)
      have g10 : (x.tmps.getD 24 undef) = .string (thr (V.length : Nat)) := hG.claims 10 _ rfl (by decide +kernel) (by decide +kernel)
      have hg := hG.good
      clear hG
      have z0 := thr_size s
      have z1 := thr_size t
      have z2 := thr_size (V.length : Nat)
      have hsz : ¬ 9223372036854775807 < ((thr s) ++ (thr t)).size + (thr (V.length : Nat)).size := by (try simp only [ByteArray.size_append]); omega
      go_wp2
      exact ⟨_, rfl, rfl, hg, Below.refl _ _⟩
    · intro x wx hG
      have g11 : (x.tmps.getD 25 undef) = .string (((thr s) ++ (thr t)) ++ (thr (V.length : Nat))) := hG.claims 11 _ rfl (by decide +kernel) (by decide +kernel)
      have hg := hG.good
      clear hG
      go_wp2
      exact ⟨_, rfl, rfl, hg, Below.refl _ _⟩
  · intro vals wz hg hF
    obtain ⟨g0, g1, g2, g3, g4, g5, g6, g7, g8, g9, g10, g11, g12, -⟩ := hF
    have e0 : vals 0 = .pointer (some ⟨w.heap.size, 0, none⟩) := g0 rfl
    have e1 : vals 1 = .int .i64 s := g1 rfl
    have e2 : vals 2 = .string (thr s) := g2 rfl
    have e3 : vals 3 = .pointer (some ⟨w.heap.size, 1, none⟩) := g3 rfl
    have e4 : vals 4 = .int .i64 t := g4 rfl
    have e5 : vals 5 = .string (thr t) := g5 rfl
    have e6 : vals 6 = .string ((thr s) ++ (thr t)) := g6 rfl
    have e7 : vals 7 = .pointer (some ⟨w.heap.size, 2, none⟩) := g7 rfl
    have e8 : vals 8 = .slice va V.length vc := g8 rfl
    have e9 : vals 9 = .int .i64 (V.length : Nat) := g9 rfl
    have e10 : vals 10 = .string (thr (V.length : Nat)) := g10 rfl
    have e11 : vals 11 = .string (((thr s) ++ (thr t)) ++ (thr (V.length : Nat))) := g11 rfl
    have e12 : vals 12 = .string (((thr s) ++ (thr t)) ++ (thr (V.length : Nat))) := g12 rfl
    simp only [Cl.puts, e0, e1, e2, e3, e4, e5, e6, e7, e8, e9, e10, e11, e12]
    clear e0 e1 e2 e3 e4 e5 e6 e7 e8 e9 e10 e11 e12 g0 g1 g2 g3 g4 g5 g6 g7 g8 g9 g10 g11 g12
    go_simp
    have hs0 : (((thr s) ++ (thr t)) ++ (thr (V.length : Nat))).size = 9 := rfl
    generalize (((thr s) ++ (thr t)) ++ (thr (V.length : Nat))) = S0 at *
    have HB0 := Lib.hid (show Below W.heap.size W wz from hg)
    have c2 := ckeep hg B2.out
    have cl := Nat.lt_of_lt_of_le BL.out hg.size
    clear hg HTs HTt HTV B0 B1
    go_wp2
    clear c2 cl
    go_loopw [3, 29] (fun ov i wr => ∃ (k : Nat) (S : ByteArray), k ≤ V.length ∧ i = .int .i64 k ∧ ov = .string S ∧ S.size = S0.size + ((V.take k).flatMap verW).length ∧ Below W.heap.size W wr) (fun _ i _ => V.length - (intOf i).toNat)
    case atStart => exact ⟨0, S0, Nat.zero_le _, rfl, rfl, by simp, HB0.out⟩
    case round =>
      obtain ⟨k, S, hk, rfl, rfl, hsz, hb⟩ := hrel
      have HR := Lib.hid hb
      clear HB0 hb
      by_cases hlt : k < V.length
      · have HSZ := Lib.hid hsz
        have hSb : S.size ≤ 40000 := by
          have h9 := flat_take_le' (l := V) (f := verW) k
          have h8 := HFV.out
          omega
        have HST := Lib.hid (show ((V.take (k + 1)).flatMap verW).length = ((V.take k).flatMap verW).length + (verW V[k]).length by rw [flatw_take verW hlt, List.length_append])
        clear hsz
        obtain ⟨a', cap', ha', -, -, -, hvl1⟩ := HRV.out.open_
        simp only [Value.slice.injEq, true_and] at ha'
        obtain ⟨ha', rfl⟩ := ha'
        rcases hvl1 with hnil | ⟨b, off, rfl, hb, hc⟩
        · rw [hnil] at hlt; simp at hlt
        subst ha'
        obtain ⟨c, ⟨u, x, rfl, hk2⟩, hcc⟩ := hc k hlt
        have HOK := HOV.out _ (List.getElem_mem hlt)
        have hcl := fun (j : Nat) (y : Value) (hy : (verC V[k] u x).toList[j]? = some y) => row8 (w := wr) (b := b) (off := off) (i := k) (fun j y hy => (HR.out.cell (p := ⟨b, off + (k * verE.size + j), none⟩) hb).trans (hcc j y hy)) hy
        have c0 := hcl 0 _ rfl
        have c1 := hcl 1 _ rfl
        have c2 := hcl 2 _ rfl
        have c3 := hcl 3 _ rfl
        have c4 := hcl 4 _ rfl
        have c5 := hcl 5 _ rfl
        have c6 := hcl 6 _ rfl
        have c7 := hcl 7 _ rfl
        rw [Nat.add_zero] at c0
        obtain ⟨ua, uc, rfl⟩ := hk2.vec.shape
        obtain ⟨xa, xc, rfl⟩ := hk2.more.shape
        have hbw : b < wr.heap.size := Nat.lt_of_lt_of_le hb HR.out.size
        have HKN := Lib.hid (hk2.below HR.out)
        clear hc hcc hcl hk2 hb
        have HVL := Lib.hid (show (verW V[k]).length = 18 + V[k].id.size + (knW V[k].past).length by
          unfold verW; rw [List.length_append, List.length_append, textW_len, nums_len]; simp only [List.length_cons, List.length_nil]; omega)
        generalize V[k] = v1 at *
        have hi1 := id_size HOK.id
        have hd1 := dotOk_iff.1 HOK.dot
        have hd2 := HOK.pt
        have hd3 := HOK.bd
        simp only [ptOk, tagsB, Bool.and_eq_true, decide_eq_true_eq] at hd2
        simp only at hd1
        have HT1 := Lib.hid (fun w' => three_c (v1.id.size : Nat) w' (by omega) (by omega))
        have HT2 := Lib.hid (fun w' => three_c v1.ds w' (by omega) (by omega))
        have HT3 := Lib.hid (fun w' => three_c v1.dc w' (by omega) (by omega))
        have HT4 := Lib.hid (fun w' => three_c v1.tg w' (by omega) (by omega))
        have HT5 := Lib.hid (fun w' => three_c v1.nm w' (by omega) (by omega))
        have HT6 := Lib.hid (fun w' => three_c v1.bd w' (by omega) (by omega))
        have hltb : decide ((k : Int) < (V.length : Int)) = true := by simp; omega
        obtain ⟨BV, hBV⟩ : ∃ BV, BV = wr.heap.size := ⟨_, rfl⟩
        obtain ⟨WV, hWV⟩ : ∃ WV, WV = wr.alloc (.cells #[.string v1.id, .int .i64 v1.ds, .int .i64 v1.dc, .int .i64 v1.tg, .int .i64 v1.nm, .int .i64 v1.bd, .slice ua v1.past.vec.length uc, .slice xa v1.past.more.length xc] 109) := ⟨_, rfl⟩
        have hbW : Below wr.heap.size wr WV := by rw [hWV]; exact bal _
        have HBV := Lib.hid (bstep HR.out hbW)
        have HBVr := Lib.hid hbW
        have hKK := (show WV.heap[BV]? = some (Obj.cells #[.string v1.id, .int .i64 v1.ds, .int .i64 v1.dc, .int .i64 v1.tg, .int .i64 v1.nm, .int .i64 v1.bd, .slice ua v1.past.vec.length uc, .slice xa v1.past.more.length xc] 109 (0, 0)) by rw [hWV]; exact alloc_new _ _ _ _ hBV)
        have D0 := Lib.hid (cell_of_block (j := 0) hKK rfl)
        have D1 := Lib.hid (cell_of_block (j := 1) hKK rfl)
        have D2 := Lib.hid (cell_of_block (j := 2) hKK rfl)
        have D3 := Lib.hid (cell_of_block (j := 3) hKK rfl)
        have D4 := Lib.hid (cell_of_block (j := 4) hKK rfl)
        have D5 := Lib.hid (cell_of_block (j := 5) hKK rfl)
        have D6 := Lib.hid (cell_of_block (j := 6) hKK rfl)
        have D7 := Lib.hid (cell_of_block (j := 7) hKK rfl)
        have DL := Lib.hid (hlt_of hKK)
        clear hbW hKK
        have HKK := Lib.hid (fun wx (h : Below WV.heap.size WV wx) => rknows_c _ _ v1.past wx (HKN.out.below ((HBVr.out).trans (h.mono HBVr.out.size))) HOK.past HOK.len)
        have hkl : (knW v1.past).length ≤ 400 := by have := HOK.past.len; have := HOK.len; rw [knW_len]; omega
        have hks := knT_size v1.past
        clear HOK HKN
        go_wp2_with fail
        rw [← hBV, ← hWV]
        clear hBV hWV c0 c1 c2 c3 c4 c5 c6 c7
        refine Cl.region0 169 rfl [] (fun _ => True) (fun _ => []) (fun jq v ww => match jq with | 0 => v = .string S | 1 => v = .pointer (some ⟨BV, 0, none⟩) | 2 => v = .string v1.id | 3 => v = .int .i64 (v1.id.size : Nat) | 4 => v = .string (thr (v1.id.size : Nat)) | 5 => v = .pointer (some ⟨BV, 0, none⟩) | 6 => v = .string v1.id | 7 => v = .string ((thr (v1.id.size : Nat)) ++ (v1.id)) | 8 => v = .pointer (some ⟨BV, 1, none⟩) | 9 => v = .pointer (some ⟨BV, 1, none⟩) | 10 => v = .int .i64 v1.ds | 11 => v = .string (thr v1.ds) | 12 => v = .string (((thr (v1.id.size : Nat)) ++ (v1.id)) ++ (thr v1.ds)) | 13 => v = .pointer (some ⟨BV, 1, none⟩) | 14 => v = .pointer (some ⟨BV, 2, none⟩) | 15 => v = .int .i64 v1.dc | 16 => v = .string (thr v1.dc) | 17 => v = .string ((((thr (v1.id.size : Nat)) ++ (v1.id)) ++ (thr v1.ds)) ++ (thr v1.dc)) | 18 => v = .pointer (some ⟨BV, 3, none⟩) | 19 => v = .pointer (some ⟨BV, 3, none⟩) | 20 => v = .int .i64 v1.tg | 21 => v = .string (thr v1.tg) | 22 => v = .string (((((thr (v1.id.size : Nat)) ++ (v1.id)) ++ (thr v1.ds)) ++ (thr v1.dc)) ++ (thr v1.tg)) | 23 => v = .pointer (some ⟨BV, 3, none⟩) | 24 => v = .pointer (some ⟨BV, 4, none⟩) | 25 => v = .int .i64 v1.nm | 26 => v = .string (thr v1.nm) | 27 => v = .string ((((((thr (v1.id.size : Nat)) ++ (v1.id)) ++ (thr v1.ds)) ++ (thr v1.dc)) ++ (thr v1.tg)) ++ (thr v1.nm)) | 28 => v = .pointer (some ⟨BV, 5, none⟩) | 29 => v = .int .i64 v1.bd | 30 => v = .string (thr v1.bd) | 31 => v = .string (((((((thr (v1.id.size : Nat)) ++ (v1.id)) ++ (thr v1.ds)) ++ (thr v1.dc)) ++ (thr v1.tg)) ++ (thr v1.nm)) ++ (thr v1.bd)) | 32 => v = .pointer (some ⟨BV, 6, none⟩) | 33 => v = .agg #[.slice ua v1.past.vec.length uc, .slice xa v1.past.more.length xc] | 34 => v = .string (knT v1.past) | 35 => v = .string ((((((((thr (v1.id.size : Nat)) ++ (v1.id)) ++ (thr v1.ds)) ++ (thr v1.dc)) ++ (thr v1.tg)) ++ (thr v1.nm)) ++ (thr v1.bd)) ++ (knT v1.past)) | 36 => v = .string (S ++ ((((((((thr (v1.id.size : Nat)) ++ (v1.id)) ++ (thr v1.ds)) ++ (thr v1.dc)) ++ (thr v1.tg)) ++ (thr v1.nm)) ++ (thr v1.bd)) ++ (knT v1.past))) | 37 => v = .string (S ++ ((((((((thr (v1.id.size : Nat)) ++ (v1.id)) ++ (thr v1.ds)) ++ (thr v1.dc)) ++ (thr v1.tg)) ++ (thr v1.nm)) ++ (thr v1.bd)) ++ (knT v1.past))) | _ => True) (fun ww => Below WV.heap.size WV ww) (fun jq ww ww' => Below ww.heap.size ww ww') Try.mixed (by decide +kernel) (Below.refl _ _).drew trivial (fun q r v w w' _ _ _ h _ => h) (fun _ _ _ _ _ _ => trivial) ?_ ?_
        · refine ⟨?_, ?_, ?_, ?_, ?_, ?_, ?_, ?_, ?_, ?_, ?_, ?_, ?_, ?_, ?_, ?_, ?_, ?_, ?_, ?_, ?_, ?_, ?_, ?_, ?_, ?_, ?_, ?_, ?_, ?_, ?_, ?_, ?_, ?_, ?_, ?_, ?_, ?_, trivial⟩
          · intro x wx hG
            have f3 := hG.old 3 (by decide +kernel)
            have hg := hG.good
            clear hG
            go_wp2
            exact ⟨_, rfl, rfl, hg, Below.refl _ _⟩
          · intro x wx hG
            have f5 := hG.old 5 (by decide +kernel)
            have hg := hG.good
            clear hG
            go_wp2
            exact ⟨_, rfl, rfl, hg, Below.refl _ _⟩
          · intro x wx hG
            have g1 : (x.tmps.getD 34 undef) = .pointer (some ⟨BV, 0, none⟩) := hG.claims 1 _ rfl (by decide +kernel) (by decide +kernel)
            have hg := hG.good
            clear hG
            have c_D0 := ckeep hg D0.out
            go_wp2
            exact ⟨_, rfl, rfl, hg, Below.refl _ _⟩
          · intro x wx hG
            have g2 : (x.tmps.getD 35 undef) = .string v1.id := hG.claims 2 _ rfl (by decide +kernel) (by decide +kernel)
            have hg := hG.good
            clear hG
            go_wp2
            exact ⟨_, rfl, rfl, hg, Below.refl _ _⟩
          · intro x wx hG
            have g3 : (x.tmps.getD 36 undef) = .int .i64 (v1.id.size : Nat) := hG.claims 3 _ rfl (by decide +kernel) (by decide +kernel)
            have hg := hG.good
            clear hG
            go_wp2_with fail
            (with_reducible refine (HT1.out _).mono ?_)
            rintro e wq ⟨rfl, hb⟩
            go_wp2
            exact ⟨_, rfl, rfl, bstep hg hb, hb⟩
          · intro x wx hG
            have f5 := hG.old 5 (by decide +kernel)
            have hg := hG.good
            clear hG
            go_wp2
            exact ⟨_, rfl, rfl, hg, Below.refl _ _⟩
          · intro x wx hG
            have g5 : (x.tmps.getD 38 undef) = .pointer (some ⟨BV, 0, none⟩) := hG.claims 5 _ rfl (by decide +kernel) (by decide +kernel)
            have hg := hG.good
            clear hG
            have c_D0 := ckeep hg D0.out
            go_wp2
            exact ⟨_, rfl, rfl, hg, Below.refl _ _⟩
          · intro x wx hG
            have g4 : (x.tmps.getD 37 undef) = .string (thr (v1.id.size : Nat)) := hG.claims 4 _ rfl (by decide +kernel) (by decide +kernel)
            have g6 : (x.tmps.getD 39 undef) = .string v1.id := hG.claims 6 _ rfl (by decide +kernel) (by decide +kernel)
            have hg := hG.good
            clear hG
            have z0 := thr_size (v1.id.size : Nat)
            have z1 := thr_size v1.ds
            have z2 := thr_size v1.dc
            have z3 := thr_size v1.tg
            have z4 := thr_size v1.nm
            have z5 := thr_size v1.bd
            have hsz : ¬ 9223372036854775807 < (thr (v1.id.size : Nat)).size + (v1.id).size := by (try simp only [ByteArray.size_append]); omega
            go_wp2
            exact ⟨_, rfl, rfl, hg, Below.refl _ _⟩
          · intro x wx hG
            have f5 := hG.old 5 (by decide +kernel)
            have hg := hG.good
            clear hG
            go_wp2
            exact ⟨_, rfl, rfl, hg, Below.refl _ _⟩
          · intro x wx hG
            have g8 : (x.tmps.getD 41 undef) = .pointer (some ⟨BV, 1, none⟩) := hG.claims 8 _ rfl (by decide +kernel) (by decide +kernel)
            have hg := hG.good
            clear hG
            go_wp2
            exact ⟨_, rfl, rfl, hg, Below.refl _ _⟩
          · intro x wx hG
            have g9 : (x.tmps.getD 42 undef) = .pointer (some ⟨BV, 1, none⟩) := hG.claims 9 _ rfl (by decide +kernel) (by decide +kernel)
            have hg := hG.good
            clear hG
            have c_D1 := ckeep hg D1.out
            go_wp2
            exact ⟨_, rfl, rfl, hg, Below.refl _ _⟩
          · intro x wx hG
            have g10 : (x.tmps.getD 43 undef) = .int .i64 v1.ds := hG.claims 10 _ rfl (by decide +kernel) (by decide +kernel)
            have hg := hG.good
            clear hG
            go_wp2_with fail
            (with_reducible refine (HT2.out _).mono ?_)
            rintro e wq ⟨rfl, hb⟩
            go_wp2
            exact ⟨_, rfl, rfl, bstep hg hb, hb⟩
          · intro x wx hG
            have g7 : (x.tmps.getD 40 undef) = .string ((thr (v1.id.size : Nat)) ++ (v1.id)) := hG.claims 7 _ rfl (by decide +kernel) (by decide +kernel)
            have g11 : (x.tmps.getD 44 undef) = .string (thr v1.ds) := hG.claims 11 _ rfl (by decide +kernel) (by decide +kernel)
            have hg := hG.good
            clear hG
            have z0 := thr_size (v1.id.size : Nat)
            have z1 := thr_size v1.ds
            have z2 := thr_size v1.dc
            have z3 := thr_size v1.tg
            have z4 := thr_size v1.nm
            have z5 := thr_size v1.bd
            have hsz : ¬ 9223372036854775807 < ((thr (v1.id.size : Nat)) ++ (v1.id)).size + (thr v1.ds).size := by (try simp only [ByteArray.size_append]); omega
            go_wp2
            exact ⟨_, rfl, rfl, hg, Below.refl _ _⟩
          · intro x wx hG
            have f5 := hG.old 5 (by decide +kernel)
            have hg := hG.good
            clear hG
            go_wp2
            exact ⟨_, rfl, rfl, hg, Below.refl _ _⟩
          · intro x wx hG
            have g13 : (x.tmps.getD 46 undef) = .pointer (some ⟨BV, 1, none⟩) := hG.claims 13 _ rfl (by decide +kernel) (by decide +kernel)
            have hg := hG.good
            clear hG
            go_wp2
            exact ⟨_, rfl, rfl, hg, Below.refl _ _⟩
          · intro x wx hG
            have g14 : (x.tmps.getD 47 undef) = .pointer (some ⟨BV, 2, none⟩) := hG.claims 14 _ rfl (by decide +kernel) (by decide +kernel)
            have hg := hG.good
            clear hG
            have c_D2 := ckeep hg D2.out
            go_wp2
            exact ⟨_, rfl, rfl, hg, Below.refl _ _⟩
          · intro x wx hG
            have g15 : (x.tmps.getD 48 undef) = .int .i64 v1.dc := hG.claims 15 _ rfl (by decide +kernel) (by decide +kernel)
            have hg := hG.good
            clear hG
            go_wp2_with fail
            (with_reducible refine (HT3.out _).mono ?_)
            rintro e wq ⟨rfl, hb⟩
            go_wp2
            exact ⟨_, rfl, rfl, bstep hg hb, hb⟩
          · intro x wx hG
            have g12 : (x.tmps.getD 45 undef) = .string (((thr (v1.id.size : Nat)) ++ (v1.id)) ++ (thr v1.ds)) := hG.claims 12 _ rfl (by decide +kernel) (by decide +kernel)
            have g16 : (x.tmps.getD 49 undef) = .string (thr v1.dc) := hG.claims 16 _ rfl (by decide +kernel) (by decide +kernel)
            have hg := hG.good
            clear hG
            have z0 := thr_size (v1.id.size : Nat)
            have z1 := thr_size v1.ds
            have z2 := thr_size v1.dc
            have z3 := thr_size v1.tg
            have z4 := thr_size v1.nm
            have z5 := thr_size v1.bd
            have hsz : ¬ 9223372036854775807 < (((thr (v1.id.size : Nat)) ++ (v1.id)) ++ (thr v1.ds)).size + (thr v1.dc).size := by (try simp only [ByteArray.size_append]); omega
            go_wp2
            exact ⟨_, rfl, rfl, hg, Below.refl _ _⟩
          · intro x wx hG
            have f5 := hG.old 5 (by decide +kernel)
            have hg := hG.good
            clear hG
            go_wp2
            exact ⟨_, rfl, rfl, hg, Below.refl _ _⟩
          · intro x wx hG
            have g18 : (x.tmps.getD 51 undef) = .pointer (some ⟨BV, 3, none⟩) := hG.claims 18 _ rfl (by decide +kernel) (by decide +kernel)
            have hg := hG.good
            clear hG
            go_wp2
            exact ⟨_, rfl, rfl, hg, Below.refl _ _⟩
          · intro x wx hG
            have g19 : (x.tmps.getD 52 undef) = .pointer (some ⟨BV, 3, none⟩) := hG.claims 19 _ rfl (by decide +kernel) (by decide +kernel)
            have hg := hG.good
            clear hG
            have c_D3 := ckeep hg D3.out
            go_wp2
            exact ⟨_, rfl, rfl, hg, Below.refl _ _⟩
          · intro x wx hG
            have g20 : (x.tmps.getD 53 undef) = .int .i64 v1.tg := hG.claims 20 _ rfl (by decide +kernel) (by decide +kernel)
            have hg := hG.good
            clear hG
            go_wp2_with fail
            (with_reducible refine (HT4.out _).mono ?_)
            rintro e wq ⟨rfl, hb⟩
            go_wp2
            exact ⟨_, rfl, rfl, bstep hg hb, hb⟩
          · intro x wx hG
            have g17 : (x.tmps.getD 50 undef) = .string ((((thr (v1.id.size : Nat)) ++ (v1.id)) ++ (thr v1.ds)) ++ (thr v1.dc)) := hG.claims 17 _ rfl (by decide +kernel) (by decide +kernel)
            have g21 : (x.tmps.getD 54 undef) = .string (thr v1.tg) := hG.claims 21 _ rfl (by decide +kernel) (by decide +kernel)
            have hg := hG.good
            clear hG
            have z0 := thr_size (v1.id.size : Nat)
            have z1 := thr_size v1.ds
            have z2 := thr_size v1.dc
            have z3 := thr_size v1.tg
            have z4 := thr_size v1.nm
            have z5 := thr_size v1.bd
            have hsz : ¬ 9223372036854775807 < ((((thr (v1.id.size : Nat)) ++ (v1.id)) ++ (thr v1.ds)) ++ (thr v1.dc)).size + (thr v1.tg).size := by (try simp only [ByteArray.size_append]); omega
            go_wp2
            exact ⟨_, rfl, rfl, hg, Below.refl _ _⟩
          · intro x wx hG
            have f5 := hG.old 5 (by decide +kernel)
            have hg := hG.good
            clear hG
            go_wp2
            exact ⟨_, rfl, rfl, hg, Below.refl _ _⟩
          · intro x wx hG
            have g23 : (x.tmps.getD 56 undef) = .pointer (some ⟨BV, 3, none⟩) := hG.claims 23 _ rfl (by decide +kernel) (by decide +kernel)
            have hg := hG.good
            clear hG
            go_wp2
            exact ⟨_, rfl, rfl, hg, Below.refl _ _⟩
          · intro x wx hG
            have g24 : (x.tmps.getD 57 undef) = .pointer (some ⟨BV, 4, none⟩) := hG.claims 24 _ rfl (by decide +kernel) (by decide +kernel)
            have hg := hG.good
            clear hG
            have c_D4 := ckeep hg D4.out
            go_wp2
            exact ⟨_, rfl, rfl, hg, Below.refl _ _⟩
          · intro x wx hG
            have g25 : (x.tmps.getD 58 undef) = .int .i64 v1.nm := hG.claims 25 _ rfl (by decide +kernel) (by decide +kernel)
            have hg := hG.good
            clear hG
            go_wp2_with fail
            (with_reducible refine (HT5.out _).mono ?_)
            rintro e wq ⟨rfl, hb⟩
            go_wp2
            exact ⟨_, rfl, rfl, bstep hg hb, hb⟩
          · intro x wx hG
            have g22 : (x.tmps.getD 55 undef) = .string (((((thr (v1.id.size : Nat)) ++ (v1.id)) ++ (thr v1.ds)) ++ (thr v1.dc)) ++ (thr v1.tg)) := hG.claims 22 _ rfl (by decide +kernel) (by decide +kernel)
            have g26 : (x.tmps.getD 59 undef) = .string (thr v1.nm) := hG.claims 26 _ rfl (by decide +kernel) (by decide +kernel)
            have hg := hG.good
            clear hG
            have z0 := thr_size (v1.id.size : Nat)
            have z1 := thr_size v1.ds
            have z2 := thr_size v1.dc
            have z3 := thr_size v1.tg
            have z4 := thr_size v1.nm
            have z5 := thr_size v1.bd
            have hsz : ¬ 9223372036854775807 < (((((thr (v1.id.size : Nat)) ++ (v1.id)) ++ (thr v1.ds)) ++ (thr v1.dc)) ++ (thr v1.tg)).size + (thr v1.nm).size := by (try simp only [ByteArray.size_append]); omega
            go_wp2
            exact ⟨_, rfl, rfl, hg, Below.refl _ _⟩
          · intro x wx hG
            have f5 := hG.old 5 (by decide +kernel)
            have hg := hG.good
            clear hG
            go_wp2
            exact ⟨_, rfl, rfl, hg, Below.refl _ _⟩
          · intro x wx hG
            have g28 : (x.tmps.getD 61 undef) = .pointer (some ⟨BV, 5, none⟩) := hG.claims 28 _ rfl (by decide +kernel) (by decide +kernel)
            have hg := hG.good
            clear hG
            have c_D5 := ckeep hg D5.out
            go_wp2
            exact ⟨_, rfl, rfl, hg, Below.refl _ _⟩
          · intro x wx hG
            have g29 : (x.tmps.getD 62 undef) = .int .i64 v1.bd := hG.claims 29 _ rfl (by decide +kernel) (by decide +kernel)
            have hg := hG.good
            clear hG
            go_wp2_with fail
            (with_reducible refine (HT6.out _).mono ?_)
            rintro e wq ⟨rfl, hb⟩
            go_wp2
            exact ⟨_, rfl, rfl, bstep hg hb, hb⟩
          · intro x wx hG
            have g27 : (x.tmps.getD 60 undef) = .string ((((((thr (v1.id.size : Nat)) ++ (v1.id)) ++ (thr v1.ds)) ++ (thr v1.dc)) ++ (thr v1.tg)) ++ (thr v1.nm)) := hG.claims 27 _ rfl (by decide +kernel) (by decide +kernel)
            have g30 : (x.tmps.getD 63 undef) = .string (thr v1.bd) := hG.claims 30 _ rfl (by decide +kernel) (by decide +kernel)
            have hg := hG.good
            clear hG
            have z0 := thr_size (v1.id.size : Nat)
            have z1 := thr_size v1.ds
            have z2 := thr_size v1.dc
            have z3 := thr_size v1.tg
            have z4 := thr_size v1.nm
            have z5 := thr_size v1.bd
            have hsz : ¬ 9223372036854775807 < ((((((thr (v1.id.size : Nat)) ++ (v1.id)) ++ (thr v1.ds)) ++ (thr v1.dc)) ++ (thr v1.tg)) ++ (thr v1.nm)).size + (thr v1.bd).size := by (try simp only [ByteArray.size_append]); omega
            go_wp2
            exact ⟨_, rfl, rfl, hg, Below.refl _ _⟩
          · intro x wx hG
            have f5 := hG.old 5 (by decide +kernel)
            have hg := hG.good
            clear hG
            go_wp2
            exact ⟨_, rfl, rfl, hg, Below.refl _ _⟩
          · intro x wx hG
            have g32 : (x.tmps.getD 65 undef) = .pointer (some ⟨BV, 6, none⟩) := hG.claims 32 _ rfl (by decide +kernel) (by decide +kernel)
            have hg := hG.good
            clear hG
            have c_D6 := ckeep hg D6.out
            have c_D7 := ckeep hg D7.out
            go_wp2
            exact ⟨_, rfl, rfl, hg, Below.refl _ _⟩
          · intro x wx hG
            have g33 : (x.tmps.getD 66 undef) = .agg #[.slice ua v1.past.vec.length uc, .slice xa v1.past.more.length xc] := hG.claims 33 _ rfl (by decide +kernel) (by decide +kernel)
            have hg := hG.good
            clear hG
            go_wp2_with fail
            (with_reducible refine (HKK.out _ hg).mono ?_)
            rintro e wq ⟨rfl, hb⟩
            go_wp2
            exact ⟨_, rfl, rfl, bstep hg hb, hb⟩
          · intro x wx hG
            have g31 : (x.tmps.getD 64 undef) = .string (((((((thr (v1.id.size : Nat)) ++ (v1.id)) ++ (thr v1.ds)) ++ (thr v1.dc)) ++ (thr v1.tg)) ++ (thr v1.nm)) ++ (thr v1.bd)) := hG.claims 31 _ rfl (by decide +kernel) (by decide +kernel)
            have g34 : (x.tmps.getD 67 undef) = .string (knT v1.past) := hG.claims 34 _ rfl (by decide +kernel) (by decide +kernel)
            have hg := hG.good
            clear hG
            have z0 := thr_size (v1.id.size : Nat)
            have z1 := thr_size v1.ds
            have z2 := thr_size v1.dc
            have z3 := thr_size v1.tg
            have z4 := thr_size v1.nm
            have z5 := thr_size v1.bd
            have hsz : ¬ 9223372036854775807 < (((((((thr (v1.id.size : Nat)) ++ (v1.id)) ++ (thr v1.ds)) ++ (thr v1.dc)) ++ (thr v1.tg)) ++ (thr v1.nm)) ++ (thr v1.bd)).size + (knT v1.past).size := by (try simp only [ByteArray.size_append]); omega
            go_wp2
            exact ⟨_, rfl, rfl, hg, Below.refl _ _⟩
          · intro x wx hG
            have g0 : (x.tmps.getD 33 undef) = .string S := hG.claims 0 _ rfl (by decide +kernel) (by decide +kernel)
            have g35 : (x.tmps.getD 68 undef) = .string ((((((((thr (v1.id.size : Nat)) ++ (v1.id)) ++ (thr v1.ds)) ++ (thr v1.dc)) ++ (thr v1.tg)) ++ (thr v1.nm)) ++ (thr v1.bd)) ++ (knT v1.past)) := hG.claims 35 _ rfl (by decide +kernel) (by decide +kernel)
            have hg := hG.good
            clear hG
            have z0 := thr_size (v1.id.size : Nat)
            have z1 := thr_size v1.ds
            have z2 := thr_size v1.dc
            have z3 := thr_size v1.tg
            have z4 := thr_size v1.nm
            have z5 := thr_size v1.bd
            have hsz : ¬ 9223372036854775807 < S.size + ((((((((thr (v1.id.size : Nat)) ++ (v1.id)) ++ (thr v1.ds)) ++ (thr v1.dc)) ++ (thr v1.tg)) ++ (thr v1.nm)) ++ (thr v1.bd)) ++ (knT v1.past)).size := by (try simp only [ByteArray.size_append]); omega
            go_wp2
            exact ⟨_, rfl, rfl, hg, Below.refl _ _⟩
          · intro x wx hG
            have g36 : (x.tmps.getD 69 undef) = .string (S ++ ((((((((thr (v1.id.size : Nat)) ++ (v1.id)) ++ (thr v1.ds)) ++ (thr v1.dc)) ++ (thr v1.tg)) ++ (thr v1.nm)) ++ (thr v1.bd)) ++ (knT v1.past))) := hG.claims 36 _ rfl (by decide +kernel) (by decide +kernel)
            have hg := hG.good
            clear hG
            go_wp2
            exact ⟨_, rfl, rfl, hg, Below.refl _ _⟩
        · intro vals wz hg hF
          obtain ⟨g0, g1, g2, g3, g4, g5, g6, g7, g8, g9, g10, g11, g12, g13, g14, g15, g16, g17, g18, g19, g20, g21, g22, g23, g24, g25, g26, g27, g28, g29, g30, g31, g32, g33, g34, g35, g36, g37, -⟩ := hF
          have e0 : vals 0 = .string S := g0 rfl
          have e1 : vals 1 = .pointer (some ⟨BV, 0, none⟩) := g1 rfl
          have e2 : vals 2 = .string v1.id := g2 rfl
          have e3 : vals 3 = .int .i64 (v1.id.size : Nat) := g3 rfl
          have e4 : vals 4 = .string (thr (v1.id.size : Nat)) := g4 rfl
          have e5 : vals 5 = .pointer (some ⟨BV, 0, none⟩) := g5 rfl
          have e6 : vals 6 = .string v1.id := g6 rfl
          have e7 : vals 7 = .string ((thr (v1.id.size : Nat)) ++ (v1.id)) := g7 rfl
          have e8 : vals 8 = .pointer (some ⟨BV, 1, none⟩) := g8 rfl
          have e9 : vals 9 = .pointer (some ⟨BV, 1, none⟩) := g9 rfl
          have e10 : vals 10 = .int .i64 v1.ds := g10 rfl
          have e11 : vals 11 = .string (thr v1.ds) := g11 rfl
          have e12 : vals 12 = .string (((thr (v1.id.size : Nat)) ++ (v1.id)) ++ (thr v1.ds)) := g12 rfl
          have e13 : vals 13 = .pointer (some ⟨BV, 1, none⟩) := g13 rfl
          have e14 : vals 14 = .pointer (some ⟨BV, 2, none⟩) := g14 rfl
          have e15 : vals 15 = .int .i64 v1.dc := g15 rfl
          have e16 : vals 16 = .string (thr v1.dc) := g16 rfl
          have e17 : vals 17 = .string ((((thr (v1.id.size : Nat)) ++ (v1.id)) ++ (thr v1.ds)) ++ (thr v1.dc)) := g17 rfl
          have e18 : vals 18 = .pointer (some ⟨BV, 3, none⟩) := g18 rfl
          have e19 : vals 19 = .pointer (some ⟨BV, 3, none⟩) := g19 rfl
          have e20 : vals 20 = .int .i64 v1.tg := g20 rfl
          have e21 : vals 21 = .string (thr v1.tg) := g21 rfl
          have e22 : vals 22 = .string (((((thr (v1.id.size : Nat)) ++ (v1.id)) ++ (thr v1.ds)) ++ (thr v1.dc)) ++ (thr v1.tg)) := g22 rfl
          have e23 : vals 23 = .pointer (some ⟨BV, 3, none⟩) := g23 rfl
          have e24 : vals 24 = .pointer (some ⟨BV, 4, none⟩) := g24 rfl
          have e25 : vals 25 = .int .i64 v1.nm := g25 rfl
          have e26 : vals 26 = .string (thr v1.nm) := g26 rfl
          have e27 : vals 27 = .string ((((((thr (v1.id.size : Nat)) ++ (v1.id)) ++ (thr v1.ds)) ++ (thr v1.dc)) ++ (thr v1.tg)) ++ (thr v1.nm)) := g27 rfl
          have e28 : vals 28 = .pointer (some ⟨BV, 5, none⟩) := g28 rfl
          have e29 : vals 29 = .int .i64 v1.bd := g29 rfl
          have e30 : vals 30 = .string (thr v1.bd) := g30 rfl
          have e31 : vals 31 = .string (((((((thr (v1.id.size : Nat)) ++ (v1.id)) ++ (thr v1.ds)) ++ (thr v1.dc)) ++ (thr v1.tg)) ++ (thr v1.nm)) ++ (thr v1.bd)) := g31 rfl
          have e32 : vals 32 = .pointer (some ⟨BV, 6, none⟩) := g32 rfl
          have e33 : vals 33 = .agg #[.slice ua v1.past.vec.length uc, .slice xa v1.past.more.length xc] := g33 rfl
          have e34 : vals 34 = .string (knT v1.past) := g34 rfl
          have e35 : vals 35 = .string ((((((((thr (v1.id.size : Nat)) ++ (v1.id)) ++ (thr v1.ds)) ++ (thr v1.dc)) ++ (thr v1.tg)) ++ (thr v1.nm)) ++ (thr v1.bd)) ++ (knT v1.past)) := g35 rfl
          have e36 : vals 36 = .string (S ++ ((((((((thr (v1.id.size : Nat)) ++ (v1.id)) ++ (thr v1.ds)) ++ (thr v1.dc)) ++ (thr v1.tg)) ++ (thr v1.nm)) ++ (thr v1.bd)) ++ (knT v1.past))) := g36 rfl
          have e37 : vals 37 = .string (S ++ ((((((((thr (v1.id.size : Nat)) ++ (v1.id)) ++ (thr v1.ds)) ++ (thr v1.dc)) ++ (thr v1.tg)) ++ (thr v1.nm)) ++ (thr v1.bd)) ++ (knT v1.past))) := g37 rfl
          simp only [Cl.puts, e0, e1, e2, e3, e4, e5, e6, e7, e8, e9, e10, e11, e12, e13, e14, e15, e16, e17, e18, e19, e20, e21, e22, e23, e24, e25, e26, e27, e28, e29, e30, e31, e32, e33, e34, e35, e36, e37]
          clear e0 e1 e2 e3 e4 e5 e6 e7 e8 e9 e10 e11 e12 e13 e14 e15 e16 e17 e18 e19 e20 e21 e22 e23 e24 e25 e26 e27 e28 e29 e30 e31 e32 e33 e34 e35 e36 e37 g0 g1 g2 g3 g4 g5 g6 g7 g8 g9 g10 g11 g12 g13 g14 g15 g16 g17 g18 g19 g20 g21 g22 g23 g24 g25 g26 g27 g28 g29 g30 g31 g32 g33 g34 g35 g36 g37
          go_simp
          have HBF := Lib.hid (HBV.out.trans (hg.mono HBV.out.size))
          have HSF := Lib.hid (show (S ++ ((((((((thr (v1.id.size : Nat)) ++ (v1.id)) ++ (thr v1.ds)) ++ (thr v1.dc)) ++ (thr v1.tg)) ++ (thr v1.nm)) ++ (thr v1.bd)) ++ (knT v1.past))).size = S.size + (verW v1).length by
            rw [HVL.out]; have z0 := thr_size (v1.id.size : Nat); have z1 := thr_size v1.ds; have z2 := thr_size v1.dc; have z3 := thr_size v1.tg; have z4 := thr_size v1.nm; have z5 := thr_size v1.bd; simp only [ByteArray.size_append]; omega)
          clear hg HBV HBVr HR D0 D1 D2 D3 D4 D5 D6 D7 DL HT1 HT2 HT3 HT4 HT5 HT6 HKK
          generalize (S ++ ((((((((thr (v1.id.size : Nat)) ++ (v1.id)) ++ (thr v1.ds)) ++ (thr v1.dc)) ++ (thr v1.tg)) ++ (thr v1.nm)) ++ (thr v1.bd)) ++ (knT v1.past))) = S2 at *
          go_wp2
          go_roundw
          case rel => exact ⟨k + 1, S2, by omega, by go_num, rfl, by have h1 := HSF.out; have h2 := HSZ.out; have h3 := HST.out; omega, HBF.out⟩
          case measure => simp [intOf] <;> omega
      · obtain rfl : k = V.length := by omega
        rw [List.take_length] at hsz
        obtain ⟨wq1, hwq1⟩ : ∃ wq1, wq1 = wr := ⟨_, rfl⟩
        rw [← hwq1] at HR ⊢
        have HB0 := Lib.hid HR.out
        have S1b : S.size ≤ 40000 := by have := HFV.out; omega
        have HS1 := Lib.hid hsz
        clear hwq1 HR hlt hk hsz
        obtain ⟨S1, hS1⟩ : ∃ S1, S1 = S := ⟨_, rfl⟩
        rw [← hS1] at HS1 S1b ⊢
        clear hS1
        have c3 := ckeep HB0.out B3.out
        have cl := Nat.lt_of_lt_of_le BL.out HB0.out.size
        have hz1 := thr_size (G.length : Nat)
        have hsz : ¬ 9223372036854775807 < S1.size + (thr (G.length : Nat)).size := by omega
        go_wp2_with fail
        (with_reducible refine (HTG.out _).mono ?_)
        rintro e wt ⟨rfl, hbt⟩
        replace HB0 := Lib.hid (bstep HB0.out hbt)
        clear hbt HTG c3 cl
        have c3 := ckeep HB0.out B3.out
        have cl := Nat.lt_of_lt_of_le BL.out HB0.out.size
        go_wp2
        have HSX := Lib.hid (show (S1 ++ thr (G.length : Nat)).size = S1.size + 3 by rw [ByteArray.size_append]; omega)
        clear c3 cl hsz hz1
        generalize S1 ++ thr (G.length : Nat) = S1n at *
        go_loopw [3, 80] (fun ov i wr => ∃ (k : Nat) (S : ByteArray), k ≤ G.length ∧ i = .int .i64 k ∧ ov = .string S ∧ S.size = S1n.size + ((G.take k).flatMap goneW).length ∧ Below W.heap.size W wr) (fun _ i _ => G.length - (intOf i).toNat)
        case atStart => exact ⟨0, S1n, Nat.zero_le _, rfl, rfl, by simp, HB0.out⟩
        case round =>
          obtain ⟨k, S, hk, rfl, rfl, hsz, hb⟩ := hrel
          have HR := Lib.hid hb
          clear HB0 hb
          by_cases hlt : k < G.length
          · have HSZ := Lib.hid hsz
            have hSb : S.size ≤ 80000 := by
              have h9 := flat_take_le' (l := G) (f := goneW) k
              have h8 := HFG.out; have h7 := HSX.out
              omega
            have HST := Lib.hid (show ((G.take (k + 1)).flatMap goneW).length = ((G.take k).flatMap goneW).length + (goneW G[k]).length by rw [flatw_take goneW hlt, List.length_append])
            clear hsz
            obtain ⟨a', cap', ha', -, -, -, hvl1⟩ := HRG.out.open_
            simp only [Value.slice.injEq, true_and] at ha'
            obtain ⟨ha', rfl⟩ := ha'
            rcases hvl1 with hnil | ⟨b, off, rfl, hb, hc⟩
            · rw [hnil] at hlt; simp at hlt
            subst ha'
            obtain ⟨c, ⟨u, x, rfl, hk2⟩, hcc⟩ := hc k hlt
            have HOK := HOG.out _ (List.getElem_mem hlt)
            have hcl := fun (j : Nat) (y : Value) (hy : [.string G[k].id, u, x][j]? = some y) => row3 (w := wr) (b := b) (off := off) (i := k) (fun j y hy => (HR.out.cell (p := ⟨b, off + (k * 3 + j), none⟩) hb).trans (hcc j y hy)) hy
            have c0 := hcl 0 _ rfl
            have c1 := hcl 1 _ rfl
            have c2 := hcl 2 _ rfl
            rw [Nat.add_zero] at c0
            obtain ⟨ua, uc, rfl⟩ := hk2.vec.shape
            obtain ⟨xa, xc, rfl⟩ := hk2.more.shape
            have hbw : b < wr.heap.size := Nat.lt_of_lt_of_le hb HR.out.size
            have HKN := Lib.hid (hk2.below HR.out)
            clear hc hcc hcl hk2 hb
            have HVL := Lib.hid (show (goneW G[k]).length = 3 + G[k].id.size + (knW G[k].past).length by
              unfold goneW; rw [List.length_append, textW_len])
            generalize G[k] = gn at *
            have hi1 := id_size HOK.id
            have HT1 := Lib.hid (fun w' => three_c (gn.id.size : Nat) w' (by omega) (by omega))
            have hltb : decide ((k : Int) < (G.length : Int)) = true := by simp; omega
            obtain ⟨BG, hBG⟩ : ∃ BG, BG = wr.heap.size := ⟨_, rfl⟩
            obtain ⟨WG, hWG⟩ : ∃ WG, WG = wr.alloc (.cells #[.string gn.id, .slice ua gn.past.vec.length uc, .slice xa gn.past.more.length xc] 111) := ⟨_, rfl⟩
            have hbW : Below wr.heap.size wr WG := by rw [hWG]; exact bal _
            have HBV := Lib.hid (bstep HR.out hbW)
            have HBVr := Lib.hid hbW
            have hKK := (show WG.heap[BG]? = some (Obj.cells #[.string gn.id, .slice ua gn.past.vec.length uc, .slice xa gn.past.more.length xc] 111 (0, 0)) by rw [hWG]; exact alloc_new _ _ _ _ hBG)
            have D0 := Lib.hid (cell_of_block (j := 0) hKK rfl)
            have D1 := Lib.hid (cell_of_block (j := 1) hKK rfl)
            have D2 := Lib.hid (cell_of_block (j := 2) hKK rfl)
            have DL := Lib.hid (hlt_of hKK)
            clear hbW hKK
            have HKK := Lib.hid (fun wx (h : Below WG.heap.size WG wx) => rknows_c _ _ gn.past wx (HKN.out.below ((HBVr.out).trans (h.mono HBVr.out.size))) HOK.past HOK.len)
            have hkl : (knW gn.past).length ≤ 400 := by have := HOK.past.len; have := HOK.len; rw [knW_len]; omega
            have hks := knT_size gn.past
            clear HOK HKN
            go_wp2_with fail
            rw [← hBG, ← hWG]
            clear hBG hWG c0 c1 c2
            refine Cl.region0 169 rfl [] (fun _ => True) (fun _ => []) (fun jq v ww => match jq with | 0 => v = .string S | 1 => v = .pointer (some ⟨BG, 0, none⟩) | 2 => v = .string gn.id | 3 => v = .int .i64 (gn.id.size : Nat) | 4 => v = .string (thr (gn.id.size : Nat)) | 5 => v = .pointer (some ⟨BG, 0, none⟩) | 6 => v = .string gn.id | 7 => v = .string ((thr (gn.id.size : Nat)) ++ (gn.id)) | 8 => v = .pointer (some ⟨BG, 1, none⟩) | 9 => v = .agg #[.slice ua gn.past.vec.length uc, .slice xa gn.past.more.length xc] | 10 => v = .string (knT gn.past) | 11 => v = .string (((thr (gn.id.size : Nat)) ++ (gn.id)) ++ (knT gn.past)) | 12 => v = .string (S ++ (((thr (gn.id.size : Nat)) ++ (gn.id)) ++ (knT gn.past))) | 13 => v = .string (S ++ (((thr (gn.id.size : Nat)) ++ (gn.id)) ++ (knT gn.past))) | _ => True) (fun ww => Below WG.heap.size WG ww) (fun jq ww ww' => Below ww.heap.size ww ww') Try.mixed (by decide +kernel) (Below.refl _ _).drew trivial (fun q r v w w' _ _ _ h _ => h) (fun _ _ _ _ _ _ => trivial) ?_ ?_
            · refine ⟨?_, ?_, ?_, ?_, ?_, ?_, ?_, ?_, ?_, ?_, ?_, ?_, ?_, ?_, trivial⟩
              · intro x wx hG
                have f3 := hG.old 3 (by decide +kernel)
                have hg := hG.good
                clear hG
                go_wp2
                exact ⟨_, rfl, rfl, hg, Below.refl _ _⟩
              · intro x wx hG
                have f7 := hG.old 7 (by decide +kernel)
                have hg := hG.good
                clear hG
                go_wp2
                exact ⟨_, rfl, rfl, hg, Below.refl _ _⟩
              · intro x wx hG
                have g1 : (x.tmps.getD 85 undef) = .pointer (some ⟨BG, 0, none⟩) := hG.claims 1 _ rfl (by decide +kernel) (by decide +kernel)
                have hg := hG.good
                clear hG
                have c_D0 := ckeep hg D0.out
                go_wp2
                exact ⟨_, rfl, rfl, hg, Below.refl _ _⟩
              · intro x wx hG
                have g2 : (x.tmps.getD 86 undef) = .string gn.id := hG.claims 2 _ rfl (by decide +kernel) (by decide +kernel)
                have hg := hG.good
                clear hG
                go_wp2
                exact ⟨_, rfl, rfl, hg, Below.refl _ _⟩
              · intro x wx hG
                have g3 : (x.tmps.getD 87 undef) = .int .i64 (gn.id.size : Nat) := hG.claims 3 _ rfl (by decide +kernel) (by decide +kernel)
                have hg := hG.good
                clear hG
                go_wp2_with fail
                (with_reducible refine (HT1.out _).mono ?_)
                rintro e wq ⟨rfl, hb⟩
                go_wp2
                exact ⟨_, rfl, rfl, bstep hg hb, hb⟩
              · intro x wx hG
                have f7 := hG.old 7 (by decide +kernel)
                have hg := hG.good
                clear hG
                go_wp2
                exact ⟨_, rfl, rfl, hg, Below.refl _ _⟩
              · intro x wx hG
                have g5 : (x.tmps.getD 89 undef) = .pointer (some ⟨BG, 0, none⟩) := hG.claims 5 _ rfl (by decide +kernel) (by decide +kernel)
                have hg := hG.good
                clear hG
                have c_D0 := ckeep hg D0.out
                go_wp2
                exact ⟨_, rfl, rfl, hg, Below.refl _ _⟩
              · intro x wx hG
                have g4 : (x.tmps.getD 88 undef) = .string (thr (gn.id.size : Nat)) := hG.claims 4 _ rfl (by decide +kernel) (by decide +kernel)
                have g6 : (x.tmps.getD 90 undef) = .string gn.id := hG.claims 6 _ rfl (by decide +kernel) (by decide +kernel)
                have hg := hG.good
                clear hG
                have z0 := thr_size (gn.id.size : Nat)
                have hsz : ¬ 9223372036854775807 < (thr (gn.id.size : Nat)).size + (gn.id).size := by (try simp only [ByteArray.size_append]); omega
                go_wp2
                exact ⟨_, rfl, rfl, hg, Below.refl _ _⟩
              · intro x wx hG
                have f7 := hG.old 7 (by decide +kernel)
                have hg := hG.good
                clear hG
                go_wp2
                exact ⟨_, rfl, rfl, hg, Below.refl _ _⟩
              · intro x wx hG
                have g8 : (x.tmps.getD 92 undef) = .pointer (some ⟨BG, 1, none⟩) := hG.claims 8 _ rfl (by decide +kernel) (by decide +kernel)
                have hg := hG.good
                clear hG
                have c_D1 := ckeep hg D1.out
                have c_D2 := ckeep hg D2.out
                go_wp2
                exact ⟨_, rfl, rfl, hg, Below.refl _ _⟩
              · intro x wx hG
                have g9 : (x.tmps.getD 93 undef) = .agg #[.slice ua gn.past.vec.length uc, .slice xa gn.past.more.length xc] := hG.claims 9 _ rfl (by decide +kernel) (by decide +kernel)
                have hg := hG.good
                clear hG
                go_wp2_with fail
                (with_reducible refine (HKK.out _ hg).mono ?_)
                rintro e wq ⟨rfl, hb⟩
                go_wp2
                exact ⟨_, rfl, rfl, bstep hg hb, hb⟩
              · intro x wx hG
                have g7 : (x.tmps.getD 91 undef) = .string ((thr (gn.id.size : Nat)) ++ (gn.id)) := hG.claims 7 _ rfl (by decide +kernel) (by decide +kernel)
                have g10 : (x.tmps.getD 94 undef) = .string (knT gn.past) := hG.claims 10 _ rfl (by decide +kernel) (by decide +kernel)
                have hg := hG.good
                clear hG
                have z0 := thr_size (gn.id.size : Nat)
                have hsz : ¬ 9223372036854775807 < ((thr (gn.id.size : Nat)) ++ (gn.id)).size + (knT gn.past).size := by (try simp only [ByteArray.size_append]); omega
                go_wp2
                exact ⟨_, rfl, rfl, hg, Below.refl _ _⟩
              · intro x wx hG
                have g0 : (x.tmps.getD 84 undef) = .string S := hG.claims 0 _ rfl (by decide +kernel) (by decide +kernel)
                have g11 : (x.tmps.getD 95 undef) = .string (((thr (gn.id.size : Nat)) ++ (gn.id)) ++ (knT gn.past)) := hG.claims 11 _ rfl (by decide +kernel) (by decide +kernel)
                have hg := hG.good
                clear hG
                have z0 := thr_size (gn.id.size : Nat)
                have hsz : ¬ 9223372036854775807 < S.size + (((thr (gn.id.size : Nat)) ++ (gn.id)) ++ (knT gn.past)).size := by (try simp only [ByteArray.size_append]); omega
                go_wp2
                exact ⟨_, rfl, rfl, hg, Below.refl _ _⟩
              · intro x wx hG
                have g12 : (x.tmps.getD 96 undef) = .string (S ++ (((thr (gn.id.size : Nat)) ++ (gn.id)) ++ (knT gn.past))) := hG.claims 12 _ rfl (by decide +kernel) (by decide +kernel)
                have hg := hG.good
                clear hG
                go_wp2
                exact ⟨_, rfl, rfl, hg, Below.refl _ _⟩
            · intro vals wz hg hF
              obtain ⟨g0, g1, g2, g3, g4, g5, g6, g7, g8, g9, g10, g11, g12, g13, -⟩ := hF
              have e0 : vals 0 = .string S := g0 rfl
              have e1 : vals 1 = .pointer (some ⟨BG, 0, none⟩) := g1 rfl
              have e2 : vals 2 = .string gn.id := g2 rfl
              have e3 : vals 3 = .int .i64 (gn.id.size : Nat) := g3 rfl
              have e4 : vals 4 = .string (thr (gn.id.size : Nat)) := g4 rfl
              have e5 : vals 5 = .pointer (some ⟨BG, 0, none⟩) := g5 rfl
              have e6 : vals 6 = .string gn.id := g6 rfl
              have e7 : vals 7 = .string ((thr (gn.id.size : Nat)) ++ (gn.id)) := g7 rfl
              have e8 : vals 8 = .pointer (some ⟨BG, 1, none⟩) := g8 rfl
              have e9 : vals 9 = .agg #[.slice ua gn.past.vec.length uc, .slice xa gn.past.more.length xc] := g9 rfl
              have e10 : vals 10 = .string (knT gn.past) := g10 rfl
              have e11 : vals 11 = .string (((thr (gn.id.size : Nat)) ++ (gn.id)) ++ (knT gn.past)) := g11 rfl
              have e12 : vals 12 = .string (S ++ (((thr (gn.id.size : Nat)) ++ (gn.id)) ++ (knT gn.past))) := g12 rfl
              have e13 : vals 13 = .string (S ++ (((thr (gn.id.size : Nat)) ++ (gn.id)) ++ (knT gn.past))) := g13 rfl
              simp only [Cl.puts, e0, e1, e2, e3, e4, e5, e6, e7, e8, e9, e10, e11, e12, e13]
              clear e0 e1 e2 e3 e4 e5 e6 e7 e8 e9 e10 e11 e12 e13 g0 g1 g2 g3 g4 g5 g6 g7 g8 g9 g10 g11 g12 g13
              go_simp
              have HBF := Lib.hid (HBV.out.trans (hg.mono HBV.out.size))
              have HSF := Lib.hid (show (S ++ (((thr (gn.id.size : Nat)) ++ (gn.id)) ++ (knT gn.past))).size = S.size + (goneW gn).length by
                rw [HVL.out]; have z0 := thr_size (gn.id.size : Nat); simp only [ByteArray.size_append]; omega)
              clear hg HBV HBVr HR D0 D1 D2 DL HT1 HKK
              generalize (S ++ (((thr (gn.id.size : Nat)) ++ (gn.id)) ++ (knT gn.past))) = S2 at *
              go_wp2
              go_roundw
              case rel => exact ⟨k + 1, S2, by omega, by go_num, rfl, by have h1 := HSF.out; have h2 := HSZ.out; have h3 := HST.out; omega, HBF.out⟩
              case measure => simp [intOf] <;> omega
          · obtain rfl : k = G.length := by omega
            rw [List.take_length] at hsz
            obtain ⟨wq2, hwq2⟩ : ∃ wq2, wq2 = wr := ⟨_, rfl⟩
            rw [← hwq2] at HR ⊢
            have HB0 := Lib.hid HR.out
            have S2b : S.size ≤ 80000 := by have := HFG.out; have h7 := HSX.out; omega
            have HS2 := Lib.hid hsz
            clear hwq2 HR hlt hk hsz
            obtain ⟨S2, hS2⟩ : ∃ S2, S2 = S := ⟨_, rfl⟩
            rw [← hS2] at HS2 S2b ⊢
            clear hS2
            have HSX1 := HSX
            clear HSX
            have c4 := ckeep HB0.out B4.out
            have cl := Nat.lt_of_lt_of_le BL.out HB0.out.size
            have hz1 := thr_size (P.length : Nat)
            have hsz : ¬ 9223372036854775807 < S2.size + (thr (P.length : Nat)).size := by omega
            go_wp2_with fail
            (with_reducible refine (HTP.out _).mono ?_)
            rintro e wt ⟨rfl, hbt⟩
            replace HB0 := Lib.hid (bstep HB0.out hbt)
            clear hbt HTP c4 cl
            have c4 := ckeep HB0.out B4.out
            have cl := Nat.lt_of_lt_of_le BL.out HB0.out.size
            go_wp2
            have HSX := Lib.hid (show (S2 ++ thr (P.length : Nat)).size = S2.size + 3 by rw [ByteArray.size_append]; omega)
            clear c4 cl hsz hz1
            generalize S2 ++ thr (P.length : Nat) = S2n at *
            go_loopw [3, 107] (fun ov i wr => ∃ (k : Nat) (S : ByteArray), k ≤ P.length ∧ i = .int .i64 k ∧ ov = .string S ∧ S.size = S2n.size + ((P.take k).flatMap partW).length ∧ Below W.heap.size W wr) (fun _ i _ => P.length - (intOf i).toNat)
            case atStart => exact ⟨0, S2n, Nat.zero_le _, rfl, rfl, by simp, HB0.out⟩
            case round =>
              obtain ⟨k, S, hk, rfl, rfl, hsz, hb⟩ := hrel
              have HR := Lib.hid hb
              clear HB0 hb
              by_cases hlt : k < P.length
              · have HSZ := Lib.hid hsz
                have hSb : S.size ≤ 300000 := by
                  have h9 := flat_take_le' (l := P) (f := partW) k
                  have h8 := HFP.out; have h7 := HSX.out
                  omega
                have HST := Lib.hid (show ((P.take (k + 1)).flatMap partW).length = ((P.take k).flatMap partW).length + (partW P[k]).length by rw [flatw_take partW hlt, List.length_append])
                clear hsz
                obtain ⟨a', cap', ha', -, -, -, hvl1⟩ := HRP.out.open_
                simp only [Value.slice.injEq, true_and] at ha'
                obtain ⟨ha', rfl⟩ := ha'
                rcases hvl1 with hnil | ⟨b, off, rfl, hb, hc⟩
                · rw [hnil] at hlt; simp at hlt
                subst ha'
                obtain ⟨c, ⟨f, u, x, rfl, hf2, hk2⟩, hcc⟩ := hc k hlt
                have HOK := HOP.out _ (List.getElem_mem hlt)
                have hcl := fun (j : Nat) (y : Value) (hy : [f, u, x][j]? = some y) => row3 (w := wr) (b := b) (off := off) (i := k) (fun j y hy => (HR.out.cell (p := ⟨b, off + (k * 3 + j), none⟩) hb).trans (hcc j y hy)) hy
                have c0 := hcl 0 _ rfl
                have c1 := hcl 1 _ rfl
                have c2 := hcl 2 _ rfl
                rw [Nat.add_zero] at c0
                obtain ⟨fa, fc, rfl⟩ := hf2.shape
                obtain ⟨ua, uc, rfl⟩ := hk2.vec.shape
                obtain ⟨xa, xc, rfl⟩ := hk2.more.shape
                have hbw : b < wr.heap.size := Nat.lt_of_lt_of_le hb HR.out.size
                have HKN := Lib.hid (hk2.below HR.out)
                have HFB := Lib.hid (hf2.below HR.out)
                clear hc hcc hcl hk2 hf2 hb
                have HVL := Lib.hid (show (partW P[k]).length = 3 + (P[k].f.flatMap boxW).length + (knW P[k].k).length by
                  unfold partW; rw [List.length_append, List.length_append, nums_len]; simp only [List.length_cons, List.length_nil])
                generalize P[k] = p1 at *
                obtain ⟨pf, pk⟩ := p1
                simp only at HKN HFB HVL c0 c1 c2
                have hf1 := fChk_zero.1 HOK.f
                have HFO := Lib.hid (show ∀ x ∈ pf, bxChk x = 0 from hf1.2)
                have hfl : pf.length ≤ 40 := hf1.1
                have hk1 := knChk_zero.1 HOK.k
                have HKO := Lib.hid (show KnOk pk from hk1.1)
                have hk60 : pk.more.length ≤ 60 := hk1.2
                have hkl : (knW pk).length ≤ 400 := by have := HKO.out.len; rw [knW_len]; omega
                have HFL := Lib.hid (flat_le (l := pf) (f := boxW) (M := 105) fun x hx => by rw [boxW_len]; have := bx_spans (HFO.out x hx); omega)
                clear hf1 hk1 HOK
                have HT1 := Lib.hid (fun w' => three_c (pf.length : Nat) w' (by omega) (by omega))
                have hltb : decide ((k : Int) < (P.length : Int)) = true := by simp; omega
                obtain ⟨BP, hBP⟩ : ∃ BP, BP = wr.heap.size := ⟨_, rfl⟩
                obtain ⟨WP, hWP⟩ : ∃ WP, WP = wr.alloc (.cells #[.slice fa pf.length fc, .slice ua pk.vec.length uc, .slice xa pk.more.length xc] 83) := ⟨_, rfl⟩
                have hbW : Below wr.heap.size wr WP := by rw [hWP]; exact bal _
                have HBV := Lib.hid (bstep HR.out hbW)
                have HBVr := Lib.hid hbW
                have hKK := (show WP.heap[BP]? = some (Obj.cells #[.slice fa pf.length fc, .slice ua pk.vec.length uc, .slice xa pk.more.length xc] 83 (0, 0)) by rw [hWP]; exact alloc_new _ _ _ _ hBP)
                have D0 := Lib.hid (cell_of_block (j := 0) hKK rfl)
                have D1 := Lib.hid (cell_of_block (j := 1) hKK rfl)
                have D2 := Lib.hid (cell_of_block (j := 2) hKK rfl)
                have DL := Lib.hid (hlt_of hKK)
                clear hbW hKK
                have HFB2 := Lib.hid (HFB.out.below HBVr.out)
                have HKN2 := Lib.hid (HKN.out.below HBVr.out)
                have e0 := D0.out
                have el := DL.out
                have hz1 := thr_size (pf.length : Nat)
                have hsz : ¬ 9223372036854775807 < S.size + (thr (pf.length : Nat)).size := by omega
                rw [hWP, hBP] at e0 el
                clear HFB HKN
                go_wp2_with fail
                rw [← hWP]
                (with_reducible refine (HT1.out _).mono ?_)
                rintro e wt ⟨rfl, hbt⟩
                have HBP := Lib.hid (show Below WP.heap.size WP wt from hbt)
                have e0 := ckeep hbt D0.out
                have el := Nat.lt_of_lt_of_le DL.out hbt.size
                rw [← hBP]
                clear hbt HT1 c0 c1 c2 hBP hWP
                go_wp2
                have HSY := Lib.hid (show (S ++ thr (pf.length : Nat)).size = S.size + 3 by rw [ByteArray.size_append]; omega)
                clear hsz hz1 e0 el
                generalize S ++ thr (pf.length : Nat) = Sp at *
                go_loopw [3, 120] (fun ov i wr => ∃ (m : Nat) (S : ByteArray), m ≤ pf.length ∧ i = .int .i64 m ∧ ov = .string S ∧ S.size = Sp.size + ((pf.take m).flatMap boxW).length ∧ Below WP.heap.size WP wr) (fun _ i _ => pf.length - (intOf i).toNat)
                case atStart => exact ⟨0, Sp, Nat.zero_le _, rfl, rfl, by simp, HBP.out⟩
                case round =>
                  obtain ⟨m, Sq, hm, rfl, rfl, hsz4, hb⟩ := hrel
                  have HR4 := Lib.hid hb
                  clear HBP hb
                  by_cases hmt : m < pf.length
                  · have HSZ4 := Lib.hid hsz4
                    have hSb4 : Sq.size ≤ 2000000 := by
                      have h9 := flat_take_le' (l := pf) (f := boxW) m
                      have h8 := HFL.out
                      have h7 := HSY.out
                      omega
                    have HST4 := Lib.hid (show ((pf.take (m + 1)).flatMap boxW).length = ((pf.take m).flatMap boxW).length + (boxW pf[m]).length by rw [flatw_take boxW hmt, List.length_append])
                    have hBX := HFO.out _ (List.getElem_mem hmt)
                    have hsp := bx_spans hBX
                    have hcu := cube_bd (bxChk_zero.1 hBX).1
                    have HSPN := Lib.hid ((spansChk_bounds (bxChk_zero.1 hBX).2).2)
                    clear hsz4 hBX
                    obtain ⟨a4, cap4, ha4, -, -, -, hvl4⟩ := HFB2.out.open_
                    simp only [Value.slice.injEq, true_and] at ha4
                    obtain ⟨ha4, rfl⟩ := ha4
                    rcases hvl4 with hnil | ⟨b4, off4, rfl, hb4, hc4⟩
                    · rw [hnil] at hmt; simp at hmt
                    subst ha4
                    obtain ⟨su, d0, d1, d2, hsu⟩ := hc4 m hmt
                    replace d0 := (HR4.out.cell (p := ⟨b4, off4 + m * 3, none⟩) hb4).trans d0
                    replace d1 := (HR4.out.cell (p := ⟨b4, off4 + m * 3 + 1, none⟩) hb4).trans d1
                    replace d2 := (HR4.out.cell (p := ⟨b4, off4 + m * 3 + 2, none⟩) hb4).trans d2
                    obtain ⟨sa, sc, rfl⟩ := hsu.shape
                    have HSP := Lib.hid (hsu.below HR4.out)
                    have hbw4 : b4 < wr.heap.size := Nat.lt_of_lt_of_le hb4 HR4.out.size
                    clear hc4 hsu hb4
                    have HBL := Lib.hid (boxW_len pf[m])
                    generalize pf[m] = x1 at *
                    have hmtb : decide ((m : Int) < (pf.length : Int)) = true := by simp; omega
                    have HX1 := Lib.hid (fun w' => three_c x1.y w' (by omega) (by omega))
                    have HX2 := Lib.hid (fun w' => three_c x1.n w' (by omega) (by omega))
                    have HX3 := Lib.hid (fun w' => three_c (x1.sp.length : Nat) w' (by omega) (by omega))
                    obtain ⟨BX, hBX⟩ : ∃ BX, BX = wr.heap.size := ⟨_, rfl⟩
                    obtain ⟨WX, hWX⟩ : ∃ WX, WX = wr.alloc (.cells #[.int .i64 x1.y, .int .i64 x1.n, .slice sa x1.sp.length sc] 125) := ⟨_, rfl⟩
                    have hbW : Below wr.heap.size wr WX := by rw [hWX]; exact bal _
                    have HBX := Lib.hid (bstep HR4.out hbW)
                    have HBXr := Lib.hid hbW
                    have hKK := (show WX.heap[BX]? = some (Obj.cells #[.int .i64 x1.y, .int .i64 x1.n, .slice sa x1.sp.length sc] 125 (0, 0)) by rw [hWX]; exact alloc_new _ _ _ _ hBX)
                    have E0 := Lib.hid (cell_of_block (j := 0) hKK rfl)
                    have E1 := Lib.hid (cell_of_block (j := 1) hKK rfl)
                    have E2 := Lib.hid (cell_of_block (j := 2) hKK rfl)
                    have EL := Lib.hid (hlt_of hKK)
                    clear hbW hKK
                    have HSP2 := Lib.hid (HSP.out.below HBXr.out)
                    go_wp2_with fail
                    rw [← hBX, ← hWX]
                    clear hBX hWX d0 d1 d2 HSP
                    refine Cl.region0 169 rfl [] (fun _ => True) (fun _ => []) (fun jq v ww => match jq with | 0 => v = .string Sq | 1 => v = .pointer (some ⟨BX, 0, none⟩) | 2 => v = .pointer (some ⟨BX, 0, none⟩) | 3 => v = .int .i64 x1.y | 4 => v = .string (thr x1.y) | 5 => v = .pointer (some ⟨BX, 0, none⟩) | 6 => v = .pointer (some ⟨BX, 1, none⟩) | 7 => v = .int .i64 x1.n | 8 => v = .string (thr x1.n) | 9 => v = .string ((thr x1.y) ++ (thr x1.n)) | 10 => v = .pointer (some ⟨BX, 2, none⟩) | 11 => v = .slice sa x1.sp.length sc | 12 => v = .int .i64 (x1.sp.length : Nat) | 13 => v = .string (thr (x1.sp.length : Nat)) | 14 => v = .string (((thr x1.y) ++ (thr x1.n)) ++ (thr (x1.sp.length : Nat))) | 15 => v = .string (Sq ++ (((thr x1.y) ++ (thr x1.n)) ++ (thr (x1.sp.length : Nat)))) | 16 => v = .string (Sq ++ (((thr x1.y) ++ (thr x1.n)) ++ (thr (x1.sp.length : Nat)))) | _ => True) (fun ww => Below WX.heap.size WX ww) (fun jq ww ww' => Below ww.heap.size ww ww') Try.mixed (by decide +kernel) (Below.refl _ _).drew trivial (fun q r v w w' _ _ _ h _ => h) (fun _ _ _ _ _ _ => trivial) ?_ ?_
                    · refine ⟨?_, ?_, ?_, ?_, ?_, ?_, ?_, ?_, ?_, ?_, ?_, ?_, ?_, ?_, ?_, ?_, ?_, trivial⟩
                      · intro x wx hG
                        have f3 := hG.old 3 (by decide +kernel)
                        have hg := hG.good
                        clear hG
                        go_wp2
                        exact ⟨_, rfl, rfl, hg, Below.refl _ _⟩
                      · intro x wx hG
                        have f11 := hG.old 11 (by decide +kernel)
                        have hg := hG.good
                        clear hG
                        go_wp2
                        exact ⟨_, rfl, rfl, hg, Below.refl _ _⟩
                      · intro x wx hG
                        have g1 : (x.tmps.getD 125 undef) = .pointer (some ⟨BX, 0, none⟩) := hG.claims 1 _ rfl (by decide +kernel) (by decide +kernel)
                        have hg := hG.good
                        clear hG
                        go_wp2
                        exact ⟨_, rfl, rfl, hg, Below.refl _ _⟩
                      · intro x wx hG
                        have g2 : (x.tmps.getD 126 undef) = .pointer (some ⟨BX, 0, none⟩) := hG.claims 2 _ rfl (by decide +kernel) (by decide +kernel)
                        have hg := hG.good
                        clear hG
                        have c_E0 := ckeep hg E0.out
                        go_wp2
                        exact ⟨_, rfl, rfl, hg, Below.refl _ _⟩
                      · intro x wx hG
                        have g3 : (x.tmps.getD 127 undef) = .int .i64 x1.y := hG.claims 3 _ rfl (by decide +kernel) (by decide +kernel)
                        have hg := hG.good
                        clear hG
                        go_wp2_with fail
                        (with_reducible refine (HX1.out _).mono ?_)
                        rintro e wq ⟨rfl, hb⟩
                        go_wp2
                        exact ⟨_, rfl, rfl, bstep hg hb, hb⟩
                      · intro x wx hG
                        have f11 := hG.old 11 (by decide +kernel)
                        have hg := hG.good
                        clear hG
                        go_wp2
                        exact ⟨_, rfl, rfl, hg, Below.refl _ _⟩
                      · intro x wx hG
                        have g5 : (x.tmps.getD 129 undef) = .pointer (some ⟨BX, 0, none⟩) := hG.claims 5 _ rfl (by decide +kernel) (by decide +kernel)
                        have hg := hG.good
                        clear hG
                        go_wp2
                        exact ⟨_, rfl, rfl, hg, Below.refl _ _⟩
                      · intro x wx hG
                        have g6 : (x.tmps.getD 130 undef) = .pointer (some ⟨BX, 1, none⟩) := hG.claims 6 _ rfl (by decide +kernel) (by decide +kernel)
                        have hg := hG.good
                        clear hG
                        have c_E1 := ckeep hg E1.out
                        go_wp2
                        exact ⟨_, rfl, rfl, hg, Below.refl _ _⟩
                      · intro x wx hG
                        have g7 : (x.tmps.getD 131 undef) = .int .i64 x1.n := hG.claims 7 _ rfl (by decide +kernel) (by decide +kernel)
                        have hg := hG.good
                        clear hG
                        go_wp2_with fail
                        (with_reducible refine (HX2.out _).mono ?_)
                        rintro e wq ⟨rfl, hb⟩
                        go_wp2
                        exact ⟨_, rfl, rfl, bstep hg hb, hb⟩
                      · intro x wx hG
                        have g4 : (x.tmps.getD 128 undef) = .string (thr x1.y) := hG.claims 4 _ rfl (by decide +kernel) (by decide +kernel)
                        have g8 : (x.tmps.getD 132 undef) = .string (thr x1.n) := hG.claims 8 _ rfl (by decide +kernel) (by decide +kernel)
                        have hg := hG.good
                        clear hG
                        have z0 := thr_size x1.y
                        have z1 := thr_size x1.n
                        have z2 := thr_size (x1.sp.length : Nat)
                        have hsz : ¬ 9223372036854775807 < (thr x1.y).size + (thr x1.n).size := by (try simp only [ByteArray.size_append]); omega
                        go_wp2
                        exact ⟨_, rfl, rfl, hg, Below.refl _ _⟩
                      · intro x wx hG
                        have f11 := hG.old 11 (by decide +kernel)
                        have hg := hG.good
                        clear hG
                        go_wp2
                        exact ⟨_, rfl, rfl, hg, Below.refl _ _⟩
                      · intro x wx hG
                        have g10 : (x.tmps.getD 134 undef) = .pointer (some ⟨BX, 2, none⟩) := hG.claims 10 _ rfl (by decide +kernel) (by decide +kernel)
                        have hg := hG.good
                        clear hG
                        have c_E2 := ckeep hg E2.out
                        go_wp2
                        exact ⟨_, rfl, rfl, hg, Below.refl _ _⟩
                      · intro x wx hG
                        have g11 : (x.tmps.getD 135 undef) = .slice sa x1.sp.length sc := hG.claims 11 _ rfl (by decide +kernel) (by decide +kernel)
                        have hg := hG.good
                        clear hG
                        go_wp2
                        exact ⟨_, rfl, rfl, hg, Below.refl _ _⟩
                      · intro x wx hG
                        have g12 : (x.tmps.getD 136 undef) = .int .i64 (x1.sp.length : Nat) := hG.claims 12 _ rfl (by decide +kernel) (by decide +kernel)
                        have hg := hG.good
                        clear hG
                        go_wp2_with fail
                        (with_reducible refine (HX3.out _).mono ?_)
                        rintro e wq ⟨rfl, hb⟩
                        go_wp2
                        exact ⟨_, rfl, rfl, bstep hg hb, hb⟩
                      · intro x wx hG
                        have g9 : (x.tmps.getD 133 undef) = .string ((thr x1.y) ++ (thr x1.n)) := hG.claims 9 _ rfl (by decide +kernel) (by decide +kernel)
                        have g13 : (x.tmps.getD 137 undef) = .string (thr (x1.sp.length : Nat)) := hG.claims 13 _ rfl (by decide +kernel) (by decide +kernel)
                        have hg := hG.good
                        clear hG
                        have z0 := thr_size x1.y
                        have z1 := thr_size x1.n
                        have z2 := thr_size (x1.sp.length : Nat)
                        have hsz : ¬ 9223372036854775807 < ((thr x1.y) ++ (thr x1.n)).size + (thr (x1.sp.length : Nat)).size := by (try simp only [ByteArray.size_append]); omega
                        go_wp2
                        exact ⟨_, rfl, rfl, hg, Below.refl _ _⟩
                      · intro x wx hG
                        have g0 : (x.tmps.getD 124 undef) = .string Sq := hG.claims 0 _ rfl (by decide +kernel) (by decide +kernel)
                        have g14 : (x.tmps.getD 138 undef) = .string (((thr x1.y) ++ (thr x1.n)) ++ (thr (x1.sp.length : Nat))) := hG.claims 14 _ rfl (by decide +kernel) (by decide +kernel)
                        have hg := hG.good
                        clear hG
                        have z0 := thr_size x1.y
                        have z1 := thr_size x1.n
                        have z2 := thr_size (x1.sp.length : Nat)
                        have hsz : ¬ 9223372036854775807 < Sq.size + (((thr x1.y) ++ (thr x1.n)) ++ (thr (x1.sp.length : Nat))).size := by (try simp only [ByteArray.size_append]); omega
                        go_wp2
                        exact ⟨_, rfl, rfl, hg, Below.refl _ _⟩
                      · intro x wx hG
                        have g15 : (x.tmps.getD 139 undef) = .string (Sq ++ (((thr x1.y) ++ (thr x1.n)) ++ (thr (x1.sp.length : Nat)))) := hG.claims 15 _ rfl (by decide +kernel) (by decide +kernel)
                        have hg := hG.good
                        clear hG
                        go_wp2
                        exact ⟨_, rfl, rfl, hg, Below.refl _ _⟩
                    · intro vals wz hg hF
                      obtain ⟨g0, g1, g2, g3, g4, g5, g6, g7, g8, g9, g10, g11, g12, g13, g14, g15, g16, -⟩ := hF
                      have e0 : vals 0 = .string Sq := g0 rfl
                      have e1 : vals 1 = .pointer (some ⟨BX, 0, none⟩) := g1 rfl
                      have e2 : vals 2 = .pointer (some ⟨BX, 0, none⟩) := g2 rfl
                      have e3 : vals 3 = .int .i64 x1.y := g3 rfl
                      have e4 : vals 4 = .string (thr x1.y) := g4 rfl
                      have e5 : vals 5 = .pointer (some ⟨BX, 0, none⟩) := g5 rfl
                      have e6 : vals 6 = .pointer (some ⟨BX, 1, none⟩) := g6 rfl
                      have e7 : vals 7 = .int .i64 x1.n := g7 rfl
                      have e8 : vals 8 = .string (thr x1.n) := g8 rfl
                      have e9 : vals 9 = .string ((thr x1.y) ++ (thr x1.n)) := g9 rfl
                      have e10 : vals 10 = .pointer (some ⟨BX, 2, none⟩) := g10 rfl
                      have e11 : vals 11 = .slice sa x1.sp.length sc := g11 rfl
                      have e12 : vals 12 = .int .i64 (x1.sp.length : Nat) := g12 rfl
                      have e13 : vals 13 = .string (thr (x1.sp.length : Nat)) := g13 rfl
                      have e14 : vals 14 = .string (((thr x1.y) ++ (thr x1.n)) ++ (thr (x1.sp.length : Nat))) := g14 rfl
                      have e15 : vals 15 = .string (Sq ++ (((thr x1.y) ++ (thr x1.n)) ++ (thr (x1.sp.length : Nat)))) := g15 rfl
                      have e16 : vals 16 = .string (Sq ++ (((thr x1.y) ++ (thr x1.n)) ++ (thr (x1.sp.length : Nat)))) := g16 rfl
                      simp only [Cl.puts, e0, e1, e2, e3, e4, e5, e6, e7, e8, e9, e10, e11, e12, e13, e14, e15, e16]
                      clear e0 e1 e2 e3 e4 e5 e6 e7 e8 e9 e10 e11 e12 e13 e14 e15 e16 g0 g1 g2 g3 g4 g5 g6 g7 g8 g9 g10 g11 g12 g13 g14 g15 g16
                      go_simp
                      have HBX2 := Lib.hid (show Below WX.heap.size WX wz from hg)
                      have e2 := ckeep hg E2.out
                      have el := Nat.lt_of_lt_of_le EL.out hg.size
                      have HSX4 := Lib.hid (show (Sq ++ (((thr x1.y) ++ (thr x1.n)) ++ (thr (x1.sp.length : Nat)))).size = Sq.size + 9 by have z0 := thr_size x1.y; have z1 := thr_size x1.n; have z2 := thr_size (x1.sp.length : Nat); simp only [ByteArray.size_append]; omega)
                      clear hg HX1 HX2 HX3 E0 E1
                      generalize (Sq ++ (((thr x1.y) ++ (thr x1.n)) ++ (thr (x1.sp.length : Nat)))) = Sx at *
                      go_wp2
                      clear e2 el
                      go_loopw [3, 143] (fun ov i wr => ∃ (q : Nat) (S : ByteArray), q ≤ x1.sp.length ∧ i = .int .i64 q ∧ ov = .string S ∧ S.size = Sx.size + 6 * q ∧ Below WX.heap.size WX wr) (fun _ i _ => x1.sp.length - (intOf i).toNat)
                      case atStart => exact ⟨0, Sx, Nat.zero_le _, rfl, rfl, rfl, HBX2.out⟩
                      case round =>
                        obtain ⟨q, Sr, hq, rfl, rfl, hsz6, hb⟩ := hrel
                        have HR6 := Lib.hid hb
                        clear HBX2 hb
                        by_cases hqt : q < x1.sp.length
                        · have HSZ6 := Lib.hid hsz6
                          have hSb6 : Sr.size ≤ 3000000 := by have := HSX4.out; omega
                          have hsn := HSPN.out _ (List.getElem_mem hqt)
                          clear hsz6
                          obtain ⟨a6, cap6, ha6, -, -, hvl6⟩ := HSP2.out.open_
                          simp only [Value.slice.injEq, true_and] at ha6
                          obtain ⟨ha6, rfl⟩ := ha6
                          rcases hvl6 with hnil | ⟨b6, off6, rfl, hb6, hc6⟩
                          · rw [hnil] at hqt; simp at hqt
                          subst ha6
                          obtain ⟨d0, d1⟩ := hc6 q hqt
                          replace d0 := (HR6.out.cell (p := ⟨b6, off6 + q * 2, none⟩) hb6).trans d0
                          replace d1 := (HR6.out.cell (p := ⟨b6, off6 + q * 2 + 1, none⟩) hb6).trans d1
                          have hbw6 : b6 < wr.heap.size := Nat.lt_of_lt_of_le hb6 HR6.out.size
                          clear hc6 hb6
                          generalize x1.sp[q] = s1 at *
                          have hqtb : decide ((q : Int) < (x1.sp.length : Int)) = true := by simp; omega
                          have HX1 := Lib.hid (fun w' => three_c s1.1 w' (by omega) (by omega))
                          have HX2 := Lib.hid (fun w' => three_c s1.2 w' (by omega) (by omega))
                          obtain ⟨BS, hBS⟩ : ∃ BS, BS = wr.heap.size := ⟨_, rfl⟩
                          obtain ⟨WS, hWS⟩ : ∃ WS, WS = wr.alloc (.cells #[.int .i64 s1.1, .int .i64 s1.2] 50) := ⟨_, rfl⟩
                          have hbW : Below wr.heap.size wr WS := by rw [hWS]; exact bal _
                          have HBS := Lib.hid (bstep HR6.out hbW)
                          have HBSr := Lib.hid hbW
                          have hKK := (show WS.heap[BS]? = some (Obj.cells #[.int .i64 s1.1, .int .i64 s1.2] 50 (0, 0)) by rw [hWS]; exact alloc_new _ _ _ _ hBS)
                          have F0 := Lib.hid (cell_of_block (j := 0) hKK rfl)
                          have F1 := Lib.hid (cell_of_block (j := 1) hKK rfl)
                          have FL := Lib.hid (hlt_of hKK)
                          clear hbW hKK
                          go_wp2_with fail
                          rw [← hBS, ← hWS]
                          clear hBS hWS d0 d1
                          refine Cl.region0 169 rfl [] (fun _ => True) (fun _ => []) (fun jq v ww => match jq with | 0 => v = .string Sr | 1 => v = .pointer (some ⟨BS, 0, none⟩) | 2 => v = .int .i64 s1.1 | 3 => v = .string (thr s1.1) | 4 => v = .pointer (some ⟨BS, 1, none⟩) | 5 => v = .int .i64 s1.2 | 6 => v = .string (thr s1.2) | 7 => v = .string ((thr s1.1) ++ (thr s1.2)) | 8 => v = .string (Sr ++ ((thr s1.1) ++ (thr s1.2))) | 9 => v = .string (Sr ++ ((thr s1.1) ++ (thr s1.2))) | _ => True) (fun ww => Below WS.heap.size WS ww) (fun jq ww ww' => Below ww.heap.size ww ww') Try.mixed (by decide +kernel) (Below.refl _ _).drew trivial (fun q r v w w' _ _ _ h _ => h) (fun _ _ _ _ _ _ => trivial) ?_ ?_
                          · refine ⟨?_, ?_, ?_, ?_, ?_, ?_, ?_, ?_, ?_, ?_, trivial⟩
                            · intro x wx hG
                              have f3 := hG.old 3 (by decide +kernel)
                              have hg := hG.good
                              clear hG
                              go_wp2
                              exact ⟨_, rfl, rfl, hg, Below.refl _ _⟩
                            · intro x wx hG
                              have f13 := hG.old 13 (by decide +kernel)
                              have hg := hG.good
                              clear hG
                              go_wp2
                              exact ⟨_, rfl, rfl, hg, Below.refl _ _⟩
                            · intro x wx hG
                              have g1 : (x.tmps.getD 148 undef) = .pointer (some ⟨BS, 0, none⟩) := hG.claims 1 _ rfl (by decide +kernel) (by decide +kernel)
                              have hg := hG.good
                              clear hG
                              have c_F0 := ckeep hg F0.out
                              go_wp2
                              exact ⟨_, rfl, rfl, hg, Below.refl _ _⟩
                            · intro x wx hG
                              have g2 : (x.tmps.getD 149 undef) = .int .i64 s1.1 := hG.claims 2 _ rfl (by decide +kernel) (by decide +kernel)
                              have hg := hG.good
                              clear hG
                              go_wp2_with fail
                              (with_reducible refine (HX1.out _).mono ?_)
                              rintro e wq ⟨rfl, hb⟩
                              go_wp2
                              exact ⟨_, rfl, rfl, bstep hg hb, hb⟩
                            · intro x wx hG
                              have f13 := hG.old 13 (by decide +kernel)
                              have hg := hG.good
                              clear hG
                              go_wp2
                              exact ⟨_, rfl, rfl, hg, Below.refl _ _⟩
                            · intro x wx hG
                              have g4 : (x.tmps.getD 151 undef) = .pointer (some ⟨BS, 1, none⟩) := hG.claims 4 _ rfl (by decide +kernel) (by decide +kernel)
                              have hg := hG.good
                              clear hG
                              have c_F1 := ckeep hg F1.out
                              go_wp2
                              exact ⟨_, rfl, rfl, hg, Below.refl _ _⟩
                            · intro x wx hG
                              have g5 : (x.tmps.getD 152 undef) = .int .i64 s1.2 := hG.claims 5 _ rfl (by decide +kernel) (by decide +kernel)
                              have hg := hG.good
                              clear hG
                              go_wp2_with fail
                              (with_reducible refine (HX2.out _).mono ?_)
                              rintro e wq ⟨rfl, hb⟩
                              go_wp2
                              exact ⟨_, rfl, rfl, bstep hg hb, hb⟩
                            · intro x wx hG
                              have g3 : (x.tmps.getD 150 undef) = .string (thr s1.1) := hG.claims 3 _ rfl (by decide +kernel) (by decide +kernel)
                              have g6 : (x.tmps.getD 153 undef) = .string (thr s1.2) := hG.claims 6 _ rfl (by decide +kernel) (by decide +kernel)
                              have hg := hG.good
                              clear hG
                              have z0 := thr_size s1.1
                              have z1 := thr_size s1.2
                              have hsz : ¬ 9223372036854775807 < (thr s1.1).size + (thr s1.2).size := by (try simp only [ByteArray.size_append]); omega
                              go_wp2
                              exact ⟨_, rfl, rfl, hg, Below.refl _ _⟩
                            · intro x wx hG
                              have g0 : (x.tmps.getD 147 undef) = .string Sr := hG.claims 0 _ rfl (by decide +kernel) (by decide +kernel)
                              have g7 : (x.tmps.getD 154 undef) = .string ((thr s1.1) ++ (thr s1.2)) := hG.claims 7 _ rfl (by decide +kernel) (by decide +kernel)
                              have hg := hG.good
                              clear hG
                              have z0 := thr_size s1.1
                              have z1 := thr_size s1.2
                              have hsz : ¬ 9223372036854775807 < Sr.size + ((thr s1.1) ++ (thr s1.2)).size := by (try simp only [ByteArray.size_append]); omega
                              go_wp2
                              exact ⟨_, rfl, rfl, hg, Below.refl _ _⟩
                            · intro x wx hG
                              have g8 : (x.tmps.getD 155 undef) = .string (Sr ++ ((thr s1.1) ++ (thr s1.2))) := hG.claims 8 _ rfl (by decide +kernel) (by decide +kernel)
                              have hg := hG.good
                              clear hG
                              go_wp2
                              exact ⟨_, rfl, rfl, hg, Below.refl _ _⟩
                          · intro vals wz hg hF
                            obtain ⟨g0, g1, g2, g3, g4, g5, g6, g7, g8, g9, -⟩ := hF
                            have e0 : vals 0 = .string Sr := g0 rfl
                            have e1 : vals 1 = .pointer (some ⟨BS, 0, none⟩) := g1 rfl
                            have e2 : vals 2 = .int .i64 s1.1 := g2 rfl
                            have e3 : vals 3 = .string (thr s1.1) := g3 rfl
                            have e4 : vals 4 = .pointer (some ⟨BS, 1, none⟩) := g4 rfl
                            have e5 : vals 5 = .int .i64 s1.2 := g5 rfl
                            have e6 : vals 6 = .string (thr s1.2) := g6 rfl
                            have e7 : vals 7 = .string ((thr s1.1) ++ (thr s1.2)) := g7 rfl
                            have e8 : vals 8 = .string (Sr ++ ((thr s1.1) ++ (thr s1.2))) := g8 rfl
                            have e9 : vals 9 = .string (Sr ++ ((thr s1.1) ++ (thr s1.2))) := g9 rfl
                            simp only [Cl.puts, e0, e1, e2, e3, e4, e5, e6, e7, e8, e9]
                            clear e0 e1 e2 e3 e4 e5 e6 e7 e8 e9 g0 g1 g2 g3 g4 g5 g6 g7 g8 g9
                            go_simp
                            have HBF := Lib.hid (HBS.out.trans (hg.mono HBS.out.size))
                            have HSF := Lib.hid (show (Sr ++ ((thr s1.1) ++ (thr s1.2))).size = Sr.size + 6 by have z0 := thr_size s1.1; have z1 := thr_size s1.2; simp only [ByteArray.size_append]; omega)
                            clear hg HBS HBSr HR6 F0 F1 FL HX1 HX2
                            generalize (Sr ++ ((thr s1.1) ++ (thr s1.2))) = St at *
                            go_wp2
                            go_roundw
                            case rel => exact ⟨q + 1, St, by omega, by go_num, rfl, by have h1 := HSF.out; have h2 := HSZ6.out; omega, HBF.out⟩
                            case measure => simp [intOf] <;> omega
                        · obtain rfl : q = x1.sp.length := by omega
                          have HBF := Lib.hid (HBX.out.trans (HR6.out.mono HBX.out.size))
                          have HSF := Lib.hid (show Sr.size = Sq.size + (boxW x1).length by have h1 := HSX4.out; have h2 := HBL.out; omega)
                          clear hsz6 HBX HBXr HR6 HR4 HSX4 hqt hq E2 EL HSP2
                          go_wp2
                          go_roundw
                          case rel => exact ⟨m + 1, Sr, by omega, by go_num, rfl, by have h1 := HSF.out; have h2 := HSZ4.out; have h3 := HST4.out; omega, HBF.out⟩
                          case measure => simp [intOf] <;> omega
                  · obtain rfl : m = pf.length := by omega
                    rw [List.take_length] at hsz4
                    have HKK := Lib.hid (rknows_c _ _ pk wr (HKN2.out.below HR4.out) HKO.out hk60)
                    have hks := knT_size pk
                    have e1 := ckeep HR4.out D1.out
                    have e2 := ckeep HR4.out D2.out
                    have el := Nat.lt_of_lt_of_le DL.out HR4.out.size
                    have hsz : ¬ 9223372036854775807 < Sq.size + (knT pk).size := by have := HSY.out; have := HFL.out; omega
                    go_wp2_with fail
                    (with_reducible refine (HKK.out).mono ?_)
                    rintro e wt ⟨rfl, hbt⟩
                    have HBF := Lib.hid (HBV.out.trans ((bstep HR4.out hbt).mono HBV.out.size))
                    have HSF := Lib.hid (show (Sq ++ knT pk).size = S.size + (partW ⟨pf, pk⟩).length by have h1 := HSY.out; have h2 := HVL.out; rw [ByteArray.size_append]; omega)
                    clear hbt HKK HR4 e1 e2 el
                    go_wp2
                    clear hsz hsz4 hks
                    generalize Sq ++ knT pk = Su at *
                    go_roundw
                    case rel => exact ⟨k + 1, Su, by omega, by go_num, rfl, by have h1 := HSF.out; have h2 := HSZ.out; have h3 := HST.out; omega, HBF.out⟩
                    case measure => simp [intOf] <;> omega
              · obtain rfl : k = P.length := by omega
                rw [List.take_length] at hsz
                obtain ⟨wq3, hwq3⟩ : ∃ wq3, wq3 = wr := ⟨_, rfl⟩
                rw [← hwq3] at HR ⊢
                have HB0 := Lib.hid HR.out
                have S3b : S.size ≤ 300000 := by have := HFP.out; have h7 := HSX.out; omega
                have HS3 := Lib.hid hsz
                clear hwq3 HR hlt hk hsz
                have HSU := Lib.hid (rsum_c S (by omega) wq3)
                go_wp2_with fail
                (with_reducible refine (HSU.out).mono ?_)
                rintro e wt ⟨n, rfl, hn0, hn1, rfl⟩
                have HT9 := Lib.hid (three_c n wt hn0 hn1)
                have hz9 := thr_size n
                have hsz : ¬ 9223372036854775807 < S.size + (thr n).size := by omega
                clear HSU
                go_wp2_with fail
                (with_reducible refine (HT9.out).mono ?_)
                rintro e wu ⟨rfl, hbu⟩
                have HBF := Lib.hid (HBEL.out.trans ((bstep HB0.out hbu).mono HBEL.out.size))
                clear hbu HT9
                have HSF := Lib.hid (show (S ++ thr n).size = 9 + (V.flatMap verW).length + 3 + (G.flatMap goneW).length + 3 + (P.flatMap partW).length + 3 by
                  have h1 := HS1.out; have h2 := HSX1.out; have h3 := HS2.out; have h4 := HSX.out; have h5 := HS3.out
                  rw [ByteArray.size_append]; omega)
                go_wp2
                go_ret
                exact ⟨_, rfl, by rw [HBO.out]; exact HSF.out, HBF.out⟩
end Go.Proofs.Ythnkmjjldggecaa
namespace Go.Proofs.Ythnkmjjldggecaa
open Go.RowKit
theorem pack_two {b : Bt} (hb : BtOk b) (h : packE b ≠ 0) : packE b = 2 ∧ packS b = ⟨#[]⟩ ∧ 20000 < (bodyW b).length + 3 := by
  have hz := batchChk_zero.2 hb
  have hS : packS b = ⟨#[]⟩ := by unfold packS; rw [if_neg h]
  unfold packE at h ⊢
  rw [if_neg (by omega)] at h ⊢
  split at h
  · rename_i h1
    refine ⟨by rw [if_pos h1], hS, ?_⟩
    unfold fullW at h1
    rw [List.length_append, nums_len] at h1
    simpa using h1
  · exact absurd rfl h
theorem same_pick {b c : Bt} {q : Bool} (hb : packE b = 0) (hc : packE c = 0) (hq : q = true ↔ b = c) : ((packS b).toList == (packS c).toList) = q := by
  rw [ids_eq, Bool.eq_iff_iff, decide_eq_true_eq, hq]
  exact pack_inj hb hc
set_option maxRecDepth 100000 in
set_option maxHeartbeats 8000000 in
theorem WireBack_walk (lv mv fv av : Value) (l m : List (List Int)) (fs : List Bxs) (als : List (List (List Int))) (k : Int) (w : World) (hl : RowAt vecE w lv l) (hm : RowAt vecE w mv m) (hf : RowAt bxsE w fv fs) (ha : RowAt vecsE w av als) :
    Calls Try.prog 9 #[lv, mv, fv, av, .int .i64 k] w fun e w' => e = .returned (.bool true) ∧ Below w.heap.size w w' := by
  have HL := Lib.hid hl
  have HM := Lib.hid hm
  have HF := Lib.hid hf
  have HA := Lib.hid ha
  obtain ⟨la, lc, rfl⟩ := hl.shape
  obtain ⟨ma, mc, rfl⟩ := hm.shape
  obtain ⟨fa, fc, rfl⟩ := hf.shape
  obtain ⟨aa, ac, rfl⟩ := ha.shape
  clear hl hm hf ha
  go_enter Try.func9, Try.ntmps9
  go_wp2_with fail
  (with_reducible refine (wireBegun_c _).mono ?_)
  rintro e w1 ⟨rfl, hb1⟩
  have HB := Lib.hid hb1
  have HC := Lib.hid (batch_ok _ _ _ l fs als k w1 (HL.out.below hb1) (HF.out.below hb1) (HA.out.below hb1))
  clear hb1
  go_wp2_with fail
  (with_reducible refine (HC.out).mono ?_)
  rintro e w2 ⟨vv, gv, pv, b, rfl, hbt, hok, hb2⟩
  replace HB := Lib.hid (bstep HB.out hb2)
  have HBT := Lib.hid hbt
  have HOK := Lib.hid hok
  have HC2 := Lib.hid (batch_ok _ _ _ m fs als k w2 (HM.out.below HB.out) (HF.out.below HB.out) (HA.out.below HB.out))
  clear hbt hok hb2 HC HL HM HF HA
  go_wp2_with fail
  (with_reducible refine (HC2.out).mono ?_)
  rintro e w3 ⟨vv2, gv2, pv2, c, rfl, hct, hcok, hb3⟩
  replace HB := Lib.hid (bstep HB.out hb3)
  replace HBT := Lib.hid (HBT.out.below hb3)
  have HCT := Lib.hid hct
  have HCOK := Lib.hid hcok
  clear hct hcok hb3 HC2
  obtain ⟨W, hW⟩ : ∃ W, W = (w3.alloc (.cells #[.int .i64 b.site, .int .i64 b.stamp, vv, gv, pv] 64)).alloc (.cells #[.int .i64 c.site, .int .i64 c.stamp, vv2, gv2, pv2] 64) := ⟨_, rfl⟩
  have hbel : Below w3.heap.size w3 W := by rw [hW]; exact (bal _).alloc (by simp) _
  have K1 := Lib.hid (show W.heap[w3.heap.size]? = some (Obj.cells #[.int .i64 b.site, .int .i64 b.stamp, vv, gv, pv] 64 (0, 0)) by rw [hW]; exact alloc_keep _ (alloc_new _ _ _ _ rfl))
  have K2 := Lib.hid (show W.heap[w3.heap.size + 1]? = some (Obj.cells #[.int .i64 c.site, .int .i64 c.stamp, vv2, gv2, pv2] 64 (0, 0)) by rw [hW]; exact alloc_new _ _ _ _ (by simp))
  replace HB := Lib.hid (bstep HB.out hbel)
  replace HBT := Lib.hid (HBT.out.below hbel)
  replace HCT := Lib.hid (HCT.out.below hbel)
  have HPK := Lib.hid (pack_c vv gv pv b W HBT.out)
  clear hbel
  obtain ⟨va, vc, rfl⟩ := HBT.out.vers.shape
  obtain ⟨ga, gc, rfl⟩ := HBT.out.gone.shape
  obtain ⟨pa, pc, rfl⟩ := HBT.out.parts.shape
  obtain ⟨va2, vc2, rfl⟩ := HCT.out.vers.shape
  obtain ⟨ga2, gc2, rfl⟩ := HCT.out.gone.shape
  obtain ⟨pa2, pc2, rfl⟩ := HCT.out.parts.shape
  go_wp2_with fail
  rw [← hW]
  clear hW
  (with_reducible refine (HPK.out).mono ?_)
  rintro e w4 ⟨rfl, hb4⟩
  have K1b := Lib.hid (below_keep hb4 K1.out)
  have K2b := Lib.hid (below_keep hb4 K2.out)
  replace HB := Lib.hid (bstep HB.out hb4)
  replace HBT := Lib.hid (HBT.out.below hb4)
  replace HCT := Lib.hid (HCT.out.below hb4)
  clear hb4 HPK K1 K2
  by_cases hp : packE b = 0
  rotate_left
  · obtain ⟨h1, h2, h3⟩ := pack_two HOK.out hp
    have HR := Lib.hid (rpack_c _ _ _ b w4 HBT.out HOK.out)
    have H3 := Lib.hid h3
    rw [h1, h2]
    have x0 := cell_of_block (j := 0) K1b.out rfl
    have x1 := cell_of_block (j := 1) K1b.out rfl
    have x2 := cell_of_block (j := 2) K1b.out rfl
    have x3 := cell_of_block (j := 3) K1b.out rfl
    have x4 := cell_of_block (j := 4) K1b.out rfl
    have xl := hlt_of K1b.out
    clear h1 h2 h3 hp K1b K2b HBT HCT HOK HCOK
    go_wp2_with fail
    (with_reducible refine (HR.out).mono ?_)
    rintro e w5 ⟨s, rfl, hs, hb5⟩
    replace HB := Lib.hid (bstep HB.out hb5)
    have hsb : decide (20000 < (s.size : Int)) = true := by have := H3.out; rw [decide_eq_true_eq]; omega
    clear hb5 HR hs x0 x1 x2 x3 x4 xl
    go_wp2
    go_ret
    exact ⟨rfl, HB.out⟩
  obtain ⟨h18, h20, -⟩ := pack_size hp
  obtain ⟨hu1, hu2⟩ := pack_back hp
  have HP := Lib.hid hp
  have HU := Lib.hid (unpack_c (packS b) w4 (by omega))
  have HU2 := Lib.hid hu2
  have HSP := Lib.hid (fun q (hc : packE c = 0) => same_pick (c := c) (q := q) hp hc)
  unfold UpOut at HU
  rw [hu1, hu2] at HU
  rw [hp]
  clear hp hu1 hu2 HU2 h18 h20
  generalize packS b = sb at *
  go_wp2_with fail
  (with_reducible refine (HU.out).mono ?_)
  rintro e w5 ⟨uv, ug, up, rfl, hr, hb5⟩
  have HXT := Lib.hid (BtOk.rows hr HOK.out)
  replace HB := Lib.hid (bstep HB.out hb5)
  replace HBT := Lib.hid (HBT.out.below hb5)
  replace HCT := Lib.hid (HCT.out.below hb5)
  replace K1b := Lib.hid (below_keep hb5 K1b.out)
  replace K2b := Lib.hid (below_keep hb5 K2b.out)
  clear hb5 HU hr HP
  obtain ⟨ua, uc, rfl⟩ := HXT.out.vers.shape
  obtain ⟨uga, ugc, rfl⟩ := HXT.out.gone.shape
  obtain ⟨upa, upc, rfl⟩ := HXT.out.parts.shape
  obtain ⟨WX, hWX⟩ : ∃ WX, WX = w5.alloc (.cells #[.int .i64 b.site, .int .i64 b.stamp, .slice ua b.vers.length uc, .slice uga b.gone.length ugc, .slice upa b.parts.length upc] 64) := ⟨_, rfl⟩
  have hbx : Below w5.heap.size w5 WX := by rw [hWX]; exact bal _
  have K3 := Lib.hid (show WX.heap[w5.heap.size]? = some (Obj.cells #[.int .i64 b.site, .int .i64 b.stamp, .slice ua b.vers.length uc, .slice uga b.gone.length ugc, .slice upa b.parts.length upc] 64 (0, 0)) by rw [hWX]; exact alloc_new _ _ _ _ rfl)
  replace HB := Lib.hid (bstep HB.out hbx)
  replace HBT := Lib.hid (HBT.out.below hbx)
  replace HCT := Lib.hid (HCT.out.below hbx)
  replace HXT := Lib.hid (HXT.out.below hbx)
  replace K1b := Lib.hid (below_keep hbx K1b.out)
  replace K2b := Lib.hid (below_keep hbx K2b.out)
  have HS := Lib.hid (sameB_c _ _ _ _ _ _ b b WX HXT.out HBT.out)
  have x0 := cell_of_block (j := 0) K1b.out rfl
  have x1 := cell_of_block (j := 1) K1b.out rfl
  have x2 := cell_of_block (j := 2) K1b.out rfl
  have x3 := cell_of_block (j := 3) K1b.out rfl
  have x4 := cell_of_block (j := 4) K1b.out rfl
  have xl := hlt_of K1b.out
  rw [hWX] at x0 x1 x2 x3 x4 xl
  clear hbx
  go_wp2_with fail
  rw [← hWX]
  clear hWX x0 x1 x2 x3 x4 xl
  (with_reducible refine (HS.out).mono ?_)
  rintro e w6 ⟨q, rfl, hq, hb6⟩
  obtain rfl : q = true := by simpa using hq
  replace HB := Lib.hid (bstep HB.out hb6)
  replace HBT := Lib.hid (HBT.out.below hb6)
  replace HCT := Lib.hid (HCT.out.below hb6)
  replace HXT := Lib.hid (HXT.out.below hb6)
  replace K1b := Lib.hid (below_keep hb6 K1b.out)
  replace K2b := Lib.hid (below_keep hb6 K2b.out)
  replace K3 := Lib.hid (below_keep hb6 K3.out)
  have HS := Lib.hid (sameW_c _ _ _ _ _ _ b w6 HXT.out HBT.out HOK.out)
  have x0 := cell_of_block (j := 0) K1b.out rfl
  have x1 := cell_of_block (j := 1) K1b.out rfl
  have x2 := cell_of_block (j := 2) K1b.out rfl
  have x3 := cell_of_block (j := 3) K1b.out rfl
  have x4 := cell_of_block (j := 4) K1b.out rfl
  have xl := hlt_of K1b.out
  have y0 := cell_of_block (j := 0) K3.out rfl
  have y1 := cell_of_block (j := 1) K3.out rfl
  have y2 := cell_of_block (j := 2) K3.out rfl
  have y3 := cell_of_block (j := 3) K3.out rfl
  have y4 := cell_of_block (j := 4) K3.out rfl
  have yl := hlt_of K3.out
  clear hb6 hq
  go_wp2_with fail
  (with_reducible refine (HS.out).mono ?_)
  rintro e w7 ⟨rfl, hb7⟩
  replace HB := Lib.hid (bstep HB.out hb7)
  replace HBT := Lib.hid (HBT.out.below hb7)
  replace HCT := Lib.hid (HCT.out.below hb7)
  replace K1b := Lib.hid (below_keep hb7 K1b.out)
  replace K2b := Lib.hid (below_keep hb7 K2b.out)
  have HPC := Lib.hid (pack_c _ _ _ c w7 HCT.out)
  clear hb7 HS HXT K3 x0 x1 x2 x3 x4 xl y0 y1 y2 y3 y4 yl HOK HCOK
  have x0 := cell_of_block (j := 0) K2b.out rfl
  have x1 := cell_of_block (j := 1) K2b.out rfl
  have x2 := cell_of_block (j := 2) K2b.out rfl
  have x3 := cell_of_block (j := 3) K2b.out rfl
  have x4 := cell_of_block (j := 4) K2b.out rfl
  have xl := hlt_of K2b.out
  go_wp2_with fail
  (with_reducible refine (HPC.out).mono ?_)
  rintro e w8 ⟨rfl, hb8⟩
  replace HB := Lib.hid (bstep HB.out hb8)
  replace HBT := Lib.hid (HBT.out.below hb8)
  replace HCT := Lib.hid (HCT.out.below hb8)
  replace K1b := Lib.hid (below_keep hb8 K1b.out)
  replace K2b := Lib.hid (below_keep hb8 K2b.out)
  clear hb8 HPC x0 x1 x2 x3 x4 xl
  by_cases hpc : packE c = 0
  rotate_left
  · have hpb : (packE c != 0) = true := by simpa using hpc
    generalize packE c = E at *
    clear hpc HSP HBT HCT K1b K2b
    go_wp2
    go_ret
    exact ⟨rfl, HB.out⟩
  have HSQ := Lib.hid (fun q => HSP.out q hpc)
  rw [hpc]
  clear hpc HSP
  generalize packS c = sc at *
  have HS := Lib.hid (sameB_c _ _ _ _ _ _ b c w8 HBT.out HCT.out)
  have x0 := cell_of_block (j := 0) K1b.out rfl
  have x1 := cell_of_block (j := 1) K1b.out rfl
  have x2 := cell_of_block (j := 2) K1b.out rfl
  have x3 := cell_of_block (j := 3) K1b.out rfl
  have x4 := cell_of_block (j := 4) K1b.out rfl
  have xl := hlt_of K1b.out
  have y0 := cell_of_block (j := 0) K2b.out rfl
  have y1 := cell_of_block (j := 1) K2b.out rfl
  have y2 := cell_of_block (j := 2) K2b.out rfl
  have y3 := cell_of_block (j := 3) K2b.out rfl
  have y4 := cell_of_block (j := 4) K2b.out rfl
  have yl := hlt_of K2b.out
  clear HBT HCT K1b K2b
  go_wp2_with fail
  (with_reducible refine (HS.out).mono ?_)
  rintro e w9 ⟨q, rfl, hq, hb9⟩
  have hss := HSQ.out q hq
  replace HB := Lib.hid (bstep HB.out hb9)
  clear hb9 HS HSQ hq x0 x1 x2 x3 x4 xl y0 y1 y2 y3 y4 yl
  cases q
  · go_wp2
    go_ret
    exact ⟨rfl, HB.out⟩
  · go_wp2
    go_ret
    exact ⟨rfl, HB.out⟩
end Go.Proofs.Ythnkmjjldggecaa
