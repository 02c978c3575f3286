/- SpanOf: the walk. -/
import Derived.Test.YtbekllgecfjljaaSpanOfC
import Derived.Test.YtbekllgecfjljaaIntConcat
import Derived.Test.YtbekllgecfjljaaCube2
namespace Go.Proofs.Ytbekllgecfjljaa
open Go.RowKit

def f32 (k : Int) : Int := k % 18446744073709551616 % 32
/-- The numbers that the law makes of its list. -/
def someOf (l : List Int) : List Int := (l.map f32).take 100
theorem someOf_range (l : List Int) : ∀ x ∈ someOf l, 0 ≤ x ∧ x < 32 := by
  intro x hx; obtain ⟨k, -, rfl⟩ := List.mem_map.1 (List.mem_of_mem_take hx); unfold f32; omega
theorem ofE_ok {l : List Int} (h : ∀ x ∈ l, 0 ≤ x ∧ x < 32) (hl : l.length ≤ 400) : ofE l = 0 := by
  rw [ofE, if_neg (by omega), if_pos]; rw [List.all_eq_true]; intro x hx; have := h x hx; simp [inRange]; omega
theorem ofL_ok {l : List Int} (h : ∀ x ∈ l, 0 ≤ x ∧ x < 32) (hl : l.length ≤ 400) : ofL l = make (hasI l) := by
  rw [ofL, if_pos (ofE_ok h hl)]
theorem atI_has {l : List Int} (h : ∀ x ∈ l, 0 ≤ x ∧ x < 32) (n : Int) : atI (hasI l) n = l.contains n := by
  unfold atI hasI
  by_cases hn : 0 ≤ n ∧ n < 32
  · rw [show ((n.toNat : Nat) : Int) = n from by omega]; simp [hn]
  · have e : (decide (0 ≤ n) && decide (n < 32)) = false := by simp; omega
    rw [e]; symm; rw [Bool.false_and, Bool.eq_false_iff]; intro hc; simp at hc; exact hn (h n hc)
/-- The law's other list, its first k numbers. -/
def rot (S : List Int) (t k : Nat) : List Int := (List.range k).map fun i => S[(i + t) % S.length]?.getD 0
theorem rot_succ (S : List Int) (t k : Nat) : intsCells (rot S t (k + 1)) = intsCells (rot S t k) ++ [.int .i64 (S[(k + t) % S.length]?.getD 0)] := by
  simp [rot, intsCells, List.range_succ]
theorem rot_length (S : List Int) (t k : Nat) : (rot S t k).length = k := by simp [rot]
theorem rot_mem {S : List Int} {t k : Nat} (h0 : 0 < S.length) {x : Int} (hx : x ∈ rot S t k) : x ∈ S := by
  obtain ⟨i, -, rfl⟩ := List.mem_map.1 hx
  have h := Nat.mod_lt (i + t) h0
  rw [List.getElem?_eq_getElem h]; exact List.getElem_mem h
def memI (S : List Int) (n : Int) : Bool := S.contains n
theorem ofM (v : Value) (l : List Int) (w : World) (hs : IntsAt w v l) (h : ∀ x ∈ l, 0 ≤ x ∧ x < 32) (hl : l.length ≤ 400) :
    Calls Try.prog 36 #[v] w fun e w' => ∃ v, e = .returned (.tuple #[v, .int .i64 0]) ∧ SpansAt w' v (make (hasI l)) ∧ Below w.heap.size w w' :=
  (of_c v l w hs).mono fun e w' ⟨v, he, ho, hb⟩ => ⟨v, by rw [he, ofE_ok h hl], by rw [ofL_ok h hl] at ho; exact CellsAt.of_owns ho (by have := make_length (hasI l); omega), hb⟩

set_option maxRecDepth 100000 in
set_option maxHeartbeats 4000000 in
theorem SpanOf_walk (v : Value) (l : List Int) (turn n : Int) (w : World) (hs : IntsAt w v l) :
    Calls Try.prog 14 #[v, .int .i64 turn, .int .i64 n] w fun e w' => e = .returned (.bool true) ∧ Below w.heap.size w w' := by
  have hbel := Below.refl w.heap.size w
  have l4 := Lib.hid (show IntsAt (w.alloc (.cells #[.int .i64 3, .int .i64 1, .int .i64 2, .int .i64 2] 3)) (.slice (some ⟨w.heap.size, 0, none⟩) 4 4) [3, 1, 2, 2] from
    CellsAt.of_owns (litOwn w 0 1 3 #[.int .i64 3, .int .i64 1, .int .i64 2, .int .i64 2] 4 _ rfl (by omega) (by decide) rfl) (by decide))
  obtain ⟨xa, xc, rfl, hcap, hm, h0, hl⟩ := hs.open_
  clear hs
  go_enter Try.func14, Try.ntmps14
  go_wp2_with fail
  refine (ofM _ _ _ l4.out (by decide) (by decide)).mono ?_
  rintro e w1 ⟨v1, rfl, s1, hb⟩
  replace hb := ba1 hb
  replace hbel := bstep hbel hb
  clear hb l4
  go_wp2_with fail
  refine (eqSpans_c _ _ _ [(1, 4)] _ (s1.below (bal _)) (lit0 _ _ _ _ _ rfl)).mono ?_
  rintro e w2 ⟨rfl, hb⟩
  replace hb := ba1 hb
  replace hbel := bstep hbel hb
  clear hb s1
  rw [show (make (hasI [3, 1, 2, 2]) == [(1, 4)]) = true from by decide +kernel]
  by_cases h100 : 100 < l.length
  · go_wp2_with fail
    go_loopw [9, 40] (fun u i wr => ∃ k : Nat, k ≤ 100 ∧ i = .int .i64 k ∧ wr.ownsRow w.heap.size 3 1 u k (intsCells ((l.map f32).take k)) ∧ Below w.heap.size w wr) (fun _ i _ => 100 - (intOf i).toNat)
    case atStart => exact ⟨0, Nat.zero_le _, rfl, World.ownsRow_nil _ _ _ _, hbel⟩
    case round =>
      obtain ⟨k, hk, rfl, hown, hbl⟩ := hrel
      by_cases hlt : k < 100
      · rcases hl with rfl | ⟨b, off, rfl, hb, hc⟩
        · simp at hlt h100
        have hkl : k < l.length := by omega
        have d1 := (hbl.cell (p := ⟨b, off + k, none⟩) hb).trans (hc k hkl)
        have HO := Lib.hid hown
        have HB := Lib.hid hbl
        have HT := Lib.hid (show intsCells ((l.map f32).take (k + 1)) = intsCells ((l.map f32).take k) ++ [.int .i64 (f32 l[k])] by rw [List.take_succ_eq_append_getElem (by simpa using hkl)]; simp only [intsCells, List.map_append, List.map_cons, List.map_nil, List.getElem_map])
        clear hc hown
        go_wp2_with fail
        (with_reducible refine (withinInt_c _ 32 (by decide) (by decide) _).mono ?_)
        rintro e w3 ⟨rfl, rfl⟩
        rw [show l[k] % 18446744073709551616 % 32 = f32 l[k] from rfl]
        generalize f32 l[k] = z at *
        go_wp2_with (at_builtin; refine wpList_append_new (w0 := w) rfl (.tmp 44) (.tmp 47) 67 rfl w.heap.size 3 (.int .i64 0) 1 8 Try.underlying67 IntTy.info rfl (by decide) _ k _ rfl HO.out [.int .i64 z] rfl (by simp [Value.oneCell']) rfl HB.out HB.out.size (by unfold maxLen; omega) (by omega) ?_)
        intro v' w4 hown4 hbl4
        go_wp2
        go_roundw
        case rel => exact ⟨k + 1, by omega, by go_num, by rw [HT.out]; exact hown4, hbl4⟩
        case measure => simp [intOf]; omega
      · obtain rfl : k = 100 := by omega
        have hS : (l.map f32).take 100 = someOf l := by unfold someOf; rfl
        have hlen : (someOf l).length = 100 := by unfold someOf; simp; omega
        rw [hS] at hown
        have hrg := someOf_range l
        clear hS hl hk hlt h0
        generalize someOf l = S at *
        have h4 : S.length ≤ 100 := by omega
        rw [show (100 : Nat) = S.length from hlen.symm] at hown
        clear hlen
        obtain ⟨ya, yc, rfl⟩ := owns_slice hown
        have si : IntsAt wr (.slice ya S.length yc) S := CellsAt.of_owns hown (by omega)
        have HRG := Lib.hid hrg
        clear hown hrg hbel
        go_wp2_with fail
        obtain ⟨w5, hw5⟩ : ∃ w5 : World, w5 = wr := ⟨_, rfl⟩
        subst hw5
        obtain ⟨ya', yc', hv, hcap', hm', h0', hl'⟩ := si.open_
        simp only [Value.slice.injEq, true_and] at hv
        obtain ⟨rfl, rfl⟩ := hv
        clear hm' h0' hcap'
        have hb5 := Below.refl w5.heap.size w5
        obtain ⟨t, ht0⟩ : ∃ t : Nat, t = (turn % 18446744073709551616 % S.length).toNat := ⟨_, rfl⟩
        have HT0 := Lib.hid ht0
        clear ht0
        go_loopw [10, 52] (fun u i wr => ∃ k : Nat, k ≤ S.length ∧ i = .int .i64 k ∧ wr.ownsRow w5.heap.size 3 1 u k (intsCells (rot S t k)) ∧ Below w5.heap.size w5 wr) (fun _ i _ => S.length - (intOf i).toNat)
        case atStart => exact ⟨0, Nat.zero_le _, rfl, World.ownsRow_nil _ _ _ _, Below.refl _ _⟩
        case round =>
          obtain ⟨k, hk, rfl, hown, hb6⟩ := hrel
          by_cases hlt : k < S.length
          · rcases hl' with rfl | ⟨b, off, rfl, hb, hc⟩
            · simp at hlt
            have q0 := Int.emod_nonneg (turn % 18446744073709551616) (show (S.length : Int) ≠ 0 by omega)
            have q1 := Int.emod_lt_of_pos (turn % 18446744073709551616) (show (0 : Int) < S.length by omega)
            have HTT := Lib.hid (show turn % 18446744073709551616 % (S.length : Int) = (t : Int) by have := HT0.out; omega)
            have htb : (t : Int) < S.length := by have := HT0.out; omega
            clear q0 q1
            have hq0 : 0 ≤ ((k : Int) + t) % S.length := Int.emod_nonneg _ (by omega)
            have hq1 : ((k : Int) + t) % S.length < S.length := Int.emod_lt_of_pos _ (by omega)
            have hmod := Nat.mod_lt (k + t) (show 0 < S.length by omega)
            have d1 := (hb6.cell (p := ⟨b, off + (k + t) % S.length, none⟩) hb).trans (hc _ hmod)
            have HR := Lib.hid (rot_succ S t k)
            have HG := Lib.hid (show S[(k + t) % S.length]?.getD 0 = S[(k + t) % S.length] by rw [List.getElem?_eq_getElem hmod]; rfl)
            have HO := Lib.hid hown
            clear hc hown
            generalize S[(k + t) % S.length] = z at *
            go_wp2_with fail
            refine (withinInt_c turn S.length (by omega) (by omega) _).mono ?_
            rintro e w7 ⟨rfl, rfl⟩
            rw [HTT.out]
            go_wp2_with (at_builtin; refine wpList_append_new (w0 := w5) rfl (.tmp 55) (.tmp 68) 67 rfl w5.heap.size 3 (.int .i64 0) 1 8 Try.underlying67 IntTy.info rfl (by decide) _ k _ rfl HO.out [.int .i64 z] rfl (by simp [Value.oneCell']) rfl hb6 hb6.size (by unfold maxLen; omega) (by omega) ?_)
            intro v' w8 hown8 hb8
            go_wp2
            go_roundw
            case rel =>
              have ho9 : w8.ownsRow w5.heap.size 3 1 v' (k + 1) (intsCells (rot S t (k + 1))) := by rw [HR.out, HG.out]; exact hown8
              first
                | exact ⟨k + 1, by omega, by go_num, ho9, hb8⟩
                | ((repeat apply Exists.intro); exact ⟨⟨k + 1, by omega, rfl, ho9, hb8⟩, rfl⟩)
            case measure => simp [intOf]; omega
          · obtain rfl : k = S.length := by omega
            obtain ⟨za, zc, rfl⟩ := owns_slice hown
            have io : IntsAt wr (.slice za S.length zc) (rot S t S.length) := by
              have := CellsAt.of_owns hown (by omega)
              unfold IntsAt; rw [rot_length]; exact this
            have HMEM := Lib.hid (show ∀ x ∈ rot S t S.length, x ∈ S from fun x hx => by
              rcases S with _ | ⟨y, S'⟩
              · simp [rot] at hx
              · exact rot_mem (by simp) hx)
            have hrl := Lib.hid (rot_length S t S.length)
            replace si := si.below hb6
            replace hbl := bstep hbl hb6
            clear hown hb5 hl' hb6 hk hlt
            generalize rot S t S.length = O at *
            go_wp2_with fail
            (with_reducible refine (ofM _ S _ si HRG.out (Nat.le_trans h4 (by decide))).mono ?_)
            rintro e w9 ⟨v2, rfl, s2, hb⟩
            replace si := si.below hb
            replace io := io.below hb
            replace hbl := bstep hbl hb
            clear hb
            have HROW := Lib.hid (show RowsAt (w9.alloc (.cells #[.slice za S.length zc, .slice ya S.length yc] 67)) (.slice (some ⟨w9.heap.size, 0, none⟩) 2 2) [(.slice za S.length zc, S.length, intsCells O), (.slice ya S.length yc, S.length, intsCells S)] by
              refine ⟨CellsAt.of_owns (litOwn w9 0 1 _ #[.slice za S.length zc, .slice ya S.length yc] 2 _ rfl (by omega) (by decide) rfl) (by simp), ?_⟩
              intro r hr
              simp only [List.mem_cons, List.not_mem_nil, or_false] at hr
              rcases hr with rfl | rfl
              · have := (io.below (bal (.cells #[.slice za S.length zc, .slice ya S.length yc] 67))); unfold IntsAt at this; rw [hrl.out] at this; exact this
              · exact si.below (bal _))
            go_wp2_with fail
            refine (IntConcat_c _ _ _ HROW.out ?_ ?_ ?_).mono ?_
            · intro r hr
              simp only [List.mem_cons, List.not_mem_nil, or_false] at hr
              rcases hr with rfl | rfl
              · simp [intsCells, hrl.out]
              · simp [intsCells]
            · intro r hr
              simp only [List.mem_cons, List.not_mem_nil, or_false] at hr
              rcases hr with rfl | rfl <;> exact ints1 _
            · simp [tot]; omega
            rintro e w10 ⟨v3, rfl, hown3, hb⟩
            have s3 : IntsAt w10 v3 (O ++ S) := by
              have h := CellsAt.of_owns hown3 (by simp [tot]; omega)
              have e1 : tot [(Value.slice za S.length zc, S.length, intsCells O), (Value.slice ya S.length yc, S.length, intsCells S)] = (O ++ S).length := by simp [tot, hrl.out]
              have e2 : flat [(Value.slice za S.length zc, S.length, intsCells O), (Value.slice ya S.length yc, S.length, intsCells S)] = intsCells (O ++ S) := by simp [flat, intsCells]
              rw [e1, e2] at h; exact h
            replace hb := ba1 hb
            replace si := si.below hb
            replace s2 := s2.below hb
            replace hbl := bstep hbl hb
            clear hb hown3 io HROW
            have HRG2 := Lib.hid (show ∀ x ∈ O ++ S, 0 ≤ x ∧ x < 32 from fun x hx => by
              rcases List.mem_append.1 hx with hx | hx
              · exact HRG.out x (HMEM.out x hx)
              · exact HRG.out x hx)
            have hl2 : (O ++ S).length ≤ 400 := by rw [List.length_append, hrl.out]; omega
            go_wp2_with fail
            refine (ofM _ (O ++ S) _ s3 HRG2.out hl2).mono ?_
            rintro e w11 ⟨v4, rfl, s4, hb⟩
            replace si := si.below hb
            replace s2 := s2.below hb
            replace hbl := bstep hbl hb
            clear hb s3 hl2
            go_wp2_with fail
            refine (hasM _ _ n _ s2).mono ?_
            rintro e w12 ⟨rfl, hb⟩
            replace si := si.below hb
            replace s2 := s2.below hb
            replace s4 := s4.below hb
            replace hbl := bstep hbl hb
            clear hb
            rw [atI_has HRG.out, show S.contains n = memI S n from rfl]
            go_wp2_with fail
            refine (eqM _ _ _ _ _ s2 s4 (fun i _ => ?_)).mono ?_
            · unfold hasI; rw [Bool.eq_iff_iff]; simp
              exact fun h => HMEM.out _ h
            rintro e w13 ⟨rfl, hb⟩
            replace si := si.below hb
            replace s2 := s2.below hb
            replace hbl := bstep hbl hb
            clear hb s4
            go_wp2_with fail
            refine (contains_c _ S n _ si).mono ?_
            rintro e w14 ⟨rfl, rfl⟩
            rw [show S.contains n = memI S n from rfl]
            generalize memI S n = c at *
            cases c
            all_goals
              go_wp2_with fail
              refine (spanChk_c _ _ _ s2).mono ?_
              rintro e w15 ⟨rfl, hb⟩
              rw [make_chk]
              go_wp2
              go_ret
              exact ⟨rfl, bstep hbl hb⟩
  · go_wp2_with fail
    go_loopw [9, 40] (fun u i wr => ∃ k : Nat, k ≤ l.length ∧ i = .int .i64 k ∧ wr.ownsRow w.heap.size 3 1 u k (intsCells ((l.map f32).take k)) ∧ Below w.heap.size w wr) (fun _ i _ => l.length - (intOf i).toNat)
    case atStart => exact ⟨0, Nat.zero_le _, rfl, World.ownsRow_nil _ _ _ _, hbel⟩
    case round =>
      obtain ⟨k, hk, rfl, hown, hbl⟩ := hrel
      by_cases hlt : k < l.length
      · rcases hl with rfl | ⟨b, off, rfl, hb, hc⟩
        · simp at hlt h100
        have hkl : k < l.length := by omega
        have d1 := (hbl.cell (p := ⟨b, off + k, none⟩) hb).trans (hc k hkl)
        have HO := Lib.hid hown
        have HB := Lib.hid hbl
        have HT := Lib.hid (show intsCells ((l.map f32).take (k + 1)) = intsCells ((l.map f32).take k) ++ [.int .i64 (f32 l[k])] by rw [List.take_succ_eq_append_getElem (by simpa using hkl)]; simp only [intsCells, List.map_append, List.map_cons, List.map_nil, List.getElem_map])
        clear hc hown
        go_wp2_with fail
        (with_reducible refine (withinInt_c _ 32 (by decide) (by decide) _).mono ?_)
        rintro e w3 ⟨rfl, rfl⟩
        rw [show l[k] % 18446744073709551616 % 32 = f32 l[k] from rfl]
        generalize f32 l[k] = z at *
        go_wp2_with (at_builtin; refine wpList_append_new (w0 := w) rfl (.tmp 44) (.tmp 47) 67 rfl w.heap.size 3 (.int .i64 0) 1 8 Try.underlying67 IntTy.info rfl (by decide) _ k _ rfl HO.out [.int .i64 z] rfl (by simp [Value.oneCell']) rfl HB.out HB.out.size (by unfold maxLen; omega) (by omega) ?_)
        intro v' w4 hown4 hbl4
        go_wp2
        go_roundw
        case rel => exact ⟨k + 1, by omega, by go_num, by rw [HT.out]; exact hown4, hbl4⟩
        case measure => simp [intOf]; omega
      · obtain rfl : k = l.length := by omega
        have hS : (l.map f32).take l.length = someOf l := by unfold someOf; rw [List.take_of_length_le (by simp), List.take_of_length_le (by simp; omega)]
        have hlen : (someOf l).length = l.length := by unfold someOf; simp; omega
        rw [hS] at hown
        have hrg := someOf_range l
        clear hS hl hk hlt h0
        generalize someOf l = S at *
        have h4 : S.length ≤ 100 := by omega
        rw [show (l.length : Nat) = S.length from hlen.symm] at hown
        clear hlen
        obtain ⟨ya, yc, rfl⟩ := owns_slice hown
        have si : IntsAt wr (.slice ya S.length yc) S := CellsAt.of_owns hown (by omega)
        have HRG := Lib.hid hrg
        clear hown hrg hbel
        go_wp2_with fail
        obtain ⟨w5, hw5⟩ : ∃ w5 : World, w5 = wr := ⟨_, rfl⟩
        subst hw5
        obtain ⟨ya', yc', hv, hcap', hm', h0', hl'⟩ := si.open_
        simp only [Value.slice.injEq, true_and] at hv
        obtain ⟨rfl, rfl⟩ := hv
        clear hm' h0' hcap'
        have hb5 := Below.refl w5.heap.size w5
        obtain ⟨t, ht0⟩ : ∃ t : Nat, t = (turn % 18446744073709551616 % S.length).toNat := ⟨_, rfl⟩
        have HT0 := Lib.hid ht0
        clear ht0
        go_loopw [10, 52] (fun u i wr => ∃ k : Nat, k ≤ S.length ∧ i = .int .i64 k ∧ wr.ownsRow w5.heap.size 3 1 u k (intsCells (rot S t k)) ∧ Below w5.heap.size w5 wr) (fun _ i _ => S.length - (intOf i).toNat)
        case atStart => exact ⟨0, Nat.zero_le _, rfl, World.ownsRow_nil _ _ _ _, Below.refl _ _⟩
        case round =>
          obtain ⟨k, hk, rfl, hown, hb6⟩ := hrel
          by_cases hlt : k < S.length
          · rcases hl' with rfl | ⟨b, off, rfl, hb, hc⟩
            · simp at hlt
            have q0 := Int.emod_nonneg (turn % 18446744073709551616) (show (S.length : Int) ≠ 0 by omega)
            have q1 := Int.emod_lt_of_pos (turn % 18446744073709551616) (show (0 : Int) < S.length by omega)
            have HTT := Lib.hid (show turn % 18446744073709551616 % (S.length : Int) = (t : Int) by have := HT0.out; omega)
            have htb : (t : Int) < S.length := by have := HT0.out; omega
            clear q0 q1
            have hq0 : 0 ≤ ((k : Int) + t) % S.length := Int.emod_nonneg _ (by omega)
            have hq1 : ((k : Int) + t) % S.length < S.length := Int.emod_lt_of_pos _ (by omega)
            have hmod := Nat.mod_lt (k + t) (show 0 < S.length by omega)
            have d1 := (hb6.cell (p := ⟨b, off + (k + t) % S.length, none⟩) hb).trans (hc _ hmod)
            have HR := Lib.hid (rot_succ S t k)
            have HG := Lib.hid (show S[(k + t) % S.length]?.getD 0 = S[(k + t) % S.length] by rw [List.getElem?_eq_getElem hmod]; rfl)
            have HO := Lib.hid hown
            clear hc hown
            generalize S[(k + t) % S.length] = z at *
            go_wp2_with fail
            refine (withinInt_c turn S.length (by omega) (by omega) _).mono ?_
            rintro e w7 ⟨rfl, rfl⟩
            rw [HTT.out]
            go_wp2_with (at_builtin; refine wpList_append_new (w0 := w5) rfl (.tmp 55) (.tmp 68) 67 rfl w5.heap.size 3 (.int .i64 0) 1 8 Try.underlying67 IntTy.info rfl (by decide) _ k _ rfl HO.out [.int .i64 z] rfl (by simp [Value.oneCell']) rfl hb6 hb6.size (by unfold maxLen; omega) (by omega) ?_)
            intro v' w8 hown8 hb8
            go_wp2
            go_roundw
            case rel =>
              have ho9 : w8.ownsRow w5.heap.size 3 1 v' (k + 1) (intsCells (rot S t (k + 1))) := by rw [HR.out, HG.out]; exact hown8
              first
                | exact ⟨k + 1, by omega, by go_num, ho9, hb8⟩
                | ((repeat apply Exists.intro); exact ⟨⟨k + 1, by omega, rfl, ho9, hb8⟩, rfl⟩)
            case measure => simp [intOf]; omega
          · obtain rfl : k = S.length := by omega
            obtain ⟨za, zc, rfl⟩ := owns_slice hown
            have io : IntsAt wr (.slice za S.length zc) (rot S t S.length) := by
              have := CellsAt.of_owns hown (by omega)
              unfold IntsAt; rw [rot_length]; exact this
            have HMEM := Lib.hid (show ∀ x ∈ rot S t S.length, x ∈ S from fun x hx => by
              rcases S with _ | ⟨y, S'⟩
              · simp [rot] at hx
              · exact rot_mem (by simp) hx)
            have hrl := Lib.hid (rot_length S t S.length)
            replace si := si.below hb6
            replace hbl := bstep hbl hb6
            clear hown hb5 hl' hb6 hk hlt
            generalize rot S t S.length = O at *
            go_wp2_with fail
            (with_reducible refine (ofM _ S _ si HRG.out (Nat.le_trans h4 (by decide))).mono ?_)
            rintro e w9 ⟨v2, rfl, s2, hb⟩
            replace si := si.below hb
            replace io := io.below hb
            replace hbl := bstep hbl hb
            clear hb
            have HROW := Lib.hid (show RowsAt (w9.alloc (.cells #[.slice za S.length zc, .slice ya S.length yc] 67)) (.slice (some ⟨w9.heap.size, 0, none⟩) 2 2) [(.slice za S.length zc, S.length, intsCells O), (.slice ya S.length yc, S.length, intsCells S)] by
              refine ⟨CellsAt.of_owns (litOwn w9 0 1 _ #[.slice za S.length zc, .slice ya S.length yc] 2 _ rfl (by omega) (by decide) rfl) (by simp), ?_⟩
              intro r hr
              simp only [List.mem_cons, List.not_mem_nil, or_false] at hr
              rcases hr with rfl | rfl
              · have := (io.below (bal (.cells #[.slice za S.length zc, .slice ya S.length yc] 67))); unfold IntsAt at this; rw [hrl.out] at this; exact this
              · exact si.below (bal _))
            go_wp2_with fail
            refine (IntConcat_c _ _ _ HROW.out ?_ ?_ ?_).mono ?_
            · intro r hr
              simp only [List.mem_cons, List.not_mem_nil, or_false] at hr
              rcases hr with rfl | rfl
              · simp [intsCells, hrl.out]
              · simp [intsCells]
            · intro r hr
              simp only [List.mem_cons, List.not_mem_nil, or_false] at hr
              rcases hr with rfl | rfl <;> exact ints1 _
            · simp [tot]; omega
            rintro e w10 ⟨v3, rfl, hown3, hb⟩
            have s3 : IntsAt w10 v3 (O ++ S) := by
              have h := CellsAt.of_owns hown3 (by simp [tot]; omega)
              have e1 : tot [(Value.slice za S.length zc, S.length, intsCells O), (Value.slice ya S.length yc, S.length, intsCells S)] = (O ++ S).length := by simp [tot, hrl.out]
              have e2 : flat [(Value.slice za S.length zc, S.length, intsCells O), (Value.slice ya S.length yc, S.length, intsCells S)] = intsCells (O ++ S) := by simp [flat, intsCells]
              rw [e1, e2] at h; exact h
            replace hb := ba1 hb
            replace si := si.below hb
            replace s2 := s2.below hb
            replace hbl := bstep hbl hb
            clear hb hown3 io HROW
            have HRG2 := Lib.hid (show ∀ x ∈ O ++ S, 0 ≤ x ∧ x < 32 from fun x hx => by
              rcases List.mem_append.1 hx with hx | hx
              · exact HRG.out x (HMEM.out x hx)
              · exact HRG.out x hx)
            have hl2 : (O ++ S).length ≤ 400 := by rw [List.length_append, hrl.out]; omega
            go_wp2_with fail
            refine (ofM _ (O ++ S) _ s3 HRG2.out hl2).mono ?_
            rintro e w11 ⟨v4, rfl, s4, hb⟩
            replace si := si.below hb
            replace s2 := s2.below hb
            replace hbl := bstep hbl hb
            clear hb s3 hl2
            go_wp2_with fail
            refine (hasM _ _ n _ s2).mono ?_
            rintro e w12 ⟨rfl, hb⟩
            replace si := si.below hb
            replace s2 := s2.below hb
            replace s4 := s4.below hb
            replace hbl := bstep hbl hb
            clear hb
            rw [atI_has HRG.out, show S.contains n = memI S n from rfl]
            go_wp2_with fail
            refine (eqM _ _ _ _ _ s2 s4 (fun i _ => ?_)).mono ?_
            · unfold hasI; rw [Bool.eq_iff_iff]; simp
              exact fun h => HMEM.out _ h
            rintro e w13 ⟨rfl, hb⟩
            replace si := si.below hb
            replace s2 := s2.below hb
            replace hbl := bstep hbl hb
            clear hb s4
            go_wp2_with fail
            refine (contains_c _ S n _ si).mono ?_
            rintro e w14 ⟨rfl, rfl⟩
            rw [show S.contains n = memI S n from rfl]
            generalize memI S n = c at *
            cases c
            all_goals
              go_wp2_with fail
              refine (spanChk_c _ _ _ s2).mono ?_
              rintro e w15 ⟨rfl, hb⟩
              rw [make_chk]
              go_wp2
              go_ret
              exact ⟨rfl, bstep hbl hb⟩
end Go.Proofs.Ytbekllgecfjljaa
