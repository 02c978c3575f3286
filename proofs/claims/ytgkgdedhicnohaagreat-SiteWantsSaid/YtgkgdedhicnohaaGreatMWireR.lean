/- What is read, piece by piece: readings go on. No program in sight. What is read is what was written, and what was written is what is read: whole batches. No program in sight. -/
import Derived.Test.YtgkgdedhicnohaaGreatMWire5
namespace Go.Proofs.YtgkgdedhicnohaaGreat
open Go.RowKit
def Rd (s s':ByteArray) (b':Bool):Prop:=s'.size < s.size∨(s'=s∧b'=true)
theorem Rd.le {s s':ByteArray} {b':Bool} (h:Rd s s' b'):s'.size≤s.size:=by
 rcases h with h | ⟨rfl, -⟩
 ·omega
 ·exact Nat.le_refl _
theorem Rd.trans {s s1 s2:ByteArray} {b1 b2:Bool} (h:Rd s s1 b1) (k:Rd s1 s2 b2):Rd s s2 b2:=by
 rcases k with k | ⟨rfl,rfl⟩
 ·have:=h.le;exact .inl (by omega)
 ·rcases h with h | ⟨rfl, -⟩
  ·exact .inl h
  ·exact .inr ⟨rfl,rfl⟩
theorem num_rd (s:ByteArray) (b:Bool) (most:Int):Rd s (numR s) (numB s b most):=by
 unfold numR numB
 by_cases h:s.size < 3
 ·rw[if_pos h,if_pos h];exact .inr ⟨rfl,rfl⟩
 ·rw[if_neg h];refine .inl ?_
  rw[ByteArray.size_extract];omega
theorem text_rd (s:ByteArray) (b:Bool):Rd s (textR s) (textB s b):=by
 unfold textR textB
 by_cases h:(numR s).size < textN s
 ·rw[if_pos h,if_pos h]
  rcases num_rd s b 8 with k | ⟨k, -⟩
  ·exact .inl k
  ·exact .inr ⟨k,rfl⟩
 ·rw[if_neg h,if_neg h]
  rcases num_rd s b 8 with k | ⟨k,k2⟩
  ·refine .inl ?_
   rw[ByteArray.size_extract];omega
  ·refine .inr ⟨?_,k2⟩
   have h3:s.size < 3:=by
    rcases Nat.lt_or_ge s.size 3 with h3 | h3
    ·exact h3
    ·have hh:=congrArg ByteArray.size k
     unfold numR at hh
     rw[if_neg (by omega),ByteArray.size_extract] at hh
     omega
   have h0:textN s=0:=by unfold textN numV;rw [if_pos h3];rfl
   rw[h0,k]
   apply ByteArray.ext
   apply Array.ext'
   rw[extract_list];rfl
theorem RdSt.inj {B:Nat} {s t:ByteArray} {b c:Bool} {w:World} (h:RdSt B s b w) (k:RdSt B t c w):s=t∧b=c:=by
 have h1:=h.blk
 rw[k.blk] at h1
 simp only[Option.some.injEq,Obj.cells.injEq] at h1
 have h2:=h1.1
 simp only[Array.mk.injEq,List.cons.injEq,Value.string.injEq,Value.bool.injEq] at h2
 exact⟨h2.1.symm,h2.2.1.symm⟩
theorem Rd.mid {B:Nat} {s s1 s2:ByteArray} {b b1 b2:Bool} {w:World} (h1:Rd s s1 b1) (h2:Rd s1 s2 b2) (hA:RdSt B s1 b1 w∨RdSt B s2 b2 w) (hB:RdSt B s b w∨RdSt B s1 b1 w):RdSt B s1 b1 w:=by
 rcases hA with hA | hA
 ·exact hA
 rcases hB with hB | hB
 ·obtain⟨rfl,rfl⟩:=hA.inj hB
  have k1:=h1.le
  have k2:=h2.le
  rcases h1 with h1 | ⟨rfl,rfl⟩
  ·omega
  rcases h2 with h2 | ⟨-,rfl⟩
  ·omega
  exact hB
 ·exact hB
def numsR (most:Int) (s:ByteArray) (bad:Bool):Nat→List Int×ByteArray×Bool
 | 0=>([],s,bad)
 | k+1=>((numsR most s bad k).1++[numV (numsR most s bad k).2.1 most],numR (numsR most s bad k).2.1,numB (numsR most s bad k).2.1 (numsR most s bad k).2.2 most)
theorem numsR_size (most:Int) (s:ByteArray) (bad:Bool): ∀k,(numsR most s bad k).2.1.size≤s.size
 | 0=>Nat.le_refl _
 | k+1=>Nat.le_trans (numR_size _) (numsR_size most s bad k)
theorem numsR_len (most:Int) (s:ByteArray) (bad:Bool): ∀k,(numsR most s bad k).1.length=k
 | 0=>rfl
 | k+1=>by simp only[numsR,List.length_append,numsR_len most s bad k,List.length_singleton]
def pairsR (m1 m2:Int) (s:ByteArray) (bad:Bool):Nat→List (Int×Int)×ByteArray×Bool
 | 0=>([],s,bad)
 | k+1=>((pairsR m1 m2 s bad k).1++[(numV (pairsR m1 m2 s bad k).2.1 m1,numV (numR (pairsR m1 m2 s bad k).2.1) m2)],numR (numR (pairsR m1 m2 s bad k).2.1),numB (numR (pairsR m1 m2 s bad k).2.1) (numB (pairsR m1 m2 s bad k).2.1 (pairsR m1 m2 s bad k).2.2 m1) m2)
theorem pairsR_size (m1 m2:Int) (s:ByteArray) (bad:Bool): ∀k,(pairsR m1 m2 s bad k).2.1.size≤s.size
 | 0=>Nat.le_refl _
 | k+1=>Nat.le_trans (numR_size _) (Nat.le_trans (numR_size _) (pairsR_size m1 m2 s bad k))
theorem pairsR_len (m1 m2:Int) (s:ByteArray) (bad:Bool): ∀k,(pairsR m1 m2 s bad k).1.length=k
 | 0=>rfl
 | k+1=>by simp only[pairsR,List.length_append,pairsR_len m1 m2 s bad k,List.length_singleton]
def vecRd (s:ByteArray) (bad:Bool):List Int×ByteArray×Bool:=numsR 1000 (numR s) (numB s bad 5) (numV s 5).toNat
def dotRd (s:ByteArray) (bad:Bool):Dots×ByteArray×Bool:=pairsR 5 1000 (numR (vecRd s bad).2.1) (numB (vecRd s bad).2.1 (vecRd s bad).2.2 60) (numV (vecRd s bad).2.1 60).toNat
def knRd (s:ByteArray) (bad:Bool):Kn:=⟨(vecRd s bad).1,(dotRd s bad).1⟩
theorem Rd.nums {s s1:ByteArray} {b1:Bool} (most:Int) (h:Rd s s1 b1): ∀k,Rd s (numsR most s1 b1 k).2.1 (numsR most s1 b1 k).2.2
 | 0=>h
 | k+1=>(Rd.nums most h k).trans (num_rd _ _ _)
theorem Rd.pairs {s s1:ByteArray} {b1:Bool} (m1 m2:Int) (h:Rd s s1 b1): ∀k,Rd s (pairsR m1 m2 s1 b1 k).2.1 (pairsR m1 m2 s1 b1 k).2.2
 | 0=>h
 | k+1=>((Rd.pairs m1 m2 h k).trans (num_rd _ false 0)).trans (num_rd _ _ _)
theorem vec_rd (s:ByteArray) (b:Bool):Rd s (vecRd s b).2.1 (vecRd s b).2.2:=Rd.nums _ (num_rd _ _ _) _
theorem kn_rd (s:ByteArray) (b:Bool):Rd s (dotRd s b).2.1 (dotRd s b).2.2:=Rd.pairs _ _ ((vec_rd s b).trans (num_rd _ _ _)) _
def spRd (s:ByteArray) (bad:Bool):Spans×ByteArray×Bool:=pairsR 32 32 (numR (numR (numR s))) (numB (numR (numR s)) (numB (numR s) (numB s bad 15) 15) 16) (numV (numR (numR s)) 16).toNat
def bxRd (s:ByteArray) (bad:Bool):Bx:=⟨numV s 15,numV (numR s) 15,(spRd s bad).1⟩
theorem bx_rd (s:ByteArray) (b:Bool):Rd s (spRd s b).2.1 (spRd s b).2.2:=Rd.pairs _ _ (((num_rd _ false 0).trans (num_rd _ false 0)).trans (num_rd _ _ _)) _
def manyR {α: Type} (f:ByteArray→Bool→α× ByteArray×Bool) (s:ByteArray) (bad:Bool):Nat→List α× ByteArray×Bool
 | 0=>([],s,bad)
 | k+1=>((manyR f s bad k).1++[(f (manyR f s bad k).2.1 (manyR f s bad k).2.2).1],(f (manyR f s bad k).2.1 (manyR f s bad k).2.2).2)
theorem manyR_len {α: Type} (f:ByteArray→Bool→α× ByteArray×Bool) (s:ByteArray) (bad:Bool): ∀k,(manyR f s bad k).1.length=k
 | 0=>rfl
 | k+1=>by simp only[manyR,List.length_append,manyR_len f s bad k,List.length_singleton]
theorem Rd.many {α: Type} {f:ByteArray→Bool→α× ByteArray×Bool} (hf: ∀s b,Rd s (f s b).2.1 (f s b).2.2) {s s1:ByteArray} {b1:Bool} (h:Rd s s1 b1): ∀k,Rd s (manyR f s1 b1 k).2.1 (manyR f s1 b1 k).2.2
 | 0=>h
 | k+1=>(Rd.many hf h k).trans (hf _ _)
theorem manyR_size {α: Type} {f:ByteArray→Bool→α× ByteArray×Bool} (hf: ∀s b,Rd s (f s b).2.1 (f s b).2.2) (s:ByteArray) (bad:Bool): ∀k,(manyR f s bad k).2.1.size≤s.size
 | 0=>Nat.le_refl _
 | k+1=>Nat.le_trans (hf _ _).le (manyR_size hf s bad k)
def bx1 (s:ByteArray) (b:Bool):Bx×ByteArray×Bool:=(bxRd s b,(spRd s b).2)
theorem bx1_rd (s:ByteArray) (b:Bool):Rd s (bx1 s b).2.1 (bx1 s b).2.2:=bx_rd s b
def filRd (s:ByteArray) (bad:Bool):Bxs×ByteArray×Bool:=manyR bx1 (numR s) (numB s bad 40) (numV s 40).toNat
theorem fil_rd (s:ByteArray) (b:Bool):Rd s (filRd s b).2.1 (filRd s b).2.2:=Rd.many bx1_rd (num_rd _ _ _) _
def verHead (s:ByteArray) (bad:Bool):ByteArray×Bool:=(numR (numR (numR (numR (numR (textR s))))),numB (numR (numR (numR (numR (textR s))))) (numB (numR (numR (numR (textR s)))) (numB (numR (numR (textR s))) (numB (numR (textR s)) (numB (textR s) (textB s bad) 5) 1000) 15) 32) 1000000)
def ver1 (s:ByteArray) (bad:Bool):Ver×ByteArray×Bool:=
 (⟨textV s,numV (textR s) 5,numV (numR (textR s)) 1000,numV (numR (numR (textR s))) 15,numV (numR (numR (numR (textR s)))) 32,numV (numR (numR (numR (numR (textR s))))) 1000000,knRd (verHead s bad).1 (verHead s bad).2⟩,(dotRd (verHead s bad).1 (verHead s bad).2).2)
theorem Rd.num {s s1:ByteArray} {b1:Bool} (h:Rd s s1 b1) (b:Bool) (most:Int):Rd s (numR s1) (numB s1 b most):=h.trans (num_rd s1 b most)
theorem rd5 {s s1:ByteArray} {b1:Bool} (h:Rd s s1 b1) (c:Bool) (m:Int):Rd s (numR (numR (numR (numR (numR s1))))) (numB (numR (numR (numR (numR s1)))) c m):=
 ((((h.num false 0).num false 0).num false 0).num false 0).num c m
theorem verHead_rd (s:ByteArray) (b:Bool):Rd s (verHead s b).1 (verHead s b).2:=by
 unfold verHead
 dsimp only
 exact rd5 (text_rd s b) (numB (numR (numR (numR (textR s)))) (numB (numR (numR (textR s))) (numB (numR (textR s)) (numB (textR s) (textB s b) 5) 1000) 15) 32) 1000000
theorem ver1_rd (s:ByteArray) (b:Bool):Rd s (ver1 s b).2.1 (ver1 s b).2.2:=by
 unfold ver1
 dsimp only
 exact(verHead_rd s b).trans (kn_rd (verHead s b).1 (verHead s b).2)
def gone1 (s:ByteArray) (bad:Bool):Gn×ByteArray×Bool:=(⟨textV s,knRd (textR s) (textB s bad)⟩,(dotRd (textR s) (textB s bad)).2)
theorem gone1_rd (s:ByteArray) (b:Bool):Rd s (gone1 s b).2.1 (gone1 s b).2.2:=(text_rd s b).trans (kn_rd _ _)
def part1 (s:ByteArray) (bad:Bool):Pt×ByteArray×Bool:=(⟨(filRd s bad).1,knRd (filRd s bad).2.1 (filRd s bad).2.2⟩,(dotRd (filRd s bad).2.1 (filRd s bad).2.2).2)
theorem part1_rd (s:ByteArray) (b:Bool):Rd s (part1 s b).2.1 (part1 s b).2.2:=(fil_rd s b).trans (kn_rd _ _)
theorem nums_one (n:Int):nums [n]=b3 n:=by simp[nums]
def stampS (s:ByteArray):ByteArray:=numR (numR s)
def stampB (s:ByteArray):Bool:=numB (numR s) (numB s false 5) 1000000
def versRd (s:ByteArray):List Ver×ByteArray×Bool:=manyR ver1 (numR (stampS s)) (numB (stampS s) (stampB s) 60) (numV (stampS s) 60).toNat
def gonesRd (s:ByteArray):List Gn×ByteArray×Bool:=manyR gone1 (numR (versRd s).2.1) (numB (versRd s).2.1 (versRd s).2.2 60) (numV (versRd s).2.1 60).toNat
def partsRd (s:ByteArray):List Pt×ByteArray×Bool:=manyR part1 (numR (gonesRd s).2.1) (numB (gonesRd s).2.1 (gonesRd s).2.2 30) (numV (gonesRd s).2.1 30).toNat
def btRd (s:ByteArray):Bt:=⟨numV s 5,numV (numR s) 1000000,(versRd s).1,(gonesRd s).1,(partsRd s).1⟩
end Go.Proofs.YtgkgdedhicnohaaGreat
