/- Sentences shown as text: what is shown is read as a sentence that says the same. No program in sight. -/
import Derived.Test.YtajgndoiddmbmaaGreatDoorText9
import Derived.Lib.ItoaNum
namespace Go.Proofs.YtajgndoiddmbmaaGreatDoor
open Go.RowKit
def cutS (b:ByteArray):ByteArray:=if 400 < b.size then b.extract 0 401 else b
def itB (n:Nat):ByteArray:=⟨(Lib.decDigits n).toArray⟩
def rawS (ss:List ByteArray) (n:Nd):ByteArray:=
 if n.k=1 then⟨#[42]⟩
 else if n.k=2 then⟨#[35]⟩++itB n.a.toNat
 else if n.k=3 then(((⟨#[91]⟩++itB n.a.toNat)++⟨#[44]⟩)++itB n.b.toNat)++⟨#[41]⟩
 else if n.k=4 then notB (ss.getD n.a.toNat ByteArray.empty)
 else if n.k=5 then twoB 38 (ss.getD n.a.toNat ByteArray.empty) (ss.getD n.b.toNat ByteArray.empty)
 else twoB 124 (ss.getD n.a.toNat ByteArray.empty) (ss.getD n.b.toNat ByteArray.empty)
def txtsK (l:Nds):Nat→List ByteArray
 | 0=>[]
 | k+1=>txtsK l k++[cutS (rawS (txtsK l k) (l.getD k ⟨0,0,0⟩))]
theorem txtsK_length (l:Nds) (k:Nat):(txtsK l k).length=k:=by
 induction k with
 | zero=>rfl
 | succ k ih=>simp [txtsK,ih]
theorem txtsK_get (l:Nds) (j k:Nat) (h:j < k):(txtsK l k).getD j ByteArray.empty=cutS (rawS (txtsK l j) (l.getD j ⟨0,0,0⟩)):=by
 induction k with
 | zero=>omega
 | succ k ih=>
  by_cases e:j=k
  ·subst e
   simp[txtsK,List.getD,txtsK_length]
  ·rw[←ih (by omega)]
   simp only[txtsK,List.getD,List.getElem?_append_left (show j < (txtsK l k).length by rw[txtsK_length];omega)]
theorem txtsK_congr (l m:Nds) (k:Nat) (h: ∀j,j < k→l.getD j ⟨0,0,0⟩=m.getD j ⟨0,0,0⟩):txtsK l k=txtsK m k:=by
 induction k with
 | zero=>rfl
 | succ k ih=>simp only[txtsK];rw [ih fun j hj=>h j (by omega),h k (by omega)]
theorem txtsK_app (l m:Nds) (k:Nat) (h:k≤l.length):txtsK (l++m) k=txtsK l k:=
 txtsK_congr _ _ _ fun j hj=>by simp[List.getD,List.getElem?_append_left (show j < l.length by omega)]
def txts (l:Nds):List ByteArray:=txtsK l l.length
def lastS (l:Nds):ByteArray:=(txts l).getD (l.length - 1) ByteArray.empty
def showE (l:Nds):Int:=if formChk l=0 then(if 400 < (lastS l).size then 2 else 0) else formChk l
def showS (l:Nds):ByteArray:=if showE l=0 then lastS l else ByteArray.empty
structure Good (s:ByteArray) (m:Nds):Prop where
 sz:s.size≤400
 par:oneP s 401 0 []=some (s.size,m)
 well:wellL m
 chk: ∀k (h:k < m.length),ndChk k m[k]=0
def digB (a:Nat):ByteArray:=if a < 10 then⟨#[UInt8.ofNat (48+a)]⟩ else⟨#[UInt8.ofNat (48+a / 10),UInt8.ofNat (48+a%10)]⟩
theorem itB_dig {a:Nat} (h:a < 100):itB a=digB a:=by
 unfold itB digB
 by_cases h1:a < 10
 ·rw[if_pos h1,Lib.decDigits,dif_pos h1]
 ·rw[if_neg h1,Lib.decDigits,dif_neg h1,Lib.decDigits,dif_pos (by omega)];rfl
theorem tag_par: ∀a,a < 4→oneP (⟨#[35]⟩++digB a) 401 0 []=some ((⟨#[35]⟩++digB a).size,[⟨2,(a:Nat),0⟩])∧(⟨#[35]⟩++digB a).size≤400:=by decide+kernel
theorem in_par: ∀b,b < 33→ ∀a,a < b→oneP ((((⟨#[91]⟩++digB a)++⟨#[44]⟩)++digB b)++⟨#[41]⟩) 401 0 []=some (((((⟨#[91]⟩++digB a)++⟨#[44]⟩)++digB b)++⟨#[41]⟩).size,[⟨3,(a:Nat),(b:Nat)⟩])∧((((⟨#[91]⟩++digB a)++⟨#[44]⟩)++digB b)++⟨#[41]⟩).size≤400:=by decide+kernel
end Go.Proofs.YtajgndoiddmbmaaGreatDoor
