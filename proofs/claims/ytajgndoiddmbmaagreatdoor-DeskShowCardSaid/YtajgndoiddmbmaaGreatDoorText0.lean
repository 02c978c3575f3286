/- Sentences as text: what is read, what is shown. No program in sight. -/
import Derived.Test.YtajgndoiddmbmaaGreatDoorMForm
namespace Go.Proofs.YtajgndoiddmbmaaGreatDoor
open Go.RowKit
def chr (s:ByteArray) (i:Nat):Nat:=match s.data.toList[i]? with | some b=>b.toNat | none=>256
def isDig (c:Nat):Bool:=decide (48≤c)&&decide (c≤57)
theorem chr_end {s:ByteArray} {i:Nat} (h:s.size≤i):chr s i=256:=by
 unfold chr
 rw[List.getElem?_eq_none (by simpa using h)]
theorem chr_lt {s:ByteArray} {i:Nat} (h:i < s.size):chr s i=s[i].toNat:=by
 unfold chr
 rw[List.getElem?_eq_getElem (by simpa using h)]
 rfl
theorem chr_ne {s:ByteArray} {i:Nat} (h:chr s i≠256):i < s.size:=by
 by_cases hi:i < s.size
 ·exact hi
 ·exact absurd (chr_end (by omega)) h
theorem isDig_lt {s:ByteArray} {i:Nat} (h:isDig (chr s i)=true):i < s.size:=chr_ne fun e=>by rw[e] at h;exact absurd h (by decide)
def numP (s:ByteArray) (i:Nat):Option (Nat×Nat):=
 if isDig (chr s i)=false then none
 else if isDig (chr s (i+1))=false then some (i+1,chr s i - 48)
 else if isDig (chr s (i+2))=true∨chr s i=48 then none
 else some (i+2,(chr s i - 48)*10+(chr s (i+1) - 48))
def oneP (s:ByteArray):Nat→Nat→Nds→Option (Nat×Nds)
 | 0,_,_=>none
 | f+1,i,ns=>
  if chr s i=42 then some (i+1,ns++[⟨1,0,0⟩])
  else if chr s i=35 then(numP s (i+1)).bind fun p=>some (p.1,ns++[⟨2,p.2,0⟩])
  else if chr s i=91 then(numP s (i+1)).bind fun p=>if chr s p.1=44 then(numP s (p.1+1)).bind fun q=>if chr s q.1=41 then some (q.1+1,ns++[⟨3,p.2,q.2⟩]) else none else none
  else if chr s i=33 then(oneP s f (i+1) ns).bind fun p=>some (p.1,p.2++[⟨4,(p.2.length:Int) - 1,0⟩])
  else if chr s i=40 then(oneP s f (i+1) ns).bind fun p=>
   if chr s p.1=124∨chr s p.1=38 then(oneP s f (p.1+1) p.2).bind fun q=>
    if chr s q.1=41 then some (q.1+1,q.2++[⟨if chr s p.1=124 then 6 else 5,(p.2.length:Int) - 1,(q.2.length:Int) - 1⟩]) else none
   else none
  else none
def readE (s:ByteArray):Int:=
 if 400 < s.size then 2 else match oneP s 401 0 [] with | none=>9 | some p=>if p.1 < s.size then 9 else formChk p.2
def readL (s:ByteArray):Nds:=if readE s=0 then(match oneP s 401 0 [] with | none=>[] | some p=>p.2) else []
end Go.Proofs.YtajgndoiddmbmaaGreatDoor
