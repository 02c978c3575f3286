/- The reader of a text: taking a byte, adding a node, a fault. -/
import Derived.Test.YtajgndoiddmbmaaGreatDoorChecked
import Derived.Test.YtajgndoiddmbmaaGreatDoorText0
import Derived.Test.YtajgndoiddmbmaaGreatDoorMBase
import Derived.Test.YtajgndoiddmbmaaGreatDoorMClaims
import Derived.Deep.QuietTactic
import Derived.BigQuiet
namespace Go.Proofs.YtajgndoiddmbmaaGreatDoor
open Go.RowKit
structure Rd (w:World) (R:Nat) (s:ByteArray) (i:Nat) (nv:Value) (ns:Nds):Prop where
 blk:w.heap[R]? =some (Obj.cells #[.string s, .int .i64 i,nv] 58 (0,0))
 own:w.ownsRow (R+1) 80 3 nv ns.length (ndCells ns)
structure Kp (R:Nat) (v v':Value) (w w':World):Prop where
 os:w'.os=w.os
 tape:w'.tape=w.tape
 output:w'.output=w.output
 size:w.heap.size≤w'.heap.size
 keep: ∀k,k < w.heap.size→k≠R→v.ownBlock≠some k→w'.heap[k]? =w.heap[k]?
 loc:v'.ownBlock=v.ownBlock∨ ∃g,v'.ownBlock=some g∧w.heap.size≤g
theorem Kp.refl (R:Nat) (v:Value) (w:World):Kp R v v w w:=⟨rfl,rfl,rfl,Nat.le_refl _,fun _ _ _ _=>rfl, .inl rfl⟩
theorem Kp.trans {R:Nat} {v1 v2 v3:Value} {a b c:World} (h:Kp R v1 v2 a b) (k:Kp R v2 v3 b c):Kp R v1 v3 a c:=by
 refine⟨k.os.trans h.os,k.tape.trans h.tape,k.output.trans h.output,Nat.le_trans h.size k.size,fun q hq hR hv=> ?_, ?_⟩
 ·refine(k.keep q (Nat.lt_of_lt_of_le hq h.size) hR ?_).trans (h.keep q hq hR hv)
  rcases h.loc with e | ⟨g,e,hg⟩
  ·rw[e];exact hv
  ·rw[e];intro e2;injection e2 with e2;omega
 ·rcases k.loc with e | ⟨g,e,hg⟩
  ·rw[e];exact h.loc
  ·exact .inr ⟨g,e,Nat.le_trans h.size hg⟩
theorem Rd.lt {w:World} {R:Nat} {s:ByteArray} {i:Nat} {nv:Value} {ns:Nds} (h:Rd w R s i nv ns):R < w.heap.size:=by
 have:=h.blk
 by_cases hR:R < w.heap.size
 ·exact hR
 ·rw[Array.getElem?_eq_none (by omega)] at this;cases this
theorem Rd.row {w:World} {R:Nat} {s:ByteArray} {i:Nat} {nv:Value} {ns:Nds} (h:Rd w R s i nv ns): ∀k,nv.ownBlock=some k→R+1≤k∧k < w.heap.size:=h.own.lt
theorem Rd.below {w w':World} {R:Nat} {s:ByteArray} {i:Nat} {nv:Value} {ns:Nds} (h:Rd w R s i nv ns) (hb:Below w.heap.size w w'):Rd w' R s i nv ns:=
 ⟨(hb.block R h.lt).trans h.blk,owns_below h.own hb⟩
theorem Kp.of_below {R:Nat} {v:Value} {w w':World} (hb:Below w.heap.size w w'):Kp R v v w w':=⟨hb.os,hb.tape,hb.output,hb.size,fun k hk _ _=>hb.block k hk, .inl rfl⟩
theorem Kp.toBelow {R B:Nat} {v v':Value} {w w':World} (h:Kp R v v' w w') (hv: ∀k,v.ownBlock=some k→R+1≤k) (hB:B≤R) (hR:R < w.heap.size):Below B w w':=
 ⟨h.os,h.tape,h.output,h.size,fun k hk=>h.keep k (by omega) (by omega) fun e=>by have:=hv k e;omega⟩
theorem Rd.cells {w:World} {R:Nat} {s:ByteArray} {i:Nat} {nv:Value} {ns:Nds} (h:Rd w R s i nv ns):w.cell? ⟨R,0,none⟩=some (.string s)∧w.cell? ⟨R,1,none⟩=some (.int .i64 i)∧w.cell? ⟨R,2,none⟩=some nv∧w.frozen? ⟨R,1,none⟩=false∧w.frozen? ⟨R,2,none⟩=false:=by
 refine⟨?_, ?_, ?_, ?_, ?_⟩ <;> simp[World.cell?,World.frozen?,h.blk]
theorem setCell_blk {w:World} {R T j:Nat} {cs:Array Value} {v:Value} (h:w.heap[R]? =some (Obj.cells cs T (0,0))):(w.setCell ⟨R,j,none⟩ v).heap[R]? =some (Obj.cells (cs.setIfInBounds j v) T (0,0)):=by
 simp[World.setCell,h,Array.getElem?_modify]
theorem setCell_out {w:World} {R j k:Nat} {v:Value} (h:k≠R):(w.setCell ⟨R,j,none⟩ v).heap[k]? =w.heap[k]? :=by
 simp[World.setCell,Array.getElem?_modify,Ne.symm h]
theorem Kp.step (R j:Nat) (v u:Value) (w:World):Kp R v v w (w.setCell ⟨R,j,none⟩ u):=
 ⟨rfl,rfl,rfl,by simp[World.setCell],fun k _ hR _=>setCell_out hR, .inl rfl⟩
theorem owns_keep {w w':World} {base e size n:Nat} {v:Value} {xs:List Value} (h:w.ownsRow base e size v n xs) (hk: ∀k,v.ownBlock=some k→w'.heap[k]? =w.heap[k]?):w'.ownsRow base e size v n xs:=by
 obtain⟨h1,h2⟩:=h
 refine⟨h1, ?_⟩
 rcases h2 with h2 | ⟨g,cap,cur,rfl,hb,hg,hr⟩
 ·exact .inl h2
 ·exact .inr ⟨g,cap,cur,rfl,hb,(hk g rfl).trans hg,hr⟩
theorem Rd.step {w:World} {R:Nat} {s:ByteArray} {i:Nat} {nv:Value} {ns:Nds} (h:Rd w R s i nv ns) (j:Nat):Rd (w.setCell ⟨R,1,none⟩ (.int .i64 j)) R s j nv ns:=
 ⟨by rw[setCell_blk h.blk];rfl,owns_keep h.own fun k hk=>setCell_out (by have:=(h.row k hk).1;omega)⟩
theorem Rd.drewN {w:World} {R:Nat} {s:ByteArray} {i:Nat} {nv:Value} {ns:Nds} (h:Rd w R s i nv ns) (n:Nat):Rd (w.drewN n) R s i nv ns:=h.below (below_drewN (Below.refl _ _) n)
theorem Kp.drewN (R:Nat) (v:Value) (w:World) (n:Nat):Kp R v v w (w.drewN n):=Kp.of_below (below_drewN (Below.refl _ _) n)
set_option maxRecDepth 100000 in
set_option maxHeartbeats 1000000 in
theorem take_c (R:Nat) (s:ByteArray) (i c:Nat) (nv:Value) (ns:Nds) (w:World) (hc:c < 256) (h:Rd w R s i nv ns) (hsz:s.size≤400):
  Calls Tryz.prog 31 #[.pointer (some ⟨R,0,none⟩), .int .u8 c] w fun e w'=>
   (chr s i=c→e= .returned (.bool true)∧Rd w' R s (i+1) nv ns)∧(chr s i≠c→e= .returned (.bool false)∧Rd w' R s i nv ns)∧Kp R nv nv w w':=by
 obtain⟨c0,c1,c2,z1,z2⟩:=h.cells
 have HR:=Lib.hid h
 clear h
 by_cases hi:i < s.size
 ·have hch:=chr_lt hi
  have hb:s[i].toNat < 256:=s[i].toNat_lt
  have hget: ∀h,s[(i:Int).toNat]'h=s[i]:=fun _=>rfl
  by_cases hcc:s[i].toNat=c
  ·have HC:=Lib.hid (show chr s i=c from hch.trans hcc)
   go_enter Tryz.func31,Tryz.ntmps31
   go_wp2_with fail
   go_quiet (fail)
   go_wp2
   go_ret
   refine⟨fun _=>⟨rfl, ?_⟩,fun e=>absurd HC.out e, ?_⟩
   ·exact(HR.out.drewN _).step (i+1)
   ·exact(Kp.drewN _ _ _ _).trans (Kp.step _ _ _ _ _)
  ·have HC:=Lib.hid (show chr s i≠c from fun e=>hcc (hch.symm.trans e))
   have hcz:((s[i].toNat:Int)==(c:Int))=false:=by rw[beq_eq_false_iff_ne];omega
   go_enter Tryz.func31,Tryz.ntmps31
   go_wp2_with fail
   go_quiet (fail)
   go_wp2
   go_ret
   exact⟨fun e=>absurd e HC.out,fun _=>⟨rfl,HR.out.drewN _⟩,Kp.drewN _ _ _ _⟩
 ·have HC:=Lib.hid (show chr s i≠c by rw[chr_end (by omega)];omega)
  have hd:decide ((i:Int) < (s.size:Int))=false:=by rw[decide_eq_false_iff_not];omega
  go_enter Tryz.func31,Tryz.ntmps31
  go_wp2_with fail
  go_quiet (fail)
  go_wp2
  go_ret
  exact⟨fun e=>absurd e HC.out,fun _=>⟨rfl,HR.out.drewN _⟩,Kp.drewN _ _ _ _⟩
set_option maxRecDepth 100000 in
theorem bad_c (e0:Int) (w:World):Calls Tryz.prog 78 #[.int .i64 e0] w fun e w'=>e= .panicked [{ v:= .iface 54 (.agg #[.int .i64 e0]),recovered:=false }]∧w'=w:=by
 go_enter Tryz.func78,Tryz.ntmps78
 go_wp2
 exact⟨rfl,rfl,rfl⟩
def fl9:Ending:= .panicked [{ v:= .iface 54 (.agg #[.int .i64 9]),recovered:=false }]
set_option maxRecDepth 100000 in
set_option maxHeartbeats 1000000 in
theorem must_c (R:Nat) (s:ByteArray) (i c:Nat) (nv:Value) (ns:Nds) (w:World) (hc:c < 256) (h:Rd w R s i nv ns) (hsz:s.size≤400):
  Calls Tryz.prog 34 #[.pointer (some ⟨R,0,none⟩), .int .u8 c] w fun e w'=>
   (chr s i=c→e= .returned (.tuple #[])∧Rd w' R s (i+1) nv ns)∧(chr s i≠c→e=fl9)∧Kp R nv nv w w':=by
 go_enter Tryz.func34,Tryz.ntmps34
 go_wp2_with fail
 refine(take_c R s i c nv ns w hc h hsz).mono ?_
 rintro e w1 ⟨h1,h2,hk⟩
 by_cases hcc:chr s i=c
 ·obtain⟨rfl,hr⟩:=h1 hcc
  go_wp2
  go_end0
  exact⟨fun _=>⟨rfl,hr⟩,fun e=>absurd hcc e,hk⟩
 ·obtain⟨rfl,hr⟩:=h2 hcc
  go_wp2_with fail
  refine(bad_c 9 _).mono ?_
  rintro e w2 ⟨rfl,rfl⟩
  go_wp2
  exact⟨rfl,fun e=>absurd e hcc,fun _=>rfl,hk⟩
end Go.Proofs.YtajgndoiddmbmaaGreatDoor
