/- Sentences as lists of nodes: the plain functions that package formula computes. No program in sight. What formula.Check does. -/
import Derived.Test.YtajgndoiddmbmaaGreatDoorMBase
import Derived.Test.YtajgndoiddmbmaaGreatDoorChecked
import Derived.Deep.QuietTactic
import Derived.BigQuiet
namespace Go.Proofs.YtajgndoiddmbmaaGreatDoor
open Go.RowKit
structure Nd where
 k:Int
 a:Int
 b:Int
 deriving DecidableEq
abbrev Nds:=List Nd
def ndCells (l:Nds):List Value:=l.flatMap fun n=>[.int .i64 n.k, .int .i64 n.a, .int .i64 n.b]
theorem ndCells_append (l m:Nds):ndCells (l++m)=ndCells l++ndCells m:=by simp[ndCells]
theorem ndCells_get (l:Nds) (i:Nat) (h:i < l.length):(ndCells l)[i*3]? =some (.int .i64 l[i].k)∧(ndCells l)[i*3+1]? =some (.int .i64 l[i].a)∧(ndCells l)[i*3+2]? =some (.int .i64 l[i].b):=by
 induction l generalizing i with
 | nil=>simp at h
 | cons s l ih=>
  cases i with
  | zero=>simp [ndCells]
  | succ i=>
   have:=ih i (by simpa using h)
   have e:ndCells (s::l)= .int .i64 s.k:: .int .i64 s.a:: .int .i64 s.b::ndCells l:=rfl
   rw[e,show(i+1)*3=i*3+1+1+1 from by omega]
   simpa using this
def NdsAt (w:World) (v:Value) (l:Nds):Prop:=CellsAt w v l.length (ndCells l)
theorem NdsAt.open_ {w:World} {v:Value} {l:Nds} (h:NdsAt w v l): ∃a cap,v= .slice a l.length cap∧l.length≤cap∧l.length≤140737488355328∧(a=none→cap=0)∧
  (l=[]∨ ∃b off,a=some ⟨b,off,none⟩∧b < w.heap.size∧ ∀i (h:i < l.length),w.cell? ⟨b,off+i*3,none⟩=some (.int .i64 l[i].k)∧w.cell? ⟨b,off+i*3+1,none⟩=some (.int .i64 l[i].a)∧w.cell? ⟨b,off+i*3+2,none⟩=some (.int .i64 l[i].b)):=by
 obtain⟨a,cap,hv,hn,hm,h0,h⟩:=h
 refine⟨a,cap,hv,hn,hm,h0, ?_⟩
 rcases h with h | ⟨b,off,ha,hlt,hc⟩
 ·left
  cases l with
  | nil=>rfl
  | cons s l=>simp [ndCells] at h
 ·refine .inr ⟨b,off,ha,hlt,fun i hi=> ?_⟩
  obtain⟨g1,g2,g3⟩:=ndCells_get l i hi
  exact⟨hc _ _ g1,by rw[Nat.add_assoc];exact hc _ _ g2,by rw[Nat.add_assoc];exact hc _ _ g3⟩
def ndChk (i:Nat) (n:Nd):Int:=
 if n.k=1 then 0
 else if n.k=2 then(if n.a < 0∨4≤n.a then 1 else 0)
 else if n.k=3 then(if n.a < 0∨32 < n.b∨n.b≤n.a then 1 else 0)
 else if n.k=4 then(if n.a < 0∨(i:Int)≤n.a then 1 else 0)
 else if n.k=5∨n.k=6 then(if n.a < 0∨(i:Int)≤n.a∨n.b < 0∨(i:Int)≤n.b then 1 else 0)
 else 3
def ndsFrom:Nat→Nds→Int
 | _,[]=>0
 | i,n::l=>if ndChk i n=0 then ndsFrom (i+1) l else ndChk i n
def formChk (l:Nds):Int:=if l.length=0∨30 < l.length then 2 else ndsFrom 0 l
theorem ndsFrom_ok (l:Nds) (k:Nat) (hk:k < l.length) (h:ndChk k l[k]=0):ndsFrom k (l.drop k)=ndsFrom (k+1) (l.drop (k+1)):=by
 rw[List.drop_eq_getElem_cons hk];simp only[ndsFrom];rw [if_pos h]
theorem ndsFrom_bad (l:Nds) (k:Nat) (hk:k < l.length) (h:ndChk k l[k]≠0):ndsFrom k (l.drop k)=ndChk k l[k]:=by
 rw[List.drop_eq_getElem_cons hk];simp only[ndsFrom];rw [if_neg h]
theorem ndsFrom_all (l:Nds) (i:Nat) (h:ndsFrom i l=0): ∀k (hk:k < l.length),ndChk (i+k) l[k]=0:=by
 induction l generalizing i with
 | nil=>intro k hk;simp at hk
 | cons n l ih=>
  simp only[ndsFrom] at h
  by_cases h1:ndChk i n=0
  ·rw[if_pos h1] at h
   intro k hk
   cases k with
   | zero=>simpa using h1
   | succ k=>
    have:=ih (i+1) h k (by simpa using hk)
    rw[show i+(k+1)=i+1+k from by omega];simpa using this
  ·rw[if_neg h1] at h;exact absurd h h1
theorem formChk_all {l:Nds} (h:formChk l=0):0 < l.length∧l.length≤30∧ ∀k (hk:k < l.length),ndChk k l[k]=0:=by
 unfold formChk at h
 split at h
 ·simp at h
 ·refine⟨by omega,by omega,fun k hk=> ?_⟩
  have:=ndsFrom_all l 0 h k hk
  simpa using this
theorem ndChk_zero {i:Nat} {x:Nd} (h:ndChk i x=0):x.k=1∨(x.k=2∧0≤x.a∧x.a < 4)∨(x.k=3∧0≤x.a∧x.a < x.b∧x.b≤32)∨(x.k=4∧0≤x.a∧x.a < i)∨((x.k=5∨x.k=6)∧0≤x.a∧x.a < i∧0≤x.b∧x.b < i):=by
 unfold ndChk at h
 repeat' split at h
 all_goals first | omega | (simp at h)
end Go.Proofs.YtajgndoiddmbmaaGreatDoor
namespace Go.Proofs.YtajgndoiddmbmaaGreatDoor
open Go.RowKit
theorem kind_cases (k:Int):k=1∨k=2∨k=3∨k=4∨k=5∨k=6∨((k==1)=false∧(k==2)=false∧(k==3)=false∧(k==4)=false∧(k==5)=false∧(k==6)=false):=by
 simp;omega
set_option maxRecDepth 100000 in
set_option maxHeartbeats 2000000 in
theorem formChk_c (v:Value) (l:Nds) (w:World) (hs:NdsAt w v l):
  Calls Tryz.prog 20 #[v] w fun e w'=>e= .returned (.int .i64 (formChk l))∧Below w.heap.size w w':=by
 obtain⟨a,cap,rfl,hcap,hm, -,hl⟩:=hs.open_
 clear hs
 by_cases h0:l.length=0
 ·have H:=Lib.hid (show formChk l=2 by simp[formChk,h0])
  rw[h0]
  clear h0 hcap hm hl
  go_enter Tryz.func20,Tryz.ntmps20
  go_wp2
  go_ret
  exact⟨ret_int H.out.symm,Below.refl _ _⟩
 have hz:((l.length:Int)==0)=false:=by rw[beq_eq_false_iff_ne];omega
 have hne:0 < l.length:=by omega
 clear h0
 by_cases h30:30 < l.length
 ·have H:=Lib.hid (show formChk l=2 by simp[formChk,h30])
  clear hl
  go_enter Tryz.func20,Tryz.ntmps20
  go_wp2
  go_ret
  exact⟨ret_int H.out.symm,Below.refl _ _⟩
 have HF:=Lib.hid (show formChk l=ndsFrom 0 (l.drop 0) by rw[formChk,if_neg (by omega)];rfl)
 go_enter Tryz.func20,Tryz.ntmps20
 go_wp2
 go_loopw [15] (fun i wr=> ∃k:Nat,k≤l.length∧i= .int .i64 k∧formChk l=ndsFrom k (l.drop k)∧Below w.heap.size w wr) (fun i _=>l.length - (intOf i).toNat)
 case atStart=>exact ⟨0,Nat.zero_le _,rfl,HF.out,Below.refl _ _⟩
 case round=>
  obtain⟨k,hk,rfl,hno,hbl⟩:=hrel
  have HN:=Lib.hid hno
  clear hno HF
  by_cases hlt:k < l.length
  ·rcases hl with rfl | ⟨b,off,rfl,hb,hc⟩
   ·simp at hlt
   obtain⟨c1,c2,c3⟩:=hc k hlt
   have d1:=(hbl.cell (p:=⟨b,off+k*3,none⟩) hb).trans c1
   have d2:=(hbl.cell (p:=⟨b,off+k*3+1,none⟩) hb).trans c2
   have d3:=(hbl.cell (p:=⟨b,off+k*3+2,none⟩) hb).trans c3
   have HOK:=Lib.hid (fun h=>HN.out.trans (ndsFrom_ok l k hlt h))
   have HBAD:=Lib.hid (fun h=>HN.out.trans (ndsFrom_bad l k hlt h))
   clear c1 c2 c3 hc
   generalize l[k]=nd at*
   obtain⟨kk,aa,bb⟩:=nd
   rcases kind_cases kk with rfl | rfl | rfl | rfl | rfl | rfl | ⟨e1,e2,e3,e4,e5,e6⟩
   ·have H:=Lib.hid (HOK.out (by simp[ndChk]))
    clear HOK HBAD
    go_wp2
    go_roundw
    case rel=>exact ⟨k+1,by omega,by go_num,H.out,hbl.alloc hbl.size _⟩
    case measure=>simp [intOf];omega
   ·by_cases hbad:aa < 0∨4≤aa
    ·have H:=Lib.hid ((HBAD.out (by simp[ndChk,hbad])).trans (show _=(1:Int) by simp[ndChk,hbad]))
     clear HOK HBAD
     go_wp2
     all_goals go_ret
     all_goals exact⟨ret_int H.out.symm,hbl.alloc hbl.size _⟩
    ·have H:=Lib.hid (HOK.out (by simp[ndChk,hbad]))
     clear HOK HBAD
     go_wp2
     all_goals go_roundw
     case rel=>exact ⟨k+1,by omega,by go_num,H.out,hbl.alloc hbl.size _⟩
     case measure=>simp [intOf];omega
   ·by_cases hbad:aa < 0∨32 < bb∨bb≤aa
    ·have H:=Lib.hid ((HBAD.out (by simp[ndChk,hbad])).trans (show _=(1:Int) by simp[ndChk,hbad]))
     clear HOK HBAD
     go_wp2
     all_goals go_ret
     all_goals exact⟨ret_int H.out.symm,hbl.alloc hbl.size _⟩
    ·have H:=Lib.hid (HOK.out (by simp[ndChk,hbad]))
     clear HOK HBAD
     go_wp2
     all_goals go_roundw
     case rel=>exact ⟨k+1,by omega,by go_num,H.out,hbl.alloc hbl.size _⟩
     case measure=>simp [intOf];omega
   ·by_cases hbad:aa < 0∨(k:Int)≤aa
    ·have H:=Lib.hid ((HBAD.out (by simp[ndChk,hbad])).trans (show _=(1:Int) by simp[ndChk,hbad]))
     clear HOK HBAD
     go_wp2
     all_goals go_ret
     all_goals exact⟨ret_int H.out.symm,hbl.alloc hbl.size _⟩
    ·have H:=Lib.hid (HOK.out (by simp[ndChk,hbad]))
     clear HOK HBAD
     go_wp2
     all_goals go_roundw
     case rel=>exact ⟨k+1,by omega,by go_num,H.out,hbl.alloc hbl.size _⟩
     case measure=>simp [intOf];omega
   ·by_cases hbad:aa < 0∨(k:Int)≤aa∨bb < 0∨(k:Int)≤bb
    ·have H:=Lib.hid ((HBAD.out (by simp[ndChk,hbad])).trans (show _=(1:Int) by simp[ndChk,hbad]))
     clear HOK HBAD
     go_wp2
     all_goals go_ret
     all_goals exact⟨ret_int H.out.symm,hbl.alloc hbl.size _⟩
    ·have H:=Lib.hid (HOK.out (by simp[ndChk,hbad]))
     clear HOK HBAD
     go_wp2
     all_goals go_roundw
     case rel=>exact ⟨k+1,by omega,by go_num,H.out,hbl.alloc hbl.size _⟩
     case measure=>simp [intOf];omega
   ·by_cases hbad:aa < 0∨(k:Int)≤aa∨bb < 0∨(k:Int)≤bb
    ·have H:=Lib.hid ((HBAD.out (by simp[ndChk,hbad])).trans (show _=(1:Int) by simp[ndChk,hbad]))
     clear HOK HBAD
     go_wp2
     all_goals go_ret
     all_goals exact⟨ret_int H.out.symm,hbl.alloc hbl.size _⟩
    ·have H:=Lib.hid (HOK.out (by simp[ndChk,hbad]))
     clear HOK HBAD
     go_wp2
     all_goals go_roundw
     case rel=>exact ⟨k+1,by omega,by go_num,H.out,hbl.alloc hbl.size _⟩
     case measure=>simp [intOf];omega
   ·have f: ¬kk=1∧ ¬kk=2∧ ¬kk=3∧ ¬kk=4∧ ¬(kk=5∨kk=6):=by simp at e1 e2 e3 e4 e5 e6;omega
    have hv:ndChk k ⟨kk,aa,bb⟩=3:=by simp[ndChk,f]
    have H:=Lib.hid ((HBAD.out (by rw[hv];decide)).trans hv)
    clear HOK HBAD f hv
    go_wp2
    all_goals go_ret
    all_goals exact⟨ret_int H.out.symm,hbl.alloc hbl.size _⟩
  ·obtain rfl:k=l.length:=by omega
   go_wp2
   go_ret
   exact⟨ret_int (by rw[HN.out];simp [ndsFrom]),hbl⟩
end Go.Proofs.YtajgndoiddmbmaaGreatDoor
