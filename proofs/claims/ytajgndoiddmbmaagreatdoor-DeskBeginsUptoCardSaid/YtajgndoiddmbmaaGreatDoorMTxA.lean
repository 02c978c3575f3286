/- Towards what desk.Run answers. -/
import Derived.Test.YtajgndoiddmbmaaGreatDoorMForm
import Derived.Test.YtajgndoiddmbmaaGreatDoorMClaims
import Derived.Shelf.Strconv.AtoiAll
import Derived.Shelf.Strconv.Itoa3
import Derived.Ground.NamesProg
import Derived.Test.YtajgndoiddmbmaaGreatDoorProg
import Derived.Lib.AtoiTie
namespace Go.Proofs.YtajgndoiddmbmaaGreatDoor
set_option maxRecDepth 100000
set_option maxHeartbeats 40000000
open Go.RowKit
def chr (s:ByteArray) (i:Nat):Nat:=match s.data.toList[i]? with | some b=>b.toNat | none=>256
def iP (c:Nat):Bool:=decide (48≤c)&&decide (c≤57)
theorem Fb {s:ByteArray} {i:Nat} (h:s.size≤i):chr s i=256:=by
 unfold chr;rw[List.getElem?_eq_none (by simpa using h)]
theorem iK {s:ByteArray} {i:Nat} (h:i < s.size):chr s i=s[i].toNat:=by
 unfold chr;rw[List.getElem?_eq_getElem (by simpa using h)];rfl
theorem jd {s:ByteArray} {i:Nat} (h:chr s i≠256):i < s.size:=by
 by_cases hi:i < s.size
 ·exact hi
 ·exact absurd (Fb (by omega)) h
theorem qO {s:ByteArray} {i:Nat} (h:iP (chr s i)=true):i < s.size:=jd fun e=>by rw[e] at h;exact absurd h (by decide)
def fD (s:ByteArray) (i:Nat):Option (Nat×Nat):=
 if iP (chr s i)=false then none
 else if iP (chr s (i+1))=false then some (i+1,chr s i - 48)
 else if iP (chr s (i+2))=true∨chr s i=48 then none
 else some (i+2,(chr s i - 48)*10+(chr s (i+1) - 48))
def oneP (s:ByteArray):Nat→Nat→cH→Option (Nat×cH)
 | 0,_,_=>none
 | f+1,i,ns=>
  if chr s i=42 then some (i+1,ns++[⟨1,0,0⟩])
  else if chr s i=35 then(fD s (i+1)).bind fun p=>some (p.1,ns++[⟨2,p.2,0⟩])
  else if chr s i=91 then(fD s (i+1)).bind fun p=>if chr s p.1=44 then(fD s (p.1+1)).bind fun q=>if chr s q.1=41 then some (q.1+1,ns++[⟨3,p.2,q.2⟩]) else none else none
  else if chr s i=33 then(oneP s f (i+1) ns).bind fun p=>some (p.1,p.2++[⟨4,(p.2.length:Int) - 1,0⟩])
  else if chr s i=40 then(oneP s f (i+1) ns).bind fun p=>
   if chr s p.1=124∨chr s p.1=38 then(oneP s f (p.1+1) p.2).bind fun q=>
    if chr s q.1=41 then some (q.1+1,q.2++[⟨if chr s p.1=124 then 6 else 5,(p.2.length:Int) - 1,(q.2.length:Int) - 1⟩]) else none
   else none
  else none
def readE (s:ByteArray):Int:=
 if 400 < s.size then 2 else match oneP s 401 0 [] with | none=>9 | some p=>if p.1 < s.size then 9 else cI p.2
def ey (s:ByteArray):cH:=if readE s=0 then(match oneP s 401 0 [] with | none=>[] | some p=>p.2) else []
structure ic (w:World) (R:Nat) (s:ByteArray) (i:Nat) (nv:Value) (ns:cH):Prop where
 blk:w.heap[R]? =some (Obj.cells #[.string s, .int .i64 i,nv] 58 (0,0))
 own:w.ownsRow (R+1) 80 3 nv ns.length (gh ns)
structure Kp (R:Nat) (v v':Value) (w w':World):Prop where
 os:w'.os=w.os
 tape:w'.tape=w.tape
 output:w'.output=w.output
 size:w.heap.size≤w'.heap.size
 keep: ∀k,k < w.heap.size→k≠R→v.ownBlock≠some k→w'.heap[k]? =w.heap[k]?
 loc:v'.ownBlock=v.ownBlock∨ ∃g,v'.ownBlock=some g∧w.heap.size≤g
theorem Kp.refl (R:Nat) (v:Value) (w:World):Kp R v v w w:=⟨rfl,rfl,rfl,Nat.le_refl _,fun _ _ _ _=>rfl, .inl rfl⟩
theorem Kp.trans {R:Nat} {v1 v2 v3:Value} {a b c:World} (h:Kp R v1 v2 a b) (k:Kp R v2 v3 b c):Kp R v1 v3 a c:=by
 refine⟨k.os.trans h.os,k.tape.trans h.tape,k.output.trans h.output,Nat.le_trans h.size k.size,fun q hq hR hv=> ?_, ?_⟩
 ·refine(k.keep q (Nat.lt_of_lt_of_le hq h.size) hR ?_).trans (h.keep q hq hR hv);rcases h.loc with e | ⟨g,e,hg⟩
  ·rw[e];exact hv
  ·rw[e];intro e2;injection e2 with e2;omega
 ·rcases k.loc with e | ⟨g,e,hg⟩
  ·rw[e];exact h.loc
  ·exact .inr ⟨g,e,Nat.le_trans h.size hg⟩
theorem ic.lt {w:World} {R:Nat} {s:ByteArray} {i:Nat} {nv:Value} {ns:cH} (h:ic w R s i nv ns):R < w.heap.size:=by
 have:=h.blk;by_cases hR:R < w.heap.size
 ·exact hR
 ·rw[Array.getElem?_eq_none (by omega)] at this;cases this
theorem ic.row {w:World} {R:Nat} {s:ByteArray} {i:Nat} {nv:Value} {ns:cH} (h:ic w R s i nv ns): ∀k,nv.ownBlock=some k→R+1≤k∧k < w.heap.size:=h.own.lt
theorem ic.below {w w':World} {R:Nat} {s:ByteArray} {i:Nat} {nv:Value} {ns:cH} (h:ic w R s i nv ns) (hb:Below w.heap.size w w'):ic w' R s i nv ns:=
 ⟨(hb.block R h.lt).trans h.blk,aI h.own hb⟩
theorem Kp.of_below {R:Nat} {v:Value} {w w':World} (hb:Below w.heap.size w w'):Kp R v v w w':=⟨hb.os,hb.tape,hb.output,hb.size,fun k hk _ _=>hb.block k hk, .inl rfl⟩
theorem Kp.toBelow {R B:Nat} {v v':Value} {w w':World} (h:Kp R v v' w w') (hv: ∀k,v.ownBlock=some k→R+1≤k) (hB:B≤R) (hR:R < w.heap.size):Below B w w':=
 ⟨h.os,h.tape,h.output,h.size,fun k hk=>h.keep k (by omega) (by omega) fun e=>by have:=hv k e;omega⟩
theorem ic.cells {w:World} {R:Nat} {s:ByteArray} {i:Nat} {nv:Value} {ns:cH} (h:ic w R s i nv ns):w.cell? ⟨R,0,none⟩=some (.string s)∧w.cell? ⟨R,1,none⟩=some (.int .i64 i)∧w.cell? ⟨R,2,none⟩=some nv∧w.frozen? ⟨R,1,none⟩=false∧w.frozen? ⟨R,2,none⟩=false:=by
 refine⟨?_, ?_, ?_, ?_, ?_⟩ <;> simp[World.cell?,World.frozen?,h.blk]
theorem ki {w:World} {R T j:Nat} {cs:Array Value} {v:Value} (h:w.heap[R]? =some (Obj.cells cs T (0,0))):(w.setCell ⟨R,j,none⟩ v).heap[R]? =some (Obj.cells (cs.setIfInBounds j v) T (0,0)):=by
 simp[World.setCell,h,Array.getElem?_modify]
theorem cO {w:World} {R j k:Nat} {v:Value} (h:k≠R):(w.setCell ⟨R,j,none⟩ v).heap[k]? =w.heap[k]? :=by
 simp[World.setCell,Array.getElem?_modify,Ne.symm h]
theorem Kp.step (R j:Nat) (v u:Value) (w:World):Kp R v v w (w.setCell ⟨R,j,none⟩ u):=
 ⟨rfl,rfl,rfl,by simp[World.setCell],fun k _ hR _=>cO hR, .inl rfl⟩
theorem u6 {w w':World} {base e size n:Nat} {v:Value} {xs:List Value} (h:w.ownsRow base e size v n xs) (hk: ∀k,v.ownBlock=some k→w'.heap[k]? =w.heap[k]?):w'.ownsRow base e size v n xs:=by
 obtain⟨h1,h2⟩:=h;refine⟨h1, ?_⟩;rcases h2 with h2 | ⟨g,cap,cur,rfl,hb,hg,hr⟩
 ·exact .inl h2
 ·exact .inr ⟨g,cap,cur,rfl,hb,(hk g rfl).trans hg,hr⟩
theorem ic.step {w:World} {R:Nat} {s:ByteArray} {i:Nat} {nv:Value} {ns:cH} (h:ic w R s i nv ns) (j:Nat):ic (w.setCell ⟨R,1,none⟩ (.int .i64 j)) R s j nv ns:=
 ⟨by rw[ki h.blk];rfl,u6 h.own fun k hk=>cO (by have:=(h.row k hk).1;omega)⟩
theorem ic.drewN {w:World} {R:Nat} {s:ByteArray} {i:Nat} {nv:Value} {ns:cH} (h:ic w R s i nv ns) (n:Nat):ic (w.drewN n) R s i nv ns:=h.below (below_drewN (br) n)
theorem Kp.drewN (R:Nat) (v:Value) (w:World) (n:Nat):Kp R v v w (w.drewN n):=Kp.of_below (below_drewN (br) n)
theorem wE (R:Nat) (s:ByteArray) (i c:Nat) (nv:Value) (ns:cH) (w:World) (hc:c < 256) (h:ic w R s i nv ns) (hsz:s.size≤400):
  Calls Tryz.prog 31 #[.pointer (some ⟨R,0,none⟩), .int .u8 c] w fun e w'=>
   (chr s i=c→e= .returned (.bool true)∧ic w' R s (i+1) nv ns)∧(chr s i≠c→e= .returned (.bool false)∧ic w' R s i nv ns)∧Kp R nv nv w w':=by
 obtain⟨c0,c1,c2,z1,z2⟩:=h.cells;have HR:=jD h;clear h;by_cases hi:i < s.size
 ·have hch:=iK hi;have hb:s[i].toNat < 256:=s[i].toNat_lt;have hget: ∀h,s[(i:Int).toNat]'h=s[i]:=fun _=>rfl;by_cases hcc:s[i].toNat=c
  ·have HC:=jD (show chr s i=c from hch.trans hcc);go_enter Tryz.func31,Tryz.ntmps31;go_wp2_with fail
   go_quiet (fail);go_wp2;go_ret;refine⟨fun _=>⟨rfl, ?_⟩,fun e=>absurd HC.o e, ?_⟩
   ·exact(HR.o.drewN _).step (i+1)
   ·exact(Kp.drewN _ _ _ _).trans (Kp.step _ _ _ _ _)
  ·have HC:=jD (show chr s i≠c from fun e=>hcc (hch.symm.trans e));have hcz:((s[i].toNat:Int)==(c:Int))=false:=by rw[beq_eq_false_iff_ne];omega
   go_enter Tryz.func31,Tryz.ntmps31;go_wp2_with fail
   go_quiet (fail);go_wp2;go_ret;exact⟨fun e=>absurd e HC.o,fun _=>⟨rfl,HR.o.drewN _⟩,Kp.drewN _ _ _ _⟩
 ·have HC:=jD (show chr s i≠c by rw[Fb (by omega)];omega);have hd:decide ((i:Int) < (s.size:Int))=false:=by rw[decide_eq_false_iff_not];omega
  go_enter Tryz.func31,Tryz.ntmps31;go_wp2_with fail
  go_quiet (fail);go_wp2;go_ret;exact⟨fun e=>absurd e HC.o,fun _=>⟨rfl,HR.o.drewN _⟩,Kp.drewN _ _ _ _⟩
theorem kK (e0:Int) (w:World):Calls Tryz.prog 78 #[.int .i64 e0] w fun e w'=>e= .panicked [{ v:= .iface 54 (.agg #[.int .i64 e0]),recovered:=false }]∧w'=w:=by
 go_enter Tryz.func78,Tryz.ntmps78;go_wp2;exact⟨rfl,rfl,rfl⟩
def sw:Ending:= .panicked [{ v:= .iface 54 (.agg #[.int .i64 9]),recovered:=false }]
theorem wH (R:Nat) (s:ByteArray) (i c:Nat) (nv:Value) (ns:cH) (w:World) (hc:c < 256) (h:ic w R s i nv ns) (hsz:s.size≤400):
  Calls Tryz.prog 34 #[.pointer (some ⟨R,0,none⟩), .int .u8 c] w fun e w'=>
   (chr s i=c→e= .returned (.tuple #[])∧ic w' R s (i+1) nv ns)∧(chr s i≠c→e=sw)∧Kp R nv nv w w':=by
 go_enter Tryz.func34,Tryz.ntmps34;go_wp2_with fail
 refine(wE R s i c nv ns w hc h hsz).mono ?_;rintro e w1 ⟨h1,h2,hk⟩;by_cases hcc:chr s i=c
 ·obtain⟨rfl,hr⟩:=h1 hcc;go_wp2;go_end0;exact⟨fun _=>⟨rfl,hr⟩,fun e=>absurd hcc e,hk⟩
 ·obtain⟨rfl,hr⟩:=h2 hcc;go_wp2_with fail
  refine(kK 9 _).mono ?_;rintro e w2 ⟨rfl,rfl⟩;go_wp2;exact⟨rfl,fun e=>absurd e hcc,fun _=>rfl,hk⟩
theorem afC.info:(Tryz.prog.info? 80).map (fun i=>(i.zero,i.size,i.bytes))=some (some (.agg #[.int .i64 0, .int .i64 0, .int .i64 0]),3,24):=by kernel_rfl
theorem ic.ab4 {w w':World} {R:Nat} {s:ByteArray} {i:Nat} {nv A7:Value} {ns ns':cH} (h:ic w R s i nv ns) (hk:w'.heap[R]? =w.heap[R]?) (ho:w'.ownsRow (R+1) 80 3 A7 ns'.length (gh ns')):ic (w'.setCell ⟨R,2,none⟩ A7) R s i A7 ns':=
 ⟨by rw[ki (hk.trans h.blk)];rfl,u6 ho fun k hk=>cO (by have:=(ho.lt k hk).1;omega)⟩
structure CB (R:Nat) (nv:Value) (ns:cH) (W:World) (v:Value) (w:World):Prop where
 own:w.ownsRow (R+1) 80 3 v ns.length (gh ns)
 kp:Kp R nv v W w
 blk:w.heap[R]? =W.heap[R]?
 lt:R < w.heap.size
theorem CB.below {R:Nat} {nv:Value} {ns:cH} {W:World} {v:Value} {w w':World} (h:CB R nv ns W v w) (hb:Below w.heap.size w w'):CB R nv ns W v w':=
 ⟨aI h.own hb,h.kp.trans (Kp.of_below hb),(hb.block R h.lt).trans h.blk,Nat.lt_of_lt_of_le h.lt hb.size⟩
def wS (n:Nd) (v:Value) (w:World):Prop:= ∃g,v= .slice (some ⟨g,0,none⟩) 1 1∧w.heap[g]? =some (Obj.cells #[.int .i64 n.k, .int .i64 n.a, .int .i64 n.b] 80 (0,0))
theorem wS.below {n:Nd} {v:Value} {w w':World} (h:wS n v w) (hb:Below w.heap.size w w'):wS n v w':=by
 obtain⟨g,h1,h2⟩:=h;exact ⟨g,h1,ag hb h2⟩
def yg (R:Nat) (s:ByteArray) (i:Nat) (nv:Value) (ns:cH) (W w:World):Prop:= ∃v,ic w R s i v ns∧Kp R nv v W w
theorem yg.below {R:Nat} {s:ByteArray} {i:Nat} {nv:Value} {ns:cH} {W w w':World} (h:yg R s i nv ns W w) (hb:Below w.heap.size w w'):yg R s i nv ns W w':=by
 obtain⟨v,h1,h2⟩:=h;exact ⟨v,h1.below hb,h2.trans (Kp.of_below hb)⟩
theorem Ti {R:Nat} {w w':World} {v v':Value} (hg:w.grownBy w' v.ownBlock) (hl:v'.ownBlock=v.ownBlock∨v'.ownBlock=some w.heap.size):Kp R v v' w w':=
 ⟨hg.os,hg.tape,hg.output,hg.size,fun k hk _ hv=>hg.block k hk (fun e=>hv e.symm),hl.imp id fun e=>⟨_,e,Nat.le_refl _⟩⟩
theorem add_c (R:Nat) (s:ByteArray) (i:Nat) (nv:Value) (ns:cH) (n:Nd) (w:World) (h:ic w R s i nv ns) (hl:ns.length≤400):
  Calls Tryz.prog 32 #[.pointer (some ⟨R,0,none⟩), .agg #[.int .i64 n.k, .int .i64 n.a, .int .i64 n.b]] w fun e w'=>e= .returned (.int .i64 ns.length)∧yg R s i nv (ns++[n]) w w':=by
 have HN:=jD (show(w.alloc (.cells #[.int .i64 n.k, .int .i64 n.a, .int .i64 n.b] 80)).heap[w.heap.size]? =some (Obj.cells #[.int .i64 n.k, .int .i64 n.a, .int .i64 n.b] 80 (0,0)) from au _ _ _ _ rfl);obtain⟨W,hW⟩: ∃W,W=w.alloc (.cells #[.int .i64 n.k, .int .i64 n.a, .int .i64 n.b] 80):=⟨_,rfl⟩
 have hbW:Below w.heap.size w W:=by rw[hW];exact aG _
 rw[←hW] at HN;have HR:=jD (h.below hbW);have ek:=jD hbW;have HL:=jD (show(gh (ns++[n]))=gh ns++ #[.int .i64 n.k, .int .i64 n.a, .int .i64 n.b].toList by rw[EG];rfl);clear h hbW;obtain⟨c0,c1,c2,z1,z2⟩:=HR.o.cells;have C2:=jD c2;have Z2:=jD z2;clear c0 c1 c2 z1 z2;go_enter Tryz.func32,Tryz.ntmps32;go_wp2_with fail
 rw[←hW];clear hW;obtain⟨N,hN⟩: ∃N,N=w.heap.size:=⟨_,rfl⟩
 rw[←hN] at HN ⊢;clear hN;refine Cl.aV 21 rfl [7,10] (fun ww=>Below W.heap.size W ww) (fun jq=>match jq with | 6=>[7,10] | 7=>[10] | _=>[]) (fun jq v ww=>match jq with | 0=>v= .pointer (some ⟨R,0,none⟩) | 1=>v= .pointer (some ⟨R,0,none⟩) | 2=>v= .pointer (some ⟨R,0,none⟩) | 3=>v= .pointer (some ⟨R,2,none⟩) | 4=>v=nv | 5=>v= .agg #[.int .i64 n.k, .int .i64 n.a, .int .i64 n.b] | 6=>wS n v ww | 7=>CB R nv (ns++[n]) W v ww | 8=>v= .pointer (some ⟨R,0,none⟩) | 9=>v= .pointer (some ⟨R,2,none⟩) | 10=>yg R s i nv (ns++[n]) W ww | _=>True) (fun ww=>True) (fun jq ww aR=>jq≠7→jq≠10→Below ww.heap.size ww aR) Tryz.mixed (by decide+kernel) trivial ((br).drew) ?_ (fun jq ww aR hk h hR=>aj h (hR (fun e=>hk (by subst e;simp)) (fun e=>hk (by subst e;simp)))) ?_ ?_
 ·intro q r v w w' hne hk hlt h hR;match r,hk,hlt,h,hne with
  | 0,_,_,h,_=>exact h
  | 1,_,_,h,_=>exact h
  | 2,_,_,h,_=>exact h
  | 3,_,_,h,_=>exact h
  | 4,_,_,h,_=>exact h
  | 5,_,_,h,_=>exact h
  | 6,hk,_,h,_=>exact wS.below h (hR (fun e=>hk (by subst e;simp)) (fun e=>hk (by subst e;simp)))
  | 7,hk,_,h,hne=>exact CB.below h (hR (by exact hne) (fun e=>hk (by subst e;simp)))
  | 8,_,_,h,_=>exact h
  | 9,_,_,h,_=>exact h
  | 10,_,hlt,h,hne=>exact yg.below h (hR (by intro e;subst e;exact absurd hlt (by decide+kernel)) (by exact hne))
  | _+11,_,_,_,_=>trivial
 ·refine⟨?_, ?_, ?_, ?_, ?_, ?_, ?_, ?_, ?_, ?_, ?_,trivial⟩
  ·intro x wx hG;have f0:=hG.o 0;replace hG:=hG.g;go_wp2;exact⟨_,rfl,rfl,trivial,fun _ _=>br⟩
  ·intro x wx hG;have f0:=hG.o 0;replace hG:=hG.g;go_wp2;exact⟨_,rfl,rfl,trivial,fun _ _=>br⟩
  ·intro x wx hG;have g1:=gr 6 (hG.c 1 _ rfl);replace hG:=hG.g;go_wp2;exact⟨_,rfl,rfl,trivial,fun _ _=>br⟩
  ·intro x wx hG;have g2:=gr 7 (hG.c 2 _ rfl);replace hG:=hG.g;go_wp2;exact⟨_,rfl,rfl,trivial,fun _ _=>br⟩
  ·intro x wx hG;have g3:=gr 8 (hG.c 3 _ rfl);have hp:=hG.p 0;replace hG:=hG.g;have c:=ah hp C2.o;go_wp2;exact⟨_,rfl,rfl,trivial,fun _ _=>br⟩
  ·intro x wx hG;have f3:=hG.o 3;have hp:=hG.p 0;replace hG:=hG.g;have hN:=ag hp HN.o;have c0:=cq 0 hN rfl;have c1:=cq 1 hN rfl;have c2:=cq 2 hN rfl;clear hN;go_wp2;exact⟨_,rfl,rfl,trivial,fun _ _=>br⟩
  ·intro x wx hG;have⟨g5,sj⟩:=gs 10 (hG.c 5 _ rfl);replace hG:=hG.g;go_wp2;exact⟨_,rfl,⟨_,rfl,au _ _ _ _ rfl⟩,trivial,fun _ _=>aG _⟩
  ·intro x wx hG;have g4:=gr 9 (hG.c 4 _ rfl);have g6:wS n (x.tmps.getD 11 undef) wx:=hG.c 6 _ rfl;have hp:=hG.p 0;replace hG:=hG.g;have Rp:=jD (HR.o.below hp);have HP:=jD hp;obtain⟨g9,yq,Ma⟩:=g6;have HC:=jD (fun j u (hj:(#[.int .i64 n.k, .int .i64 n.a, .int .i64 n.b].toList)[j]? =some u)=>(show wx.cell? ((⟨g9,0,none⟩:Addr).add j)=some u by rw[Addr.add_lit,Nat.zero_add];exact aD Ma (by simpa using hj)));have HO:=jD Rp.o.own;have dY:=jD (show R+1≤wx.heap.size from Rp.o.lt);have wM:=g4;have YS:=yq;have qE:=gd g4;have uy:=yq;rw[Array.getD_eq_getD_getElem?] at uy;clear Ma hp g4 yq;go_wp2_with (at_builtin;refine wpList_append_own' rfl (.tmp 9) (.tmp 11) 23 rfl (R+1) 80 _ 3 24 Tryz.underlying23 afC.info rfl (by decide) _ ns.length _ wM HO.o ⟨g9,0,none⟩ 1 1 #[.int .i64 n.k, .int .i64 n.a, .int .i64 n.b].toList YS rfl HC.o (by intro u hu;simp at hu;rcases hu with rfl | rfl | rfl <;> rfl) (by unfold maxLen;omega) (by omega) dY.o ?_)
   intro v9 w9 ho hgr hlc;have hkp:=(Kp.of_below (R:=R) (v:=nv) HP.o).trans (Ti hgr hlc);have hbk:w9.heap[R]? =W.heap[R]? :=(hgr.block R Rp.o.lt (fun e=>by have:=(Rp.o.row R e.symm).1;omega)).trans (HP.o.block R HR.o.lt);have HA:=jD (show CB R nv (ns++[n]) W v9 w9 from⟨by rw[HL.o,List.length_append];exact ho,hkp,hbk,Nat.lt_of_lt_of_le Rp.o.lt hgr.size⟩);clear ho hgr hlc hkp hbk;go_wp2;exact⟨_,rfl,HA.o,trivial,fun h=>absurd rfl h⟩
  ·intro x wx hG;have g0:=gr 5 (hG.c 0 _ rfl);replace hG:=hG.g;go_wp2;exact⟨_,rfl,rfl,trivial,fun _ _=>br⟩
  ·intro x wx hG;have g8:=gr 13 (hG.c 8 _ rfl);replace hG:=hG.g;go_wp2;exact⟨_,rfl,rfl,trivial,fun _ _=>br⟩
  ·intro x wx hG;have g9:=gr 14 (hG.c 9 _ rfl);have g7:CB R nv (ns++[n]) W (x.tmps.getD 12 undef) wx:=hG.c 7 _ rfl;replace hG:=hG.g;obtain⟨na,nc,hv⟩:=ay g7.own;rw[show(ns++[n]).length=ns.length+1 by simp] at hv;rw[hv] at g7;have HA:=jD g7;have hvb:=hv;rw[Array.getD_eq_getD_getElem?] at hvb;clear g7;have hz:wx.frozen? ⟨R,2,none⟩=false:=dS (HA.o.blk.trans HR.o.blk);obtain⟨cc,hcc⟩: ∃cc,wx.cell? ⟨R,2,none⟩=some cc:=⟨_,aD (HA.o.blk.trans HR.o.blk) rfl⟩
   go_wp2;exact⟨undef,rfl,⟨_,HR.o.ab4 HA.o.blk HA.o.own,HA.o.kp.trans (Kp.step _ _ _ _ _)⟩,trivial,fun _ h=>absurd rfl h⟩
 ·intro af w6 hg hF;obtain⟨g0,g1,g2,g3,g4,g5,g6,g7,g8,g9,g10, -⟩:=hF;replace g10:yg R s i nv (ns++[n]) W w6:=g10 rfl;simp only[Cl3.puts,gq (af 0) g0,gq (af 1) g1,gq (af 2) g2,gq (af 3) g3,gq (af 4) g4,gq (af 5) g5,gq (af 8) g8,gq (af 9) g9];clear g0 g1 g2 g3 g4 g5 g6 g7 g8 g9;go_simp
  obtain⟨v6,h6,k6⟩:=g10;have H6:=jD h6;have K6:=jD k6;obtain⟨a0,a1,a2, -, -⟩:=h6.cells;obtain⟨na,nc,Vj⟩:=ay h6.own;subst Vj;have hll:(ns++[n]).length=ns.length+1:=by simp
  rw[hll] at a2;clear h6 k6;go_wp2;go_ret;refine⟨bw (by omega),_,H6.o,(Kp.of_below ek.o).trans K6.o⟩
end Go.Proofs.YtajgndoiddmbmaaGreatDoor
namespace Go.Proofs.YtajgndoiddmbmaaGreatDoor
set_option maxRecDepth 100000
set_option maxHeartbeats 40000000
open Go.Shelf
def iD:Go.Shelf.Ren:=⟨fun | 172=>77 | 244=>103 | 245=>104 | 247=>143 | 279=>144 | 280=>145 | 281=>146 | 282=>147 | 287=>183 | 316=>184 | 171=>27 | 205=>185 | 321=>207 | 322=>208 | 243=>41 | 246=>84 | 283=>110 | 284=>111 | 285=>112 | 286=>113 | 129=>151 | 317=>150 | 318=>152 | 319=>153 | 320=>154 | 337=>186 | 338=>187 | n=>n,fun | 9=>9 | 3=>3 | 75=>47 | 76=>48 | 4=>4 | 5=>5 | 167=>207 | 37=>43 | 0=>0 | 85=>208 | 2=>2 | 168=>210 | 53=>64 | 175=>247 | 46=>167 | 210=>250 | 127=>76 | 145=>271 | 143=>269 | 21=>21 | 171=>168 | 173=>171 | 212=>220 | 51=>131 | 20=>20 | 213=>221 | 232=>272 | 233=>273 | 80=>52 | n=>n,fun | 15=>4 | 16=>5 | 17=>3 | 18=>6 | 19=>7 | n=>n⟩
theorem fI:Go.Proofs.LaysC.n172 Tryz.prog iD:= {
 mixed:=by kernel_rfl
 f129:=Tryz.func151.trans (congrArg some (by kernel_rfl))
 f171:=Tryz.func27.trans (congrArg some (by kernel_rfl))
 f172:=Tryz.func77.trans (congrArg some (by kernel_rfl))
 f205:=Tryz.func185.trans (congrArg some (by kernel_rfl))
 f243:=Tryz.func41.trans (congrArg some (by kernel_rfl))
 f244:=Tryz.func103.trans (congrArg some (by kernel_rfl))
 f245:=Tryz.func104.trans (congrArg some (by kernel_rfl))
 f246:=Tryz.func84.trans (congrArg some (by kernel_rfl))
 f247:=Tryz.func143.trans (congrArg some (by kernel_rfl))
 f279:=Tryz.func144.trans (congrArg some (by kernel_rfl))
 f280:=Tryz.func145.trans (congrArg some (by kernel_rfl))
 f281:=Tryz.func146.trans (congrArg some (by kernel_rfl))
 f282:=Tryz.func147.trans (congrArg some (by kernel_rfl))
 f283:=Tryz.func110.trans (congrArg some (by kernel_rfl))
 f284:=Tryz.func111.trans (congrArg some (by kernel_rfl))
 f285:=Tryz.func112.trans (congrArg some (by kernel_rfl))
 f286:=Tryz.func113.trans (congrArg some (by kernel_rfl))
 f287:=Tryz.func183.trans (congrArg some (by kernel_rfl))
 f316:=Tryz.func184.trans (congrArg some (by kernel_rfl))
 f317:=Tryz.func150.trans (congrArg some (by kernel_rfl))
 f318:=Tryz.func152.trans (congrArg some (by kernel_rfl))
 f319:=Tryz.func153.trans (congrArg some (by kernel_rfl))
 f320:=Tryz.func154.trans (congrArg some (by kernel_rfl))
 f321:=Tryz.func207.trans (congrArg some (by kernel_rfl))
 f322:=Tryz.func208.trans (congrArg some (by kernel_rfl))
 f337:=Tryz.func186.trans (congrArg some (by kernel_rfl))
 f338:=Tryz.func187.trans (congrArg some (by kernel_rfl))
 t0:=Tryz.underlying0
 a0:=Tryz.isAgg0
 z0:=Tryz.sizeOf0
 v0:=Tryz.zeroValue0
 t2:=Tryz.underlying2
 a2:=Tryz.isAgg2
 z2:=Tryz.sizeOf2
 v2:=Tryz.zeroValue2
 t3:=Tryz.underlying3
 a3:=Tryz.isAgg3
 z3:=Tryz.sizeOf3
 v3:=Tryz.zeroValue3
 t4:=Tryz.underlying4
 a4:=Tryz.isAgg4
 z4:=Tryz.sizeOf4
 v4:=Tryz.zeroValue4
 t5:=Tryz.underlying5
 a5:=Tryz.isAgg5
 z5:=Tryz.sizeOf5
 v5:=Tryz.zeroValue5
 t9:=Tryz.underlying9
 a9:=Tryz.isAgg9
 z9:=Tryz.sizeOf9
 v9:=Tryz.zeroValue9
 t20:=Tryz.underlying20
 a20:=Tryz.isAgg20
 z20:=Tryz.sizeOf20
 v20:=Tryz.zeroValue20
 t21:=Tryz.underlying21
 a21:=Tryz.isAgg21
 z21:=Tryz.sizeOf21
 v21:=Tryz.zeroValue21
 t37:=Tryz.underlying43
 a37:=Tryz.isAgg43
 z37:=Tryz.sizeOf43
 v37:=Tryz.zeroValue43
 t46:=Tryz.underlying167
 a46:=Tryz.isAgg167
 z46:=Tryz.sizeOf167
 v46:=Tryz.zeroValue167
 t51:=Tryz.underlying131
 a51:=Tryz.isAgg131
 z51:=Tryz.sizeOf131
 v51:=Tryz.zeroValue131
 t53:=Tryz.underlying64
 a53:=Tryz.isAgg64
 z53:=Tryz.sizeOf64
 v53:=Tryz.zeroValue64
 t75:=Tryz.underlying47
 a75:=Tryz.isAgg47
 z75:=Tryz.sizeOf47
 v75:=Tryz.zeroValue47
 t76:=Tryz.underlying48
 a76:=Tryz.isAgg48
 z76:=Tryz.sizeOf48
 v76:=Tryz.zeroValue48
 t85:=Tryz.underlying208
 a85:=Tryz.isAgg208
 z85:=Tryz.sizeOf208
 v85:=Tryz.zeroValue208
 t127:=Tryz.underlying76
 a127:=Tryz.isAgg76
 z127:=Tryz.sizeOf76
 v127:=Tryz.zeroValue76
 t143:=Tryz.underlying269
 a143:=Tryz.isAgg269
 z143:=Tryz.sizeOf269
 v143:=Tryz.zeroValue269
 t145:=Tryz.underlying271
 a145:=Tryz.isAgg271
 z145:=Tryz.sizeOf271
 v145:=Tryz.zeroValue271
 t167:=Tryz.underlying207
 a167:=Tryz.isAgg207
 z167:=Tryz.sizeOf207
 v167:=Tryz.zeroValue207
 t168:=Tryz.underlying210
 a168:=Tryz.isAgg210
 z168:=Tryz.sizeOf210
 v168:=Tryz.zeroValue210
 t171:=Tryz.underlying168
 a171:=Tryz.isAgg168
 z171:=Tryz.sizeOf168
 v171:=Tryz.zeroValue168
 t173:=Tryz.underlying171
 a173:=Tryz.isAgg171
 z173:=Tryz.sizeOf171
 v173:=Tryz.zeroValue171
 t175:=Tryz.underlying247
 a175:=Tryz.isAgg247
 z175:=Tryz.sizeOf247
 v175:=Tryz.zeroValue247
 t210:=Tryz.underlying250
 a210:=Tryz.isAgg250
 z210:=Tryz.sizeOf250
 v210:=Tryz.zeroValue250
 t212:=Tryz.underlying220
 a212:=Tryz.isAgg220
 z212:=Tryz.sizeOf220
 v212:=Tryz.zeroValue220
 t213:=Tryz.underlying221
 a213:=Tryz.isAgg221
 z213:=Tryz.sizeOf221
 t232:=Tryz.underlying272
 a232:=Tryz.isAgg272
 z232:=Tryz.sizeOf272
 v232:=Tryz.zeroValue272
 t233:=Tryz.underlying273
 a233:=Tryz.isAgg273
 z233:=Tryz.sizeOf273
 v233:=Tryz.zeroValue273
 g15:=by kernel_rfl
 g16:=by kernel_rfl
 g17:=by kernel_rfl
 g18:=by kernel_rfl
 g19:=by kernel_rfl
 t80:=Tryz.underlying52
 a80:=Tryz.isAgg52
 z80:=Tryz.sizeOf52
 v80:=Tryz.zeroValue52
 i0:=by kernel_rfl
 i2:=by kernel_rfl
 i3:=by kernel_rfl
 i4:=by kernel_rfl
 i5:=by kernel_rfl
 i9:=by kernel_rfl
 i20:=by kernel_rfl
 i21:=by kernel_rfl
 i37:=by kernel_rfl
 i46:=by kernel_rfl
 i51:=by kernel_rfl
 i53:=by kernel_rfl
 i75:=by kernel_rfl
 i76:=by kernel_rfl
 i80:=by kernel_rfl
 i85:=by kernel_rfl
 i127:=by kernel_rfl
 i143:=by kernel_rfl
 i145:=by kernel_rfl
 i167:=by kernel_rfl
 i168:=by kernel_rfl
 i171:=by kernel_rfl
 i173:=by kernel_rfl
 i175:=by kernel_rfl
 i210:=by kernel_rfl
 i212:=by kernel_rfl
 i232:=by kernel_rfl
 i233:=by kernel_rfl
 m15:=by kernel_rfl
 m16:=by kernel_rfl
 m17:=by kernel_rfl
 m18:=by kernel_rfl
 m19:=by kernel_rfl
 c0:=by kernel_rfl
 c2:=by kernel_rfl
 c3:=by kernel_rfl
 c4:=by kernel_rfl
 c5:=by kernel_rfl
 c9:=by kernel_rfl
 c20:=by kernel_rfl
 c21:=by kernel_rfl
 c37:=by kernel_rfl
 c46:=by kernel_rfl
 c51:=by kernel_rfl
 c53:=by kernel_rfl
 c75:=by kernel_rfl
 c76:=by kernel_rfl
 c80:=by kernel_rfl
 c85:=by kernel_rfl
 c127:=by kernel_rfl
 c143:=by kernel_rfl
 c145:=by kernel_rfl
 c167:=by kernel_rfl
 c168:=by kernel_rfl
 c171:=by kernel_rfl
 c173:=by kernel_rfl
 c175:=by kernel_rfl
 c210:=by kernel_rfl
 c212:=by kernel_rfl
 c213:=by kernel_rfl
 c232:=by kernel_rfl
 c233:=by kernel_rfl }
def Lu:Go.Shelf.Ren:=⟨fun | 171=>27 | 243=>41 | 246=>84 | 283=>110 | 284=>111 | 285=>112 | 286=>113 | 129=>151 | 317=>150 | 318=>152 | 319=>153 | 320=>154 | 337=>186 | 338=>187 | n=>n,fun | 3=>3 | 9=>9 | 2=>2 | 4=>4 | 171=>168 | 0=>0 | 53=>64 | 37=>43 | 5=>5 | 173=>171 | 212=>220 | 51=>131 | 20=>20 | 213=>221 | 46=>167 | 232=>272 | 233=>273 | n=>n,fun | 17=>3 | 18=>6 | 19=>7 | n=>n⟩
theorem nV:Go.Proofs.Lays.n171 Tryz.prog Lu:= {
 mixed:=by kernel_rfl
 f129:=Tryz.func151.trans (congrArg some (by kernel_rfl))
 f171:=Tryz.func27.trans (congrArg some (by kernel_rfl))
 f243:=Tryz.func41.trans (congrArg some (by kernel_rfl))
 f246:=Tryz.func84.trans (congrArg some (by kernel_rfl))
 f283:=Tryz.func110.trans (congrArg some (by kernel_rfl))
 f284:=Tryz.func111.trans (congrArg some (by kernel_rfl))
 f285:=Tryz.func112.trans (congrArg some (by kernel_rfl))
 f286:=Tryz.func113.trans (congrArg some (by kernel_rfl))
 f317:=Tryz.func150.trans (congrArg some (by kernel_rfl))
 f318:=Tryz.func152.trans (congrArg some (by kernel_rfl))
 f319:=Tryz.func153.trans (congrArg some (by kernel_rfl))
 f320:=Tryz.func154.trans (congrArg some (by kernel_rfl))
 f337:=Tryz.func186.trans (congrArg some (by kernel_rfl))
 f338:=Tryz.func187.trans (congrArg some (by kernel_rfl))
 t0:=Tryz.underlying0
 a0:=Tryz.isAgg0
 z0:=Tryz.sizeOf0
 v0:=Tryz.zeroValue0
 t2:=Tryz.underlying2
 a2:=Tryz.isAgg2
 z2:=Tryz.sizeOf2
 v2:=Tryz.zeroValue2
 t3:=Tryz.underlying3
 a3:=Tryz.isAgg3
 z3:=Tryz.sizeOf3
 v3:=Tryz.zeroValue3
 t4:=Tryz.underlying4
 a4:=Tryz.isAgg4
 z4:=Tryz.sizeOf4
 v4:=Tryz.zeroValue4
 t5:=Tryz.underlying5
 a5:=Tryz.isAgg5
 z5:=Tryz.sizeOf5
 v5:=Tryz.zeroValue5
 t9:=Tryz.underlying9
 a9:=Tryz.isAgg9
 z9:=Tryz.sizeOf9
 v9:=Tryz.zeroValue9
 t20:=Tryz.underlying20
 a20:=Tryz.isAgg20
 z20:=Tryz.sizeOf20
 v20:=Tryz.zeroValue20
 t37:=Tryz.underlying43
 a37:=Tryz.isAgg43
 z37:=Tryz.sizeOf43
 v37:=Tryz.zeroValue43
 t46:=Tryz.underlying167
 a46:=Tryz.isAgg167
 z46:=Tryz.sizeOf167
 v46:=Tryz.zeroValue167
 t51:=Tryz.underlying131
 a51:=Tryz.isAgg131
 z51:=Tryz.sizeOf131
 v51:=Tryz.zeroValue131
 t53:=Tryz.underlying64
 a53:=Tryz.isAgg64
 z53:=Tryz.sizeOf64
 v53:=Tryz.zeroValue64
 t171:=Tryz.underlying168
 a171:=Tryz.isAgg168
 z171:=Tryz.sizeOf168
 v171:=Tryz.zeroValue168
 t173:=Tryz.underlying171
 a173:=Tryz.isAgg171
 z173:=Tryz.sizeOf171
 v173:=Tryz.zeroValue171
 t212:=Tryz.underlying220
 a212:=Tryz.isAgg220
 z212:=Tryz.sizeOf220
 v212:=Tryz.zeroValue220
 t213:=Tryz.underlying221
 a213:=Tryz.isAgg221
 z213:=Tryz.sizeOf221
 t232:=Tryz.underlying272
 a232:=Tryz.isAgg272
 z232:=Tryz.sizeOf272
 v232:=Tryz.zeroValue272
 t233:=Tryz.underlying273
 a233:=Tryz.isAgg273
 z233:=Tryz.sizeOf273
 v233:=Tryz.zeroValue273
 g17:=by kernel_rfl
 g18:=by kernel_rfl
 g19:=by kernel_rfl }
end Go.Proofs.YtajgndoiddmbmaaGreatDoor
namespace Go.Proofs.YtajgndoiddmbmaaGreatDoor
set_option maxRecDepth 100000
set_option maxHeartbeats 40000000
open Go.RowKit
structure Gl (w:World) (R:Nat):Prop where
 syn: ∃ev,w.cell? ⟨iD.g 15,0,none⟩=some ev∧(ev= .nilIface∨ ∃te pe,ev= .iface te pe)
 ran: ∃ev,w.cell? ⟨iD.g 16,0,none⟩=some ev∧(ev= .nilIface∨ ∃te pe,ev= .iface te pe)
 Je:iD.g 15 < R
 Jf:iD.g 16 < R
theorem Gl.below {w w':World} {R:Nat} (h:Gl w R) (hb:Below R w w'):Gl w' R:=by
 obtain⟨e1,h1,k1⟩:=h.syn;obtain⟨e2,h2,k2⟩:=h.ran;exact⟨⟨e1,(World.cell?_of_block (hb.block _ h.Je)).trans h1,k1⟩,⟨e2,(World.cell?_of_block (hb.block _ h.Jf)).trans h2,k2⟩,h.Je,h.Jf⟩
theorem Gl.up {w:World} {R R2:Nat} (h:Gl w R) (hR:R≤R2):Gl w R2:=⟨h.syn,h.ran,Nat.lt_of_lt_of_le h.Je hR,Nat.lt_of_lt_of_le h.Jf hR⟩
def Fj (w:World) (R:Nat):Nat:=match w.cell? ⟨R,1,none⟩ with | some v=>(intOf v).toNat | none=>0
theorem ic.Fj {w:World} {R:Nat} {s:ByteArray} {i:Nat} {nv:Value} {ns:cH} (h:ic w R s i nv ns):Fj w R=i:=by
 unfold Go.Proofs.YtajgndoiddmbmaaGreatDoor.Fj;rw[h.cells.2.1];simp[intOf]
theorem jY {c:Nat} :iP c=true↔48≤c∧c≤57:=by simp[iP]
theorem Cc {c:Nat} :iP c=false↔c < 48∨57 < c:=by
 cases h:iP c
 ·simp only[true_iff];by_cases h1:48≤c∧c≤57
  ·rw[jY.2 h1] at h;cases h
  ·omega
 ·have:=jY.1 h;simp only[Bool.true_eq_false,false_iff];omega
theorem YH (a:UInt8) (h:48≤a.toNat∧a.toNat≤57):Lib.atoiAll [a]= .ok ((a.toNat - 48:Nat):Int)∧Lib.decDigits (a.toNat - 48)=[a]:=by
 have h45:(a==45)=false:=by rw[beq_eq_false_iff_ne];intro e;rw [e] at h;exact absurd h.1 (by decide)
 have h43:(a==43)=false:=by rw[beq_eq_false_iff_ne];intro e;rw [e] at h;exact absurd h.1 (by decide)
 refine⟨?_, ?_⟩
 ·rw[Lib.atoiAll_short _ (by simp)];simp[Lib.atoi,h45,h43,Lib.decNat,Lib.decFrom,Lib.digitVal,h,Lib.NumEnd.ofOption]
 ·rw[Lib.decDigits,dif_pos (by omega),show 48+(a.toNat - 48)=a.toNat by omega,UInt8.ofNat_toNat]
theorem YG (a b:UInt8) (ha:48≤a.toNat∧a.toNat≤57) (hb:48≤b.toNat∧b.toNat≤57):Lib.atoiAll [a,b]= .ok (((a.toNat - 48)*10+(b.toNat - 48):Nat):Int)∧(Lib.decDigits ((a.toNat - 48)*10+(b.toNat - 48))=[a,b]↔a.toNat≠48):=by
 have h45:(a==45)=false:=by rw[beq_eq_false_iff_ne];intro e;rw [e] at ha;exact absurd ha.1 (by decide)
 have h43:(a==43)=false:=by rw[beq_eq_false_iff_ne];intro e;rw [e] at ha;exact absurd ha.1 (by decide)
 refine⟨?_, ?_⟩
 ·rw[Lib.atoiAll_short _ (by simp)];simp[Lib.atoi,h45,h43,Lib.decNat,Lib.decFrom,Lib.digitVal,ha,hb,Lib.NumEnd.ofOption]
 ·by_cases e:a.toNat=48
  ·rw[Lib.decDigits,dif_pos (by omega)];simp[e]
  ·rw[Lib.decDigits,dif_neg (by omega),Lib.decDigits,dif_pos (by omega),show 48+((a.toNat - 48)*10+(b.toNat - 48)) / 10=a.toNat by omega,show 48+((a.toNat - 48)*10+(b.toNat - 48))%10=b.toNat by omega,UInt8.ofNat_toNat,UInt8.ofNat_toNat];simp[e]
theorem oW (s:ByteArray) (i k:Nat):(s.extract i k).data.toList=(s.data.toList.drop i).take (k - i):=by
 rw[ByteArray.data_extract,Array.toList_extract]
theorem Og {s:ByteArray} {i:Nat} (h:i < s.size):(s.extract i (i+1)).data.toList=[s[i]]:=by
 rw[oW,show i+1 - i=1 by omega,List.take_one,List.head?_drop,List.getElem?_eq_getElem (by simpa using h)];rfl
theorem Ub {s:ByteArray} {i:Nat} (h:i+1 < s.size):(s.extract i (i+2)).data.toList=[s[i]'(by omega),s[i+1]]:=by
 rw[oW,show i+2 - i=2 by omega,List.drop_eq_getElem_cons (show i < s.data.toList.length by simp;exact Nat.lt_of_succ_lt h),List.take_succ_cons,List.take_one,List.head?_drop,List.getElem?_eq_getElem (by simpa using h)];rfl
theorem zg {s:ByteArray} {i k:Nat} (hik:i≤k) (hk:k≤s.size) (hd: ∀q,i≤q→q < k→iP (chr s q)=true) (he:iP (chr s k)=false):
  (k=i∧Lib.atoiAll (s.extract i k).data.toList= .syntax∧fD s i=none)∨
  (k - i≤2∧ ∃v:Nat,v < 100∧Lib.atoiAll (s.extract i k).data.toList= .ok (v:Int)∧((Lib.decDigits v=(s.extract i k).data.toList∧fD s i=some (k,v))∨(Lib.decDigits v≠(s.extract i k).data.toList∧fD s i=none)))∨
  (3≤k - i∧fD s i=none):=by
 by_cases h0:k=i
 ·subst h0;refine .inl ⟨rfl, ?_,by rw[fD,if_pos he]⟩;rw[oW,Nat.sub_self,List.take_zero];rfl
 have d0:=hd i (Nat.le_refl _) (by omega);have b0:=qO d0;have e0:=jY.1 d0;by_cases h1:k=i+1
 ·subst h1;rw[iK b0] at e0;obtain⟨n1,n2⟩:=YH s[i] e0;refine .inr (.inl ⟨by omega,s[i].toNat - 48,by omega, ?_, .inl ⟨?_, ?_⟩⟩)
  ·rw[Og b0];exact n1
  ·rw[Og b0];exact n2
  ·rw[fD,if_neg (by rw[d0];decide),if_pos he,iK b0]
 have d1:=hd (i+1) (by omega) (by omega);have b1:=qO d1;have e1:=jY.1 d1;by_cases h2:k=i+2
 ·subst h2;rw[iK b0] at e0;rw[iK b1] at e1;obtain⟨n1,n2⟩:=YG s[i] s[i+1] e0 e1;refine .inr (.inl ⟨by omega,(s[i].toNat - 48)*10+(s[i+1].toNat - 48),by omega, ?_, ?_⟩)
  ·rw[Ub b1];exact n1
  ·rw[Ub b1];by_cases hz:s[i].toNat=48
   ·refine .inr ⟨fun e=>n2.1 e hz, ?_⟩;rw[fD,if_neg (by rw[d0];decide),if_neg (by rw[d1];decide),if_pos (.inr (by rw[iK b0];exact hz))]
   ·refine .inl ⟨n2.2 hz, ?_⟩;rw[fD,if_neg (by rw[d0];decide),if_neg (by rw[d1];decide),if_neg,iK b0,iK b1];rintro(e | e)
    ·rw[he] at e;cases e
    ·rw[iK b0] at e;exact hz e
 ·have d2:=hd (i+2) (by omega) (by omega);exact .inr (.inr ⟨by omega,by rw[fD,if_neg (by rw[d0];decide),if_neg (by rw[d1];decide),if_pos (.inl d2)]⟩)
theorem lZ {w w2:World} {t5:TypeId} (h:w2=w∨ ∃t,w2=Lib.bytesWorld w t5 t):Below w.heap.size w w2:=by
 rcases h with rfl | ⟨t,rfl⟩
 ·exact br
 ·exact Lib.bytesWorld_below _ _ _
theorem B6 (R:Nat) (s:ByteArray) (i:Nat) (nv:Value) (ns:cH) (w:World) (h:ic w R s i nv ns) (hg:Gl w R) (hsz:s.size≤400) (hi:i≤s.size):
  Calls Tryz.prog 33 #[.pointer (some ⟨R,0,none⟩)] w fun e w'=>
   (∀j v,fD s i=some (j,v)→e= .returned (.int .i64 v)∧ic w' R s j nv ns)∧(fD s i=none→e=sw)∧Kp R nv nv w w':=by
 obtain⟨c0,c1,c2,z1,z2⟩:=h.cells;have HR:=jD h;have HG:=jD hg;clear h hg;go_enter Tryz.func33,Tryz.ntmps33;go_wp2;clear c0 c1 c2 z1 z2;go_loopw [] (fun wr=> ∃k,i≤k∧k≤s.size∧ic wr R s k nv ns∧Kp R nv nv w wr∧ ∀q,i≤q→q < k→iP (chr s q)=true) (fun wr=>s.size - Fj wr R)
 case atStart=>exact ⟨i,Nat.le_refl _,hi,HR.o,Kp.refl _ _ _,fun q h1 h2=>absurd h2 (by omega)⟩
 case round=>
  obtain⟨k,hik,hks,hrd,hkp,hdig⟩:=hrel;have Hj:=jD hrd.Fj;have M:=jD hrd;have HK:=jD hkp;have HD:=jD hdig;have kY:=jD (HG.o.below (hkp.toBelow (fun q hq=>(HR.o.row q hq).1) (Nat.le_refl _) HR.o.lt));obtain⟨c0,c1,c2,z1,z2⟩:=hrd.cells;clear hrd hkp hdig HR HG;by_cases hlt:k < s.size;rotate_left
  ·have hd:decide ((k:Int) < (s.size:Int))=false:=by rw[decide_eq_false_iff_not];omega
   have HC:=zg hik hks HD.o (Cc.2 (.inr (by rw[Fb (by omega)];omega)));go_wp2_with fail
   go_quiet (fail);go_wp2;go_quiet (fail);go_wp2_with fail
   have hzz:(s.extract i k).size=k - i:=by rw[ByteArray.size_extract];omega
   rcases HC with⟨he,ha,hn⟩ | ⟨hl,v,hv,ha,hc⟩ | ⟨hl,hn⟩
   ·obtain⟨ev,jE,ko⟩:=kY.o.syn;refine(Any.strconv_Atoi_syntax fI (s.extract i k) (by omega) ha ev _ ?_ ko).mono ?_
    ·exact ah (below_drewN (br) _) jE
    rintro e w2 ⟨N,rfl,hN1,oD,hb⟩;have ig:=jD (HK.o.trans (Kp.of_below (aj (below_drewN (br) _) hb)));clear hN1 oD hb;go_wp2_with fail
    refine(kK 9 _).mono ?_;rintro e w3 ⟨rfl,rfl⟩;go_wp2;exact⟨rfl,fun j v h=>absurd (hn.symm.trans h) (by simp),fun _=>rfl,ig.o⟩
   ·refine(Any.strconv_Atoi_ok fI (s.extract i k) (by omega) v ha _).mono ?_;rintro e w2 ⟨rfl,hw2⟩;have hb:=lZ hw2;have ig:=jD (HK.o.trans (Kp.of_below (aj (below_drewN (br) _) hb)));have Bo:=jD (M.o.below (aj (below_drewN (br) _) hb));clear hw2 hb;rcases hc with⟨hc1,hc2⟩ | ⟨hc1,hc2⟩
    ·rw[←ByteArray.toList_eq] at hc1;go_wp2_with fail
     refine(Any.strconv_Itoa_small nV v hv _).mono ?_;rintro e w3 ⟨rfl,rfl⟩;go_wp2_with fail
     go_ret;refine⟨fun j v' h=> ?_,fun h=>absurd (hc2.symm.trans h) (by simp),ig.o⟩;obtain⟨rfl,rfl⟩:k=j∧v=v':=by simpa using hc2.symm.trans h
     exact⟨rfl,Bo.o⟩
    ·rw[←ByteArray.toList_eq] at hc1;replace hc1:=beq_eq_false_iff_ne.2 hc1;go_wp2_with fail
     refine(Any.strconv_Itoa_small nV v hv _).mono ?_;rintro e w3 ⟨rfl,rfl⟩;go_wp2_with fail
     refine(kK 9 _).mono ?_;rintro e w3 ⟨rfl,rfl⟩;go_wp2;exact⟨rfl,fun j v h=>absurd (hc2.symm.trans h) (by simp),fun _=>rfl,ig.o⟩
   ·have hbig:decide ((2:Int) < ((k - i:Nat):Int))=true:=by rw[decide_eq_true_eq];omega
    cases ha:Lib.atoiAll (s.extract i k).data.toList with
    | ok v=>
     refine(Any.strconv_Atoi_ok fI (s.extract i k) (by omega) v ha _).mono ?_;rintro e w2 ⟨rfl,hw2⟩;have hb:=lZ hw2;have ig:=jD (HK.o.trans (Kp.of_below (aj (below_drewN (br) _) hb)));clear hw2 hb;go_wp2_with fail
     refine(kK 9 _).mono ?_;rintro e w3 ⟨rfl,rfl⟩;go_wp2;exact⟨rfl,fun j v h=>absurd (hn.symm.trans h) (by simp),fun _=>rfl,ig.o⟩
    | range=>
     obtain⟨ev,jE,ko⟩:=kY.o.ran;refine(Any.strconv_Atoi_range fI (s.extract i k) (by omega) ha ev _ ?_ ko).mono ?_
     ·exact ah (below_drewN (br) _) jE
     rintro e w2 ⟨N,rfl,hN1,oD,hb⟩;have ig:=jD (HK.o.trans (Kp.of_below (aj (below_drewN (br) _) hb)));clear hN1 oD hb;go_wp2_with fail
     refine(kK 9 _).mono ?_;rintro e w3 ⟨rfl,rfl⟩;go_wp2;exact⟨rfl,fun j v h=>absurd (hn.symm.trans h) (by simp),fun _=>rfl,ig.o⟩
    | _=>
     obtain⟨ev,jE,ko⟩:=kY.o.syn;refine(Any.strconv_Atoi_syntax fI (s.extract i k) (by omega) ha ev _ ?_ ko).mono ?_
     ·exact ah (below_drewN (br) _) jE
     rintro e w2 ⟨N,rfl,hN1,oD,hb⟩;have ig:=jD (HK.o.trans (Kp.of_below (aj (below_drewN (br) _) hb)));clear hN1 oD hb;go_wp2_with fail
     refine(kK 9 _).mono ?_;rintro e w3 ⟨rfl,rfl⟩;go_wp2;exact⟨rfl,fun j v h=>absurd (hn.symm.trans h) (by simp),fun _=>rfl,ig.o⟩
  have hb:s[k].toNat < 256:=s[k].toNat_lt;have hget: ∀h,s[(k:Int).toNat]'h=s[k]:=fun _=>rfl;have hch:=iK hlt;by_cases h48:48≤s[k].toNat;rotate_left
  ·have HC:=zg hik hks HD.o (Cc.2 (.inl (by rw[hch];omega)));have hq1:decide ((48:Int)≤(s[k].toNat:Int))=false:=by rw[decide_eq_false_iff_not];omega
   go_wp2_with fail
   go_quiet (fail);go_wp2;go_quiet (fail);go_wp2_with fail
   have hzz:(s.extract i k).size=k - i:=by rw[ByteArray.size_extract];omega
   rcases HC with⟨he,ha,hn⟩ | ⟨hl,v,hv,ha,hc⟩ | ⟨hl,hn⟩
   ·obtain⟨ev,jE,ko⟩:=kY.o.syn;refine(Any.strconv_Atoi_syntax fI (s.extract i k) (by omega) ha ev _ ?_ ko).mono ?_
    ·exact ah (below_drewN (br) _) jE
    rintro e w2 ⟨N,rfl,hN1,oD,hb⟩;have ig:=jD (HK.o.trans (Kp.of_below (aj (below_drewN (br) _) hb)));clear hN1 oD hb;go_wp2_with fail
    refine(kK 9 _).mono ?_;rintro e w3 ⟨rfl,rfl⟩;go_wp2;exact⟨rfl,fun j v h=>absurd (hn.symm.trans h) (by simp),fun _=>rfl,ig.o⟩
   ·refine(Any.strconv_Atoi_ok fI (s.extract i k) (by omega) v ha _).mono ?_;rintro e w2 ⟨rfl,hw2⟩;have hb:=lZ hw2;have ig:=jD (HK.o.trans (Kp.of_below (aj (below_drewN (br) _) hb)));have Bo:=jD (M.o.below (aj (below_drewN (br) _) hb));clear hw2 hb;rcases hc with⟨hc1,hc2⟩ | ⟨hc1,hc2⟩
    ·rw[←ByteArray.toList_eq] at hc1;go_wp2_with fail
     refine(Any.strconv_Itoa_small nV v hv _).mono ?_;rintro e w3 ⟨rfl,rfl⟩;go_wp2_with fail
     go_ret;refine⟨fun j v' h=> ?_,fun h=>absurd (hc2.symm.trans h) (by simp),ig.o⟩;obtain⟨rfl,rfl⟩:k=j∧v=v':=by simpa using hc2.symm.trans h
     exact⟨rfl,Bo.o⟩
    ·rw[←ByteArray.toList_eq] at hc1;replace hc1:=beq_eq_false_iff_ne.2 hc1;go_wp2_with fail
     refine(Any.strconv_Itoa_small nV v hv _).mono ?_;rintro e w3 ⟨rfl,rfl⟩;go_wp2_with fail
     refine(kK 9 _).mono ?_;rintro e w3 ⟨rfl,rfl⟩;go_wp2;exact⟨rfl,fun j v h=>absurd (hc2.symm.trans h) (by simp),fun _=>rfl,ig.o⟩
   ·have hbig:decide ((2:Int) < ((k - i:Nat):Int))=true:=by rw[decide_eq_true_eq];omega
    cases ha:Lib.atoiAll (s.extract i k).data.toList with
    | ok v=>
     refine(Any.strconv_Atoi_ok fI (s.extract i k) (by omega) v ha _).mono ?_;rintro e w2 ⟨rfl,hw2⟩;have hb:=lZ hw2;have ig:=jD (HK.o.trans (Kp.of_below (aj (below_drewN (br) _) hb)));clear hw2 hb;go_wp2_with fail
     refine(kK 9 _).mono ?_;rintro e w3 ⟨rfl,rfl⟩;go_wp2;exact⟨rfl,fun j v h=>absurd (hn.symm.trans h) (by simp),fun _=>rfl,ig.o⟩
    | range=>
     obtain⟨ev,jE,ko⟩:=kY.o.ran;refine(Any.strconv_Atoi_range fI (s.extract i k) (by omega) ha ev _ ?_ ko).mono ?_
     ·exact ah (below_drewN (br) _) jE
     rintro e w2 ⟨N,rfl,hN1,oD,hb⟩;have ig:=jD (HK.o.trans (Kp.of_below (aj (below_drewN (br) _) hb)));clear hN1 oD hb;go_wp2_with fail
     refine(kK 9 _).mono ?_;rintro e w3 ⟨rfl,rfl⟩;go_wp2;exact⟨rfl,fun j v h=>absurd (hn.symm.trans h) (by simp),fun _=>rfl,ig.o⟩
    | _=>
     obtain⟨ev,jE,ko⟩:=kY.o.syn;refine(Any.strconv_Atoi_syntax fI (s.extract i k) (by omega) ha ev _ ?_ ko).mono ?_
     ·exact ah (below_drewN (br) _) jE
     rintro e w2 ⟨N,rfl,hN1,oD,hb⟩;have ig:=jD (HK.o.trans (Kp.of_below (aj (below_drewN (br) _) hb)));clear hN1 oD hb;go_wp2_with fail
     refine(kK 9 _).mono ?_;rintro e w3 ⟨rfl,rfl⟩;go_wp2;exact⟨rfl,fun j v h=>absurd (hn.symm.trans h) (by simp),fun _=>rfl,ig.o⟩
  have hq1:decide ((48:Int)≤(s[k].toNat:Int))=true:=by rw[decide_eq_true_eq];omega
  by_cases h57:s[k].toNat≤57;rotate_left
  ·have HC:=zg hik hks HD.o (Cc.2 (.inr (by rw[hch];omega)));have hq2:decide ((s[k].toNat:Int)≤(57:Int))=false:=by rw[decide_eq_false_iff_not];omega
   go_wp2_with fail
   go_quiet (fail);go_wp2;go_quiet (fail);go_wp2_with fail
   have hzz:(s.extract i k).size=k - i:=by rw[ByteArray.size_extract];omega
   rcases HC with⟨he,ha,hn⟩ | ⟨hl,v,hv,ha,hc⟩ | ⟨hl,hn⟩
   ·obtain⟨ev,jE,ko⟩:=kY.o.syn;refine(Any.strconv_Atoi_syntax fI (s.extract i k) (by omega) ha ev _ ?_ ko).mono ?_
    ·exact ah (below_drewN (br) _) jE
    rintro e w2 ⟨N,rfl,hN1,oD,hb⟩;have ig:=jD (HK.o.trans (Kp.of_below (aj (below_drewN (br) _) hb)));clear hN1 oD hb;go_wp2_with fail
    refine(kK 9 _).mono ?_;rintro e w3 ⟨rfl,rfl⟩;go_wp2;exact⟨rfl,fun j v h=>absurd (hn.symm.trans h) (by simp),fun _=>rfl,ig.o⟩
   ·refine(Any.strconv_Atoi_ok fI (s.extract i k) (by omega) v ha _).mono ?_;rintro e w2 ⟨rfl,hw2⟩;have hb:=lZ hw2;have ig:=jD (HK.o.trans (Kp.of_below (aj (below_drewN (br) _) hb)));have Bo:=jD (M.o.below (aj (below_drewN (br) _) hb));clear hw2 hb;rcases hc with⟨hc1,hc2⟩ | ⟨hc1,hc2⟩
    ·rw[←ByteArray.toList_eq] at hc1;go_wp2_with fail
     refine(Any.strconv_Itoa_small nV v hv _).mono ?_;rintro e w3 ⟨rfl,rfl⟩;go_wp2_with fail
     go_ret;refine⟨fun j v' h=> ?_,fun h=>absurd (hc2.symm.trans h) (by simp),ig.o⟩;obtain⟨rfl,rfl⟩:k=j∧v=v':=by simpa using hc2.symm.trans h
     exact⟨rfl,Bo.o⟩
    ·rw[←ByteArray.toList_eq] at hc1;replace hc1:=beq_eq_false_iff_ne.2 hc1;go_wp2_with fail
     refine(Any.strconv_Itoa_small nV v hv _).mono ?_;rintro e w3 ⟨rfl,rfl⟩;go_wp2_with fail
     refine(kK 9 _).mono ?_;rintro e w3 ⟨rfl,rfl⟩;go_wp2;exact⟨rfl,fun j v h=>absurd (hc2.symm.trans h) (by simp),fun _=>rfl,ig.o⟩
   ·have hbig:decide ((2:Int) < ((k - i:Nat):Int))=true:=by rw[decide_eq_true_eq];omega
    cases ha:Lib.atoiAll (s.extract i k).data.toList with
    | ok v=>
     refine(Any.strconv_Atoi_ok fI (s.extract i k) (by omega) v ha _).mono ?_;rintro e w2 ⟨rfl,hw2⟩;have hb:=lZ hw2;have ig:=jD (HK.o.trans (Kp.of_below (aj (below_drewN (br) _) hb)));clear hw2 hb;go_wp2_with fail
     refine(kK 9 _).mono ?_;rintro e w3 ⟨rfl,rfl⟩;go_wp2;exact⟨rfl,fun j v h=>absurd (hn.symm.trans h) (by simp),fun _=>rfl,ig.o⟩
    | range=>
     obtain⟨ev,jE,ko⟩:=kY.o.ran;refine(Any.strconv_Atoi_range fI (s.extract i k) (by omega) ha ev _ ?_ ko).mono ?_
     ·exact ah (below_drewN (br) _) jE
     rintro e w2 ⟨N,rfl,hN1,oD,hb⟩;have ig:=jD (HK.o.trans (Kp.of_below (aj (below_drewN (br) _) hb)));clear hN1 oD hb;go_wp2_with fail
     refine(kK 9 _).mono ?_;rintro e w3 ⟨rfl,rfl⟩;go_wp2;exact⟨rfl,fun j v h=>absurd (hn.symm.trans h) (by simp),fun _=>rfl,ig.o⟩
    | _=>
     obtain⟨ev,jE,ko⟩:=kY.o.syn;refine(Any.strconv_Atoi_syntax fI (s.extract i k) (by omega) ha ev _ ?_ ko).mono ?_
     ·exact ah (below_drewN (br) _) jE
     rintro e w2 ⟨N,rfl,hN1,oD,hb⟩;have ig:=jD (HK.o.trans (Kp.of_below (aj (below_drewN (br) _) hb)));clear hN1 oD hb;go_wp2_with fail
     refine(kK 9 _).mono ?_;rintro e w3 ⟨rfl,rfl⟩;go_wp2;exact⟨rfl,fun j v h=>absurd (hn.symm.trans h) (by simp),fun _=>rfl,ig.o⟩
  have hq2:decide ((s[k].toNat:Int)≤(57:Int))=true:=by rw[decide_eq_true_eq];omega
  have HX:=jD (show iP (chr s k)=true from jY.2 ⟨by omega,by omega⟩);clear hch;go_wp2_with fail
  go_quiet (fail);go_wp2;go_roundw
  case rel=>
   refine⟨k+1,by omega,by omega,(M.o.drewN _).step (k+1),HK.o.trans ((Kp.drewN _ _ _ _).trans (Kp.step _ _ _ _ _)),fun q h1 h2=> ?_⟩;by_cases hq:q=k
   ·subst hq;exact HX.o
   ·exact HD.o q h1 (by omega)
  case measure=>
   rw[Hj.o];refine Nat.lt_of_le_of_lt (Nat.le_of_eq (congrArg (s.size - ·) (((M.o.drewN _).step (k+1)).Fj))) ?_;omega
variable {s:ByteArray} {f i:Nat} {ns:cH}
theorem xA (h:chr s i=42):oneP s (f+1) i ns=some (i+1,ns++[⟨1,0,0⟩]):=by rw[oneP,if_pos h]
theorem uf (h:chr s i=35):oneP s (f+1) i ns=(fD s (i+1)).bind fun p=>some (p.1,ns++[⟨2,p.2,0⟩]):=by rw[oneP,if_neg (by omega),if_pos h]
theorem pn (h:chr s i=91):oneP s (f+1) i ns=(fD s (i+1)).bind fun p=>if chr s p.1=44 then(fD s (p.1+1)).bind fun q=>if chr s q.1=41 then some (q.1+1,ns++[⟨3,p.2,q.2⟩]) else none else none:=by rw[oneP,if_neg (by omega),if_neg (by omega),if_pos h]
theorem ug (h:chr s i=33):oneP s (f+1) i ns=(oneP s f (i+1) ns).bind fun p=>some (p.1,p.2++[⟨4,(p.2.length:Int) - 1,0⟩]):=by rw[oneP,if_neg (by omega),if_neg (by omega),if_neg (by omega),if_pos h]
theorem jB (h:chr s i=40):oneP s (f+1) i ns=(oneP s f (i+1) ns).bind fun p=>
   if chr s p.1=124∨chr s p.1=38 then(oneP s f (p.1+1) p.2).bind fun q=>
    if chr s q.1=41 then some (q.1+1,q.2++[⟨if chr s p.1=124 then 6 else 5,(p.2.length:Int) - 1,(q.2.length:Int) - 1⟩]) else none
   else none:=by rw[oneP,if_neg (by omega),if_neg (by omega),if_neg (by omega),if_neg (by omega),if_pos h]
theorem xz (h1:chr s i≠42) (h2:chr s i≠35) (h3:chr s i≠91) (h4:chr s i≠33) (h5:chr s i≠40):oneP s (f+1) i ns=none:=by rw[oneP,if_neg h1,if_neg h2,if_neg h3,if_neg h4,if_neg h5]
theorem nT {j v:Nat} (h:fD s i=some (j,v)):i < j∧j≤s.size∧v < 100:=by
 unfold fD at h;split at h
 ·cases h
 ·rename_i h0;have d0:iP (chr s i)=true:=by cases hq:iP (chr s i) <;> simp_all
  have l0:=qO d0;have e0:=jY.1 d0;split at h
  ·simp only[Option.some.injEq,Prod.mk.injEq] at h;omega
  ·rename_i h1;have d1:iP (chr s (i+1))=true:=by cases hq:iP (chr s (i+1)) <;> simp_all
   have l1:=qO d1;have e1:=jY.1 d1;split at h
   ·cases h
   ·simp only[Option.some.injEq,Prod.mk.injEq] at h;omega
theorem jT: ∀ {f i:Nat} {ns zh:cH} {j:Nat},oneP s f i ns=some (j,zh)→i < j∧j≤s.size∧ns.length < zh.length∧zh.length+i≤ns.length+j
 | 0,_,_,_,_,h=>by simp[oneP] at h
 | f+1,i,ns,zh,j,h=>by
  by_cases c1:chr s i=42
  ·rw[xA c1] at h;simp only[Option.some.injEq,Prod.mk.injEq] at h;obtain⟨rfl,rfl⟩:=h;have:=jd (s:=s) (i:=i) (by omega);simp;omega
  by_cases c2:chr s i=35
  ·rw[uf c2] at h;cases hn:fD s (i+1) with
   | none=>simp [hn] at h
   | some p=>
    obtain⟨k,v⟩:=p;have:=nT hn;simp only[hn,Option.bind_some,Option.some.injEq,Prod.mk.injEq] at h;obtain⟨rfl,rfl⟩:=h;simp;omega
  by_cases c3:chr s i=91
  ·rw[pn c3] at h;cases hn:fD s (i+1) with
   | none=>simp [hn] at h
   | some p=>
    obtain⟨k,v⟩:=p;have:=nT hn;simp only[hn,Option.bind_some] at h;split at h
    ·cases hm:fD s (k+1) with
     | none=>simp [hm] at h
     | some q=>
      obtain⟨l,u⟩:=q;have:=nT hm;simp only[hm,Option.bind_some] at h;split at h
      ·rename_i c;have:=jd (s:=s) (i:=l) (by omega);simp only[Option.some.injEq,Prod.mk.injEq] at h;obtain⟨rfl,rfl⟩:=h;simp;omega
      ·cases h
    ·cases h
  by_cases c4:chr s i=33
  ·rw[ug c4] at h;cases hn:oneP s f (i+1) ns with
   | none=>simp [hn] at h
   | some p=>
    obtain⟨k,l⟩:=p;have:=jT hn;simp only[hn,Option.bind_some,Option.some.injEq,Prod.mk.injEq] at h;obtain⟨rfl,rfl⟩:=h;simp;omega
  by_cases c5:chr s i=40
  ·rw[jB c5] at h;cases hn:oneP s f (i+1) ns with
   | none=>simp [hn] at h
   | some p=>
    obtain⟨k,l⟩:=p;have:=jT hn;simp only[hn,Option.bind_some] at h;split at h
    ·cases hm:oneP s f (k+1) l with
     | none=>simp [hm] at h
     | some q=>
      obtain⟨k2,l2⟩:=q;have:=jT hm;simp only[hm,Option.bind_some] at h;split at h
      ·rename_i c;have:=jd (s:=s) (i:=k2) (by omega);simp only[Option.some.injEq,Prod.mk.injEq] at h;obtain⟨rfl,rfl⟩:=h;simp;omega
      ·cases h
    ·cases h
  ·rw[xz c1 c2 c3 c4 c5] at h;cases h
def afB (R:Nat) (s:ByteArray) (nv:Value) (w:World) (e:Ending) (w':World):Option (Nat×cH)→Prop
 | some p=>e= .returned (.int .i64 ((p.2.length:Int) - 1))∧ ∃A7,ic w' R s p.1 A7 p.2∧Kp R nv A7 w w'
 | none=>e=sw∧ ∃A7,Kp R nv A7 w w'
theorem Kp.block {R N:Nat} {v v':Value} {w w':World} {o:Obj} (h:Kp R v v' w w') (hN:w.heap[N]? =some o) (hR:N≠R) (hv:v.ownBlock≠some N):w'.heap[N]? =some o:=by
 refine(h.keep N ?_ hR hv).trans hN;by_cases hl:N < w.heap.size
 ·exact hl
 ·rw[Array.getElem?_eq_none (by omega)] at hN;cases hN
theorem Kp.far {R N j:Nat} {v v' u:Value} {w w':World} (h:Kp R v v' w w') (hN:w.heap.size≤N):Kp R v v' w (w'.setCell ⟨N,j,none⟩ u):=
 ⟨h.os,h.tape,h.output,by simpa[World.setCell] using h.size,fun k hk hR hv=>(cO (by omega)).trans (h.keep k hk hR hv),h.loc⟩
theorem ic.far {w:World} {R N j:Nat} {s:ByteArray} {i:Nat} {nv u:Value} {ns:cH} (h:ic w R s i nv ns) (hR:N≠R) (hv:nv.ownBlock≠some N):ic (w.setCell ⟨N,j,none⟩ u) R s i nv ns:=
 ⟨(cO (Ne.symm hR)).trans h.blk,u6 h.own fun k hk=>cO fun e=>hv (by rw[hk,e])⟩
theorem Gl.kp {w w':World} {R i:Nat} {nv A7:Value} {ns:cH} {s:ByteArray} (h:Gl w R) (hr:ic w R s i nv ns) (hk:Kp R nv A7 w w'):Gl w' R:=
 h.below (hk.toBelow (fun q hq=>(hr.row q hq).1) (Nat.le_refl _) hr.lt)
theorem Gl.far {w:World} {R N j:Nat} {u:Value} (h:Gl w R) (hN:R≤N):Gl (w.setCell ⟨N,j,none⟩ u) R:=by
 obtain⟨e1,h1,k1⟩:=h.syn;obtain⟨e2,h2,k2⟩:=h.ran;have:=h.Je;have:=h.Jf;exact⟨⟨e1,(World.cell?_of_block (cO (by simp only[];omega))).trans h1,k1⟩,⟨e2,(World.cell?_of_block (cO (by simp only[];omega))).trans h2,k2⟩,h.Je,h.Jf⟩
theorem YA (R:Nat) (s:ByteArray) (hsz:s.size≤400): ∀(f i:Nat) (nv:Value) (ns:cH) (w:World),ic w R s i nv ns→Gl w R→i≤s.size→s.size - i < f→ns.length≤i→
  Calls Tryz.prog 19 #[.pointer (some ⟨R,0,none⟩)] w fun e w'=>afB R s nv w e w' (oneP s f i ns):=by
 intro f;induction f with
 | zero=>intro i nv ns w _ _ _ h _;exact absurd h (by omega)
 | succ f ih=>
  intro i nv ns w h hg hi hf hn;have IH:=jD ih;clear ih;go_enter Tryz.func19,Tryz.ntmps19;have HR:=jD h;have HG:=jD hg;clear h hg;go_wp2_with fail
  refine(wE R s i 42 nv ns _ (by decide) HR.o hsz).mono ?_;rintro e w1 ⟨h1,h2,k1⟩;by_cases c1:chr s i=42
  ·obtain⟨rfl,r1⟩:=h1 c1;have qI:=jD r1;have dQ:=jD k1;clear h1 h2 r1 k1;go_wp2_with fail
   refine(add_c R s (i+1) nv ns ⟨1,0,0⟩ _ qI.o (by omega)).mono ?_;rintro e w2 ⟨rfl,nv2,r2,k2⟩;have uK:=jD r2;have cS:=jD k2;clear r2 k2;go_wp2;go_ret;rw[xA c1];exact⟨bw (by simp),_,uK.o,dQ.o.trans cS.o⟩
  obtain⟨rfl,r1⟩:=h2 c1;have qI:=jD r1;have dQ:=jD k1;have dL:=jD (HG.o.kp HR.o k1);clear h1 h2 r1 k1 HR HG;go_wp2_with fail
  refine(wE R s i 35 nv ns _ (by decide) qI.o hsz).mono ?_;rintro e w2 ⟨h1,h2,k1⟩;by_cases c2:chr s i=35
  ·obtain⟨rfl,r1⟩:=h1 c2;have uK:=jD r1;have cS:=jD (dQ.o.trans k1);have HG2:=jD (dL.o.kp qI.o k1);clear h1 h2 r1 k1;go_wp2_with fail
   refine(B6 R s (i+1) nv ns _ uK.o HG2.o hsz (by have:=jd (s:=s) (i:=(i+1) - 1) (by first | omega | (rw[Nat.add_sub_cancel];omega));omega)).mono ?_;rintro e w3 ⟨h1,h2,k1⟩;cases hna:fD s (i+1) with
   | none=>
    have hk:=jD (cS.o.trans k1);obtain rfl:=h2 hna;clear h1 h2 k1;unfold sw;go_wp2;refine⟨rfl, ?_⟩;rw[uf c2,hna];exact⟨rfl,_,hk.o⟩
   | some pa=>
    obtain⟨ka,va⟩:=pa;have hba:=nT hna;obtain⟨rfl,r1⟩:=h1 ka va hna;have sH:=jD r1;have kX:=jD (cS.o.trans k1);have kZ:=jD (HG2.o.kp uK.o k1);clear h1 h2 r1 k1;go_wp2_with fail
    refine(add_c R s ka nv ns ⟨2,va,0⟩ _ sH.o (by omega)).mono ?_;rintro e wz ⟨rfl,Ve,rz,kz⟩;have DY:=jD rz;have Ec:=jD (kX.o.trans kz);clear rz kz;go_wp2;go_ret;rw[uf c2,hna];exact⟨bw (by simp),_,DY.o,Ec.o⟩
  obtain⟨rfl,r1⟩:=h2 c2;have uK:=jD r1;have cS:=jD (dQ.o.trans k1);have HG2:=jD (dL.o.kp qI.o k1);clear h1 h2 r1 k1;go_wp2_with fail
  refine(wE R s i 91 nv ns _ (by decide) uK.o hsz).mono ?_;rintro e w3 ⟨h1,h2,k1⟩;by_cases c3:chr s i=91
  ·obtain⟨rfl,r1⟩:=h1 c3;have sH:=jD r1;have kX:=jD (cS.o.trans k1);have kZ:=jD (HG2.o.kp uK.o k1);clear h1 h2 r1 k1;go_wp2_with fail
   refine(B6 R s (i+1) nv ns _ sH.o kZ.o hsz (by have:=jd (s:=s) (i:=(i+1) - 1) (by first | omega | (rw[Nat.add_sub_cancel];omega));omega)).mono ?_;rintro e w4 ⟨h1,h2,k1⟩;cases hna:fD s (i+1) with
   | none=>
    have hk:=jD (kX.o.trans k1);obtain rfl:=h2 hna;clear h1 h2 k1;unfold sw;go_wp2;refine⟨rfl, ?_⟩;rw[pn c3,hna];exact⟨rfl,_,hk.o⟩
   | some pa=>
    obtain⟨ka,va⟩:=pa;have hba:=nT hna;obtain⟨rfl,r1⟩:=h1 ka va hna;have mV:=jD r1;have lJ:=jD (kX.o.trans k1);have tF:=jD (kZ.o.kp sH.o k1);clear h1 h2 r1 k1;go_wp2_with fail
    refine(wH R s ka 44 nv ns _ (by decide) mV.o hsz).mono ?_;rintro e w5 ⟨h1,h2,k1⟩;by_cases d1:chr s ka=44;rotate_left
    ·have hk:=jD (lJ.o.trans k1);obtain rfl:=h2 d1;clear h1 h2 k1;unfold sw;go_wp2;refine⟨rfl, ?_⟩;rw[pn c3,hna,Option.bind_some,if_neg d1];exact⟨rfl,_,hk.o⟩
    obtain⟨rfl,r1⟩:=h1 d1;have mF:=jD r1;have vT:=jD (lJ.o.trans k1);have uO:=jD (tF.o.kp mV.o k1);clear h1 h2 r1 k1;go_wp2_with fail
    refine(B6 R s (ka+1) nv ns _ mF.o uO.o hsz (by have:=jd (s:=s) (i:=(ka+1) - 1) (by first | omega | (rw[Nat.add_sub_cancel];omega));omega)).mono ?_;rintro e w6 ⟨h1,h2,k1⟩;cases hnb:fD s (ka+1) with
    | none=>
     have hk:=jD (vT.o.trans k1);obtain rfl:=h2 hnb;clear h1 h2 k1;unfold sw;go_wp2;refine⟨rfl, ?_⟩;rw[pn c3,hna,Option.bind_some,if_pos d1,hnb];exact⟨rfl,_,hk.o⟩
    | some pb=>
     obtain⟨kb,vb⟩:=pb;have hbb:=nT hnb;obtain⟨rfl,r1⟩:=h1 kb vb hnb;have MC:=jD r1;have Ed:=jD (vT.o.trans k1);have Bq:=jD (uO.o.kp mF.o k1);clear h1 h2 r1 k1;go_wp2_with fail
     refine(wH R s kb 41 nv ns _ (by decide) MC.o hsz).mono ?_;rintro e w7 ⟨h1,h2,k1⟩;by_cases d2:chr s kb=41;rotate_left
     ·have hk:=jD (Ed.o.trans k1);obtain rfl:=h2 d2;clear h1 h2 k1;unfold sw;go_wp2;refine⟨rfl, ?_⟩;rw[pn c3,hna,Option.bind_some,if_pos d1,hnb,Option.bind_some,if_neg d2];exact⟨rfl,_,hk.o⟩
     obtain⟨rfl,r1⟩:=h1 d2;have Ru:=jD r1;have Wc:=jD (Ed.o.trans k1);have RP:=jD (Bq.o.kp MC.o k1);clear h1 h2 r1 k1;go_wp2_with fail
     refine(add_c R s (kb+1) nv ns ⟨3,va,vb⟩ _ Ru.o (by omega)).mono ?_;rintro e wz ⟨rfl,Ve,rz,kz⟩;have DY:=jD rz;have Ec:=jD (Wc.o.trans kz);clear rz kz;go_wp2;go_ret;rw[pn c3,hna,Option.bind_some,if_pos d1,hnb,Option.bind_some,if_pos d2];exact⟨bw (by simp),_,DY.o,Ec.o⟩
  obtain⟨rfl,r1⟩:=h2 c3;have sH:=jD r1;have kX:=jD (cS.o.trans k1);have kZ:=jD (HG2.o.kp uK.o k1);clear h1 h2 r1 k1;go_wp2_with fail
  refine(wE R s i 33 nv ns _ (by decide) sH.o hsz).mono ?_;rintro e w4 ⟨h1,h2,k1⟩;by_cases c4:chr s i=33
  ·obtain⟨rfl,r1⟩:=h1 c4;have mV:=jD r1;have lJ:=jD (kX.o.trans k1);have tF:=jD (kZ.o.kp sH.o k1);clear h1 h2 r1 k1;go_wp2_with fail
   refine(IH.o (i+1) nv ns _ mV.o tF.o (by have:=jd (s:=s) (i:=i) (by omega);omega) (by have:=jd (s:=s) (i:=i) (by omega);omega) (by omega)).mono ?_;rintro e w5 h1;cases rW:oneP s f (i+1) ns with
   | none=>
    rw[rW] at h1;obtain⟨rfl,YF,k1⟩:=h1;have hk:=jD (lJ.o.trans k1);clear k1;unfold sw;go_wp2;refine⟨rfl, ?_⟩;rw[ug c4,rW];exact⟨rfl,_,hk.o⟩
   | some pa=>
    obtain⟨ka,la⟩:=pa;have hba:=jT rW;rw[rW] at h1;obtain⟨rfl,I9,r1,k1⟩:=h1;have mF:=jD r1;have vT:=jD (lJ.o.trans k1);have uO:=jD (tF.o.kp mV.o k1);clear r1 k1;go_wp2_with fail
    refine(add_c R s ka I9 la ⟨4,(la.length:Int) - 1,0⟩ _ mF.o (by omega)).mono ?_;rintro e wz ⟨rfl,Ve,rz,kz⟩;have DY:=jD rz;have Ec:=jD (vT.o.trans kz);clear rz kz;go_wp2;go_ret;rw[ug c4,rW];exact⟨bw (by simp),_,DY.o,Ec.o⟩
  obtain⟨rfl,r1⟩:=h2 c4;have mV:=jD r1;have lJ:=jD (kX.o.trans k1);have tF:=jD (kZ.o.kp sH.o k1);clear h1 h2 r1 k1;go_wp2_with fail
  refine(wH R s i 40 nv ns _ (by decide) mV.o hsz).mono ?_;rintro e w5 ⟨h1,h2,k1⟩;by_cases c5:chr s i=40;rotate_left
  ·have hk:=jD (lJ.o.trans k1);obtain rfl:=h2 c5;clear h1 h2 k1;unfold sw;go_wp2;refine⟨rfl, ?_⟩;rw[xz c1 c2 c3 c4 c5];exact⟨rfl,_,hk.o⟩
  obtain⟨rfl,r1⟩:=h1 c5;have mF:=jD r1;have vT:=jD (lJ.o.trans k1);have uO:=jD (tF.o.kp mV.o k1);clear h1 h2 r1 k1;go_wp2_with fail
  refine(IH.o (i+1) nv ns _ mF.o uO.o (by have:=jd (s:=s) (i:=i) (by omega);omega) (by have:=jd (s:=s) (i:=i) (by omega);omega) (by omega)).mono ?_;rintro e w6 h1;cases rW:oneP s f (i+1) ns with
  | none=>
   rw[rW] at h1;obtain⟨rfl,YF,k1⟩:=h1;have hk:=jD (vT.o.trans k1);clear k1;unfold sw;go_wp2;refine⟨rfl, ?_⟩;rw[jB c5,rW];exact⟨rfl,_,hk.o⟩
  | some pa=>
   obtain⟨ka,la⟩:=pa;have hba:=jT rW;rw[rW] at h1;obtain⟨rfl,I9,r1,k1⟩:=h1;have MC:=jD r1;have Ed:=jD (vT.o.trans k1);have Bq:=jD (uO.o.kp mF.o k1);have KN:=jD (show I9.ownBlock≠some w6.heap.size from fun e=>absurd (r1.row _ e).2 (Nat.lt_irrefl _));have A8:w6.heap.size≠R:=by have:=r1.lt;omega
   have ZA:R≤w6.heap.size:=Nat.le_of_lt r1.lt;have YW:w.heap.size≤w6.heap.size:=Nat.le_trans vT.o.size k1.size;clear r1 k1;have Ru:=jD (MC.o.below (aG (Obj.cells #[Value.int IntKind.i64 5,Value.int IntKind.i64 ((la.length:Int) - 1),Value.int IntKind.i64 0] 80)));have Wc:=jD (Ed.o.trans (Kp.of_below (aG (Obj.cells #[Value.int IntKind.i64 5,Value.int IntKind.i64 ((la.length:Int) - 1),Value.int IntKind.i64 0] 80))));have RP:=jD (Bq.o.kp MC.o (Kp.of_below (aG (Obj.cells #[Value.int IntKind.i64 5,Value.int IntKind.i64 ((la.length:Int) - 1),Value.int IntKind.i64 0] 80))));have HB7:=jD (au w6 #[Value.int IntKind.i64 5,Value.int IntKind.i64 ((la.length:Int) - 1),Value.int IntKind.i64 0] 80 _ rfl);have hN7:w6.heap.size < (w6.alloc (Obj.cells #[Value.int IntKind.i64 5,Value.int IntKind.i64 ((la.length:Int) - 1),Value.int IntKind.i64 0] 80)).heap.size:=by simp
   clear MC Ed Bq;go_wp2_with fail
   refine(wE R s ka 124 I9 la _ (by decide) Ru.o hsz).mono ?_;rintro e w8 ⟨h1,h2,k1⟩;by_cases d1:chr s ka=124
   ·obtain⟨rfl,r1⟩:=h1 d1;have Rt:=jD r1;have RJ:=jD (Wc.o.trans k1);have Wh:=jD (RP.o.kp Ru.o k1);have ZB:=Nat.lt_of_lt_of_le hN7 k1.size;have yC:=jD (k1.block HB7.o A8 KN.o);clear h1 h2 r1 k1;have x0:=cq 0 yC.o rfl;have z0:=fq 0 yC.o;have yx:=jD (Rt.o.far (j:=0) (u:= .int .i64 6) A8 KN.o);have RI:=jD (RJ.o.far (j:=0) (u:= .int .i64 6) YW);have Ah:=jD (Wh.o.far (j:=0) (u:= .int .i64 6) ZA);have uP:=jD (ki (j:=0) (v:= .int .i64 6) yC.o);have tj:w6.heap.size < (w8.setCell ⟨w6.heap.size,0,none⟩ (.int .i64 6)).heap.size:=by simpa[World.setCell] using ZB
    clear yC Rt RJ Wh;go_wp2_with fail
    refine(IH.o (ka+1) I9 la _ yx.o Ah.o (by have:=jd (s:=s) (i:=ka) (by omega);omega) (by have:=jd (s:=s) (i:=ka) (by omega);omega) (by omega)).mono ?_;rintro e wb h1;cases wN:oneP s f (ka+1) la with
    | none=>
     rw[wN] at h1;obtain⟨rfl,YF,k1⟩:=h1;have hk:=jD (RI.o.trans k1);clear k1;unfold sw;go_wp2;refine⟨rfl, ?_⟩;rw[jB c5,rW,Option.bind_some,if_pos (.inl d1),wN];exact⟨rfl,_,hk.o⟩
    | some pb=>
     obtain⟨kb,lb⟩:=pb;have hbb:=jT wN;rw[wN] at h1;obtain⟨rfl,I8,r1,k1⟩:=h1;have Ro:=jD r1;have RH:=jD (RI.o.trans k1);have RN:=jD (Ah.o.kp yx.o k1);have Ef:=jD (k1.block uP.o A8 KN.o);have hNb:=Nat.lt_of_lt_of_le tj k1.size;have Rb:=jD (show I8.ownBlock≠some w6.heap.size from by
      rcases k1.loc with e | ⟨g,e,hg⟩
      ·rw[e];exact KN.o
      ·rw[e];intro e2;injection e2 with e2;omega)
     clear r1 k1;have x2:=cq 2 Ef.o rfl;have z2:=fq 2 Ef.o;have Kv:=jD (Ro.o.far (j:=2) (u:= .int .i64 ((lb.length:Int) - 1)) A8 Rb.o);have KF:=jD (RH.o.far (j:=2) (u:= .int .i64 ((lb.length:Int) - 1)) YW);have UM:=jD (RN.o.far (j:=2) (u:= .int .i64 ((lb.length:Int) - 1)) ZA);have x7:=jD (ki (j:=2) (v:= .int .i64 ((lb.length:Int) - 1)) Ef.o);clear Ef Ro RH RN;go_wp2_with fail
     refine(wH R s kb 41 I8 lb _ (by decide) Kv.o hsz).mono ?_;rintro e w21 ⟨h1,h2,k1⟩;by_cases d3:chr s kb=41;rotate_left
     ·have hk:=jD (KF.o.trans k1);obtain rfl:=h2 d3;clear h1 h2 k1;unfold sw;go_wp2;refine⟨rfl, ?_⟩;rw[jB c5,rW,Option.bind_some,if_pos (.inl d1),wN,Option.bind_some,if_neg d3];exact⟨rfl,_,hk.o⟩
     obtain⟨rfl,r1⟩:=h1 d3;have UI:=jD r1;have UL:=jD (KF.o.trans k1);have afP:=jD (UM.o.kp Kv.o k1);have rC:=jD (k1.block x7.o A8 Rb.o);clear h1 h2 r1 k1;clear x2 z2;have x0:=cq 0 rC.o rfl;have x1:=cq 1 rC.o rfl;have x2:=cq 2 rC.o rfl;go_wp2_with fail
     refine(add_c R s (kb+1) I8 lb ⟨6,(la.length:Int) - 1,(lb.length:Int) - 1⟩ _ UI.o (by omega)).mono ?_;rintro e wz ⟨rfl,Ve,rz,kz⟩;have DY:=jD rz;have Ec:=jD (UL.o.trans kz);clear rz kz;go_wp2;go_ret;rw[jB c5,rW,Option.bind_some,if_pos (.inl d1),wN,Option.bind_some,if_pos d3,if_pos d1];exact⟨bw (by simp),_,DY.o,Ec.o⟩
   obtain⟨rfl,r1⟩:=h2 d1;have Rt:=jD r1;have RJ:=jD (Wc.o.trans k1);have Wh:=jD (RP.o.kp Ru.o k1);have ZB:=Nat.lt_of_lt_of_le hN7 k1.size;have yC:=jD (k1.block HB7.o A8 KN.o);clear h1 h2 r1 k1;go_wp2_with fail
   refine(wH R s ka 38 I9 la _ (by decide) Rt.o hsz).mono ?_;rintro e w9 ⟨h1,h2,k1⟩;by_cases d2:chr s ka=38;rotate_left
   ·have hk:=jD (RJ.o.trans k1);obtain rfl:=h2 d2;clear h1 h2 k1;unfold sw;go_wp2;refine⟨rfl, ?_⟩;rw[jB c5,rW,Option.bind_some,if_neg (by rintro(e | e);exact d1 e;exact d2 e)];exact⟨rfl,_,hk.o⟩
   obtain⟨rfl,r1⟩:=h1 d2;have yx:=jD r1;have RI:=jD (RJ.o.trans k1);have Ah:=jD (Wh.o.kp Rt.o k1);have tj:=Nat.lt_of_lt_of_le ZB k1.size;have uP:=jD (k1.block yC.o A8 KN.o);clear h1 h2 r1 k1;go_wp2_with fail
   refine(IH.o (ka+1) I9 la _ yx.o Ah.o (by have:=jd (s:=s) (i:=ka) (by omega);omega) (by have:=jd (s:=s) (i:=ka) (by omega);omega) (by omega)).mono ?_;rintro e wb h1;cases wN:oneP s f (ka+1) la with
   | none=>
    rw[wN] at h1;obtain⟨rfl,YF,k1⟩:=h1;have hk:=jD (RI.o.trans k1);clear k1;unfold sw;go_wp2;refine⟨rfl, ?_⟩;rw[jB c5,rW,Option.bind_some,if_pos (.inr d2),wN];exact⟨rfl,_,hk.o⟩
   | some pb=>
    obtain⟨kb,lb⟩:=pb;have hbb:=jT wN;rw[wN] at h1;obtain⟨rfl,I8,r1,k1⟩:=h1;have Ro:=jD r1;have RH:=jD (RI.o.trans k1);have RN:=jD (Ah.o.kp yx.o k1);have Ef:=jD (k1.block uP.o A8 KN.o);have hNb:=Nat.lt_of_lt_of_le tj k1.size;have Rb:=jD (show I8.ownBlock≠some w6.heap.size from by
     rcases k1.loc with e | ⟨g,e,hg⟩
     ·rw[e];exact KN.o
     ·rw[e];intro e2;injection e2 with e2;omega)
    clear r1 k1;have x2:=cq 2 Ef.o rfl;have z2:=fq 2 Ef.o;have Kv:=jD (Ro.o.far (j:=2) (u:= .int .i64 ((lb.length:Int) - 1)) A8 Rb.o);have KF:=jD (RH.o.far (j:=2) (u:= .int .i64 ((lb.length:Int) - 1)) YW);have UM:=jD (RN.o.far (j:=2) (u:= .int .i64 ((lb.length:Int) - 1)) ZA);have x7:=jD (ki (j:=2) (v:= .int .i64 ((lb.length:Int) - 1)) Ef.o);clear Ef Ro RH RN;go_wp2_with fail
    refine(wH R s kb 41 I8 lb _ (by decide) Kv.o hsz).mono ?_;rintro e w21 ⟨h1,h2,k1⟩;by_cases d3:chr s kb=41;rotate_left
    ·have hk:=jD (KF.o.trans k1);obtain rfl:=h2 d3;clear h1 h2 k1;unfold sw;go_wp2;refine⟨rfl, ?_⟩;rw[jB c5,rW,Option.bind_some,if_pos (.inr d2),wN,Option.bind_some,if_neg d3];exact⟨rfl,_,hk.o⟩
    obtain⟨rfl,r1⟩:=h1 d3;have UI:=jD r1;have UL:=jD (KF.o.trans k1);have afP:=jD (UM.o.kp Kv.o k1);have rC:=jD (k1.block x7.o A8 Rb.o);clear h1 h2 r1 k1;clear x2 z2;have x0:=cq 0 rC.o rfl;have x1:=cq 1 rC.o rfl;have x2:=cq 2 rC.o rfl;go_wp2_with fail
    refine(add_c R s (kb+1) I8 lb ⟨5,(la.length:Int) - 1,(lb.length:Int) - 1⟩ _ UI.o (by omega)).mono ?_;rintro e wz ⟨rfl,Ve,rz,kz⟩;have DY:=jD rz;have Ec:=jD (UL.o.trans kz);clear rz kz;go_wp2;go_ret;rw[jB c5,rW,Option.bind_some,if_pos (.inr d2),wN,Option.bind_some,if_pos d3,if_neg d1];exact⟨bw (by simp),_,DY.o,Ec.o⟩
end Go.Proofs.YtajgndoiddmbmaaGreatDoor
