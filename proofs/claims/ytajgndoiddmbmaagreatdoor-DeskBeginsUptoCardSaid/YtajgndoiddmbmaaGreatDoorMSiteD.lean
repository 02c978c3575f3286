/- Towards what desk.Run answers. -/
import Derived.Test.YtajgndoiddmbmaaGreatDoorMSiteC
namespace Go.Proofs.YtajgndoiddmbmaaGreatDoor
set_option maxRecDepth 100000
set_option maxHeartbeats 40000000
open Go.RowKit
structure acP (L V W R:List aA):Prop where
 ok:nK R
 mem: ∀x,x∈R↔(x∈L∨x∈V)∧(∀b∈L,cW b x=false)∧(∀b∈V,cW b x=false)∧ ∀b∈W,cW b x=false
theorem Lv {r:aL} (h:dV r) {st sm:Int} {p q:Nat→Nat→Bool} {A:List SP} (hpq: ∀t n,t < 16→n < 32→p t n=q t n):oO r st sm p A=oO r st sm q A:=by
 have hin: ∀v∈r.L,rV p v=rV q v:=fun v hv=>by
  obtain⟨h1,h2,h3,h4⟩:=yX (h.L.ok v hv).pt;exact hpq _ _ (by omega) (by omega)
 unfold oO;congr 1
 ·unfold iQ;exact List.filter_congr fun v hv=>by rw[hin v hv]
 ·unfold jJ;congr 1;exact List.filter_congr fun v hv=>by rw[hin v hv]
 ·exact Ja h.known hpq
def U6 (s r:aL):jP:=oO r s.me s.stamp s.P (bT s)
theorem Xy {g:Gn} (h:cZ g=0):g.past.vec.length≤5∧g.past.more.length≤60:=by
 unfold cZ at h;cases hi:gI g.id
 ·rw[if_pos hi] at h;exact absurd h (by decide)
 ·rw[if_neg (by rw[hi];decide)] at h;exact⟨(di.1 h).1.len,(di.1 h).2⟩
def sM (w:World) (lo:Nat) (v:Value):Prop:= ∃q,v= .pointer (some ⟨q,0,none⟩)∧w.heap[q]? =some (Obj.cells #[.int .i64 0, .int .i64 0] 103 (0,0))∧lo≤q
theorem sM.below {w w':World} {lo:Nat} {v:Value} (h:sM w lo v) (hb:Below w.heap.size w w'):sM w' lo v:=by
 obtain⟨q,h1,h2,h3⟩:=h;exact ⟨q,h1,ag hb h2,h3⟩
def Ip (w:World) (lo:Nat) (x y:Int) (v:Value):Prop:= ∃q,v= .pointer (some ⟨q,0,none⟩)∧w.heap[q]? =some (Obj.cells #[.int .i64 x, .int .i64 y] 103 (0,0))∧lo≤q
theorem Ip.below {w w':World} {lo:Nat} {x y:Int} {v:Value} (h:Ip w lo x y v) (hb:Below w.heap.size w w'):Ip w' lo x y v:=by
 obtain⟨q,h1,h2,h3⟩:=h;exact ⟨q,h1,ag hb h2,h3⟩
theorem bz.mono {w:World} {b b' g:Nat} {s:aL} (h:bz w b g s) (hb:b'≤b):bz w b' g s:=by
 obtain⟨f,l,p,h1,h2,h3,h4⟩:=h.cells;exact⟨h.ok,Nat.le_trans hb h.ge,f,l,p,h1,FO.mono h2 hb,bA.mono h3 hb,aY.mono h4 hb⟩
structure Synced (s r s':aL):Prop where
 e:iz s (U6 s r)=0
 eq:s'=mM s (U6 s r)
 me:s'.me=s.me
 made:s'.made=s.made
 stamp:s'.stamp=s.stamp
 P:s'.P=s.P
 S:s'.S=dP (s.S++VG r s.P)
 L:acP s.L (iQ r.L s.P (bT s)) (r.L.filter fun v=> !rV s.P v) s'.L
theorem WH {wz:World} {b g:Nat} {s:aL} {bt:jP} {base vc gc pc:Nat} {va ga pa:Option Addr} (h:bz wz b g s) (lF:vV bt) (ho:mh wz base (.slice va bt.V.length vc) (.slice ga bt.G.length gc) (.slice pa bt.S.length pc) bt):
  Calls Tryz.prog 97 #[.pointer (some ⟨g,0,none⟩), .agg #[.int .i64 bt.site, .int .i64 bt.stamp, .slice va bt.V.length vc, .slice ga bt.G.length gc, .slice pa bt.S.length pc]] wz (xV wz b g s bt):=by
 obtain⟨PP,Mg,hP2,hP3⟩:=ho.parts;have hPl:PP.length≤30:=by have:=lF.ls;rw [←hP3,List.length_map] at this;exact this
 exact stake_c g b s bt PP _ _ _ wz h lF (ho.mK.at_ (ij lF.V) (by have:=lF.lv;omega)) (fM.at_ ho.gone (fun z hz=>Xy (lF.G z hz)) (by have:=lF.lg;omega)) (Mg.at_ (fun z hz=>(hP2 z hz).1) (by omega)) (fun z hz=>(hP2 z hz).1) hP3
def wantL (L:List aA) (p:Nat→Nat→Bool):List aA:=L.filter (rV p)
end Go.Proofs.YtajgndoiddmbmaaGreatDoor
