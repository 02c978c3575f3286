/- What a town's Bring does. Written by a small program (gen/town6.py). -/
import Derived.Test.YtgkgdedhicnohaaGreatTown0
namespace Go.Proofs.YtgkgdedhicnohaaGreat
open Go.RowKit
def GvT (w:World) (b:Nat) (bt:BtS) (v:Value):Prop:= ∃(a1:Option Addr) (c1:Nat) (a2:Option Addr) (c2:Nat) (a3:Option Addr) (c3:Nat),v= .tuple #[.agg #[.int .i64 bt.site, .int .i64 bt.stamp, .slice a1 bt.V.length c1, .slice a2 bt.G.length c2, .slice a3 bt.S.length c3], .int .i64 0]∧BtOwn w b (.slice a1 bt.V.length c1) (.slice a2 bt.G.length c2) (.slice a3 bt.S.length c3) bt
theorem set5 {w:World} {q:Nat} {x0 x1 x2 x3 x4 y0 y1 y2 y3 y4:Value} {t:TypeId} (h:w.heap[q]? =some (Obj.cells #[x0,x1,x2,x3,x4] t (0,0))) (ht:dataT t=false):
  (((((w.setCell ⟨q,0,none⟩ y0).setCell ⟨q,1,none⟩ y1).setCell ⟨q,2,none⟩ y2).setCell ⟨q,3,none⟩ y3).setCell ⟨q,4,none⟩ y4).heap[q]? =some (Obj.cells #[y0,y1,y2,y3,y4] t (0,0))∧Stp (fun k=>k=q) w (((((w.setCell ⟨q,0,none⟩ y0).setCell ⟨q,1,none⟩ y1).setCell ⟨q,2,none⟩ y2).setCell ⟨q,3,none⟩ y3).setCell ⟨q,4,none⟩ y4):=by
 have b0:=heap_set_same (j:=0) (v:=y0) h
 have b1:=heap_set_same (j:=1) (v:=y1) b0
 have b2:=heap_set_same (j:=2) (v:=y2) b1
 have b3:=heap_set_same (j:=3) (v:=y3) b2
 have b4:=heap_set_same (j:=4) (v:=y4) b3
 exact⟨by rw[b4];rfl,((((Stp.set h ht).trans (Stp.set b0 ht)).trans (Stp.set b1 ht)).trans (Stp.set b2 ht)).trans (Stp.set b3 ht)⟩
end Go.Proofs.YtgkgdedhicnohaaGreat
