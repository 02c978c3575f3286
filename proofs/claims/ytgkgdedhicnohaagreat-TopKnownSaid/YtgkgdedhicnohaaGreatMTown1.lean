/- How a town begins. What a town's Make does. Written by a small program (gen/town3.py). What a town's Bring does. Written by a small program (gen/town6.py). -/
import Derived.Test.YtgkgdedhicnohaaGreatMTown0
namespace Go.Proofs.YtgkgdedhicnohaaGreat
set_option maxRecDepth 100000
set_option maxHeartbeats 40000000
open Go.RowKit
def newL (l:List Bxs):List SiteS:=l.mapIdx fun i F=>newS i (ptsOf F)
theorem newL_snoc (l:List Bxs) (F:Bxs):newL (l++[F])=newL l++[newS l.length (ptsOf F)]:=by unfold newL;rw [List.mapIdx_concat]
theorem newL_len (l:List Bxs):(newL l).length=l.length:=by unfold newL;rw [List.length_mapIdx]
theorem newL_get {l:List Bxs} {i:Nat} (h:i < (newL l).length) (h2:i < l.length):(newL l)[i]=newS i (ptsOf l[i]):=List.getElem_mapIdx ..
def newT (l:List Bxs):TownS:=⟨newL l,[]⟩
theorem newT_ok {l:List Bxs} (h:l.length≤5):TownOk (newT l):=by
 refine⟨fun i hi=> ?_,by show(newL l).length≤5;rw [newL_len];exact h,fun l hl=>by simp[newT] at hl,by simp[newT]⟩
 have hi':i < (newL l).length:=hi
 show(newL l)[i].me=i
 rw[newL_get hi' (by rw[newL_len] at hi';exact hi')];rfl
theorem PtrTy.info:(Tryz.prog.info? 43).map (fun i=>(i.zero,i.size,i.bytes))=some (some (.pointer none),1,8):=rfl
theorem SitesAt.nil (w:World) (b:Nat):SitesAt w b [] []:=⟨rfl,List.nodup_nil,fun i h=>absurd h (by simp)⟩
theorem SitesAt.snoc {w:World} {b g:Nat} {gs:List Nat} {l:List SiteS} {s:SiteS} (h:SitesAt w b gs l) (hs:SiteAt w b g s) (hg:g∉gs):SitesAt w b (gs++[g]) (l++[s]):=by
 refine⟨by simp[h.len], ?_,fun i h1 h2=> ?_⟩
 ·rw[List.nodup_append]
  exact⟨h.nd,by simp,fun a ha b hb e=>by rw[List.mem_singleton] at hb;subst hb;subst e;exact hg ha⟩
 ·by_cases hi:i < gs.length
  ·rw[List.getElem_append_left hi,List.getElem_append_left (by have:=h.len;omega)]
   exact h.each i hi _
  ·have hi2:i=gs.length:=by simp at h1;omega
   subst hi2
   rw[List.getElem_append_right (by omega),List.getElem_append_right (by have:=h.len;omega)]
   simp only[Nat.sub_self,h.len,List.getElem_singleton]
   exact hs
def madeD (s:SiteS) (id:ByteArray) (a n bd:Int):Int×Int:=if madeE s id a n bd=0 then(s.me,s.made+1) else(0,0)
def GvT (w:World) (b:Nat) (bt:BtS) (v:Value):Prop:= ∃(a1:Option Addr) (c1:Nat) (a2:Option Addr) (c2:Nat) (a3:Option Addr) (c3:Nat),v= .tuple #[.agg #[.int .i64 bt.site, .int .i64 bt.stamp, .slice a1 bt.V.length c1, .slice a2 bt.G.length c2, .slice a3 bt.S.length c3], .int .i64 0]∧BtOwn w b (.slice a1 bt.V.length c1) (.slice a2 bt.G.length c2) (.slice a3 bt.S.length c3) bt
theorem set5 {w:World} {q:Nat} {x0 x1 x2 x3 x4 y0 y1 y2 y3 y4:Value} {t:TypeId} (h:w.heap[q]? =some (Obj.cells #[x0,x1,x2,x3,x4] t (0,0))) (ht:dataT t=false):
  (((((w.setCell ⟨q,0,none⟩ y0).setCell ⟨q,1,none⟩ y1).setCell ⟨q,2,none⟩ y2).setCell ⟨q,3,none⟩ y3).setCell ⟨q,4,none⟩ y4).heap[q]? =some (Obj.cells #[y0,y1,y2,y3,y4] t (0,0))∧Stp (fun k=>k=q) w (((((w.setCell ⟨q,0,none⟩ y0).setCell ⟨q,1,none⟩ y1).setCell ⟨q,2,none⟩ y2).setCell ⟨q,3,none⟩ y3).setCell ⟨q,4,none⟩ y4):=by
 have b0:=heap_set_same (j:=0) (v:=y0) h
 have b1:=heap_set_same (j:=1) (v:=y1) b0
 have b2:=heap_set_same (j:=2) (v:=y2) b1
 have b3:=heap_set_same (j:=3) (v:=y3) b2
 have b4:=heap_set_same (j:=4) (v:=y4) b3
 exact⟨by rw[b4];rfl,((((Stp.set h ht).trans (Stp.set b0 ht)).trans (Stp.set b1 ht)).trans (Stp.set b2 ht)).trans (Stp.set b3 ht)⟩
end Go.Proofs.YtgkgdedhicnohaaGreat
