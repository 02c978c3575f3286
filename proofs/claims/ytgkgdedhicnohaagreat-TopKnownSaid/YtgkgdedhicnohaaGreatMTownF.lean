/- The filters that the laws on towns take: those of the arguments that may be, and enough that want everything. What follows from a town's play: each site keeps its own, knows what it has, has what some site made. No walk here. -/
import Derived.Test.YtgkgdedhicnohaaGreatMTown1
import Derived.Deep.CutBlock
import Derived.Test.YtgkgdedhicnohaaGreatChecked
import Derived.Laws.Bits64b
import Derived.Deep.QuietTactic
import Derived.BigQuiet
namespace Go.Proofs.YtgkgdedhicnohaaGreat
set_option maxRecDepth 100000
set_option maxHeartbeats 40000000
open Go.RowKit
theorem FsTy.info:(Tryz.prog.info? 33).map (fun i=>(i.zero,i.size,i.bytes))=some (some (.slice none 0 0),1,24):=rfl
def FEl (w wr:World) (v:Value) (F:Bxs):Prop:=fChk F=0∧(∃a c,v= .slice a F.length c)∧(BxsAt w v F∨FOwn wr w.heap.size v F)
theorem FEl.tk {w wr w2:World} {v:Value} {F:Bxs} (h:FEl w wr v F) (hk:TKeep (fun t=>t != 33) wr w2):FEl w w2 v F:=
 ⟨h.1,h.2.1,h.2.2.imp (fun h=>h) fun h=>FOwn.tk h hk (by decide) (by decide)⟩
theorem FEl.at_ {w wr:World} {v:Value} {F:Bxs} (h:FEl w wr v F) (hb:Below w.heap.size w wr):BxsAt wr v F:=h.2.2.elim (fun h=>h.below hb) fun h2=>FOwn.at_ok h2 h.1
structure FlSt (w wr:World) (ov:Value) (R:List Bxs):Prop where
 bel:Below w.heap.size w wr
 at_: ∃vs:List Value,wr.ownsRow w.heap.size 33 1 ov R.length vs∧vs.length=R.length∧ ∀i (h:i < vs.length) (h2:i < R.length),FEl w wr vs[i] R[i]
theorem FlSt.below {w wr w2:World} {ov:Value} {R:List Bxs} (h:FlSt w wr ov R) (hb:Below wr.heap.size wr w2):FlSt w w2 ov R:=by
 obtain⟨h1,vs,h2,h3,h4⟩:=h
 exact⟨bstep h1 hb,vs,owns_below h2 hb,h3,fun i a b=>(h4 i a b).tk (TKeep.of_below hb)⟩
theorem FlSt.push {w wr w4 w9:World} {ov v' x:Value} {R:List Bxs} {F:Bxs} {vs:List Value} {zc:Array Value} (hb:Below w.heap.size w wr) (hb4:Below wr.heap.size wr w4) (h2:wr.ownsRow w.heap.size 33 1 ov R.length vs) (h3:vs.length=R.length) (h4: ∀i (h:i < vs.length) (h2:i < R.length),FEl w wr vs[i] R[i])
  (hx:FEl w wr x F) (A:AppO w4 w9 w.heap.size 33 1 zc ov v' R.length 1 vs [x]):FlSt w w9 v' (R++[F]):=by
 have hr4:=owns_below h2 hb4
 have hk:TKeep (fun t=>t != 33) wr w9:=(TKeep.of_below hb4).trans (TKeep.of_app hr4 A.grown (by decide))
 refine⟨(bstep hb hb4).grown A.grown (by have:=hb.size;have:=hb4.size;omega) fun q hq=>(hr4.lt q hq).1,vs++[x],by rw[List.length_append,List.length_singleton];exact A.own,by simp[h3],fun i a b=> ?_⟩
 by_cases hi:i < R.length
 ·rw[List.getElem_append_left (by omega),List.getElem_append_left hi];exact (h4 i (by omega) hi).tk hk
 ·have:i=R.length:=by simp at b;omega
  subst this
  rw[List.getElem_append_right (by omega),List.getElem_append_right (by omega)]
  simp only[h3,Nat.sub_self,List.getElem_singleton]
  exact hx.tk hk
theorem FlSt.row {w wr:World} {ov:Value} {R:List Bxs} (h:FlSt w wr ov R) (hn:R.length≤1000):RowAt bxsE wr ov R∧ ∀F∈R,fChk F=0:=by
 obtain⟨h1,vs,h2,h3,h4⟩:=h
 refine⟨⟨vs.map fun v=>[v], ?_, ?_⟩,fun F hF=> ?_⟩
 ·clear h2
  induction R generalizing vs with
  | nil=>obtain rfl:vs=[]:=List.eq_nil_of_length_eq_zero (by simpa using h3);trivial
  | cons F R ih=>
   cases vs with
   | nil=>simp at h3
   | cons v vs=>
    refine⟨⟨v,rfl,(h4 0 (by simp) (by simp)).at_ h1⟩,ih (by simp at hn;omega) vs (by simpa using h3) fun i a b=> ?_⟩
    have:=h4 (i+1) (by simpa using a) (by simpa using b)
    simpa using this
 ·have e:(vs.map fun v=>[v]).flatten=vs:=by
   clear h2 h3 h4
   induction vs with
   | nil=>rfl
   | cons v vs ih=>rw [List.map_cons,List.flatten_cons,ih];rfl
  rw[e];exact CellsAt.of_owns h2 (by omega)
 ·obtain⟨i,hi,rfl⟩:=List.getElem_of_mem hF
  exact(h4 i (by omega) hi).1
def sliceLen:Value→Nat
 | .slice _ n _=>n
 | _=>0
def FltPost (w:World) (lo hi:Nat) (e:Ending) (w':World):Prop:= ∃(R:List Bxs) (a:Option Addr) (c:Nat),e= .returned (.slice a R.length c)∧RowAt bxsE w' (.slice a R.length c) R∧(∀F∈R,fChk F=0)∧lo≤R.length∧R.length≤hi∧Below w.heap.size w w'
theorem newT_I {l:List Bxs} (h:l.length≤5):TownI [] (newT l) 0:=by
 refine⟨newT_ok h,Hx.nil,by simp,by simp,fun i hi=> ?_,fun i hi=> ?_,fun x hx=>by simp[newT] at hx⟩
 ·have hi':i < (newL l).length:=hi
  show SiteI [] ((newL l)[i]'hi')
  rw[newL_get hi' (by rw[newL_len] at hi';exact hi')]
  exact siteI_new _ (by rw[newL_len] at hi';omega) _
 ·have hi':i < (newL l).length:=hi
  show((newL l)[i]'hi').stamp≤_
  rw[newL_get hi' (by rw[newL_len] at hi';exact hi')];exact Int.le_refl _
section
variable {wz wr:World} {b g k:Nat} {T:Nat→Prop} {H A:List Ver} {t:TownS} {ov:Value}
end
end Go.Proofs.YtgkgdedhicnohaaGreat
