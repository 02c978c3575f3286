/- A town beside a map, beside a cell; what a map holds through steps; the row of two filters. No walk of the program here. -/
import Derived.Test.YtihpddhngbgcdaaGreatTownAl
import Derived.Test.YtihpddhngbgcdaaGreatMSiteD
import Derived.Test.YtihpddhngbgcdaaGreatTownSh
namespace Go.Proofs.YtihpddhngbgcdaaGreat
open Go.RowKit Go.Maps
theorem TownAt.beside {G:Nat→Prop} {w w':World} {b g:Nat} {T:Nat→Prop} {t:TownS} (h:TownAt w b T g t) (h0:t.way=[]) (hk: ∀q o,¬G q→w.heap[q]? =some o→w'.heap[q]? =some o) (hg: ¬G g)
  (hG: ∀q,G q→ ∀cs ty,w.heap[q]? =some (Obj.cells cs ty (0,0))→ty=41) (hS: ∀gi s,T gi→SiteAt w b gi s→SiteAt w' b gi s):TownAt w' b T g t:=by
 obtain⟨sv,wv,gs,css,V⟩:=h.at_
 have own: ∀ {base e size n:Nat} {v:Value} {xs:List Value},e≠41→w.ownsRow base e size v n xs→w'.ownsRow base e size v n xs:=by
  intro base e size n v xs he hr
  refine⟨hr.1, ?_⟩
  rcases hr.2 with h1 | ⟨q,cap,cur,h1,h2,h3,h4⟩
  ·exact .inl h1
  ·exact .inr ⟨q,cap,cur,h1,h2,hk _ _ (fun hq=>he (hG q hq _ _ h3)) h3,h4⟩
 refine⟨h.ok,h.ge,sv,wv,gs,css,hk _ _ hg V.blk,own (by decide) V.srow,⟨V.sites.len,V.sites.nd,fun i h1 h2=>hS _ _ (V.gT _ (List.getElem_mem h1)) (V.sites.each i h1 h2)⟩,V.gT, ?_,own (by decide) V.wrow,V.wT⟩
 refine⟨V.lets.len,fun i h1 h2=> ?_⟩
 rw[h0] at h1
 simp at h1
theorem TownAt.dot0 {lo:Nat} {w w':World} {b g:Nat} {T:Nat→Prop} {t:TownS} (h:TownAt w b T g t) (h0:t.way=[]) (hT: ∀q,T q→q < lo) (hd:DotSet lo w w'):TownAt w' b T g t:=by
 have hd':=hd
 obtain⟨q,x,y,h1,h2,rfl⟩:=hd
 have hgl:=hT g h.ge.2
 refine h.beside (G:=fun k=>k=q) h0 (fun k o hk ho=>by rw[heap_set_other hk,heap_set_other hk];exact ho) (by omega) (fun k hk cs ty hc=> ?_) fun gi s hgi hs=>hs.dot hd' (hT gi hgi)
 subst hk
 exact heap_ty hc h2
theorem mapped_stp {w w':World} {M:Nat} {es:Array MapEntry} {c:Nat} (hg:w.grownBy w' (some M)) (hM:w.heap[M]? =some (.map es c)):Stp (fun q=>q=M) w w':=by
 have hk: ∀k cs e,w.heap[k]? =some (Obj.cells cs e (0,0))→w'.heap[k]? =some (Obj.cells cs e (0,0)):=fun k cs e hc=>by
  rw[hg.block k (hlt_of hc) fun e=>by simp only[Option.some.injEq] at e;subst e;rw [hM] at hc;simp at hc];exact hc
 exact⟨⟨hg.os,hg.tape,hg.output,hg.size,fun k h1 h2=>hg.block k h1 fun e=>h2 (by simpa using e),fun k cs e hc=>⟨cs,hk k cs e hc,rfl⟩⟩,⟨hg.size,fun k cs e hc _=>hk k cs e hc⟩⟩
theorem TownAt.mapped {w w':World} {b g M:Nat} {T:Nat→Prop} {t:TownS} {es:Array MapEntry} {c:Nat} (h:TownAt w b T g t) (h0:t.way=[]) (hg:w.grownBy w' (some M)) (hM:w.heap[M]? =some (.map es c)):TownAt w' b T g t:=by
 have hs:=mapped_stp hg hM
 refine h.beside (G:=fun k=>k=M) h0 (fun k o hk ho=>hs.block ho hk) (fun e=> ?_) (fun k hk cs ty hc=> ?_) fun gi s hgi hS=>hS.stp hs fun e=> ?_
 ·obtain⟨sv,wv,gs,css,V⟩:=h.at_
  have:=V.blk
  rw[e,hM] at this;simp at this
 ·subst hk;rw [hM] at hc;simp at hc
 ·obtain⟨cs,hc⟩:=hS.ty
  rw[e,hM] at hc;simp at hc
abbrev MapV (w:World) (M n:Nat) (D:DV):Prop:=w.ownsMap Tryz.prog 9 heldR M n D
theorem MapV.blk {w:World} {M n:Nat} {D:DV} (h:MapV w M n D): ∃es c,w.heap[M]? =some (.map es c):=by obtain⟨es,c,h1, -⟩:=h;exact ⟨es,c,h1⟩
theorem MapV.keep {w w':World} {M n:Nat} {D:DV} (h:MapV w M n D) (e: ∀o,w.heap[M]? =some o→w'.heap[M]? =some o):MapV w' M n D:=by
 obtain⟨es,c,h1,h2⟩:=h;exact ⟨es,c,e _ h1,h2⟩
theorem MapV.stp {G:Nat→Prop} {w w':World} {M n:Nat} {D:DV} (h:MapV w M n D) (hs:Stp G w w') (hG: ¬G M):MapV w' M n D:=h.keep fun _ ho=>hs.block ho hG
set_option maxRecDepth 100000 in
theorem lawS:Keyed Tryz.prog 9:=string_keyed Tryz.underlying9
theorem wpList_lookup_held {P:Program} (w:World) {ops:Array Oper} {rest:List Oper} {o:Oper} {a:Act} {Q:Exit→Act→World→Prop} (hg:o.guard=none) (m x:Operand) (t:TypeId) (hop:o.op=Op.lookup t m x false)
  (k e:TypeId) (K:Keyed P k) (ht:P.underlying t=some (.map k e)) {z:Value} (hz:(zeroValue e).run P w= .ok z w) (b n:Nat) (D:DV) (hm:a.eval m= .map (some b)) (hown:w.ownsMap P k heldR b n D) (key:Value) (kl:Lit) (hx:a.eval x=key) (hkey:keyOf P k key=some kl)
  (v:Value) (hat: ∀zd,D.atKey kl zd= .held v) (hK:wpList P ops Q rest (a.put o.dst v) w):wpList P ops Q (o::rest) a w:=by
 refine wpList_plain hg fun K' hK'=> ?_
 obtain⟨v',ps,hrun,hv⟩:=hown.lookup K ht hz (zd:= .held z) (zp:=[]) rfl hkey
 rw[hat] at hv
 obtain rfl:v'=v:=by
  unfold heldR at hv
  simp only[Option.some.injEq,Prod.mk.injEq,DataW.held.injEq] at hv
  exact hv.1
 unfold Oper.wp
 simp[execOp,hop,hm,hx,hrun,Result.andThen]
 exact hK' _ _ hK
theorem two_row {w:World} {q:Nat} {v:Value} {F:Bxs} {ty:TypeId} (hq:w.heap[q]? =some (Obj.cells #[.slice none 0 0,v] ty (0,0))) (hF:BxsAt w v F):RowAt bxsE w (.slice (some ⟨q,0,none⟩) 2 2) [[],F]:=by
 refine⟨[[.slice none 0 0],[v]],⟨⟨_,rfl,BxsAt.nil w⟩,⟨_,rfl,hF⟩,trivial⟩,CellsAt.mk (by decide) (by decide) (hlt_of hq) fun j x hx=> ?_⟩
 refine cell_of_block (j:=0+j) hq ?_
 rw[Nat.zero_add];simpa using hx
theorem DotNew.stpT {G:Nat→Prop} {w w':World} {lo:Nat} {v:Value} (h:DotNew w lo v) (hs:Stp G w w') (hg: ∀q,G q→q < lo):DotNew w' lo v:=by
 obtain⟨q,h1,h2,h3⟩:=h;exact ⟨q,h1,hs.block h2 (fun e=>by have:=hg q e;omega),h3⟩
end Go.Proofs.YtihpddhngbgcdaaGreat
