/- What know.Copied does. Written by a small program (gen/know10.py). -/
import Derived.Test.YtgkgdedhicnohaaGreatMKnow5
namespace Go.Proofs.YtgkgdedhicnohaaGreat
set_option maxRecDepth 100000
set_option maxHeartbeats 40000000
open Go.RowKit
def CpI (w:World) (base:Nat) (v:Value) (l:List Int):Prop:= ∃(a:Option Addr) (c:Nat),v= .slice a l.length c∧w.ownsRow base 3 1 (.slice a l.length c) l.length (intsC l)
def CpD (w:World) (base:Nat) (v:Value) (l:Dots):Prop:= ∃(a:Option Addr) (c:Nat),v= .slice a l.length c∧w.ownsRow base 41 2 (.slice a l.length c) l.length (spansCells l)
def CpK (w:World) (base:Nat) (v:Value) (k:Kn):Prop:= ∃(a:Option Addr) (c:Nat) (b:Option Addr) (d:Nat),v= .agg #[.slice a k.vec.length c, .slice b k.more.length d]∧KnOwn w base (.slice a k.vec.length c) (.slice b k.more.length d) k
theorem CpI.below {w w':World} {base:Nat} {v:Value} {l:List Int} (h:CpI w base v l) (hb:Below w.heap.size w w'):CpI w' base v l:=by
 obtain⟨a,c,h1,h2⟩:=h;exact ⟨a,c,h1,owns_below h2 hb⟩
theorem CpD.below {w w':World} {base:Nat} {v:Value} {l:Dots} (h:CpD w base v l) (hb:Below w.heap.size w w'):CpD w' base v l:=by
 obtain⟨a,c,h1,h2⟩:=h;exact ⟨a,c,h1,owns_below h2 hb⟩
theorem CpK.below {w w':World} {base:Nat} {v:Value} {k:Kn} (h:CpK w base v k) (hb:Below w.heap.size w w'):CpK w' base v k:=by
 obtain⟨a,c,b,d,h1,h2⟩:=h;exact ⟨a,c,b,d,h1,h2.below hb⟩
theorem kcopied_c (u v:Value) (k:Kn) (w:World) (hk:KnAt w u v k) (h5:k.vec.length≤5) (h60:k.more.length≤60):
  Calls Tryz.prog 120 #[.agg #[u,v]] w fun e w'=> ∃(a:Option Addr) (c:Nat) (b:Option Addr) (d:Nat),e= .returned (.agg #[.slice a k.vec.length c, .slice b k.more.length d])∧KnOwn w' w.heap.size (.slice a k.vec.length c) (.slice b k.more.length d) k∧Below w.heap.size w w':=by
 obtain⟨xa,ca,rfl⟩:=hk.vec.shape
 obtain⟨ya,da,rfl⟩:=hk.more.shape
 obtain⟨W,hW⟩: ∃W,W=(w.alloc (.cells #[.slice xa k.vec.length ca, .slice ya k.more.length da] 73)).alloc (.cells #[.slice none 0 0, .slice none 0 0] 73):=⟨_,rfl⟩
 have HBW:=jD (show Below w.heap.size w W by rw[hW];exact (bal _).alloc (by simp) _)
 have A:=jD (show W.heap[w.heap.size]? =some (Obj.cells #[.slice xa k.vec.length ca, .slice ya k.more.length da] 73 (0,0)) by rw[hW];exact alloc_keep _ (alloc_new _ _ _ _ rfl))
 have R:=jD (show W.heap[w.heap.size+1]? =some (Obj.cells #[.slice none 0 0, .slice none 0 0] 73 (0,0)) by rw[hW];exact alloc_new _ _ _ _ (by simp))
 have CA0:=jD (cell_of_block (j:=0) A.out rfl)
 have CA1:=jD (cell_of_block (j:=1) A.out rfl)
 have HK:=jD (hk.below HBW.out)
 clear hk
 go_enter Tryz.func120,Tryz.ntmps120
 go_wp2_with fail
 rw[←hW]
 clear hW
 refine Cl.region0 10 rfl [7] (fun ww=>Below W.heap.size W ww) (fun jq=>match jq with | 2=>[7] | 5=>[7] | 6=>[7] | _=>[]) (fun jq v ww=>match jq with | 0=>v= .pointer (some ⟨w.heap.size,0,none⟩) | 1=>v= .slice xa k.vec.length ca | 2=>CpI ww w.heap.size v k.vec | 3=>v= .pointer (some ⟨w.heap.size,1,none⟩) | 4=>v= .slice ya k.more.length da | 5=>CpD ww w.heap.size v k.more | 6=>CpK ww w.heap.size v k | 7=> ∃(a:Option Addr) (c:Nat) (b:Option Addr) (d:Nat),ww.heap[w.heap.size+1]? =some (Obj.cells #[.slice a k.vec.length c, .slice b k.more.length d] 73 (0,0))∧KnOwn ww w.heap.size (.slice a k.vec.length c) (.slice b k.more.length d) k∧Below w.heap.size w ww | _=>True) (fun ww=>True) (fun jq ww ww'=>jq≠7→Below ww.heap.size ww ww') Tryz.mixed (by decide+kernel) trivial ((Below.refl _ _).drew) ?_ (fun jq ww ww' hk h hR=>bstep h (hR (by simpa using hk))) ?_ ?_
 ·intro q r v w w' hne hk hlt h hR
  match r,hk,hlt,h,hne with
  | 0,_,_,h,_=>exact h
  | 1,_,_,h,_=>exact h
  | 2,hk,_,h,_=>exact CpI.below h (hR (by simpa using hk))
  | 3,_,_,h,_=>exact h
  | 4,_,_,h,_=>exact h
  | 5,hk,_,h,_=>exact CpD.below h (hR (by simpa using hk))
  | 6,hk,_,h,_=>exact CpK.below h (hR (by simpa using hk))
  | 7,_,_,h,hne=>exact (let ⟨a,c,b,d,h1,h2,h3⟩:=h;⟨a,c,b,d,below_keep (hR (by exact hne)) h1,h2.below (hR (by exact hne)),bstep2 h3 (hR (by exact hne))⟩)
  | _+8,_,_,_,_=>trivial
 ·refine⟨?_, ?_, ?_, ?_, ?_, ?_, ?_, ?_,trivial⟩
  ·intro x wx hG
   have f1:=hG.o 1
   have hp:=hG.p
   replace hG:=hG.good
   have hG:=hp
   go_wp2
   exact⟨_,rfl,rfl,trivial,fun _=>Below.refl _ _⟩
  ·intro x wx hG
   have g0:(x.tmps.getD 3 undef)= .pointer (some ⟨w.heap.size,0,none⟩):=hG.c 0 _ rfl
   have hp:=hG.p
   replace hG:=hG.good
   have hG:=hp
   have c_CA0:=ckeep hG CA0.out
   go_wp2
   exact⟨_,rfl,rfl,trivial,fun _=>Below.refl _ _⟩
  ·intro x wx hG
   have g1:(x.tmps.getD 4 undef)= .slice xa k.vec.length ca:=hG.c 1 _ rfl
   have hp:=hG.p
   replace hG:=hG.good
   have hG:=hp
   have hx:CellsAt wx (.slice xa k.vec.length ca) k.vec.length (intsC k.vec):=HK.out.vec.below hG
   have HX:=jD hx
   clear hx
   go_wp2_with fail
   (with_reducible refine(IcClone_c _ k.vec.length (intsC k.vec) _ HX.out (by rw[intsC_length];omega) (intsC_one _) (by omega)).mono ?_)
   rintro e wq ⟨v9,rfl,h9,hb⟩
   obtain⟨za,zc,hz⟩:=owns_slice h9
   subst hz
   have H9:=jD (owns_mono h9 (base':=w.heap.size) (Nat.le_trans HBW.out.size hG.size))
   clear h9
   go_wp2
   exact⟨_,rfl,⟨_,_,rfl,H9.out⟩,trivial,fun _=>hb⟩
  ·intro x wx hG
   have f1:=hG.o 1
   have hp:=hG.p
   replace hG:=hG.good
   have hG:=hp
   go_wp2
   exact⟨_,rfl,rfl,trivial,fun _=>Below.refl _ _⟩
  ·intro x wx hG
   have g3:(x.tmps.getD 6 undef)= .pointer (some ⟨w.heap.size,1,none⟩):=hG.c 3 _ rfl
   have hp:=hG.p
   replace hG:=hG.good
   have hG:=hp
   have c_CA1:=ckeep hG CA1.out
   go_wp2
   exact⟨_,rfl,rfl,trivial,fun _=>Below.refl _ _⟩
  ·intro x wx hG
   have g4:(x.tmps.getD 7 undef)= .slice ya k.more.length da:=hG.c 4 _ rfl
   have hp:=hG.p
   replace hG:=hG.good
   have hG:=hp
   have hx:CellsAt wx (.slice ya k.more.length da) k.more.length (spansCells k.more):=HK.out.more.below hG
   have HX:=jD hx
   clear hx
   go_wp2_with fail
   (with_reducible refine(DcClone_c _ k.more.length (spansCells k.more) _ HX.out (spansCells_length _) (spansCells_one _) (by omega)).mono ?_)
   rintro e wq ⟨v9,rfl,h9,hb⟩
   obtain⟨za,zc,hz⟩:=owns_slice h9
   subst hz
   have H9:=jD (owns_mono h9 (base':=w.heap.size) (Nat.le_trans HBW.out.size hG.size))
   clear h9
   go_wp2
   exact⟨_,rfl,⟨_,_,rfl,H9.out⟩,trivial,fun _=>hb⟩
  ·intro x wx hG
   have g2:CpI wx w.heap.size (x.tmps.getD 5 undef) k.vec:=hG.c 2 _ rfl
   have g5:CpD wx w.heap.size (x.tmps.getD 8 undef) k.more:=hG.c 5 _ rfl
   have hp:=hG.p
   replace hG:=hG.good
   have hG:=hp
   obtain⟨za,zc,hz1,hz2⟩:=g2
   obtain⟨ya9,yc,hy1,hy2⟩:=g5
   have hz1b:=hz1
   rw[Array.getD_eq_getD_getElem?] at hz1b
   have hy1b:=hy1
   rw[Array.getD_eq_getD_getElem?] at hy1b
   have HZ:=jD hz2
   have HY:=jD hy2
   clear hz2 hy2
   go_wp2
   exact⟨_,rfl,⟨_,_,_,_,rfl,⟨HZ.out,HY.out⟩⟩,trivial,fun _=>Below.refl _ _⟩
  ·intro x wx hG
   have f2:=hG.o 2
   have g6:CpK wx w.heap.size (x.tmps.getD 9 undef) k:=hG.c 6 _ rfl
   have hp:=hG.p
   replace hG:=hG.good
   have hG:=hp
   obtain⟨qa,qc,qb,qd,hx9,h9⟩:=g6
   have H9:=jD h9
   have hR:=below_keep hp R.out
   have HR:=jD hR
   have r0:=cell_of_block (j:=0) hR rfl
   have r1:=cell_of_block (j:=1) hR rfl
   have f0:=free_of_block (j:=0) hR
   have f1:=free_of_block (j:=1) hR
   have hRl:=hlt_of hR
   have HBX:=jD (HBW.out.trans (hp.mono HBW.out.size))
   clear hR h9 hp hG
   go_wp2
   exact⟨undef,rfl,⟨_,_,_,_,by rw[heap_set_same (heap_set_same HR.out)];rfl,⟨own_set (own_set H9.out.vec HR.out (by decide)) (heap_set_same HR.out) (by decide),own_set (own_set H9.out.more HR.out (by decide)) (heap_set_same HR.out) (by decide)⟩,(HBX.out.setCell (by simp) _).setCell (by simp) _⟩,trivial,fun h=>absurd rfl h⟩
 ·intro vals w2 hg hF
  obtain⟨g0,g1,g2,g3,g4,g5,g6,g7, -⟩:=hF
  have e0:=gq (vals 0) g0
  have e1:=gq (vals 1) g1
  have e3:=gq (vals 3) g3
  have e4:=gq (vals 4) g4
  replace g7: ∃(a:Option Addr) (c:Nat) (b:Option Addr) (d:Nat),w2.heap[w.heap.size+1]? =some (Obj.cells #[.slice a k.vec.length c, .slice b k.more.length d] 73 (0,0))∧KnOwn w2 w.heap.size (.slice a k.vec.length c) (.slice b k.more.length d) k∧Below w.heap.size w w2:=g7 rfl
  simp only[Cl.puts,e0,e1,e3,e4]
  clear e0 e1 e3 e4 g0 g1 g2 g3 g4 g5 g6
  go_simp
  obtain⟨qa,qc,qb,qd,h1,h2,h3⟩:=g7
  have r0:=cell_of_block (j:=0) h1 rfl
  have r1:=cell_of_block (j:=1) h1 rfl
  have H2:=jD h2
  clear h1 h2
  go_wp2
  refine bodyPost_ret (v:= .agg #[_,_]) (by simp[results,Tryz.results120,go_sem, *];exact ⟨rfl,rfl⟩) rfl ?_
  exact⟨_,_,_,_,rfl,H2.out,h3⟩
end Go.Proofs.YtgkgdedhicnohaaGreat
