/- Towards what desk.Run answers. -/
import Derived.Test.YtajgndoiddmbmaaGreatDoorMKnow5
namespace Go.Proofs.YtajgndoiddmbmaaGreatDoor
set_option maxRecDepth 100000
set_option maxHeartbeats 40000000
open Go.RowKit
def MR (w:World) (base:Nat) (v:Value) (l:List Int):Prop:= ∃(a:Option Addr) (c:Nat),v= .slice a l.length c∧w.ownsRow base 3 1 (.slice a l.length c) l.length (cV l)
def MS (w:World) (base:Nat) (v:Value) (l:dN):Prop:= ∃(a:Option Addr) (c:Nat),v= .slice a l.length c∧w.ownsRow base 103 2 (.slice a l.length c) l.length (az l)
def yD (w:World) (base:Nat) (v:Value) (k:Kn):Prop:= ∃(a:Option Addr) (c:Nat) (b:Option Addr) (d:Nat),v= .agg #[.slice a k.vec.length c, .slice b k.more.length d]∧bI w base (.slice a k.vec.length c) (.slice b k.more.length d) k
theorem MR.below {w w':World} {base:Nat} {v:Value} {l:List Int} (h:MR w base v l) (hb:Below w.heap.size w w'):MR w' base v l:=by
 obtain⟨a,c,h1,h2⟩:=h;exact ⟨a,c,h1,aI h2 hb⟩
theorem MS.below {w w':World} {base:Nat} {v:Value} {l:dN} (h:MS w base v l) (hb:Below w.heap.size w w'):MS w' base v l:=by
 obtain⟨a,c,h1,h2⟩:=h;exact ⟨a,c,h1,aI h2 hb⟩
theorem yD.below {w w':World} {base:Nat} {v:Value} {k:Kn} (h:yD w base v k) (hb:Below w.heap.size w w'):yD w' base v k:=by
 obtain⟨a,c,b,d,h1,h2⟩:=h;exact ⟨a,c,b,d,h1,h2.below hb⟩
theorem kcopied_c (u v:Value) (k:Kn) (w:World) (hk:dB w u v k) (h5:k.vec.length≤5) (fP:k.more.length≤60):
  Calls Tryz.prog 175 #[.agg #[u,v]] w fun e w'=> ∃(a:Option Addr) (c:Nat) (b:Option Addr) (d:Nat),e= .returned (.agg #[.slice a k.vec.length c, .slice b k.more.length d])∧bI w' w.heap.size (.slice a k.vec.length c) (.slice b k.more.length d) k∧Below w.heap.size w w':=by
 obtain⟨xa,ca,rfl⟩:=hk.vec.shape;obtain⟨ya,da,rfl⟩:=hk.more.shape;obtain⟨W,hW⟩: ∃W,W=(w.alloc (.cells #[.slice xa k.vec.length ca, .slice ya k.more.length da] 118)).alloc (.cells #[.slice none 0 0, .slice none 0 0] 118):=⟨_,rfl⟩
 have ek:=jD (show Below w.heap.size w W by rw[hW];exact (aG _).alloc (by simp) _);have A:=jD (show W.heap[w.heap.size]? =some (Obj.cells #[.slice xa k.vec.length ca, .slice ya k.more.length da] 118 (0,0)) by rw[hW];exact aO _ (au _ _ _ _ rfl));have R:=jD (show W.heap[w.heap.size+1]? =some (Obj.cells #[.slice none 0 0, .slice none 0 0] 118 (0,0)) by rw[hW];exact au _ _ _ _ (by simp));have CA0:=jD (cq 0 A.o rfl);have CA1:=jD (cq 1 A.o rfl);have HK:=jD (hk.below ek.o);clear hk;go_enter Tryz.func175,Tryz.ntmps175;go_wp2_with fail
 rw[←hW];clear hW;refine Cl.aV 10 rfl [7] (fun ww=>Below W.heap.size W ww) (fun jq=>match jq with | 2=>[7] | 5=>[7] | 6=>[7] | _=>[]) (fun jq v ww=>match jq with | 0=>v= .pointer (some ⟨w.heap.size,0,none⟩) | 1=>v= .slice xa k.vec.length ca | 2=>MR ww w.heap.size v k.vec | 3=>v= .pointer (some ⟨w.heap.size,1,none⟩) | 4=>v= .slice ya k.more.length da | 5=>MS ww w.heap.size v k.more | 6=>yD ww w.heap.size v k | 7=> ∃(a:Option Addr) (c:Nat) (b:Option Addr) (d:Nat),ww.heap[w.heap.size+1]? =some (Obj.cells #[.slice a k.vec.length c, .slice b k.more.length d] 118 (0,0))∧bI ww w.heap.size (.slice a k.vec.length c) (.slice b k.more.length d) k∧Below w.heap.size w ww | _=>True) (fun ww=>True) (fun jq ww aR=>jq≠7→Below ww.heap.size ww aR) Tryz.mixed (by decide+kernel) trivial ((br).drew) ?_ (fun jq ww aR hk h hR=>aj h (hR (by simpa using hk))) ?_ ?_
 ·intro q r v w w' hne hk hlt h hR;match r,hk,hlt,h,hne with
  | 0,_,_,h,_=>exact h
  | 1,_,_,h,_=>exact h
  | 2,hk,_,h,_=>exact MR.below h (hR (by simpa using hk))
  | 3,_,_,h,_=>exact h
  | 4,_,_,h,_=>exact h
  | 5,hk,_,h,_=>exact MS.below h (hR (by simpa using hk))
  | 6,hk,_,h,_=>exact yD.below h (hR (by simpa using hk))
  | 7,_,_,h,hne=>exact (let ⟨a,c,b,d,h1,h2,h3⟩:=h;⟨a,c,b,d,ag (hR (by exact hne)) h1,h2.below (hR (by exact hne)),QY h3 (hR (by exact hne))⟩)
  | _+8,_,_,_,_=>trivial
 ·refine⟨?_, ?_, ?_, ?_, ?_, ?_, ?_, ?_,trivial⟩
  ·intro x wx hG;have f1:=hG.o 1;have hp:=hG.p 0;replace hG:=hG.g;have hG:=hp;go_wp2;exact⟨_,rfl,rfl,trivial,fun _=>br⟩
  ·intro x wx hG;have g0:=gr 3 (hG.c 0 _ rfl);have hp:=hG.p 0;replace hG:=hG.g;have hG:=hp;have acK:=ah hG CA0.o;go_wp2;exact⟨_,rfl,rfl,trivial,fun _=>br⟩
  ·intro x wx hG;have g1:=gr 4 (hG.c 1 _ rfl);have hp:=hG.p 0;replace hG:=hG.g;have hG:=hp;have hx:aF wx (.slice xa k.vec.length ca) k.vec.length (cV k.vec):=HK.o.vec.below hG;have HX:=jD hx;clear hx;go_wp2_with fail
   (with_reducible refine(GM _ k.vec.length (cV k.vec) _ HX.o (by rw[pZ];omega) (Gc _) (by omega)).mono ?_);rintro e wq ⟨v9,rfl,h9,hb⟩;obtain⟨za,zc,hz⟩:=ay h9;subst hz;have H9:=jD (bV h9 (base':=w.heap.size) (Nat.le_trans ek.o.size hG.size));clear h9;go_wp2;exact⟨_,rfl,⟨_,_,rfl,H9.o⟩,trivial,fun _=>hb⟩
  ·intro x wx hG;have f1:=hG.o 1;have hp:=hG.p 0;replace hG:=hG.g;have hG:=hp;go_wp2;exact⟨_,rfl,rfl,trivial,fun _=>br⟩
  ·intro x wx hG;have g3:=gr 6 (hG.c 3 _ rfl);have hp:=hG.p 0;replace hG:=hG.g;have hG:=hp;have acJ:=ah hG CA1.o;go_wp2;exact⟨_,rfl,rfl,trivial,fun _=>br⟩
  ·intro x wx hG;have g4:=gr 7 (hG.c 4 _ rfl);have hp:=hG.p 0;replace hG:=hG.g;have hG:=hp;have hx:aF wx (.slice ya k.more.length da) k.more.length (az k.more):=HK.o.more.below hG;have HX:=jD hx;clear hx;go_wp2_with fail
   (with_reducible refine(Hl _ k.more.length (az k.more) _ HX.o (cC _) (kM _) (by omega)).mono ?_);rintro e wq ⟨v9,rfl,h9,hb⟩;obtain⟨za,zc,hz⟩:=ay h9;subst hz;have H9:=jD (bV h9 (base':=w.heap.size) (Nat.le_trans ek.o.size hG.size));clear h9;go_wp2;exact⟨_,rfl,⟨_,_,rfl,H9.o⟩,trivial,fun _=>hb⟩
  ·intro x wx hG;have g2:MR wx w.heap.size (x.tmps.getD 5 undef) k.vec:=hG.c 2 _ rfl;have g5:MS wx w.heap.size (x.tmps.getD 8 undef) k.more:=hG.c 5 _ rfl;have hp:=hG.p 0;replace hG:=hG.g;have hG:=hp;obtain⟨za,zc,hz1,hz2⟩:=g2;obtain⟨ya9,yc,hy1,hy2⟩:=g5;have qP:=hz1;rw[Array.getD_eq_getD_getElem?] at qP;have Jm:=hy1;rw[Array.getD_eq_getD_getElem?] at Jm;have HZ:=jD hz2;have HY:=jD hy2;clear hz2 hy2;go_wp2;exact⟨_,rfl,⟨_,_,_,_,rfl,⟨HZ.o,HY.o⟩⟩,trivial,fun _=>br⟩
  ·intro x wx hG;have f2:=hG.o 2;have g6:yD wx w.heap.size (x.tmps.getD 9 undef) k:=hG.c 6 _ rfl;have hp:=hG.p 0;replace hG:=hG.g;have hG:=hp;obtain⟨qa,qc,qb,qd,Vi,h9⟩:=g6;have H9:=jD h9;have hR:=ag hp R.o;have HR:=jD hR;have r0:=cq 0 hR rfl;have r1:=cq 1 hR rfl;have f0:=fq 0 hR;have f1:=fq 1 hR;have r8:=ai hR;have gM:=jD (ek.o.trans (hp.mono ek.o.size));clear hR h9 hp hG;go_wp2;exact⟨undef,rfl,⟨_,_,_,_,by rw[ax (ax HR.o)];rfl,⟨cG (cG H9.o.vec HR.o (by decide)) (ax HR.o) (by decide),cG (cG H9.o.more HR.o (by decide)) (ax HR.o) (by decide)⟩,(gM.o.setCell (by simp) _).setCell (by simp) _⟩,trivial,fun h=>absurd rfl h⟩
 ·intro af w2 hg hF;obtain⟨g0,g1,g2,g3,g4,g5,g6,g7, -⟩:=hF;replace g7: ∃(a:Option Addr) (c:Nat) (b:Option Addr) (d:Nat),w2.heap[w.heap.size+1]? =some (Obj.cells #[.slice a k.vec.length c, .slice b k.more.length d] 118 (0,0))∧bI w2 w.heap.size (.slice a k.vec.length c) (.slice b k.more.length d) k∧Below w.heap.size w w2:=g7 rfl;simp only[Cl3.puts,gq (af 0) g0,gq (af 1) g1,gq (af 3) g3,gq (af 4) g4];clear g0 g1 g2 g3 g4 g5 g6;go_simp
  obtain⟨qa,qc,qb,qd,h1,h2,h3⟩:=g7;have r0:=cq 0 h1 rfl;have r1:=cq 1 h1 rfl;have H2:=jD h2;clear h1 h2;go_wp2;refine bodyPost_ret (v:= .agg #[_,_]) (by simp[results,Tryz.results175,go_sem, *];exact ⟨rfl,rfl⟩) rfl ?_;exact⟨_,_,_,_,rfl,H2.o,h3⟩
end Go.Proofs.YtajgndoiddmbmaaGreatDoor
