/- Towards what desk.Run answers. -/
import Derived.Test.YtajgndoiddmbmaaGreatDoorMSiteB
import Derived.Test.YtajgndoiddmbmaaGreatDoorMWireU
namespace Go.Proofs.YtajgndoiddmbmaaGreatDoor
set_option maxRecDepth 100000
set_option maxHeartbeats 40000000
open Go.RowKit
theorem N7 (L:List aA) (v:aA) (p:Nat→Nat→Bool) (A:List SP):iQ (L++[v]) p A=if (rV p v&& !Jh A v)=true then iQ L p A++[v] else iQ L p A:=by
 unfold iQ;rw[List.filter_append];split
 ·rename_i h;rw [List.filter_cons_of_pos (by exact h),List.filter_nil]
 ·rename_i h;rw [List.filter_cons_of_neg (by exact h),List.filter_nil,List.append_nil]
theorem N8 (L:List aA) (v:aA) (p:Nat→Nat→Bool):jJ (L++[v]) p=if (!rV p v)=true then jJ L p++[⟨v.id,v.past⟩] else jJ L p:=by
 unfold jJ;rw[List.filter_append];split
 ·rename_i h;rw [List.filter_cons_of_pos (by exact h),List.filter_nil,List.map_append];rfl
 ·rename_i h;rw [List.filter_cons_of_neg (by exact h),List.filter_nil,List.append_nil]
theorem YR {F:bB} {v:aA} (h:dz v):cE F v.tg v.nm=rV (aX F) v:=by
 obtain⟨h1,h2,h3,h4⟩:=yX h.pt;unfold rV;rw[fS (by omega) (by omega),Int.toNat_of_nonneg h1,Int.toNat_of_nonneg h3]
theorem YO {A:List Pt} {v:aA} (h:dz v):uZ A v.tg v.nm v.ds v.dc=Jh (A.map sem) v:=by
 obtain⟨h1,h2,h3,h4⟩:=yX h.pt;unfold Jh;have:=FX (l:=A) (t:=v.tg.toNat) (n:=v.nm.toNat) (by omega) (by omega) v.ds v.dc;rw[Int.toNat_of_nonneg h1,Int.toNat_of_nonneg h3] at this;exact this
theorem bA.Yq {w:World} {base:Nat} {v:Value} {l:List aA} (h:bA w base v l) (q:Nat) (hq:v.ownBlock=some q):base≤q∧q < w.heap.size:=by
 obtain⟨css, -,h2⟩:=h;exact h2.lt q hq
def oZ (w:World) (b1 b2:Nat) (v:Value) (l:List aA):Prop:= ∃css,VE w b2 l css∧w.ownsRow b1 120 8 v l.length css.flatten
theorem oZ.nil (w:World) (b1 b2:Nat):oZ w b1 b2 (.slice none 0 0) []:=⟨[],trivial,World.ownsRow_nil _ _ _ _⟩
theorem oZ.below {w w':World} {b1 b2:Nat} {v:Value} {l:List aA} (h:oZ w b1 b2 v l) (hb:Below w.heap.size w w'):oZ w' b1 b2 v l:=by
 obtain⟨css,h1,h2⟩:=h;exact⟨css,h1.map fun _ _ _ h=>h.below hb,aI h2 hb⟩
theorem oZ.own {w:World} {b1 b2:Nat} {v:Value} {l:List aA} (h:oZ w b1 b2 v l) (hb:b2≤b1):bA w b2 v l:=by
 obtain⟨css,h1,h2⟩:=h;exact⟨css,h1,bV h2 hb⟩
theorem oZ.shape {w:World} {b1 b2:Nat} {v:Value} {l:List aA} (h:oZ w b1 b2 v l): ∃a c,v= .slice a l.length c:=by
 obtain⟨css,h1,h2⟩:=h;exact ay h2
theorem oZ.tk {T:Nat→Bool} {w w':World} {b1 b2:Nat} {v:Value} {l:List aA} (h:oZ w b1 b2 v l) (hk:aM T w w') (h1:T 3=true) (h2:T 103=true) (h3:T 120=true):oZ w' b1 b2 v l:=by
 obtain⟨css,a,b⟩:=h;exact⟨css,a.map fun _ _ _ h=>h.tk hk h1 h2,hk.owns b h3⟩
structure sX (wz:World) (b1 BA BB:Nat) (st sm:Int) (fv pv cv vv gv:Value) (L V:List aA) (G:List Gn) (w:World):Prop where
 ba:w.heap[BA]? =some (Obj.cells #[.int .i64 st, .int .i64 sm,fv,pv] 149 (0,0))
 br:w.heap[BA+1]? =some (Obj.cells #[.int .i64 0, .int .i64 0, .slice none 0 0, .slice none 0 0, .slice none 0 0] 158 (0,0))
 bb:w.heap[BB]? =some (Obj.cells #[.int .i64 st, .int .i64 sm,vv,gv, .slice none 0 0] 158 (0,0))
 c:bA w wz.heap.size cv L
 cb: ∀q,cv.ownBlock=some q→q < b1
 v:oZ w b1 wz.heap.size vv V
 g:fM w wz.heap.size gv G
 aW:Below wz.heap.size wz w
 hb1:wz.heap.size≤b1∧b1≤w.heap.size
 ord:BA=wz.heap.size∧BA+1 < BB
theorem sX.below {wz:World} {b1 BA BB:Nat} {st sm:Int} {fv pv cv vv gv:Value} {L V:List aA} {G:List Gn} {w w':World} (h:sX wz b1 BA BB st sm fv pv cv vv gv L V G w) (hb:Below w.heap.size w w'):sX wz b1 BA BB st sm fv pv cv vv gv L V G w':=
 ⟨ag hb h.ba,ag hb h.br,ag hb h.bb,h.c.below hb,h.cb,h.v.below hb,h.g.below hb,aj h.aW hb,⟨h.hb1.1,Nat.le_trans h.hb1.2 hb.size⟩,h.ord⟩
theorem sX.gone {wz:World} {b1 BA BB:Nat} {st sm:Int} {fv pv cv vv gv VD:Value} {L V:List aA} {G:List Gn} {w w':World} {g1:Gn} {u x:Value} {css:List (List Value)} (h:sX wz b1 BA BB st sm fv pv cv vv gv L V G w) (e1:GE w wz.heap.size G css) (e2:w.ownsRow wz.heap.size 201 3 gv G.length css.flatten)
  (hk:bI w wz.heap.size u x g1.past) (ho:w'.ownsRow wz.heap.size 201 3 VD (G.length+1) (css.flatten++[.string g1.id,u,x])) (hg:w.grownBy w' gv.ownBlock):
  w'.heap[BB]? =some (Obj.cells #[.int .i64 st, .int .i64 sm,vv,gv, .slice none 0 0] 158 (0,0))∧sX wz b1 BA BB st sm fv pv cv vv VD L V (G++[g1]) (w'.setCell ⟨BB,3,none⟩ VD):=by
 have TA:aM (fun t=>t != 201) w w':=aM.ze e2 hg (by decide);have Kb:=TA.blk _ _ _ h.bb (by decide);have TB:aM (fun t=>t != 158) w' (w'.setCell ⟨BB,3,none⟩ VD):=aM.iG Kb (by decide);have hsz:=hg.size;have od:=h.ord.1;have ho2:=h.ord.2;refine⟨Kb, ?_, ?_,by rw[ax Kb];rfl,(h.c.tk TA (by decide) (by decide) (by decide)).tk TB (by decide) (by decide) (by decide),h.cb,(h.v.tk TA (by decide) (by decide) (by decide)).tk TB (by decide) (by decide) (by decide),(fM.push e1 e2 hk ho hg).tk TB (by decide) (by decide) (by decide),(h.aW.grown hg h.aW.size fun q hq=>(e2.lt q hq).1).setCell (p:=⟨BB,3,none⟩) (show wz.heap.size≤BB by omega) _,⟨h.hb1.1,by have:=h.hb1.2;simp;omega⟩,h.ord⟩
 ·rw[aC (by omega)];exact TA.blk _ _ _ h.ba (by decide)
 ·rw[aC (by omega)];exact TA.blk _ _ _ h.br (by decide)
theorem sX.ver {wz:World} {b1 BA BB:Nat} {st sm:Int} {fv pv cv vv U4 gv:Value} {L V:List aA} {G:List Gn} {w w':World} {v1:aA} {a b:Option Addr} {n d m e:Nat} {css:List (List Value)} (h:sX wz b1 BA BB st sm fv pv cv vv gv L V G w) (e1:VE w wz.heap.size V css) (e2:w.ownsRow b1 120 8 vv V.length css.flatten)
  (hk:bI w wz.heap.size (.slice a n d) (.slice b m e) v1.past) (ho:w'.ownsRow b1 120 8 U4 (V.length+1) (css.flatten++(aN v1 (.slice a n d) (.slice b m e)).toList)) (hg:w.grownBy w' vv.ownBlock):
  w'.heap[BB]? =some (Obj.cells #[.int .i64 st, .int .i64 sm,vv,gv, .slice none 0 0] 158 (0,0))∧sX wz b1 BA BB st sm fv pv cv U4 gv L (V++[v1]) G (w'.setCell ⟨BB,2,none⟩ U4):=by
 have TA:aM (fun t=>t != 120) w w':=aM.ze e2 hg (by decide);have Kb:=TA.blk _ _ _ h.bb (by decide);have TB:aM (fun t=>t != 158) w' (w'.setCell ⟨BB,2,none⟩ U4):=aM.iG Kb (by decide);have hsz:=hg.size;have od:=h.ord.1;have ho2:=h.ord.2;have hc:bA w' wz.heap.size cv L:=by
  obtain⟨cs,k1,k2⟩:=h.c;refine⟨cs,k1.map fun _ _ _ hh=>hh.tk TA (by decide) (by decide),k2.kept hg ?_⟩;cases hq:cv.ownBlock with
  | none=>exact .inl rfl
  | some q=>
   right;intro eq;have:=h.cb q hq;have:=(e2.lt q eq.symm).1;omega
 refine⟨Kb, ?_, ?_,by rw[ax Kb];rfl,hc.tk TB (by decide) (by decide) (by decide),h.cb, ?_,(h.g.tk TA (by decide) (by decide) (by decide)).tk TB (by decide) (by decide) (by decide),(h.aW.grown hg h.aW.size fun q hq=>Nat.le_trans h.hb1.1 (e2.lt q hq).1).setCell (p:=⟨BB,2,none⟩) (show wz.heap.size≤BB by omega) _,⟨h.hb1.1,by have:=h.hb1.2;simp;omega⟩,h.ord⟩
 ·rw[aC (by omega)];exact TA.blk _ _ _ h.ba (by decide)
 ·rw[aC (by omega)];exact TA.blk _ _ _ h.br (by decide)
 ·refine oZ.tk (T:=fun t=>t != 158) ⟨css++[(aN v1 (.slice a n d) (.slice b m e)).toList],VE.snoc (e1.map fun _ _ _ hh=>hh.tk TA (by decide) (by decide)) ⟨⟨a,n,d,b,m,e,rfl,hk.tk TA (by decide) (by decide)⟩,trivial⟩, ?_⟩ TB (by decide) (by decide) (by decide);rw[List.flatten_append,List.length_append];simpa using ho
def vU (wz:World) (BA BB:Nat) (st sm:Int) (vv gv:Value) (V:List aA) (G:List Gn) (S:List SP) (w:World):Prop:=
 ∃a n c,w.heap[BB]? =some (Obj.cells #[.int .i64 st, .int .i64 sm,vv,gv, .slice a n c] 158 (0,0))∧w.heap[BA+1]? =some (Obj.cells #[.int .i64 0, .int .i64 0, .slice none 0 0, .slice none 0 0, .slice none 0 0] 158 (0,0))∧
  bA w wz.heap.size vv V∧fM w wz.heap.size gv G∧aY w wz.heap.size (.slice a n c) S
theorem vU.below {wz:World} {BA BB:Nat} {st sm:Int} {vv gv:Value} {V:List aA} {G:List Gn} {S:List SP} {w w':World} (h:vU wz BA BB st sm vv gv V G S w) (hb:Below w.heap.size w w'):vU wz BA BB st sm vv gv V G S w':=by
 obtain⟨a,n,c,h1,h2,h3,h4,h5⟩:=h;exact⟨a,n,c,ag hb h1,ag hb h2,h3.below hb,h4.below hb,h5.below hb⟩
theorem vU.of {wz:World} {b1 BA BB:Nat} {st sm:Int} {fv pv cv vv gv:Value} {L V:List aA} {G:List Gn} {S:List SP} {w:World} {a:Option Addr} {n c:Nat} (h:sX wz b1 BA BB st sm fv pv cv vv gv L V G w) (hp:aY w wz.heap.size (.slice a n c) S):vU wz BA BB st sm vv gv V G S (w.setCell ⟨BB,4,none⟩ (.slice a n c)):=by
 have hs:aB (fun q=>q=BB) w (w.setCell ⟨BB,4,none⟩ (.slice a n c)):=aB.set h.bb (by decide);have ho:=h.ord.2;exact⟨a,n,c,by rw[ax h.bb];rfl,hs.block h.br (by omega),(h.v.own h.hb1.1).bD hs,h.g.bD hs,hp.bD hs⟩
theorem aY.tk {T:Nat→Bool} {w w':World} {base:Nat} {v:Value} {S:List SP} (h:aY w base v S) (hk:aM T w w') (h1:T 3=true) (h2:T 103=true) (h3:T 177=true) (h4:T 179=true) (h5:T 238=true):aY w' base v S:=by
 obtain⟨l,a,b⟩:=h;exact ⟨l,a.tk hk h1 h2 h3 h4 h5,b⟩
def UX (wz:World) (s:aL) (st sm:Int) (p:Nat→Nat→Bool) (A:List SP) (e:Ending) (w':World):Prop:=
 ∃vv gv pv,e= .returned (.tuple #[.agg #[.int .i64 st, .int .i64 sm,vv,gv,pv], .int .i64 0])∧mh w' wz.heap.size vv gv pv (oO s st sm p A)∧Below wz.heap.size wz w'
theorem sgive_c (g b:Nat) (s:aL) (st sm:Int) (fv pv:Value) (F:bB) (A:List Pt) (wz:World) (h:bz wz b g s) (hst:0≤st∧st < 5) (hsm:0≤sm) (hF:bZ wz fv F) (hc:bP F=0) (hA:bK cU wz pv A) (ZL:bE A=0):
  Calls Tryz.prog 98 #[.pointer (some ⟨g,0,none⟩), .agg #[.int .i64 st, .int .i64 sm,fv,pv]] wz (UX wz s st sm (aX F) (A.map sem)):=by
 obtain⟨fa,fc,rfl⟩:=hF.shape;obtain⟨pa,pc,rfl⟩:=hA.shape;obtain⟨BA,Gp⟩: ∃BA,BA=wz.heap.size:=⟨_,rfl⟩
 obtain⟨W,hW⟩: ∃W,W=(wz.alloc (.cells #[.int .i64 st, .int .i64 sm, .slice fa F.length fc, .slice pa A.length pc] 149)).alloc (.cells #[.int .i64 0, .int .i64 0, .slice none 0 0, .slice none 0 0, .slice none 0 0] 158):=⟨_,rfl⟩
 have hbW:Below wz.heap.size wz W:=by rw[hW];exact (aG _).alloc (by simp) _
 have tH:=jD (show W.heap[BA]? =some (Obj.cells #[.int .i64 st, .int .i64 sm, .slice fa F.length fc, .slice pa A.length pc] 149 (0,0)) by rw[hW];exact aO _ (au _ _ _ _ Gp));have z8:=jD (show W.heap[BA+1]? =some (Obj.cells #[.int .i64 0, .int .i64 0, .slice none 0 0, .slice none 0 0, .slice none 0 0] 158 (0,0)) by rw[hW];exact au _ _ _ _ (by rw[World.size_alloc,Gp]));have HS:=jD h;have HF:=jD hF;have HP:=jD hA;have Hh:=jD hc;have qy:=jD ZL;have D9:=jD (fo.1 ZL);have HB:=jD hbW;have KV:=jD Gp;have d1:decide (st < 0)=false:=by simp;omega
 have d2:decide (5≤st)=false:=by simp;omega
 have d3:decide (sm < 0)=false:=by simp;omega
 have HST:=jD hst;clear h hF hA hbW hc ZL;have k0:=cq 0 tH.o rfl;have k1:=cq 1 tH.o rfl;have k2:=cq 2 tH.o rfl;have hkl:=ai tH.o;rw[hW,Gp] at k0 k1 k2 hkl;go_enter Tryz.func98,Tryz.ntmps98;go_wp2_with fail
 rw[←hW,←Gp];clear hW Gp k0 k1 k2 hkl d1 d2 d3;(with_reducible refine(qg _ F W (HF.o.below HB.o)).mono ?_);rintro e w1 ⟨rfl,hb1⟩;rw[Hh.o];replace tH:=jD (ag hb1 tH.o);replace z8:=jD (ag hb1 z8.o);replace HB:=jD (aj HB.o hb1);have k3:=cq 3 tH.o rfl;clear hb1;go_wp2_with fail
 (with_reducible refine(qN _ A w1 (HP.o.below HB.o)).mono ?_);rintro e w2 ⟨rfl,hb2⟩;rw[qy.o];replace tH:=jD (ag hb2 tH.o);replace z8:=jD (ag hb2 z8.o);replace HB:=jD (aj HB.o hb2);have k0:=cq 0 tH.o rfl;have k1:=cq 1 tH.o rfl;have hkl:=ai tH.o;obtain⟨BB,JL⟩: ∃BB,BB=w2.heap.size:=⟨_,rfl⟩
 obtain⟨W3,hW3⟩: ∃W3,W3=w2.alloc (.cells #[.int .i64 st, .int .i64 sm, .slice none 0 0, .slice none 0 0, .slice none 0 0] 158):=⟨_,rfl⟩
 have hb3:Below w2.heap.size w2 W3:=by rw[hW3];exact aG _
 have eH:=jD (show W3.heap[BB]? =some (Obj.cells #[.int .i64 st, .int .i64 sm, .slice none 0 0, .slice none 0 0, .slice none 0 0] 158 (0,0)) by rw[hW3];exact au _ _ _ _ JL);have Wn:=jD (show BA+1 < BB by have:=ai z8.o;omega);obtain⟨f0,l0,p0,hblk,hf,hl,vr⟩:=(HS.o.below (aj HB.o hb3)).cells;obtain⟨la,lc,hlv⟩:=hl.shape;subst hlv;have mG:=jD (ij HS.o.ok.L.ok);have hll:=HS.o.ok.L.len;have Jv:=HS.o.lt;have Zn:g < w2.heap.size:=Nat.lt_of_lt_of_le Jv HB.o.size;have hc4:w2.cell? ⟨g,4,none⟩=some (.slice la s.L.length lc):=by
  have h1:W3.cell? ⟨g,4,none⟩=some (.slice la s.L.length lc):=cq 4 hblk rfl;rw[←h1];exact (hb3.cell (p:=⟨g,4,none⟩) Zn).symm
 have HCO:=jD (nk _ s.L W3 (hl.at_ mG.o (by omega)) mG.o (by omega));replace tH:=jD (ag hb3 tH.o);replace z8:=jD (ag hb3 z8.o);replace HB:=jD (aj HB.o hb3);clear hb2 hb3 k3 hblk hf hl vr Jv;go_wp2_with fail
 rw[←hW3,←JL];clear hW3 JL k0 k1 hkl hc4 Zn;(with_reducible refine(HCO.o).mono ?_);rintro e w4 ⟨cv,rfl,hcv,hb4⟩;obtain⟨ca,cc,afe⟩:=hcv.shape;subst afe;have M:=jD (show sX wz w4.heap.size BA BB st sm (.slice fa F.length fc) (.slice pa A.length pc) (.slice ca s.L.length cc) (.slice none 0 0) (.slice none 0 0) s.L [] [] w4 from
  ⟨ag hb4 tH.o,ag hb4 z8.o,ag hb4 eH.o,bA.mono hcv HB.o.size,fun q hq=>(hcv.Yq q hq).2,oZ.nil _ _ _,fM.nil _ _,aj HB.o hb4,⟨Nat.le_trans HB.o.size hb4.size,Nat.le_refl _⟩,KV.o,Wn.o⟩)
 obtain⟨b1,hb1⟩: ∃b1,b1=w4.heap.size:=⟨_,rfl⟩
 rw[←hb1] at M;have Ko:=jD HS.o.ok.L.ok;clear hcv hb4 hb1 HCO tH z8 HB eH Wn;go_wp2;go_loopw [50] (fun i wr=> ∃k:Nat,k≤s.L.length∧i= .int .i64 k∧ ∃vv gv,sX wz b1 BA BB st sm (.slice fa F.length fc) (.slice pa A.length pc) (.slice ca s.L.length cc) vv gv s.L (iQ (s.L.take k) (aX F) (A.map sem)) (jJ (s.L.take k) (aX F)) wr) (fun i _=>s.L.length - (intOf i).toNat)
 case atStart=>exact ⟨0,Nat.zero_le _,rfl,_,_,M.o⟩
 case round=>
  clear M;obtain⟨k,hk,rfl,vv,gv,hst⟩:=hrel;obtain⟨va,vc,hvv⟩:=hst.v.shape;subst hvv;obtain⟨ga,gc,Gi⟩:=fM.shape hst.g;subst Gi;have M:=jD hst;by_cases hlt:k < s.L.length;rotate_left
  ·obtain rfl:k=s.L.length:=by omega
   rw[List.take_length] at M;have hkb:decide ((s.L.length:Int) < (s.L.length:Int))=false:=by simp
   have fe:=jD (show(iQ s.L (aX F) (A.map sem)).length=(iQ s.L (aX F) (A.map sem)).length from rfl);have sK:=jD (cq 2 M.o.ba rfl:wr.cell? ⟨BA,2,none⟩=some (.slice fa F.length fc));have Wa:=jD (show ∀x∈bT s,ql x from HS.o.ok.known);clear hst Ko;generalize hLV:iQ s.L (aX F) (A.map sem)=LV at*;generalize hLG:jJ s.L (aX F)=LG at*;have HLV:=jD hLV;have KE:=jD hLG;clear hLV hLG fe;go_wp2_with fail
   refine Cl.aV 97 rfl [9] (fun w=>Below wr.heap.size wr w) (fun _=>[]) (fun jq v ww=>match jq with | 0=>v= .pointer (some ⟨g,0,none⟩) | 1=>tT ww wz.heap.size (bT s) v | 2=>v= .pointer (some ⟨BA,2,none⟩) | 3=>v= .slice fa F.length fc | 4=>kW ww wz.heap.size (cN (bT s) (aX F)) v | 5=>kW ww wz.heap.size (cN (bT s) (aX F)) v | 6=>tT ww wz.heap.size (cN (bT s) (aX F)) v | 7=>v= .int .i64 0 | 8=>v= .pointer (some ⟨BB,4,none⟩) | 9=>vU wz BA BB st sm (.slice va LV.length vc) (.slice ga LG.length gc) LV LG (cN (bT s) (aX F)) ww | _=>True) (fun ww=>Below wz.heap.size wz ww) (fun jq ww aR=>aB (fun qq=>qq=BB) ww aR∧(jq≠9→Below ww.heap.size ww aR)) Tryz.mixed (by decide+kernel) M.o.aW.drew ((br).drew) ?_ (fun q w w' hk h hR=>aj h (hR.2 (by intro e;subst e;exact absurd hk (by decide)))) ?_ ?_
   ·intro q r v w w' hne hk hlt h hR;match r,hk,hlt,h,hne with
    | 0,_,_,h,_=>exact h
    | 1,_,_,h,_=>exact h.bD hR.1
    | 2,_,_,h,_=>exact h
    | 3,_,_,h,_=>exact h
    | 4,_,_,h,_=>exact h.bD hR.1
    | 5,_,_,h,_=>exact h.bD hR.1
    | 6,_,_,h,_=>exact h.bD hR.1
    | 7,_,_,h,_=>exact h
    | 8,_,_,h,_=>exact h
    | 9,_,hlt,h,hne=>exact h.below (hR.2 (by exact hne))
    | _+10,_,_,_,_=>trivial
   ·refine⟨?_, ?_, ?_, ?_, ?_, ?_, ?_, ?_, ?_, ?_,trivial⟩
    ·intro x wx hG;have f0:=hG.o 0;replace hG:=hG.g;go_wp2;exact⟨_,rfl,rfl,hG,⟨aB.refl _ _,fun _=>br⟩⟩
    ·intro x wx hG;have g0:=gr 88 (hG.c 0 _ rfl);replace hG:=hG.g;have HN:=jD (known_c g b s wx (HS.o.below hG));go_wp2_with fail
     (with_reducible refine(HN.o).mono ?_);rintro e wq ⟨ov,rfl,ho,hb⟩;obtain⟨oa,oc,hov⟩:=ho.shape;subst hov;have HO:=jD (aY.mono ho hG.size);have cK:=jD hb;clear ho hb HN;go_wp2;exact⟨_,rfl,⟨_,_,_,rfl,HO.o⟩,aj hG cK.o,aB.of_below cK.o,fun _=>cK.o⟩
    ·intro x wx hG;have f3:=hG.o 3;replace hG:=hG.g;go_wp2;exact⟨_,rfl,rfl,hG,⟨aB.refl _ _,fun _=>br⟩⟩
    ·intro x wx hG;have g2:=gr 90 (hG.c 2 _ rfl);have hp:=hG.p 0;replace hG:=hG.g;have DI:=ah hp sK.o;go_wp2;exact⟨_,rfl,rfl,hG,⟨aB.refl _ _,fun _=>br⟩⟩
    ·intro x wx hG;have g1:tT wx wz.heap.size (bT s) (x.tmps.getD 89 undef):=hG.c 1 _ rfl;have g3:=gr 91 (hG.c 3 _ rfl);replace hG:=hG.g;obtain⟨oa,on,oc,hv,⟨fG,q1,q2,q3⟩⟩:=g1;have hvb:=hv;rw[Array.getD_eq_getD_getElem?] at hvb;have ae9:fG.length≤30:=by have:=HS.o.ok.NP;rw [←q3,List.length_map] at this;exact this
     have GY:=jD (show A5 fG F=0 by unfold A5;rw [if_neg (by rw[fo.2 ⟨ae9,fun z hz=>(q2 z hz).1⟩];decide),Hh.o]);have HN:=jD (FY _ _ fG F wx (q1.at_ (fun z hz=>(q2 z hz).1) (by omega)) (HF.o.below hG));have D8:=jD q3;clear q1 q2 q3;go_wp2_with fail
     (with_reducible refine(HN.o).mono ?_);rintro e wq ⟨ov,rfl,ho,hb⟩;rw[GY.o] at ho ⊢;have od:=ho.1 rfl;rw[D8.o] at od;obtain⟨Vc,Vb,hov⟩:=od.shape;subst hov;have HO:=jD (aY.mono od hG.size);have cK:=jD hb;clear ho od hb HN;go_wp2;exact⟨_,rfl,⟨_,_,_,rfl,HO.o⟩,aj hG cK.o,aB.of_below cK.o,fun _=>cK.o⟩
    ·intro x wx hG;have g4:kW wx wz.heap.size (cN (bT s) (aX F)) (x.tmps.getD 92 undef):=hG.c 4 _ rfl;replace hG:=hG.g;obtain⟨oa,on,oc,hv,ho⟩:=g4;have HO:=jD ho;have hvb:=hv;rw[Array.getD_eq_getD_getElem?] at hvb;clear ho;go_wp2;exact⟨_,rfl,⟨_,_,_,rfl,HO.o⟩,hG,⟨aB.refl _ _,fun _=>br⟩⟩
    ·intro x wx hG;have g5:kW wx wz.heap.size (cN (bT s) (aX F)) (x.tmps.getD 87 undef):=hG.c 5 _ rfl;replace hG:=hG.g;obtain⟨oa,on,oc,hv,ho⟩:=g5;have HO:=jD ho;have hvb:=hv;rw[Array.getD_eq_getD_getElem?] at hvb;clear ho;go_wp2;exact⟨_,rfl,⟨_,_,_,rfl,HO.o⟩,hG,⟨aB.refl _ _,fun _=>br⟩⟩
    ·intro x wx hG;have g5:kW wx wz.heap.size (cN (bT s) (aX F)) (x.tmps.getD 87 undef):=hG.c 5 _ rfl;replace hG:=hG.g;obtain⟨oa,on,oc,hv,ho⟩:=g5;have HO:=jD ho;have hvb:=hv;rw[Array.getD_eq_getD_getElem?] at hvb;clear ho;go_wp2;exact⟨_,rfl,rfl,hG,⟨aB.refl _ _,fun _=>br⟩⟩
    ·intro x wx hG;have f8:=hG.o 8;replace hG:=hG.g;go_wp2;exact⟨_,rfl,rfl,hG,⟨aB.refl _ _,fun _=>br⟩⟩
    ·intro x wx hG;have g8:=gr 95 (hG.c 8 _ rfl);have g6:tT wx wz.heap.size (cN (bT s) (aX F)) (x.tmps.getD 93 undef):=hG.c 6 _ rfl;have hp:=hG.p 0;replace hG:=hG.g;obtain⟨oa,on,oc,hv,ho⟩:=g6;have HO:=jD ho;have hvb:=hv;rw[Array.getD_eq_getD_getElem?] at hvb;have HM:=jD (M.o.below hp);have r5:=cq 4 HM.o.bb rfl;have q5:=fq 4 HM.o.bb;have r8:=ai HM.o.bb;clear ho;go_wp2;have JL:=HM.o.ord.2;have Gp:=HM.o.ord.1;exact⟨undef,rfl,vU.of HM.o HO.o,hG.setCell (p:=⟨BB,4,none⟩) (show wz.heap.size≤BB by omega) _,aB.set HM.o.bb (by decide),fun h=>absurd rfl h⟩
   ·intro af w7 hg hF;obtain⟨g0,g1,g2,g3,g4,g5,g6,g7,g8,g9, -⟩:=hF;replace g9:vU wz BA BB st sm (.slice va LV.length vc) (.slice ga LG.length gc) LV LG (cN (bT s) (aX F)) w7:=g9 rfl;simp only[Cl3.puts,gq (af 0) g0,gq (af 2) g2,gq (af 3) g3,gq (af 7) g7,gq (af 8) g8];clear g0 g1 g2 g3 g4 g5 g6 g7 g8;go_simp
    obtain⟨qa,qn,qc,hbb,hbr,vp,yq,hp9⟩:=g9;have y0:=cq 0 hbb rfl;have y1:=cq 1 hbb rfl;have y2:=cq 2 hbb rfl;have y3:=cq 3 hbb rfl;have y4:=cq 4 hbb rfl;have hy:=ai hbb;have z0:=cq 0 hbr rfl;have z1:=cq 1 hbr rfl;have z2:=cq 2 hbr rfl;have z3:=cq 3 hbr rfl;have z4:=cq 4 hbr rfl;have f0:=fq 0 hbr;have f1:=fq 1 hbr;have f2:=fq 2 hbr;have f3:=fq 3 hbr;have f4:=fq 4 hbr;have hz:=ai hbr;have KQ:=jD hbr;have HV9:=jD vp;have Ah:=jD yq;have HP9:=jD hp9;have HG:=jD hg;clear hbb hbr vp yq hp9 hg;go_wp2;refine bodyPost_ret (v:= .tuple #[.agg #[.int .i64 st, .int .i64 sm, .slice va LV.length vc, .slice ga LG.length gc, .slice qa qn qc], .int .i64 0]) (by simp[results,Tryz.results98,go_sem, *]) rfl ?_;have Gp:=M.o.ord.1;have hle:wz.heap.size≤BA+1:=by omega
    have ht:=aM.IK (T:=fun t=>t != 158) (x0:= .int .i64 st) (x1:= .int .i64 sm) (x2:= .slice va LV.length vc) (x3:= .slice ga LG.length gc) (x4:= .slice qa qn qc) KQ.o (by decide);exact⟨_,_,_,rfl,(show mh _ wz.heap.size (.slice va LV.length vc) (.slice ga LG.length gc) (.slice qa qn qc) (oO s st sm (aX F) (A.map sem)) by
     have e:oO s st sm (aX F) (A.map sem)=⟨st,sm,LV,LG,cN (bT s) (aX F)⟩:=by unfold oO;rw [HLV.o,KE.o];rfl
     rw[e];exact⟨HV9.o.tk ht (by decide) (by decide) (by decide),Ah.o.tk ht (by decide) (by decide) (by decide),aY.tk HP9.o ht (by decide) (by decide) (by decide) (by decide) (by decide)⟩),((((HG.o.setCell (p:=⟨BA+1,0,none⟩) hle _).setCell (p:=⟨BA+1,1,none⟩) hle _).setCell (p:=⟨BA+1,2,none⟩) hle _).setCell (p:=⟨BA+1,3,none⟩) hle _).setCell (p:=⟨BA+1,4,none⟩) hle _⟩
  obtain⟨cg,cap,a,n,d,b8,m,e8,hvv,hcap,Jv,hcl,hkn⟩:=hst.c.XU k hlt;simp only[Value.slice.injEq,true_and] at hvv;obtain⟨rfl,rfl⟩:=hvv;have d0:wr.cell? ⟨cg,k*8,none⟩=some (.string s.L[k].id):=hcl 0 _ rfl;have d1:=hcl 1 _ rfl;have d2:=hcl 2 _ rfl;have d3:=hcl 3 _ rfl;have d4:=hcl 4 _ rfl;have d5:=hcl 5 _ rfl;have d6:=hcl 6 _ rfl;have d7:=hcl 7 _ rfl;have cz:=jD (Ko.o s.L[k] (List.getElem_mem hlt));have MB:=jD (show iQ (s.L.take (k+1)) (aX F) (A.map sem)=(if (rV (aX F) s.L[k]&& !Jh (A.map sem) s.L[k])=true then iQ (s.L.take k) (aX F) (A.map sem)++[s.L[k]] else iQ (s.L.take k) (aX F) (A.map sem)) by rw[List.take_succ_eq_append_getElem hlt,N7]);have DW:=jD (show jJ (s.L.take (k+1)) (aX F)=(if (!rV (aX F) s.L[k])=true then jJ (s.L.take k) (aX F)++[⟨s.L[k].id,s.L[k].past⟩] else jJ (s.L.take k) (aX F)) by rw[List.take_succ_eq_append_getElem hlt,N8]);have dh:=jD hkn;have hkb:decide ((k:Int) < (s.L.length:Int))=true:=by simp;omega
  have jN:=jD (show(iQ (s.L.take k) (aX F) (A.map sem)).length≤k by have:=List.length_filter_le (fun v=>rV (aX F) v&& !Jh (A.map sem) v) (s.L.take k);unfold iQ;rw [List.length_take] at this;omega);have Hg:=jD (show(jJ (s.L.take k) (aX F)).length≤k by have:=List.length_filter_le (fun v=> !rV (aX F) v) (s.L.take k);unfold jJ;rw [List.length_map];rw [List.length_take] at this;omega);clear hst hcl hkn;generalize s.L[k]=v1 at*;generalize iQ (s.L.take k) (aX F) (A.map sem)=LV at*;generalize jJ (s.L.take k) (aX F)=LG at*;obtain⟨BV,ZI⟩: ∃BV,BV=wr.heap.size:=⟨_,rfl⟩
  obtain⟨W1,hW1⟩: ∃W1,W1=wr.alloc (.cells (aN v1 (.slice a n d) (.slice b8 m e8)) 120):=⟨_,rfl⟩
  have hb1:Below wr.heap.size wr W1:=by rw[hW1];exact aG _
  have mD:=jD (show W1.heap[BV]? =some (Obj.cells (aN v1 (.slice a n d) (.slice b8 m e8)) 120 (0,0)) by rw[hW1];exact au _ _ _ _ ZI);have k2:=cq 2 M.o.ba rfl;have hkl:=ai M.o.ba;replace M:=jD (M.o.below hb1);replace dh:=jD (bI.below dh.o hb1);clear hb1;have gN:=jD (show W1=wr.alloc (.cells #[.string v1.id, .int .i64 v1.ds, .int .i64 v1.dc, .int .i64 v1.tg, .int .i64 v1.nm, .int .i64 v1.bd, .slice a n d, .slice b8 m e8] 120) from hW1);go_wp2_with fail
  rw[←gN.o,←ZI];clear gN hW1 ZI k2 hkl d0 d1 d2 d3 d4 d5 d6 d7;(with_reducible refine(Ig _ F v1.tg v1.nm W1 (HF.o.below M.o.aW)).mono ?_);rintro e w5 ⟨rfl,bR⟩;replace M:=jD (M.o.below bR);replace dh:=jD (bI.below dh.o bR);replace mD:=jD (ag bR mD.o);rw[YR cz.o];clear bR;cases hin:rV (aX F) v1
  ·have Kq:=jD (show iQ (s.L.take (k+1)) (aX F) (A.map sem)=LV by rw[MB.o,if_neg (by rw[hin];simp)]);have OS:=jD (show jJ (s.L.take (k+1)) (aX F)=LG++[⟨v1.id,v1.past⟩] by rw[DW.o,if_pos (by rw[hin];decide)]);have e0:w5.cell? ⟨BV,0,none⟩=some (.string v1.id):=cq 0 mD.o rfl;have e6:w5.cell? ⟨BV,6,none⟩=some (.slice a n d):=cq 6 mD.o rfl;have e7:w5.cell? ⟨BV,7,none⟩=some (.slice b8 m e8):=cq 7 mD.o rfl;have e9:=ai mD.o;have z3:=cq 3 M.o.bb rfl;have zl:=ai M.o.bb;have M6:=jD (M.o.below (aG (.cells #[.string v1.id, .slice a n d, .slice b8 m e8] 201)));have Ed:=jD (bI.below dh.o (aG (.cells #[.string v1.id, .slice a n d, .slice b8 m e8] 201)));clear M dh mD MB DW hin;go_wp2_with (at_builtin;apply Classical.byContradiction;intro hcon)
   have ROW:=jD (aF.mk (w:=w5.alloc (.cells #[.string v1.id, .slice a n d, .slice b8 m e8] 201)) (b:=w5.heap.size) (off:=0) (n:=1) (cap:=1) (xs:=[.string v1.id, .slice a n d, .slice b8 m e8]) (Nat.le_refl _) (by decide) (by simp) (fun j x hj=>by
    rw[Nat.zero_add,World.cell?_alloc_at _ _ _ _ (by simp)];simpa using hj))
   obtain⟨css,x1,x2⟩:=M6.o.g;have E1:=jD x1;have E2:=jD x2;have hsz:=M6.o.aW.size;clear x1 x2;refine hcon ?_;(refine bM rfl (.tmp 62) (.tmp 68) 156 rfl wz.heap.size 201 _ 3 64 Tryz.underlying156 abw.info rfl (by decide) (.slice ga LG.length gc) LG.length _ (by simp[go_sem]) E2.o _ 1 _ (by simp[go_sem]) ROW.o rfl (by intro z hz;simp at hz;rcases hz with rfl | rfl | rfl <;> rfl) hsz (by unfold maxLen;have:=Hg.o;omega) (by have:=Hg.o;omega) ?_);intro v9 w9 ho hgr;obtain⟨qa,qc,hq⟩:=ay ho;subst hq;obtain⟨DL,M9⟩:=M6.o.gone (g1:=⟨v1.id,v1.past⟩) E1.o E2.o Ed.o ho hgr;have M9:=jD M9;have z4:=cq 3 DL rfl;have z5:=fq 3 DL;have z6:=ai DL;clear ho hgr hcon z3 zl hsz DL e0 e6 e7 e9;go_wp2;go_roundw
   case rel=>exact ⟨k+1,by omega,by go_num,_,_,by rw[Kq.o,OS.o];exact M9.o⟩
   case measure=>simp [intOf] <;> omega
  have e1:w5.cell? ⟨BV,1,none⟩=some (.int .i64 v1.ds):=cq 1 mD.o rfl;have e2:w5.cell? ⟨BV,2,none⟩=some (.int .i64 v1.dc):=cq 2 mD.o rfl;have e3:w5.cell? ⟨BV,3,none⟩=some (.int .i64 v1.tg):=cq 3 mD.o rfl;have e4:w5.cell? ⟨BV,4,none⟩=some (.int .i64 v1.nm):=cq 4 mD.o rfl;have e9:=ai mD.o;have k3:=cq 3 M.o.ba rfl;have hkl:=ai M.o.ba;go_wp2_with fail
  clear e1 e2 e3 e4 e9 k3 hkl;(with_reducible refine(LY _ A v1.tg v1.nm v1.ds v1.dc w5 (HP.o.below M.o.aW) D9.o.2 cz.o.dot).mono ?_);rintro e w6 ⟨rfl,gP⟩;replace M:=jD (M.o.below gP);replace dh:=jD (bI.below dh.o gP);replace mD:=jD (ag gP mD.o);rw[YO cz.o];clear gP;have OS:=jD (show jJ (s.L.take (k+1)) (aX F)=LG by rw[DW.o,if_neg (by rw[hin];decide)]);cases hkn:Jh (A.map sem) v1
  rotate_left
  ·have Kq:=jD (show iQ (s.L.take (k+1)) (aX F) (A.map sem)=LV by rw[MB.o,if_neg (by rw[hin,hkn];decide)]);clear MB DW mD dh hin hkn;go_wp2;go_roundw
   case rel=>exact ⟨k+1,by omega,by go_num,_,_,by rw[Kq.o,OS.o];exact M.o⟩
   case measure=>simp [intOf] <;> omega
  have Kq:=jD (show iQ (s.L.take (k+1)) (aX F) (A.map sem)=LV++[v1] by rw[MB.o,if_pos (by rw[hin,hkn];decide)]);have e0:w6.cell? ⟨BV,0,none⟩=some (.string v1.id):=cq 0 mD.o rfl;have e1:w6.cell? ⟨BV,1,none⟩=some (.int .i64 v1.ds):=cq 1 mD.o rfl;have e2:w6.cell? ⟨BV,2,none⟩=some (.int .i64 v1.dc):=cq 2 mD.o rfl;have e3:w6.cell? ⟨BV,3,none⟩=some (.int .i64 v1.tg):=cq 3 mD.o rfl;have e4:w6.cell? ⟨BV,4,none⟩=some (.int .i64 v1.nm):=cq 4 mD.o rfl;have e5:w6.cell? ⟨BV,5,none⟩=some (.int .i64 v1.bd):=cq 5 mD.o rfl;have e6:w6.cell? ⟨BV,6,none⟩=some (.slice a n d):=cq 6 mD.o rfl;have e7:w6.cell? ⟨BV,7,none⟩=some (.slice b8 m e8):=cq 7 mD.o rfl;have e9:=ai mD.o;have z3:=cq 2 M.o.bb rfl;have zl:=ai M.o.bb;have dm:=aG (W:=w6) (.cells #[.string v1.id, .int .i64 v1.ds, .int .i64 v1.dc, .int .i64 v1.tg, .int .i64 v1.nm, .int .i64 v1.bd, .slice a n d, .slice b8 m e8] 120);have M6:=jD (M.o.below dm);have Ed:=jD (bI.below dh.o dm);clear M dh mD MB DW hin hkn dm;go_wp2_with (at_builtin;apply Classical.byContradiction;intro hcon)
  have ROW:=jD (aF.mk (w:=w6.alloc (.cells #[.string v1.id, .int .i64 v1.ds, .int .i64 v1.dc, .int .i64 v1.tg, .int .i64 v1.nm, .int .i64 v1.bd, .slice a n d, .slice b8 m e8] 120)) (b:=w6.heap.size) (off:=0) (n:=1) (cap:=1) (xs:=[.string v1.id, .int .i64 v1.ds, .int .i64 v1.dc, .int .i64 v1.tg, .int .i64 v1.nm, .int .i64 v1.bd, .slice a n d, .slice b8 m e8]) (Nat.le_refl _) (by decide) (by simp) (fun j x hj=>by
   rw[Nat.zero_add,World.cell?_alloc_at _ _ _ _ (by simp)];simpa using hj))
  obtain⟨css,x1,x2⟩:=M6.o.v;have E1:=jD x1;have E2:=jD x2;have hsz:=M6.o.hb1.2;clear x1 x2;refine hcon ?_;(refine bM rfl (.tmp 81) (.tmp 83) 112 rfl b1 120 _ 8 104 Tryz.underlying112 yw.info rfl (by decide) (.slice va LV.length vc) LV.length _ (by simp[go_sem]) E2.o _ 1 _ (by simp[go_sem]) ROW.o rfl (by intro z hz;simp at hz;rcases hz with rfl | rfl | rfl | rfl | rfl | rfl | rfl | rfl <;> rfl) hsz (by unfold maxLen;have:=jN.o;omega) (by have:=jN.o;omega) ?_);intro v9 w9 ho hgr;obtain⟨qa,qc,hq⟩:=ay ho;subst hq;obtain⟨DL,M9⟩:=M6.o.ver (v1:=v1) E1.o E2.o Ed.o ho hgr;have M9:=jD M9;have z4:=cq 2 DL rfl;have z5:=fq 2 DL;have z6:=ai DL;clear ho hgr hcon z3 zl hsz DL e0 e1 e2 e3 e4 e5 e6 e7 e9;go_wp2;go_roundw
  case rel=>exact ⟨k+1,by omega,by go_num,_,_,by rw[Kq.o,OS.o];exact M9.o⟩
  case measure=>simp [intOf] <;> omega
def qQ (s t:Int):Bool:=(decide (s < 0) || decide (5≤s)) || decide (t < 0)
def oM (b:Bt):Int:=
 if qQ b.site b.stamp=true then 1
 else if 60 < b.mK.length∨60 < b.gone.length then 2
 else if firstE bC b.mK≠0 then firstE bC b.mK
 else if firstE cZ b.gone≠0 then firstE cZ b.gone
 else bE b.parts
theorem SJ (vv gv pv:Value) (b:Bt) (w:World) (hb:O4 w vv gv pv b):
  Calls Tryz.prog 137 #[.agg #[.int .i64 b.site, .int .i64 b.stamp,vv,gv,pv]] w fun e w'=>e= .returned (.int .i64 (oM b))∧Below w.heap.size w w':=by
 obtain⟨va,vc,rfl⟩:=hb.mK.shape;obtain⟨ga,gc,rfl⟩:=hb.gone.shape;obtain⟨pa,pc,rfl⟩:=hb.parts.shape;obtain⟨s,t,V,G,P⟩:=b;simp only at hb ⊢;obtain⟨W,hW⟩: ∃W,W=w.alloc (.cells #[.int .i64 s, .int .i64 t, .slice va V.length vc, .slice ga G.length gc, .slice pa P.length pc] 158):=⟨_,rfl⟩
 have hbW:Below w.heap.size w W:=by rw[hW];exact aG _
 have hbk:W.heap[w.heap.size]? =some (Obj.cells #[.int .i64 s, .int .i64 t, .slice va V.length vc, .slice ga G.length gc, .slice pa P.length pc] 158 (0,0)):=by rw[hW];exact au _ _ _ _ rfl
 have bU:=jD hbk;have HBV:=jD (show bK eu W (.slice va V.length vc) V from(hb.below hbW).mK);have qJ:=jD (show bK xM W (.slice ga G.length gc) G from(hb.below hbW).gone);have HBP:=jD (show bK cU W (.slice pa P.length pc) P from(hb.below hbW).parts);have HB:=jD hbW;have H0:=jD (show oM ⟨s,t,V,G,P⟩=if qQ s t=true then 1 else if 60 < V.length∨60 < G.length then 2 else if firstE bC V≠0 then firstE bC V else if firstE cZ G≠0 then firstE cZ G else bE P from rfl);have RM:=jD (show qQ s t=((decide (s < 0) || decide (5≤s)) || decide (t < 0)) from rfl);clear hb hbk hbW;go_enter Tryz.func137,Tryz.ntmps137;have k0:=cq 0 bU.o rfl;have k1:=cq 1 bU.o rfl;have k2:=cq 2 bU.o rfl;have k3:=cq 3 bU.o rfl;have hkl:=ai bU.o;rw[hW] at k0 k1 k2 k3 hkl;cases hh:qQ s t
 rotate_left
 ·have hq:=RM.o.symm.trans hh;have H1:=jD (show oM ⟨s,t,V,G,P⟩=1 by rw[H0.o,if_pos hh]);have cw:=HB.o;rw[hW] at cw;clear H0 RM hh hW;go_wp2;all_goals go_ret
  all_goals exact⟨by rw[H1.o];rfl,cw⟩
 have hq:=RM.o.symm.trans hh;rw[Bool.or_eq_false_iff,Bool.or_eq_false_iff] at hq;obtain⟨⟨e1,e2⟩,e3⟩:=hq;cases hz:(decide (60 < (V.length:Int)) || decide (60 < (G.length:Int)))
 rotate_left
 ·have H1:=jD (show oM ⟨s,t,V,G,P⟩=2 by
   rw[H0.o,if_neg (by rw[hh];decide),if_pos];simp only[Bool.or_eq_true,decide_eq_true_eq] at hz;omega)
  have cw:=HB.o;rw[hW] at cw;clear H0 RM hh hW;go_wp2;all_goals go_ret
  all_goals exact⟨by rw[H1.o];rfl,cw⟩
 have hvl:V.length≤60:=by simp only[Bool.or_eq_false_iff,decide_eq_false_iff_not] at hz;omega
 have hgl:G.length≤60:=by simp only[Bool.or_eq_false_iff,decide_eq_false_iff_not] at hz;omega
 have H1:=jD (show oM ⟨s,t,V,G,P⟩=if firstE bC V≠0 then firstE bC V else if firstE cZ G≠0 then firstE cZ G else bE P by
  rw[H0.o,if_neg (by rw[hh];decide),if_neg (by omega)])
 rw[Bool.or_eq_false_iff] at hz;obtain⟨e5,e6⟩:=hz;clear H0 RM hh;have hWH:=jD hW;clear hW;go_wp2;rw[←hWH.o];obtain⟨BB,JL⟩: ∃BB,BB=w.heap.size:=⟨_,rfl⟩
 rw[←JL] at bU ⊢;clear JL hWH k0 k1 k2 k3 hkl e1 e2 e3 e5 e6;go_loopw [35] (fun i wr=> ∃k:Nat,k≤V.length∧i= .int .i64 k∧firstE bC V=firstE bC (V.drop k)∧Below W.heap.size W wr) (fun i _=>V.length - (intOf i).toNat)
 case atStart=>exact ⟨0,Nat.zero_le _,rfl,rfl,br⟩
 case round=>
  obtain⟨k,hk,rfl,hf,hbl⟩:=hrel;by_cases hlt:k < V.length
  ·have VY:=jD (HBV.o.below hbl);have HF:=jD (hf.trans (Be bC hlt));have tG:=jD hbl;obtain⟨a',cap',ha', -, -, -,Ch⟩:=VY.o.open_;simp only[Value.slice.injEq,true_and] at ha';obtain⟨ha',rfl⟩:=ha';rcases Ch with hnil | ⟨b,off,rfl,hb,hc⟩
   ·rw[hnil] at hlt;simp at hlt
   subst ha';obtain⟨c,⟨u,x,rfl,hk2⟩,hcc⟩:=hc k hlt;obtain⟨ua,uc,rfl⟩:=hk2.vec.shape;obtain⟨xa,xc,rfl⟩:=hk2.more.shape;have hcl:=fun (i:Nat) (y:Value) (hy:(aN V[k] (.slice ua V[k].past.vec.length uc) (.slice xa V[k].past.more.length xc)).toList[i]? =some y)=>xo (b:=b) (off:=off) (i:=k) hcc hy;have c0:=hcl 0 _ rfl;have c1:=hcl 1 _ rfl;have c2:=hcl 2 _ rfl;have c3:=hcl 3 _ rfl;have c4:=hcl 4 _ rfl;have c5:=hcl 5 _ rfl;have c6:=hcl 6 _ rfl;have c7:=hcl 7 _ rfl;rw[Nat.add_zero] at c0;clear hc hcc hcl hf hbl;generalize V[k]=v1 at*;obtain⟨W1,hW1⟩: ∃W1,W1=wr.alloc (.cells #[.string v1.id, .int .i64 v1.ds, .int .i64 v1.dc, .int .i64 v1.tg, .int .i64 v1.nm, .int .i64 v1.bd, .slice ua v1.past.vec.length uc, .slice xa v1.past.more.length xc] 120):=⟨_,rfl⟩
   have hb1:Below wr.heap.size wr W1:=by rw[hW1];exact aG _
   have bh:=jD (aj tG.o hb1);have HC:=jD (NH v1 _ _ W1 (hk2.below hb1));unfold aN at HC;have lV:decide ((k:Int) < (V.length:Int))=true:=by simp;omega
   clear hk2 hb1;go_wp2_with fail
   rw[←hW1];clear hW1;(with_reducible refine(HC.o).mono ?_);rintro e w2 ⟨rfl,hb2⟩;have cw:=jD (aj bh.o hb2);clear hb2 HC c0 c1 c2 c3 c4 c5 c6 c7 hb bh;by_cases hz:bC v1=0
   ·have oh:=jD (show firstE bC V=firstE bC (V.drop (k+1)) by rw[HF.o,if_neg (by omega)]);clear HF;rw[hz];go_wp2;go_roundw
    case rel=>exact ⟨k+1,by omega,by go_num,oh.o,cw.o⟩
    case measure=>simp [intOf] <;> omega
   ·have H2:=jD (show oM ⟨s,t,V,G,P⟩=bC v1 by
     rw[H1.o,HF.o,if_pos hz,if_pos hz])
    have hd:decide (bC v1=0)=false:=by simpa using hz
    have hd2:(bC v1 != 0)=true:=bne_iff_ne.2 hz;have hfin:=aj HB.o cw.o;clear HF;generalize bC v1=q at*;go_wp2;go_ret;exact⟨by rw[H2.o];rfl,hfin⟩
  ·obtain rfl:k=V.length:=by omega
   rw[List.drop_length] at hf;have H2:=jD (show oM ⟨s,t,V,G,P⟩=if firstE cZ G≠0 then firstE cZ G else bE P by rw[H1.o,hf];rfl);have N0:=aj HB.o hbl;obtain⟨w3,hw3⟩: ∃w3,w3=wr:=⟨_,rfl⟩
   rw[←hw3] at hbl N0 ⊢;have af0:=jD (qJ.o.below hbl);have afV:=jD (HBP.o.below hbl);have Cz:=jD (ag hbl bU.o);have eH:=jD N0;clear hw3 hf hbl N0 HBV qJ HBP bU H1;have k3:=cq 3 Cz.o rfl;go_wp2;clear k3;go_loopw [48] (fun i wr=> ∃k:Nat,k≤G.length∧i= .int .i64 k∧firstE cZ G=firstE cZ (G.drop k)∧Below w3.heap.size w3 wr) (fun i _=>G.length - (intOf i).toNat)
   case atStart=>exact ⟨0,Nat.zero_le _,rfl,rfl,br⟩
   case round=>
    obtain⟨k,hk,rfl,hf,hbl⟩:=hrel;by_cases hlt:k < G.length
    ·have HF:=jD (hf.trans (Be cZ hlt));have tG:=jD hbl;obtain⟨a',cap',ha', -, -, -,Ch⟩:=af0.o.open_;simp only[Value.slice.injEq,true_and] at ha';obtain⟨ha',rfl⟩:=ha';rcases Ch with hnil | ⟨b,off,rfl,hb,hc⟩
     ·rw[hnil] at hlt;simp at hlt
     subst ha';obtain⟨c,hE,hcc⟩:=hc k hlt;obtain⟨u,x,d0,d1,d2,hk2⟩:=Dq hb tG.o hE hcc;obtain⟨ua,uc,rfl⟩:=hk2.vec.shape;obtain⟨xa,xc,rfl⟩:=hk2.more.shape;clear hc hcc hE hf hbl;generalize G[k]=g1 at*;obtain⟨BG,ZJ⟩: ∃BG,BG=wr.heap.size:=⟨_,rfl⟩
     obtain⟨W1,hW1⟩: ∃W1,W1=wr.alloc (.cells #[.string g1.id, .slice ua g1.past.vec.length uc, .slice xa g1.past.more.length xc] 201):=⟨_,rfl⟩
     have hb1:Below wr.heap.size wr W1:=by rw[hW1];exact aG _
     have HKG:=jD (show W1.heap[BG]? =some (Obj.cells #[.string g1.id, .slice ua g1.past.vec.length uc, .slice xa g1.past.more.length xc] 201 (0,0)) by rw[hW1];exact au _ _ _ _ ZJ);have bh:=jD (aj tG.o hb1);have MM:=jD (NV g1.id W1);have HC:=jD (knChk_c _ _ g1.past W1 (hk2.below hb1));have lV:decide ((k:Int) < (G.length:Int))=true:=by simp;omega
     clear hk2 hb1;go_wp2_with fail
     rw[←ZJ,←hW1];clear ZJ hW1 d0 d1 d2 hb;(with_reducible refine(MM.o).mono ?_);rintro e w4 ⟨rfl,rfl⟩;cases hid:gI g1.id
     ·have H3:=jD (show oM ⟨s,t,V,G,P⟩=3 by
       have h9:firstE cZ G=3:=(by have h8:cZ g1=3:=(by unfold cZ;rw [if_pos hid]);rw [HF.o,h8,if_pos (by decide)])
       rw[H2.o,h9,if_pos (by decide)])
      have hfin:=aj eH.o bh.o;clear hid HF HC;go_wp2;go_ret;exact⟨by rw[H3.o];rfl,hfin⟩
     have tE:=jD (show cZ g1=bF g1.past by unfold cZ;rw [if_neg (by rw[hid];decide)]);have g1c:=cq 1 HKG.o rfl;have g2c:=cq 2 HKG.o rfl;have Zo:=ai HKG.o;clear hid;go_wp2_with fail
     (with_reducible refine(HC.o).mono ?_);rintro e w5 ⟨rfl,hb2⟩;have cw:=jD (aj bh.o hb2);clear hb2 HC g1c g2c Zo bh;by_cases hz:bF g1.past=0
     ·have oh:=jD (show firstE cZ G=firstE cZ (G.drop (k+1)) by rw[HF.o,tE.o,if_neg (by omega)]);clear HF;rw[hz];go_wp2;go_roundw
      case rel=>exact ⟨k+1,by omega,by go_num,oh.o,cw.o⟩
      case measure=>simp [intOf] <;> omega
     ·have H3:=jD (show oM ⟨s,t,V,G,P⟩=bF g1.past by
       rw[H2.o,HF.o,tE.o,if_pos hz,if_pos hz])
      have hd:decide (bF g1.past=0)=false:=by simpa using hz
      have hd2:(bF g1.past != 0)=true:=bne_iff_ne.2 hz;have hfin:=aj eH.o cw.o;clear HF tE;generalize bF g1.past=q at*;go_wp2;go_ret;exact⟨by rw[H3.o];rfl,hfin⟩
    ·obtain rfl:k=G.length:=by omega
     rw[List.drop_length] at hf;have H3:=jD (show oM ⟨s,t,V,G,P⟩=bE P by rw[H2.o,hf];rfl);have HC:=jD (qN _ P wr (afV.o.below hbl));have k4:=cq 4 (ag hbl Cz.o) rfl;have gp:=jD (aj eH.o hbl);clear hf hbl;go_wp2_with fail
     (with_reducible refine(HC.o).mono ?_);rintro e w6 ⟨rfl,gP⟩;have hfin:=aj gp.o gP;clear gP HC k4;go_wp2;go_ret;exact⟨by rw[H3.o];rfl,hfin⟩
theorem PC {L V:List aA} : ∀ {k:Nat} (hk:k < V.length),putsE L (V.take k)=0→cM (iZ L (V.take k)) V[k]≠0→putsE L V=cM (iZ L (V.take k)) V[k]:=by
 induction V generalizing L with
 | nil=>intro k hk;simp at hk
 | cons v V ih=>
  intro k hk h0 h1;cases k with
  | zero=>
   have h1:cM L v≠0:=h1;show(if cM L v≠0 then cM L v else putsE (fR L v) V)=cM L v;rw[if_pos h1]
  | succ k=>
   have h0:(if cM L v≠0 then cM L v else putsE (fR L v) (V.take k))=0:=h0;by_cases hv:cM L v≠0
   ·rw[if_pos hv] at h0;exact absurd h0 hv
   ·rw[if_neg hv] at h0;show(if cM L v≠0 then cM L v else putsE (fR L v) V)=_;rw[if_neg hv];exact ih (by simpa using hk) h0 h1
theorem Nz {L V:List aA} {k:Nat} (hk:k < V.length) (h0:putsE L (V.take k)=0) (h1:cM (iZ L (V.take k)) V[k]=0):putsE L (V.take (k+1))=0:=by
 rw[List.take_succ_eq_append_getElem hk,yV,if_neg (by omega)];exact h1
theorem Lt {L V:List aA} {k:Nat} (hk:k < V.length):iZ L (V.take (k+1))=fR (iZ L (V.take k)) V[k]:=by
 rw[List.take_succ_eq_append_getElem hk];unfold iZ;rw [List.foldl_append];rfl
theorem LC {L:List aA} {G:List Gn} {k:Nat} (hk:k < G.length):qh L (G.take (k+1))=rN (qh L (G.take k)) G[k].id G[k].past:=by
 rw[List.take_succ_eq_append_getElem hk];unfold qh;rw [List.foldl_append];rfl
theorem XF {l:List aA} {g:Gn} (h:nK l) (hg:cZ g=0):nX l g.id g.past=0:=by
 unfold cZ at hg;cases hi:gI g.id
 ·rw[if_pos hi] at hg;exact absurd hg (by decide)
 ·rw[if_neg (by rw[hi];decide)] at hg;exact drop_zero h hi hg
theorem SL {b:jP} {A:List Pt} (hb:vV b) (hA: ∀x∈A,eG x) (hl:A.length≤30):oM ⟨b.site,b.stamp,b.V,b.G,A⟩=0:=by
 have h1:=hb.site;have h2:=hb.stamp;have h3:=hb.lv;have h4:=hb.lg;have hh:qQ b.site b.stamp=false:=by
  unfold qQ;simp only[Bool.or_eq_false_iff,decide_eq_false_iff_not];omega
 have e1:firstE bC b.V=0:=(wA _).2 fun v hv=>gG.2 (hb.V v hv);have e2:firstE cZ b.G=0:=(wA _).2 hb.G;unfold oM;simp only;rw[hh,if_neg (by decide),if_neg (by omega),e1,if_neg (by decide),e2,if_neg (by decide),fo.2 ⟨hl,hA⟩]
theorem W9 {a c:List Pt} (ha:bE a=0) (hc:bE c=0):mO a c=if 30 < (dP (a.map sem++c.map sem)).length then 2 else 0:=by
 unfold mO;rw[if_neg (by omega),if_neg (by omega),List.map_append]
theorem sl3 {v:Value} {k:Nat} (h: ∃a c,v= .slice a k c): ∃a n c,v= .slice a n c:=by
 obtain⟨a,c,h⟩:=h;exact ⟨a,k,c,h⟩
theorem mS.shape {w:World} {base:Nat} {v:Value} {E:Int} {S:List SP} (h:mS w base v E S): ∃a n c,v= .slice a n c:=by
 by_cases he:E=0
 ·obtain⟨a,c,hv⟩:=(h.1 he).shape;exact ⟨a,_,c,hv⟩
 ·exact⟨none,0,0,h.2 he⟩
theorem mS.mono {w:World} {base base':Nat} {v:Value} {E:Int} {S:List SP} (h:mS w base v E S) (hb:base'≤base):mS w base' v E S:=⟨fun e=>(h.1 e).mono hb,h.2⟩
theorem mS.below {w w':World} {base:Nat} {v:Value} {E:Int} {S:List SP} (h:mS w base v E S) (hb:Below w.heap.size w w'):mS w' base v E S:=⟨fun e=>(h.1 e).below hb,h.2⟩
def vN (w:World) (base:Nat) (E:Int) (S:List SP) (v:Value):Prop:= ∃a n c,v= .tuple #[.slice a n c, .int .i64 E]∧mS w base (.slice a n c) E S
theorem vN.below {w w':World} {base:Nat} {E:Int} {S:List SP} {v:Value} (h:vN w base E S v) (hb:Below w.heap.size w w'):vN w' base E S v:=by
 obtain⟨a,n,c,h1,h2⟩:=h;exact ⟨a,n,c,h1,h2.below hb⟩
def Cw (w:World) (base:Nat) (E:Int) (S:List SP) (v:Value):Prop:= ∃a n c,v= .slice a n c∧mS w base (.slice a n c) E S
theorem Cw.below {w w':World} {base:Nat} {E:Int} {S:List SP} {v:Value} (h:Cw w base E S v) (hb:Below w.heap.size w w'):Cw w' base E S v:=by
 obtain⟨a,n,c,h1,h2⟩:=h;exact ⟨a,n,c,h1,h2.below hb⟩
def xV (wz:World) (b g:Nat) (s:aL) (bt:jP) (e:Ending) (w':World):Prop:=e= .returned (.int .i64 (iz s bt))∧bz w' b g (mM s bt)∧aB (fun q=>q=g) wz w'
theorem wD {wz w':World} {b g:Nat} {s:aL} {bt:jP} {E:Int} (h:bz wz b g s) (he:iz s bt=E) (h0:E≠0) (hb:Below wz.heap.size wz w'):xV wz b g s bt (.returned (.int .i64 E)) w':=by
 have h1:iz s bt≠0:=by omega
 have h2:mM s bt=s:=by unfold mM;rw [if_neg h1]
 exact⟨by rw[he],by rw[h2];exact h.below hb,aB.of_below hb⟩
theorem Sz {wz w7:World} {b g:Nat} {s:aL} {bt:jP} {f l p l2 p2:Value} (h:bz wz b g s) (lF:vV bt) (he:iz s bt=0) (v:l7 w7 b g s f l p) (hb:Below wz.heap.size wz w7) (hl:bA w7 b l2 (qh (iZ s.L bt.V) bt.G)) (hp:aY w7 b p2 (dP (s.S++bt.S))):
  xV wz b g s bt (.returned (.int .i64 0)) ((w7.setCell ⟨g,4,none⟩ l2).setCell ⟨g,5,none⟩ p2):=by
 have d1:kJ 191=false:=by decide
 have b0:=v.blk;have b1:=ax (j:=4) (v:=l2) b0;have b2:=ax (j:=5) (v:=p2) b1;have S7:aB (fun q=>q=g) w7 ((w7.setCell ⟨g,4,none⟩ l2).setCell ⟨g,5,none⟩ p2):=aB.sets (G:=fun q=>q=g) (aB.sets (G:=fun q=>q=g) (aB.refl _ _) b0 d1 rfl) b1 d1 rfl;have eS:mM s bt= { s with L:=qh (iZ s.L bt.V) bt.G,S:=dP (s.S++bt.S) } :=by unfold mM;rw [if_pos he]
 refine⟨by rw[he],⟨Sv h.ok lF,h.ge,f,l2,p2, ?_, ?_, ?_, ?_⟩,(aB.of_below hb).trans S7⟩
 ·rw[b2,eS];rfl
 ·rw[eS];exact v.f.bD S7
 ·rw[eS];exact hl.bD S7
 ·rw[eS];exact hp.bD S7
theorem stake_c (g b:Nat) (s:aL) (bt:jP) (A:List Pt) (vv gv pv:Value) (wz:World) (h:bz wz b g s) (lF:vV bt) (hv:bK eu wz vv bt.V) (Vt:bK xM wz gv bt.G) (hA:bK cU wz pv A) (TQ: ∀x∈A,eG x) (ZM:A.map sem=bt.S):
  Calls Tryz.prog 97 #[.pointer (some ⟨g,0,none⟩), .agg #[.int .i64 bt.site, .int .i64 bt.stamp,vv,gv,pv]] wz (xV wz b g s bt):=by
 obtain⟨va,vc,rfl⟩:=hv.shape;obtain⟨ga,gc,rfl⟩:=Vt.shape;obtain⟨pa,pc,rfl⟩:=hA.shape;have hv60:=lF.lv;have hg60:=lF.lg;have ZK:A.length≤30:=by have:=lF.ls;rw [←ZM,List.length_map] at this;exact this
 obtain⟨BX,Gm⟩: ∃BX,BX=wz.heap.size:=⟨_,rfl⟩
 obtain⟨W,hW⟩: ∃W,W=wz.alloc (.cells #[.int .i64 bt.site, .int .i64 bt.stamp, .slice va bt.V.length vc, .slice ga bt.G.length gc, .slice pa A.length pc] 158):=⟨_,rfl⟩
 have hbW:Below wz.heap.size wz W:=by rw[hW];exact aG _
 have HX:=jD (show W.heap[BX]? =some (Obj.cells #[.int .i64 bt.site, .int .i64 bt.stamp, .slice va bt.V.length vc, .slice ga bt.G.length gc, .slice pa A.length pc] 158 (0,0)) by rw[hW];exact au _ _ _ _ Gm);have HS:=jD h;have HV:=jD hv;have HG:=jD Vt;have HA:=jD hA;have HAO:=jD TQ;have HAS:=jD ZM;have lN:=jD lF;have HB:=jD hbW;have Ao:=jD (SL lF TQ ZK);have Bl:=jD (SJ _ _ _ ⟨bt.site,bt.stamp,bt.V,bt.G,A⟩ W ⟨hv.below hbW,Vt.below hbW,hA.below hbW⟩);have H1:=jD (show bt.site≠s.me→iz s bt=1 from fun h=>by unfold iz;rw [if_pos h]);have H6:=jD (show bt.site=s.me→bt.stamp≠s.stamp→iz s bt=6 from fun h h2=>by unfold iz;rw [if_neg (by omega),if_pos h2]);have HP:=jD (show bt.site=s.me→bt.stamp=s.stamp→putsE s.L bt.V≠0→iz s bt=putsE s.L bt.V from fun h h2 h3=>by unfold iz;rw [if_neg (by omega),if_neg (by omega),if_pos h3]);have HQ:=jD (show bt.site=s.me→bt.stamp=s.stamp→putsE s.L bt.V=0→iz s bt=if 30≤(dP (s.S++bt.S)).length then 2 else 0 from fun h h2 h3=>by unfold iz;rw [if_neg (by omega),if_neg (by omega),if_neg (by omega)]);obtain⟨f0,l0,p0,hblk,hf,hl,vr⟩:=h.cells;obtain⟨la,lc,hlv⟩:=hl.shape;subst hlv;have V:=jD (l7.below (show l7 wz b g s f0 (.slice la s.L.length lc) p0 from⟨hblk,hf,hl,vr⟩) hbW);have hll:=h.ok.L.len;have x0:=cq 0 HX.o rfl;have x1:=cq 1 HX.o rfl;have x2:=cq 2 HX.o rfl;have x3:=cq 3 HX.o rfl;have x4:=cq 4 HX.o rfl;have xl:=ai HX.o;rw[hW,Gm] at x0 x1 x2 x3 x4 xl;clear h hv Vt hA TQ ZM lF hbW hblk hf hl vr;go_enter Tryz.func97,Tryz.ntmps97;go_wp2_with fail
 rw[←hW,←Gm];clear hW Gm x0 x1 x2 x3 x4 xl;(with_reducible refine(Bl.o).mono ?_);rintro e w1 ⟨rfl,hb1⟩;rw[Ao.o];replace HX:=jD (ag hb1 HX.o);replace V:=jD (V.o.below hb1);replace HB:=jD (aj HB.o hb1);have x0:=cq 0 HX.o rfl;have xl:=ai HX.o;have c0:w1.cell? ⟨g,0,none⟩=some (.int .i64 s.me):=cq 0 V.o.blk rfl;have gl:=ai V.o.blk;clear hb1 Bl Ao;by_cases hs:bt.site=s.me;rotate_left
 ·have hE:=jD (H1.o hs);have hd:(bt.site != s.me)=true:=bne_iff_ne.2 hs;have hd2:decide (bt.site=s.me)=false:=by simpa using hs
  clear H1 H6 HP HQ;go_wp2;go_region;go_wp2;go_ret;exact wD HS.o hE.o (by decide) HB.o.drew
 have z7:=jD hs;have hd:(bt.site != s.me)=false:=by simpa using hs
 have hd2:decide (bt.site=s.me)=true:=by simpa using hs
 clear hs;go_wp2;go_region;obtain⟨w2,hw2⟩: ∃w2,w2=w1.drew:=⟨_,rfl⟩
 have hb2:Below w1.heap.size w1 w2:=by rw[hw2];exact (br).drew
 rw[←hw2];replace HX:=jD (ag hb2 HX.o);replace V:=jD (V.o.below hb2);replace HB:=jD (aj HB.o hb2);clear hw2 hb2 x0 xl c0 gl hd hd2 H1;have x1:=cq 1 HX.o rfl;have xl:=ai HX.o;have c2:w2.cell? ⟨g,2,none⟩=some (.int .i64 s.stamp):=cq 2 V.o.blk rfl;have gl:=ai V.o.blk;by_cases ht:bt.stamp=s.stamp;rotate_left
 ·have hE:=jD (H6.o z7.o ht);have hd:(bt.stamp != s.stamp)=true:=bne_iff_ne.2 ht;have hd2:decide (bt.stamp=s.stamp)=false:=by simpa using ht
  clear H6 HP HQ;go_wp2;go_region;go_wp2;go_ret;exact wD HS.o hE.o (by decide) HB.o.drew
 have Bk:=jD ht;have hd:(bt.stamp != s.stamp)=false:=by simpa using ht
 have hd2:decide (bt.stamp=s.stamp)=true:=by simpa using ht
 clear ht;go_wp2;go_region;obtain⟨w3,hw3⟩: ∃w3,w3=w2.drew:=⟨_,rfl⟩
 have hb3:Below w2.heap.size w2 w3:=by rw[hw3];exact (br).drew
 rw[←hw3];replace HX:=jD (ag hb3 HX.o);replace V:=jD (V.o.below hb3);replace HB:=jD (aj HB.o hb3);clear hw3 hb3 x1 xl c2 gl hd hd2 H6;have x2:=cq 2 HX.o rfl;have xl:=ai HX.o;have c4:w3.cell? ⟨g,4,none⟩=some (.slice la s.L.length lc):=cq 4 V.o.blk rfl;have gl:=ai V.o.blk;have ME:=jD (fun h=>HP.o z7.o Bk.o h);have HQ2:=jD (fun h=>HQ.o z7.o Bk.o h);have jN:=jD V.o.l;clear HP HQ;go_wp2;clear x2 xl c4 gl;go_loopw [41,6] (fun i lv wr=> ∃k:Nat,k≤bt.V.length∧i= .int .i64 k∧putsE s.L (bt.V.take k)=0∧bA wr b lv (iZ s.L (bt.V.take k))∧Below w3.heap.size w3 wr) (fun i _ _=>bt.V.length - (intOf i).toNat)
 case atStart=>exact ⟨0,Nat.zero_le _,rfl,rfl,jN.o,br⟩
 case round=>
  obtain⟨k,hk,rfl,hpe,n9,hbl⟩:=hrel;obtain⟨oa,on,oc,hov⟩:=sl3 n9.shape;subst hov;have V3:=jD (Ga HS.o.ok.L hpe);by_cases hlt:k < bt.V.length
  ·have lV:decide ((k:Int) < (bt.V.length:Int))=true:=by simp;omega
   have VY:=jD (HV.o.below (aj HB.o hbl));have tG:=jD hbl;have mW:=jD (n9.at_ (ij V3.o.ok) (by have:=V3.o.len;omega));have eT:=jD (PC hlt hpe);have qu:=jD (Nz hlt hpe);have iU:=jD (Lt (L:=s.L) hlt);obtain⟨a',cap',ha', -, -, -,Ch⟩:=VY.o.open_;simp only[Value.slice.injEq,true_and] at ha';obtain⟨ha',rfl⟩:=ha';rcases Ch with hnil | ⟨b7,off,rfl,hb,hc⟩
   ·rw[hnil] at hlt;simp at hlt
   subst ha';obtain⟨c,⟨u,x,rfl,hk2⟩,hcc⟩:=hc k hlt;obtain⟨ua,uc,rfl⟩:=hk2.vec.shape;obtain⟨xa,xc,rfl⟩:=hk2.more.shape;have hcl:=fun (i:Nat) (y:Value) (hy:(aN bt.V[k] (.slice ua bt.V[k].past.vec.length uc) (.slice xa bt.V[k].past.more.length xc)).toList[i]? =some y)=>xo (b:=b7) (off:=off) (i:=k) hcc hy;have c0:=hcl 0 _ rfl;have c1:=hcl 1 _ rfl;have c2:=hcl 2 _ rfl;have c3:=hcl 3 _ rfl;have c4:=hcl 4 _ rfl;have c5:=hcl 5 _ rfl;have c6:=hcl 6 _ rfl;have c7:=hcl 7 _ rfl;rw[Nat.add_zero] at c0;clear hc hcc hcl hbl n9 hpe jN;generalize bt.V[k]=v1 at*;generalize iZ s.L (bt.V.take k)=LK at*;obtain⟨W1,hW1⟩: ∃W1,W1=wr.alloc (.cells #[.string v1.id, .int .i64 v1.ds, .int .i64 v1.dc, .int .i64 v1.tg, .int .i64 v1.nm, .int .i64 v1.bd, .slice ua v1.past.vec.length uc, .slice xa v1.past.more.length xc] 120):=⟨_,rfl⟩
   have hb1:Below wr.heap.size wr W1:=by rw[hW1];exact aG _
   have HC:=jD (put_c _ LK v1 _ _ W1 (mW.o.below hb1) (hk2.below hb1));unfold aN at HC;replace tG:=jD (aj tG.o hb1);clear hk2 hb1 mW VY;go_wp2_with fail
   rw[←hW1];clear hW1;(with_reducible refine(HC.o).mono ?_);rintro e w5 ⟨ov,rfl,ho,bR⟩;obtain⟨qa,qc,hq⟩:=ho.shape;subst hq;have HO:=jD ho;have oo:=jD (aj tG.o bR);have hbs:b≤W1.heap.size:=by have h1:=HS.o.ge;have h2:=HS.o.lt;have h3:=HB.o.size;have h4:=tG.o.size;omega
   clear ho bR HC tG c0 c1 c2 c3 c4 c5 c6 c7 hb;by_cases hz:cM LK v1=0
   ·have Ry:=jD (bA.mono HO.o hbs);have HR:=jD (wF hz);have HZ:=jD hz;rw[HR.o] at Ry;rw[hz];clear HO hz;go_wp2;go_roundw
    case rel=>exact ⟨k+1,by omega,by go_num,qu.o HZ.o,by rw[iU.o,←HR.o];rw [HR.o];exact Ry.o,oo.o⟩
    case measure=>simp [intOf] <;> omega
   ·have hE:=jD ((ME.o (by rw[eT.o hz];exact hz)).trans (eT.o hz));have HZ:=jD hz;have hd:decide (cM LK v1=0)=false:=by simpa using hz
    have hd2:(cM LK v1 != 0)=true:=bne_iff_ne.2 hz;have RR:=jD (aj HB.o oo.o);clear HO hz eT qu ME HQ2;generalize cM LK v1=q at*;go_wp2;go_ret;exact wD HS.o hE.o HZ.o RR.o
  ·obtain rfl:k=bt.V.length:=by omega
   rw[List.take_length] at hpe n9 V3;have hkb:decide ((bt.V.length:Int) < (bt.V.length:Int))=false:=by simp
   have D8:=jD (HQ2.o hpe);obtain⟨w4,hw4⟩: ∃w4,w4=wr:=⟨_,rfl⟩
   rw[←hw4] at n9 hbl ⊢;replace HX:=jD (ag hbl HX.o);replace V:=jD (V.o.below hbl);replace HB:=jD (aj HB.o hbl);have GN:=jD n9;have x3:=cq 3 HX.o rfl;have xl:=ai HX.o;clear hw4 hbl n9 hpe ME HQ2 jN HV;go_wp2;clear x3 xl;go_loopw [58,6] (fun i lv wr=> ∃k:Nat,k≤bt.G.length∧i= .int .i64 k∧bA wr b lv (qh (iZ s.L bt.V) (bt.G.take k))∧Below w4.heap.size w4 wr) (fun i _ _=>bt.G.length - (intOf i).toNat)
   case atStart=>exact ⟨0,Nat.zero_le _,rfl,GN.o,br⟩
   case round=>
    obtain⟨k,hk,rfl,n9,hbl⟩:=hrel;obtain⟨oa,on,oc,hov⟩:=sl3 n9.shape;subst hov;have V4:=jD (GA V3.o (bt.G.take k));by_cases hlt:k < bt.G.length
    ·have lV:decide ((k:Int) < (bt.G.length:Int))=true:=by simp;omega
     have HGr:=jD (HG.o.below (aj HB.o hbl));have tG:=jD hbl;have mW:=jD (n9.at_ (ij V4.o.ok) (by have:=V4.o.len;omega));have HDZ:=jD (XF V4.o (lN.o.G _ (List.getElem_mem hlt)));have KJ:=jD (LC (L:=iZ s.L bt.V) hlt);obtain⟨a',cap',ha', -, -, -,Ch⟩:=HGr.o.open_;simp only[Value.slice.injEq,true_and] at ha';obtain⟨ha',rfl⟩:=ha';rcases Ch with hnil | ⟨b7,off,rfl,hb,hc⟩
     ·rw[hnil] at hlt;simp at hlt
     subst ha';obtain⟨c,hE7,hcc⟩:=hc k hlt;obtain⟨u,x,d0,d1,d2,hk2⟩:=Dq hb (br) hE7 hcc;obtain⟨ua,uc,rfl⟩:=hk2.vec.shape;obtain⟨xa,xc,rfl⟩:=hk2.more.shape;clear hc hcc hE7 hbl n9 GN;generalize bt.G[k]=g1 at*;generalize qh (iZ s.L bt.V) (bt.G.take k)=LK at*;obtain⟨W1,hW1⟩: ∃W1,W1=wr.alloc (.cells #[.string g1.id, .slice ua g1.past.vec.length uc, .slice xa g1.past.more.length xc] 201):=⟨_,rfl⟩
     have hb1:Below wr.heap.size wr W1:=by rw[hW1];exact aG _
     have HC:=jD (ZY _ LK g1.id g1.past _ _ W1 (mW.o.below hb1) (hk2.below hb1));replace tG:=jD (aj tG.o hb1);clear hk2 hb1 mW HGr;go_wp2_with fail
     rw[←hW1];clear hW1;(with_reducible refine(HC.o).mono ?_);rintro e w5 ⟨ov,rfl,ho,bR⟩;obtain⟨qa,qc,hq⟩:=ho.shape;subst hq;have hbs:b≤W1.heap.size:=by have h1:=HS.o.ge;have h2:=HS.o.lt;have h3:=HB.o.size;have h4:=tG.o.size;omega
     have HO:=jD (show bA w5 b (.slice qa (AK LK g1.id g1.past).length qc) (rN LK g1.id g1.past) by
      have h1:=bA.mono ho hbs;rw[JX HDZ.o] at h1 ⊢;exact h1)
     have oo:=jD (aj tG.o bR);have hz:=HDZ.o;rw[hz];clear ho bR HC tG d0 d1 d2 hb hz;go_wp2;go_roundw
     case rel=>exact ⟨k+1,by omega,by go_num,by rw[KJ.o];exact HO.o,oo.o⟩
     case measure=>simp [intOf] <;> omega
    ·obtain rfl:k=bt.G.length:=by omega
     rw[List.take_length] at n9 V4;have hkb:decide ((bt.G.length:Int) < (bt.G.length:Int))=false:=by simp
     obtain⟨w5,lD⟩: ∃w5,w5=wr:=⟨_,rfl⟩
     rw[←lD] at n9 hbl ⊢;replace HX:=jD (ag hbl HX.o);replace V:=jD (V.o.below hbl);replace HB:=jD (aj HB.o hbl);replace GN:=jD n9;obtain⟨fG,hp1,hp2,yo⟩:=V.o.p;have hlen:fG.length≤29:=by have:=HS.o.ok.len;rw [←yo,List.length_map] at this;exact this
     obtain⟨Vc,Vb,hpv⟩:=hp1.shape;subst hpv;have RV:=jD (cq 5 V.o.blk rfl:w5.cell? ⟨g,5,none⟩=some (.slice Vc fG.length Vb));have vO:=jD (cq 4 HX.o rfl:w5.cell? ⟨BX,4,none⟩=some (.slice pa A.length pc));have kH:=jD (hp1.at_ (fun q hq=>(hp2 q hq).1) (by omega));have V7:=jD (HA.o.below HB.o);have Rw:=jD (show mO fG A=if 30 < (dP (s.S++bt.S)).length then 2 else 0 by
      rw[W9 (fo.2 ⟨by omega,fun q hq=>(hp2 q hq).1⟩) (fo.2 ⟨ZK,HAO.o⟩),yo,HAS.o])
     have V2:=jD (show(fG++A).map sem=s.S++bt.S by rw[List.map_append,yo,HAS.o]);have dZ:=jD (show b≤w5.heap.size by have h1:=HS.o.ge;have h2:=HS.o.lt;have h3:=HB.o.size;omega);clear lD hbl n9 hp1 hp2 yo HG;go_wp2_with fail
     refine Cl.aV 96 rfl [] (fun _=>True) (fun _=>[]) (fun jq v ww=>match jq with | 0=>v= .pointer (some ⟨g,0,none⟩) | 1=>v= .pointer (some ⟨g,0,none⟩) | 2=>v= .pointer (some ⟨g,5,none⟩) | 3=>v= .slice Vc fG.length Vb | 4=>v= .pointer (some ⟨BX,4,none⟩) | 5=>v= .slice pa A.length pc | 6=>vN ww w5.heap.size (mO fG A) (dP (s.S++bt.S)) v | 7=>vN ww w5.heap.size (mO fG A) (dP (s.S++bt.S)) v | 8=>Cw ww w5.heap.size (mO fG A) (dP (s.S++bt.S)) v | 9=>v= .int .i64 (mO fG A) | 10=>Cw ww w5.heap.size (mO fG A) (dP (s.S++bt.S)) v | 11=>v= .int .i64 (mO fG A) | _=>True) (fun ww=>Below w5.heap.size w5 ww) (fun jq ww aR=>Below ww.heap.size ww aR) Tryz.mixed (by decide+kernel) (br).drew trivial ?_ (fun _ _ _ _ _ _=>trivial) ?_ ?_
     ·intro q r v w w' hne hk hlt h hR;match r,hk,hlt,h,hne with
      | 0,_,_,h,_=>exact h
      | 1,_,_,h,_=>exact h
      | 2,_,_,h,_=>exact h
      | 3,_,_,h,_=>exact h
      | 4,_,_,h,_=>exact h
      | 5,_,_,h,_=>exact h
      | 6,_,_,h,_=>exact h.below hR
      | 7,_,_,h,_=>exact h.below hR
      | 8,_,_,h,_=>exact h.below hR
      | 9,_,_,h,_=>exact h
      | 10,_,_,h,_=>exact h.below hR
      | 11,_,_,h,_=>exact h
      | _+12,_,_,_,_=>trivial
     ·refine⟨?_, ?_, ?_, ?_, ?_, ?_, ?_, ?_, ?_, ?_, ?_, ?_,trivial⟩
      ·intro x wx hG;have f0:=hG.o 0;replace hG:=hG.g;go_wp2;exact⟨_,rfl,rfl,hG,br⟩
      ·intro x wx hG;have g0:=gr 73 (hG.c 0 _ rfl);replace hG:=hG.g;go_wp2;exact⟨_,rfl,rfl,hG,br⟩
      ·intro x wx hG;have g1:=gr 74 (hG.c 1 _ rfl);replace hG:=hG.g;go_wp2;exact⟨_,rfl,rfl,hG,br⟩
      ·intro x wx hG;have g2:=gr 75 (hG.c 2 _ rfl);replace hG:=hG.g;have c_HC5:=ah hG RV.o;go_wp2;exact⟨_,rfl,rfl,hG,br⟩
      ·intro x wx hG;have f3:=hG.o 3;replace hG:=hG.g;go_wp2;exact⟨_,rfl,rfl,hG,br⟩
      ·intro x wx hG;have g4:=gr 77 (hG.c 4 _ rfl);replace hG:=hG.g;have acz:=ah hG vO.o;go_wp2;exact⟨_,rfl,rfl,hG,br⟩
      ·intro x wx hG;have g3:=gr 76 (hG.c 3 _ rfl);have g5:=gr 78 (hG.c 5 _ rfl);replace hG:=hG.g;have HN:=jD (W8 _ _ fG A wx (kH.o.below hG) (V7.o.below hG));go_wp2_with fail
       (with_reducible refine(HN.o).mono ?_);rintro e wq ⟨ov,rfl,ho,hb⟩;rw[V2.o] at ho;obtain⟨qa8,qn8,qc8,hov⟩:=mS.shape ho;subst hov;have GX:=jD (mS.mono ho hG.size);have cK:=jD hb;clear ho hb HN;go_wp2;exact⟨_,rfl,⟨_,_,_,rfl,GX.o⟩,aj hG cK.o,cK.o⟩
      ·intro x wx hG;have g6:vN wx w5.heap.size (mO fG A) (dP (s.S++bt.S)) (x.tmps.getD 79 undef):=hG.c 6 _ rfl;replace hG:=hG.g;obtain⟨YE,YB,YD,hv,ho⟩:=g6;have GX:=jD ho;have hvb:=hv;rw[Array.getD_eq_getD_getElem?] at hvb;clear ho;go_wp2;exact⟨_,rfl,⟨_,_,_,rfl,GX.o⟩,hG,br⟩
      ·intro x wx hG;have g7:vN wx w5.heap.size (mO fG A) (dP (s.S++bt.S)) (x.tmps.getD 72 undef):=hG.c 7 _ rfl;replace hG:=hG.g;obtain⟨YE,YB,YD,hv,ho⟩:=g7;have GX:=jD ho;have hvb:=hv;rw[Array.getD_eq_getD_getElem?] at hvb;clear ho;go_wp2;exact⟨_,rfl,⟨_,_,_,rfl,GX.o⟩,hG,br⟩
      ·intro x wx hG;have g7:vN wx w5.heap.size (mO fG A) (dP (s.S++bt.S)) (x.tmps.getD 72 undef):=hG.c 7 _ rfl;replace hG:=hG.g;obtain⟨YE,YB,YD,hv,ho⟩:=g7;have GX:=jD ho;have hvb:=hv;rw[Array.getD_eq_getD_getElem?] at hvb;clear ho;go_wp2;exact⟨_,rfl,rfl,hG,br⟩
      ·intro x wx hG;have g8:Cw wx w5.heap.size (mO fG A) (dP (s.S++bt.S)) (x.tmps.getD 80 undef):=hG.c 8 _ rfl;replace hG:=hG.g;obtain⟨YE,YB,YD,hv,ho⟩:=g8;have GX:=jD ho;have hvb:=hv;rw[Array.getD_eq_getD_getElem?] at hvb;clear ho;go_wp2;exact⟨_,rfl,⟨_,_,_,rfl,GX.o⟩,hG,br⟩
      ·intro x wx hG;have g9:=gr 81 (hG.c 9 _ rfl);replace hG:=hG.g;go_wp2;exact⟨_,rfl,rfl,hG,br⟩
     ·intro af w6 hg hF;obtain⟨g0,g1,g2,g3,g4,g5,g6,g7,g8,g9,g10,g11, -⟩:=hF;replace g10:Cw w6 w5.heap.size (mO fG A) (dP (s.S++bt.S)) (af 10):=g10 rfl;simp only[Cl3.puts,gq (af 0) g0,gq (af 1) g1,gq (af 2) g2,gq (af 3) g3,gq (af 4) g4,gq (af 5) g5,gq (af 9) g9,gq (af 11) g11];clear g0 g1 g2 g3 g4 g5 g6 g7 g8 g9 g11;go_simp
      generalize af 10=jv at*;obtain⟨ja,jn,jc,hjv,hjo⟩:=g10;subst hjv;replace V:=jD (V.o.below hg);replace HB:=jD (aj HB.o hg);replace GN:=jD (bA.below GN.o hg);have We:=jD hjo;clear hg hjo HX RV vO kH V7 HA HAO;generalize af 6=j6 at*;generalize af 7=j7 at*;generalize af 8=j8 at*;obtain⟨n,hn⟩: ∃n,n=(dP (s.S++bt.S)).length:=⟨_,rfl⟩
      rw[←hn] at Rw D8;by_cases se:30 < n
      ·have hE:=jD (D8.o.trans (if_pos (by omega)));have hq:=Rw.o.trans (if_pos se);rw[hq];clear Rw D8 We hn se hq;go_wp2;go_ret;exact wD HS.o hE.o (by decide) HB.o
      have hq:=Rw.o.trans (if_neg se);rw[hq] at We;have hjo:=We.o.1 rfl;obtain⟨ja2,jc2,hj2⟩:=hjo.shape;simp only[Value.slice.injEq] at hj2;obtain⟨rfl,hjn,rfl⟩:=hj2;rw[←hn] at hjn;subst hjn;have HJ:=jD (aY.mono hjo dZ.o);rw[hq];clear We hjo Rw hq;have HN:=jD hn;clear hn;by_cases he:jn=30
      ·have hE:=jD (D8.o.trans (if_pos (by omega)));have hd:decide ((jn:Int)=30)=true:=by simp;omega
       have hd2:((jn:Int)==30)=true:=by simp;omega
       clear D8 HJ se he HN;go_wp2;go_ret;exact wD HS.o hE.o (by decide) HB.o
      have hE:=jD (D8.o.trans (if_neg (by omega)));have hd:decide ((jn:Int)=30)=false:=by simp;omega
      have hd2:((jn:Int)==30)=false:=by simp;omega
      have s4:w6.cell? ⟨g,4,none⟩=some (.slice la s.L.length lc):=cq 4 V.o.blk rfl;have s5:w6.cell? ⟨g,5,none⟩=some (.slice Vc fG.length Vb):=cq 5 V.o.blk rfl;have t4:=fq 4 V.o.blk;have t5:=fq 5 V.o.blk;have gl:=ai V.o.blk;clear D8 se he;go_wp2;go_ret;exact Sz HS.o lN.o hE.o V.o HB.o GN.o HJ.o
def sL (lo:Nat) (w w':World):Prop:= ∃(q:Nat) (x y:Value),lo≤q∧w.heap[q]? =some (Obj.cells #[.int .i64 0, .int .i64 0] 103 (0,0))∧w'=(w.setCell ⟨q,0,none⟩ x).setCell ⟨q,1,none⟩ y
theorem XK {w:World} {base q n:Nat} {v x y:Value} {d:dN} (hq:w.heap[q]? =some (Obj.cells #[.int .i64 0, .int .i64 0] 103 (0,0))) (h:w.ownsRow base 103 2 v n (az d)) (hd: ∀z∈d,z.2≠0):((w.setCell ⟨q,0,none⟩ x).setCell ⟨q,1,none⟩ y).ownsRow base 103 2 v n (az d):=by
 refine⟨h.1, ?_⟩;rcases h.2 with h0 | ⟨g,cap,cur,h1,h2,h3,h4,h5,h6,h7⟩
 ·exact .inl h0
 ·by_cases hg:g=q
  ·subst hg;rw[hq] at h3;simp only[Option.some.injEq,Obj.cells.injEq,and_true] at h3;obtain⟨rfl, -⟩:=h3;have hn:n=0:=by
    cases d with
    | nil=>have:=h.1;simp [az] at this;omega
    | cons z d=>
     exfalso;have hz:=hd z (by simp);have hn0:n≠0:=by intro e;have:=h.1;rw [e] at this;simp [az] at this
     have h9:=congrArg (·[1]?) h7;have e1:(az (z::d))[1]? =some (.int .i64 z.2):=by simp[az]
     have e2:((#[Value.int IntKind.i64 0,Value.int IntKind.i64 0]:Array Value).toList.take (n*2))[1]? =some (.int .i64 0):=by
      rw[List.getElem?_take_of_lt (by omega)];rfl
     rw[e1] at h9;rw[e2] at h9;simp only[Option.some.injEq,Value.int.injEq,true_and] at h9;exact hz h9.symm
   subst hn;have hx:az d=[]:=List.eq_nil_of_length_eq_zero (by simpa using h.1);refine .inr ⟨g,cap,_,h1,h2,ax (ax hq),h4,h5,by simpa using h6, ?_⟩;rw[hx];simp
  ·exact .inr ⟨g,cap,cur,h1,h2,by rw[aC hg,aC hg];exact h3,h4,h5,h6,h7⟩
theorem jr {w:World} {base e size q n:Nat} {v x y:Value} {xs:List Value} {cs:Array Value} (hq:w.heap[q]? =some (Obj.cells cs 103 (0,0))) (h:w.ownsRow base e size v n xs) (he:e≠103):((w.setCell ⟨q,0,none⟩ x).setCell ⟨q,1,none⟩ y).ownsRow base e size v n xs:=by
 have h1:aM (fun t=>t != 103) w (w.setCell ⟨q,0,none⟩ x):=aM.iG hq (by decide);have h2:aM (fun t=>t != 103) (w.setCell ⟨q,0,none⟩ x) ((w.setCell ⟨q,0,none⟩ x).setCell ⟨q,1,none⟩ y):=aM.iG (ax hq) (by decide);exact(h1.trans h2).owns h (by simpa using he)
theorem XI {k:Kn} (h:gz k): ∀z∈k.more,z.2≠0:=fun z hz=>by
 have:=XL (h.nH z hz).1;omega
theorem bI.dot {w:World} {base q:Nat} {u v x y:Value} {k:Kn} (hq:w.heap[q]? =some (Obj.cells #[.int .i64 0, .int .i64 0] 103 (0,0))) (h:bI w base u v k) (hk:gz k):bI ((w.setCell ⟨q,0,none⟩ x).setCell ⟨q,1,none⟩ y) base u v k:=
 ⟨jr hq h.vec (by decide),XK hq h.more (XI hk)⟩
theorem cR.dot {w:World} {base q:Nat} {v x y:Value} {l:bB} {cs:Array Value} (hq:w.heap[q]? =some (Obj.cells cs 103 (0,0))) (h:cR w base v l):cR ((w.setCell ⟨q,0,none⟩ x).setCell ⟨q,1,none⟩ y) base v l:=by
 obtain⟨us,h1,h2,h3⟩:=h;exact⟨us,h1,jr hq h2 (by decide),fun i a b=>jr hq (h3 i a b) (by decide)⟩
theorem VE.dot {w:World} {base q:Nat} {x y:Value} (hq:w.heap[q]? =some (Obj.cells #[.int .i64 0, .int .i64 0] 103 (0,0))): ∀ {l:List aA} {cs:List (List Value)},VE w base l cs→(∀v∈l,dz v)→VE ((w.setCell ⟨q,0,none⟩ x).setCell ⟨q,1,none⟩ y) base l cs
 | [],[],_,_=>trivial
 | v::l,c::cs,⟨⟨a,n,d,b,m,e,h1,h2⟩,h3⟩,hv=>⟨⟨a,n,d,b,m,e,h1,h2.dot hq (hv v (by simp)).past⟩,VE.dot hq h3 fun z hz=>hv z (by simp[hz])⟩
 | [],_::_,h,_=>h.elim
 | _::_,[],h,_=>h.elim
theorem bA.dot {w:World} {base q:Nat} {v x y:Value} {l:List aA} (hq:w.heap[q]? =some (Obj.cells #[.int .i64 0, .int .i64 0] 103 (0,0))) (h:bA w base v l) (hv: ∀v∈l,dz v):bA ((w.setCell ⟨q,0,none⟩ x).setCell ⟨q,1,none⟩ y) base v l:=by
 obtain⟨css,h1,h2⟩:=h;exact⟨css,h1.dot hq hv,jr hq h2 (by decide)⟩
theorem aY.dot {w:World} {base q:Nat} {v x y:Value} {S:List SP} (hq:w.heap[q]? =some (Obj.cells #[.int .i64 0, .int .i64 0] 103 (0,0))) (h:aY w base v S):aY ((w.setCell ⟨q,0,none⟩ x).setCell ⟨q,1,none⟩ y) base v S:=by
 obtain⟨l,⟨css,Ss,h⟩,hok,hs⟩:=h;refine⟨l,⟨css,Ss,h.lc,h.ls,jr hq h.row (by decide),fun i a b c=> ?_,h.apart,fun i hi z hz=>by simpa using h.low i hi z hz⟩,hok,hs⟩;obtain⟨f,u,z,us,h1,h2,h3,h4,h5,h6⟩:=h.each i a b c;exact⟨f,u,z,us,h1,h2,jr hq h3 (by decide),fun j d e=>jr hq (h4 j d e) (by decide),h5.dot hq (di.1 (hok _ (List.getElem_mem a)).1.k).1,h6⟩
theorem bz.dot {lo:Nat} {w w':World} {b g:Nat} {s:aL} (h:bz w b g s) (hd:sL lo w w') (hg:g < lo):bz w' b g s:=by
 obtain⟨q,x,y,hq,hb,rfl⟩:=hd;obtain⟨f,l,p,h1,⟨fl,h2,h3⟩,h4,h5⟩:=h.cells;exact⟨h.ok,h.ge,f,l,p,by rw[aC (by omega),aC (by omega)];exact h1,⟨fl,cR.dot hb h2,h3⟩,h4.dot hb h.ok.L.ok,h5.dot hb⟩
theorem sL.bD {G:Nat→Prop} {w0 w w':World} (h:aB G w0 w) (hd:sL w0.heap.size w w'):aB G w0 w':=by
 obtain⟨q,x,y,hq,hb,rfl⟩:=hd;exact(h.new hb hq).new (ax hb) hq
end Go.Proofs.YtajgndoiddmbmaaGreatDoor
