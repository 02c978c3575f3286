/- Towards what desk.Run answers. -/
import Derived.Test.YtajgndoiddmbmaaGreatDoorMSiteA
namespace Go.Proofs.YtajgndoiddmbmaaGreatDoor
set_option maxRecDepth 100000
set_option maxHeartbeats 40000000
open Go.RowKit
def mU (w:World) (base:Nat) (s:aL) (f u:Value):Prop:=cR w base f uA∧w.ownsRow base 3 1 u (gH s.me s.made).length (cV (gH s.me s.made))
theorem mU.below {w w':World} {base:Nat} {s:aL} {f u:Value} (h:mU w base s f u) (hb:Below w.heap.size w w'):mU w' base s f u:=⟨h.1.below hb,aI h.2 hb⟩
theorem mU.mono {w:World} {base base':Nat} {s:aL} {f u:Value} (h:mU w base s f u) (hb:base'≤base):mU w base' s f u:=⟨h.1.mono hb,bV h.2 hb⟩
theorem mU.shape {w:World} {base:Nat} {s:aL} {f u:Value} (h:mU w base s f u):(∃a c,f= .slice a 1 c)∧ ∃a c,u= .slice a (gH s.me s.made).length c:=by
 obtain⟨⟨us, -,h1, -⟩,h2⟩:=h;exact⟨ay h1,ay h2⟩
theorem mU.el {w:World} {base:Nat} {s:aL} {f u:Value} (h:mU w base s f u) (hs:dV s):cU.El w (rK s) [f,u, .slice none 0 0]:=by
 have h1:=(y5 hs.me hs.made).len;have h1:(gH s.me s.made).length≤5:=h1;exact⟨f,u,_,rfl,h.1.vJ (show bP uA=0 by decide),⟨aF.fZ h.2 (show(gH s.me s.made).length≤_ by omega),aF.nil _⟩⟩
def zW (w:World) (base:Nat) (s:aL) (v:Value):Prop:= ∃f u,v= .agg #[f,u, .slice none 0 0]∧mU w base s f u
theorem zW.below {w w':World} {base:Nat} {s:aL} {v:Value} (h:zW w base s v) (hb:Below w.heap.size w w'):zW w' base s v:=by
 obtain⟨f,u,h1,h2⟩:=h;exact ⟨f,u,h1,h2.below hb⟩
def zV (w:World) (base:Nat) (s:aL) (v:Value):Prop:= ∃q f u,v= .slice (some ⟨q,0,none⟩) 1 1∧w.heap[q]? =some (Obj.cells #[f,u, .slice none 0 0] 238 (0,0))∧base≤q∧mU w base s f u
theorem zV.below {w w':World} {base:Nat} {s:aL} {v:Value} (h:zV w base s v) (hb:Below w.heap.size w w'):zV w' base s v:=by
 obtain⟨q,f,u,h1,h2,h3,h4⟩:=h;exact ⟨q,f,u,h1,ag hb h2,h3,h4.below hb⟩
def DV (w:World) (s:aL) (l:List Pt) (v:Value):Prop:= ∃a c,v= .slice a (l.length+1) c∧bK cU w (.slice a (l.length+1) c) (rK s::l)
theorem DV.below {w w':World} {s:aL} {l:List Pt} {v:Value} (h:DV w s l v) (hb:Below w.heap.size w w'):DV w' s l v:=by
 obtain⟨a,c,h1,h2⟩:=h;exact ⟨a,c,h1,h2.below hb⟩
theorem aas {w:World} {B base:Nat} {s:aL} {f p:Value} (hB:w.heap[B]? =some (Obj.cells #[.int .i64 0, .int .i64 0, .slice none 0 0, .slice none 0 0] 149 (0,0))) (hf:FO w base f s.P) (hp:aY w base p (bT s)):
  ∃f' p',((((w.setCell ⟨B,0,none⟩ (.int .i64 s.me)).setCell ⟨B,1,none⟩ (.int .i64 s.stamp)).setCell ⟨B,2,none⟩ f).setCell ⟨B,3,none⟩ p).heap[B]? =some (Obj.cells #[.int .i64 s.me, .int .i64 s.stamp,f',p'] 149 (0,0))∧FO ((((w.setCell ⟨B,0,none⟩ (.int .i64 s.me)).setCell ⟨B,1,none⟩ (.int .i64 s.stamp)).setCell ⟨B,2,none⟩ f).setCell ⟨B,3,none⟩ p) base f' s.P∧aY ((((w.setCell ⟨B,0,none⟩ (.int .i64 s.me)).setCell ⟨B,1,none⟩ (.int .i64 s.stamp)).setCell ⟨B,2,none⟩ f).setCell ⟨B,3,none⟩ p) base p' (bT s):=by
 have ht:kJ 149=false:=by decide
 have h0:=aB.set (j:=0) (v:= .int .i64 s.me) hB ht;have b0:=ax (j:=0) (v:= .int .i64 s.me) hB;have h1:=aB.set (j:=1) (v:= .int .i64 s.stamp) b0 ht;have b1:=ax (j:=1) (v:= .int .i64 s.stamp) b0;have h2:=aB.set (j:=2) (v:=f) b1 ht;have b2:=ax (j:=2) (v:=f) b1;have h3:=aB.set (j:=3) (v:=p) b2 ht;have b3:=ax (j:=3) (v:=p) b2;have hs:=((h0.trans h1).trans h2).trans h3;exact⟨f,p,by rw[b3];rfl,hf.bD hs,hp.bD hs⟩
theorem known_c (g b:Nat) (s:aL) (wz:World) (h:bz wz b g s):
  Calls Tryz.prog 136 #[.pointer (some ⟨g,0,none⟩)] wz fun e w'=> ∃v,e= .returned v∧aY w' wz.heap.size v (bT s)∧Below wz.heap.size wz w':=by
 obtain⟨fv,lv,pv,hblk,hf,hl,⟨fG,hp1,hp2,yo⟩⟩:=h.cells;have hok:=h.ok;have hlen:fG.length≤29:=by have:=hok.len;rw [←yo,List.length_map] at this;exact this
 obtain⟨pa,pc,hpv⟩:=hp1.shape;subst hpv;have cz:=jD hok;have bU:=jD (cq 5 hblk rfl:wz.cell? ⟨g,5,none⟩=some (.slice pa fG.length pc));have afX:=jD hblk;have kH:=jD (hp1.at_ (fun q hq=>(hp2 q hq).1) (by omega));have HOWN:=jD (ab3 g s fv lv (.slice pa fG.length pc) · hok);have afJ:=jD (show ∀x∈rK s::fG,eG x from fun x hx=>(List.mem_cons.1 hx).elim (fun e=>e ▸ SU hok) fun hx=>(hp2 x hx).1);have OV:=jD (show(rK s::fG).map sem=u7 s::s.S by rw[List.map_cons,PI,yo]);clear h hblk hf hl hp1 hp2 yo hok;go_enter Tryz.func136,Tryz.ntmps136;go_wp2_with fail
 refine Cl.aV 12 rfl [7] (fun w=>Below wz.heap.size wz w) (fun jq=>match jq with | 1=>[7] | 2=>[7] | _=>[]) (fun jq v ww=>match jq with | 0=>v= .pointer (some ⟨g,0,none⟩) | 1=>zW ww wz.heap.size s v | 2=>zV ww wz.heap.size s v | 3=>v= .pointer (some ⟨g,0,none⟩) | 4=>v= .pointer (some ⟨g,0,none⟩) | 5=>v= .pointer (some ⟨g,5,none⟩) | 6=>v= .slice pa fG.length pc | 7=>DV ww s fG v | 8=>aY ww wz.heap.size v (bT s) | 9=>aY ww wz.heap.size v (bT s) | _=>True) (fun ww=>Below wz.heap.size wz ww) (fun jq ww aR=>jq≠7→Below ww.heap.size ww aR) Tryz.mixed (by decide+kernel) (br).drew ((br).drew) ?_ (fun q w w' hk h hR=>aj h (hR (by simpa using hk))) ?_ ?_
 ·intro q r v w w' hne hk hlt h hR;match r,hk,hlt,h,hne with
  | 0,_,_,h,_=>exact h
  | 1,hk,_,h,_=>exact h.below (hR (by simpa using hk))
  | 2,hk,_,h,_=>exact h.below (hR (by simpa using hk))
  | 3,_,_,h,_=>exact h
  | 4,_,_,h,_=>exact h
  | 5,_,_,h,_=>exact h
  | 6,_,_,h,_=>exact h
  | 7,_,_,h,hne=>exact h.below (hR (by exact hne))
  | 8,_,hlt,h,_=>exact h.below (hR (by intro e;subst e;exact absurd hlt (by decide+kernel)))
  | 9,_,hlt,h,_=>exact h.below (hR (by intro e;subst e;exact absurd hlt (by decide+kernel)))
  | _+10,_,_,_,_=>trivial
 ·refine⟨?_, ?_, ?_, ?_, ?_, ?_, ?_, ?_, ?_, ?_,trivial⟩
  ·intro x wx hG;have f0:=hG.o 0;replace hG:=hG.g;go_wp2;exact⟨_,rfl,rfl,hG,fun _=>br⟩
  ·intro x wx hG;have g0:=gr 3 (hG.c 0 _ rfl);replace hG:=hG.g;have HO:=jD (HOWN.o wx (ag hG afX.o));go_wp2_with fail
   (with_reducible refine(HO.o).mono ?_);rintro e wq ⟨f,u,rfl,h1,h2,hb⟩;have HN:=jD (mU.mono (s:=s) ⟨h1,h2⟩ hG.size);have cK:=jD hb;clear h1 h2 hb HO;go_wp2;exact⟨_,rfl,⟨_,_,rfl,HN.o⟩,aj hG cK.o,fun _=>cK.o⟩
  ·intro x wx hG;have g1:zW wx wz.heap.size s (x.tmps.getD 4 undef):=hG.c 1 _ rfl;replace hG:=hG.g;obtain⟨f,u,hv,h1⟩:=g1;have hvb:=hv;rw[Array.getD_eq_getD_getElem?] at hvb;obtain⟨⟨a1,c1,rX⟩,a2,c2,hu1⟩:=h1.shape;subst rX;subst hu1;have HN:=jD (h1.below (aG (.cells #[.slice a1 1 c1, .slice a2 (gH s.me s.made).length c2, .slice none 0 0] 238)));clear h1;go_wp2;exact⟨_,rfl,⟨_,_,_,rfl,au _ _ _ _ rfl,hG.size,HN.o⟩,hG.alloc hG.size _,fun _=>aG _⟩
  ·intro x wx hG;have f0:=hG.o 0;replace hG:=hG.g;go_wp2;exact⟨_,rfl,rfl,hG,fun _=>br⟩
  ·intro x wx hG;have g3:=gr 6 (hG.c 3 _ rfl);replace hG:=hG.g;go_wp2;exact⟨_,rfl,rfl,hG,fun _=>br⟩
  ·intro x wx hG;have g4:=gr 7 (hG.c 4 _ rfl);replace hG:=hG.g;go_wp2;exact⟨_,rfl,rfl,hG,fun _=>br⟩
  ·intro x wx hG;have g5:=gr 8 (hG.c 5 _ rfl);replace hG:=hG.g;have c_HBK:=ah hG bU.o;go_wp2;exact⟨_,rfl,rfl,hG,fun _=>br⟩
  ·intro x wx hG;have g2:zV wx wz.heap.size s (x.tmps.getD 5 undef):=hG.c 2 _ rfl;have g6:=gr 9 (hG.c 6 _ rfl);replace hG:=hG.g;obtain⟨q,f,u,hv,hq,mo,h1⟩:=g2;have hvb:=hv;rw[Array.getD_eq_getD_getElem?] at hvb;have uy:=gd g6;obtain⟨css,hE,hC⟩:=kH.o;have HE:=jD hE;have HC:=jD (hC.below hG);have HR:=jD (show wx.ownsRow wz.heap.size 238 3 (.slice (some ⟨q,0,none⟩) 1 1) 1 [f,u, .slice none 0 0] from⟨rfl, .inr ⟨q,1,_,rfl,mo,hq,Nat.le_refl _,by decide,rfl,rfl⟩⟩);have HN:=jD h1;have hbs:=hG.size;have hcl:css.flatten.length=fG.length*3:=hE.flat;have lM:=jD hE.one;clear hE hC hq h1;go_wp2_with (at_builtin;refine bM rfl (.tmp 5) (.tmp 9) 147 rfl wz.heap.size 238 _ 3 72 Tryz.underlying147 zU.info rfl (by decide) (.slice (some ⟨q,0,none⟩) 1 1) 1 _ hv HR.o (.slice pa fG.length pc) fG.length _ g6 HC.o hcl lM.o hbs (by unfold maxLen;omega) (by omega) ?_)
   intro v' wq ho hgr;rw[Nat.add_comm 1 fG.length] at ho;obtain⟨qa,qc,hq⟩:=ay ho;subst hq;have Bw:=jD (hG.grown hgr hbs (fun k hk=>(HR.o.lt k hk).1));have Ea:=jD (show mU wq wz.heap.size s f u from⟨HN.o.1.other HR.o (by decide) (by decide) hgr,fE HN.o.2 HR.o (by decide) hgr⟩);have gV:=jD (show bK cU wq (.slice qa (fG.length+1) qc) (rK s::fG) from⟨[f,u, .slice none 0 0]::css,⟨Ea.o.el cz.o,HE.o.sub (Sub.of_below Bw.o)⟩,by rw[List.length_cons,List.flatten_cons];exact aF.fZ ho (by omega)⟩);clear ho hgr;go_wp2;exact⟨_,rfl,⟨_,_,rfl,gV.o⟩,Bw.o,fun h=>absurd rfl h⟩
  ·intro x wx hG;have g7:DV wx s fG (x.tmps.getD 10 undef):=hG.c 7 _ rfl;replace hG:=hG.g;obtain⟨a,c,hv,h1⟩:=g7;have hvb:=hv;rw[Array.getD_eq_getD_getElem?] at hvb;have HF:=jD (Oe _ (rK s::fG) wx h1 afJ.o (by rw[List.length_cons];omega));clear h1;go_wp2_with fail
   (with_reducible refine(HF.o).mono ?_);rintro e wq ⟨ov,rfl,ho,hb⟩;rw[OV.o] at ho;have HN:=jD (ho.mono hG.size);have cK:=jD hb;clear ho hb HF;obtain⟨oa,oc,hov⟩:=HN.o.shape;subst hov;go_wp2;exact⟨_,rfl,HN.o,aj hG cK.o,fun _=>cK.o⟩
  ·intro x wx hG;have g8:aY wx wz.heap.size (x.tmps.getD 11 undef) (bT s):=hG.c 8 _ rfl;replace hG:=hG.g;have HN:=jD g8;obtain⟨oa,oc,hov⟩:=g8.shape;have hvb:=hov;rw[Array.getD_eq_getD_getElem?] at hvb;clear g8;go_wp2;rw[hov] at HN;exact ⟨_,rfl,HN.o,hG,fun _=>br⟩
 ·intro af w3 hg hF;obtain⟨g0,g1,g2,g3,g4,g5,g6,g7,g8,g9, -⟩:=hF;replace g9:aY w3 wz.heap.size (af 9) (bT s):=g9 rfl;simp only[Cl3.puts,gq (af 0) g0,gq (af 3) g3,gq (af 4) g4,gq (af 5) g5,gq (af 6) g6];clear g0 g1 g2 g3 g4 g5 g6 g7 g8;go_simp
  generalize af 9=ov at*;go_wp2;go_ret;exact⟨_,rfl,g9,hg⟩
theorem Xa (g b:Nat) (s:aL) (wz:World) (h:bz wz b g s):
  Calls Tryz.prog 102 #[.pointer (some ⟨g,0,none⟩)] wz fun e w'=> ∃v,e= .returned v∧aY w' wz.heap.size v (bT s)∧Below wz.heap.size wz w':=by
 have HK:=jD (known_c g b s wz h);clear h;go_enter Tryz.func102,Tryz.ntmps102;go_wp2_with fail
 (with_reducible refine(HK.o).mono ?_);rintro e w' ⟨v,rfl,h1,h2⟩;have H1:=jD h1;have H2:=jD h2;obtain⟨a,c,hv⟩:=h1.shape;subst hv;clear h1 h2 HK;go_wp2;go_ret;exact⟨_,rfl,H1.o,H2.o⟩
theorem SD (g b:Nat) (s:aL) (wz:World) (h:bz wz b g s):
  Calls Tryz.prog 100 #[.pointer (some ⟨g,0,none⟩)] wz fun e w'=> ∃a c,e= .returned (.slice a s.L.length c)∧bA w' wz.heap.size (.slice a s.L.length c) s.L∧Below wz.heap.size wz w':=by
 obtain⟨fv,lv,pv,hblk, -,h1, -⟩:=h.cells;have c4:wz.cell? ⟨g,4,none⟩=some lv:=cq 4 hblk rfl;have hb:=ij h.ok.L.ok;have hl:=h.ok.L.len;have HK:=jD (nk lv s.L wz (h1.at_ hb (by omega)) hb (by omega));obtain⟨a,c,hv⟩:=h1.shape;subst hv;clear h hblk h1 hb;go_enter Tryz.func100,Tryz.ntmps100;go_wp2_with fail
 (with_reducible refine(HK.o).mono ?_);rintro e w' ⟨v,rfl,h1,h2⟩;have H1:=jD h1;have H2:=jD h2;obtain⟨a,c,hv⟩:=h1.shape;subst hv;clear h1 h2 HK c4;go_wp2;go_ret;exact⟨_,_,rfl,H1.o,H2.o⟩
def X7 (wz:World) (s:aL) (e:Ending) (w':World):Prop:=
 ∃f p,e= .returned (.agg #[.int .i64 s.me, .int .i64 s.stamp,f,p])∧FO w' wz.heap.size f s.P∧aY w' wz.heap.size p (bT s)∧Below wz.heap.size wz w'
def Av (w:World) (base:Nat) (s:aL) (v:Value):Prop:= ∃f p,v= .agg #[.int .i64 s.me, .int .i64 s.stamp,f,p]∧FO w base f s.P∧aY w base p (bT s)
theorem Av.below {w w':World} {base:Nat} {s:aL} {v:Value} (h:Av w base s v) (hb:Below w.heap.size w w'):Av w' base s v:=by
 obtain⟨f,p,h1,h2,h3⟩:=h;exact ⟨f,p,h1,h2.below hb,h3.below hb⟩
def Au (w:World) (base B:Nat) (s:aL):Prop:= ∃f p,w.heap[B]? =some (Obj.cells #[.int .i64 s.me, .int .i64 s.stamp,f,p] 149 (0,0))∧FO w base f s.P∧aY w base p (bT s)
theorem Au.below {w w':World} {base B:Nat} {s:aL} (h:Au w base B s) (hb:Below w.heap.size w w'):Au w' base B s:=by
 obtain⟨f,p,h1,h2,h3⟩:=h;exact ⟨f,p,ag hb h1,h2.below hb,h3.below hb⟩
theorem ask_c (g b:Nat) (s:aL) (wz:World) (h:bz wz b g s):
  Calls Tryz.prog 96 #[.pointer (some ⟨g,0,none⟩)] wz (X7 wz s):=by
 obtain⟨fv,lv,pv,hblk,⟨l,h1,h2,h3⟩, -, -⟩:=h.cells;have fL:=jD (cq 0 hblk rfl:wz.cell? ⟨g,0,none⟩=some (.int .i64 s.me));have sK:=jD (cq 2 hblk rfl:wz.cell? ⟨g,2,none⟩=some (.int .i64 s.stamp));have HS:=jD h;have jO:=jD h1;have HL:=jD (show bP l=0∧ ∀k n:Nat,k < 16→n < 32→cE l k n=s.P k n from⟨h2,h3⟩);obtain⟨fa,fc,hv⟩:=(show ∃a c,fv= .slice a l.length c by obtain⟨us, -,h4, -⟩:=h1;exact ay h4)
 subst hv;have KM:=jD (cq 3 hblk rfl:wz.cell? ⟨g,3,none⟩=some (.slice fa l.length fc));obtain⟨W,hW⟩: ∃W,W=wz.alloc (.cells #[.int .i64 0, .int .i64 0, .slice none 0 0, .slice none 0 0] 149):=⟨_,rfl⟩
 have gN:=jD (show Below wz.heap.size wz W by rw[hW];exact aG _);have z8:=jD (show W.heap[wz.heap.size]? =some (Obj.cells #[.int .i64 0, .int .i64 0, .slice none 0 0, .slice none 0 0] 149 (0,0)) by rw[hW];exact au _ _ _ _ rfl);clear h hblk h1 h2 h3;go_enter Tryz.func96,Tryz.ntmps96;go_wp2_with fail
 rw[←hW];clear hW;refine Cl.aV 19 rfl [16] (fun w=>Below W.heap.size W w) (fun jq=>match jq with | 12=>[16] | 14=>[16] | 15=>[16] | _=>[]) (fun jq v ww=>match jq with | 0=>v= .pointer (some ⟨g,0,none⟩) | 1=>v= .pointer (some ⟨g,0,none⟩) | 2=>v= .pointer (some ⟨g,0,none⟩) | 3=>v= .int .i64 s.me | 4=>v= .pointer (some ⟨g,0,none⟩) | 5=>v= .pointer (some ⟨g,0,none⟩) | 6=>v= .pointer (some ⟨g,2,none⟩) | 7=>v= .int .i64 s.stamp | 8=>v= .pointer (some ⟨g,0,none⟩) | 9=>v= .pointer (some ⟨g,0,none⟩) | 10=>v= .pointer (some ⟨g,3,none⟩) | 11=>v= .slice fa l.length fc | 12=>FO ww wz.heap.size v s.P | 13=>v= .pointer (some ⟨g,0,none⟩) | 14=>aY ww wz.heap.size v (bT s) | 15=>Av ww wz.heap.size s v | 16=>Au ww wz.heap.size wz.heap.size s | _=>True) (fun ww=>Below wz.heap.size wz ww) (fun jq ww aR=>jq≠16→Below ww.heap.size ww aR) Tryz.mixed (by decide+kernel) gN.o.drew ((br).drew) ?_ (fun q w w' hk h hR=>aj h (hR (by simpa using hk))) ?_ ?_
 ·intro q r v w w' hne hk hlt h hR;match r,hk,hlt,h,hne with
  | 0,_,_,h,_=>exact h
  | 1,_,_,h,_=>exact h
  | 2,_,_,h,_=>exact h
  | 3,_,_,h,_=>exact h
  | 4,_,_,h,_=>exact h
  | 5,_,_,h,_=>exact h
  | 6,_,_,h,_=>exact h
  | 7,_,_,h,_=>exact h
  | 8,_,_,h,_=>exact h
  | 9,_,_,h,_=>exact h
  | 10,_,_,h,_=>exact h
  | 11,_,_,h,_=>exact h
  | 12,hk,_,h,_=>exact h.below (hR (by simpa using hk))
  | 13,_,_,h,_=>exact h
  | 14,hk,_,h,_=>exact h.below (hR (by simpa using hk))
  | 15,hk,_,h,_=>exact h.below (hR (by simpa using hk))
  | 16,_,_,h,hne=>exact h.below (hR (by exact hne))
  | _+17,_,_,_,_=>trivial
 ·refine⟨?_, ?_, ?_, ?_, ?_, ?_, ?_, ?_, ?_, ?_, ?_, ?_, ?_, ?_, ?_, ?_, ?_,trivial⟩
  ·intro x wx hG;have f0:=hG.o 0;replace hG:=hG.g;go_wp2;exact⟨_,rfl,rfl,hG,fun _=>br⟩
  ·intro x wx hG;have g0:=gr 3 (hG.c 0 _ rfl);replace hG:=hG.g;go_wp2;exact⟨_,rfl,rfl,hG,fun _=>br⟩
  ·intro x wx hG;have g1:=gr 4 (hG.c 1 _ rfl);replace hG:=hG.g;go_wp2;exact⟨_,rfl,rfl,hG,fun _=>br⟩
  ·intro x wx hG;have g2:=gr 5 (hG.c 2 _ rfl);replace hG:=hG.g;have oP:=ah hG fL.o;go_wp2;exact⟨_,rfl,rfl,hG,fun _=>br⟩
  ·intro x wx hG;have f0:=hG.o 0;replace hG:=hG.g;go_wp2;exact⟨_,rfl,rfl,hG,fun _=>br⟩
  ·intro x wx hG;have g4:=gr 7 (hG.c 4 _ rfl);replace hG:=hG.g;go_wp2;exact⟨_,rfl,rfl,hG,fun _=>br⟩
  ·intro x wx hG;have g5:=gr 8 (hG.c 5 _ rfl);replace hG:=hG.g;go_wp2;exact⟨_,rfl,rfl,hG,fun _=>br⟩
  ·intro x wx hG;have g6:=gr 9 (hG.c 6 _ rfl);replace hG:=hG.g;have DI:=ah hG sK.o;go_wp2;exact⟨_,rfl,rfl,hG,fun _=>br⟩
  ·intro x wx hG;have f0:=hG.o 0;replace hG:=hG.g;go_wp2;exact⟨_,rfl,rfl,hG,fun _=>br⟩
  ·intro x wx hG;have g8:=gr 11 (hG.c 8 _ rfl);replace hG:=hG.g;go_wp2;exact⟨_,rfl,rfl,hG,fun _=>br⟩
  ·intro x wx hG;have g9:=gr 12 (hG.c 9 _ rfl);replace hG:=hG.g;go_wp2;exact⟨_,rfl,rfl,hG,fun _=>br⟩
  ·intro x wx hG;have g10:=gr 13 (hG.c 10 _ rfl);replace hG:=hG.g;have VO:=ah hG KM.o;go_wp2;exact⟨_,rfl,rfl,hG,fun _=>br⟩
  ·intro x wx hG;have g11:=gr 14 (hG.c 11 _ rfl);replace hG:=hG.g;have HF:=jD (xP _ l wx (cR.vJ (jO.o.below hG) HL.o.1) HL.o.1);go_wp2_with fail
   (with_reducible refine(HF.o).mono ?_);rintro e wq ⟨ov,rfl,ho,hb⟩;have HN:=jD (FO.mono (show FO wq wx.heap.size ov s.P from⟨l,ho,HL.o.1,HL.o.2⟩) hG.size);have cK:=jD hb;clear ho hb HF;obtain⟨oa,on,oc,hov⟩:=FO.ow HN.o;subst hov;go_wp2;exact⟨_,rfl,HN.o,aj hG cK.o,fun _=>cK.o⟩
  ·intro x wx hG;have f0:=hG.o 0;replace hG:=hG.g;go_wp2;exact⟨_,rfl,rfl,hG,fun _=>br⟩
  ·intro x wx hG;have g13:=gr 16 (hG.c 13 _ rfl);replace hG:=hG.g;have HF:=jD (known_c g b s wx (HS.o.below hG));go_wp2_with fail
   (with_reducible refine(HF.o).mono ?_);rintro e wq ⟨ov,rfl,ho,hb⟩;have HN:=jD (ho.mono hG.size);have cK:=jD hb;clear ho hb HF;obtain⟨oa,oc,hov⟩:=HN.o.shape;subst hov;go_wp2;exact⟨_,rfl,HN.o,aj hG cK.o,fun _=>cK.o⟩
  ·intro x wx hG;have⟨g3,qF⟩:=gs 6 (hG.c 3 _ rfl);have⟨g7,Gt⟩:=gs 10 (hG.c 7 _ rfl);have g12:FO wx wz.heap.size (x.tmps.getD 15 undef) s.P:=hG.c 12 _ rfl;have g14:aY wx wz.heap.size (x.tmps.getD 17 undef) (bT s):=hG.c 14 _ rfl;replace hG:=hG.g;have HF:=jD g12;have HP:=jD g14;obtain⟨oa,on,oc,hov⟩:=FO.ow g12;obtain⟨qa,qc,Vk⟩:=g14.shape;have ae2:=hov;rw[Array.getD_eq_getD_getElem?] at ae2;have ae1:=Vk;rw[Array.getD_eq_getD_getElem?] at ae1;rw[hov] at HF;rw[Vk] at HP;clear g12 g14;go_wp2;exact⟨_,rfl,⟨_,_,rfl,HF.o,HP.o⟩,hG,fun _=>br⟩
  ·intro x wx hG;have f2:=hG.o 2;have g15:Av wx wz.heap.size s (x.tmps.getD 18 undef):=hG.c 15 _ rfl;have hp:=hG.p 0;replace hG:=hG.g;have qI:=jD (ag hp z8.o);obtain⟨f,pp,hv,hf,vr⟩:=g15;have hvb:=hv;rw[Array.getD_eq_getD_getElem?] at hvb;have HF:=jD hf;have HP:=jD vr;obtain⟨oa,on,oc,hov⟩:=FO.ow hf;subst hov;obtain⟨qa,qc,Vk⟩:=vr.shape;subst Vk;have r0:=cq 0 qI.o rfl;have r1:=cq 1 qI.o rfl;have r2:=cq 2 qI.o rfl;have r3:=cq 3 qI.o rfl;have q0:=fq 0 qI.o;have q1:=fq 1 qI.o;have q2:=fq 2 qI.o;have q3:=fq 3 qI.o;have r8:=ai qI.o;clear hf vr;go_wp2;exact⟨undef,rfl,aas qI.o HF.o HP.o,(((hG.setCell (p:=⟨wz.heap.size,0,none⟩) (Nat.le_refl _) _).setCell (p:=⟨wz.heap.size,1,none⟩) (Nat.le_refl _) _).setCell (p:=⟨wz.heap.size,2,none⟩) (Nat.le_refl _) _).setCell (p:=⟨wz.heap.size,3,none⟩) (Nat.le_refl _) _,fun h=>absurd rfl h⟩
 ·intro af w3 hg hF;obtain⟨g0,g1,g2,g3,g4,g5,g6,g7,g8,g9,g10,g11,g12,g13,g14,g15,g16, -⟩:=hF;replace g16:Au w3 wz.heap.size wz.heap.size s:=g16 rfl;simp only[Cl3.puts,gq (af 0) g0,gq (af 1) g1,gq (af 2) g2,gq (af 3) g3,gq (af 4) g4,gq (af 5) g5,gq (af 6) g6,gq (af 7) g7,gq (af 8) g8,gq (af 9) g9,gq (af 10) g10,gq (af 11) g11,gq (af 13) g13];clear g0 g1 g2 g3 g4 g5 g6 g7 g8 g9 g10 g11 g12 g13 g14 g15;go_simp
  obtain⟨f,pp,hb1,rX,hp1⟩:=g16;have r0:=cq 0 hb1 rfl;have r1:=cq 1 hb1 rfl;have r2:=cq 2 hb1 rfl;have r3:=cq 3 hb1 rfl;have r8:=ai hb1;have HF:=jD rX;have HP:=jD hp1;have HG:=jD hg;clear hb1 rX hp1 hg;go_wp2;refine bodyPost_ret (v:= .agg #[.int .i64 s.me, .int .i64 s.stamp,f,pp]) (by simp[results,Tryz.results96,go_sem, *]) rfl ?_;exact⟨_,_,rfl,HF.o,HP.o,HG.o⟩
def pX (me:Int) (p:Nat→Nat→Bool):aL:=⟨me,0,0,p,[],[]⟩
theorem Xi {me:Int} (h:0≤me∧me < 5) (p:Nat→Nat→Bool):dV (pX me p):=⟨h,⟨Int.le_refl _,show(0:Int)≤1000 by decide⟩,⟨Int.le_refl _,show(0:Int)≤1000000 by decide⟩,⟨by simp[pX],by simp[pX],by simp[pX],by simp[pX]⟩,by simp[pX],by simp[pX]⟩
theorem Yl (me:Int) (fv:Value) (l:bB) (w:World) (hm:0≤me∧me < 5) (hs:bZ w fv l) (hc:bP l=0):
  Calls Tryz.prog 92 #[.int .i64 me,fv] w fun e w'=> ∃g,e= .returned (.tuple #[.pointer (some ⟨g,0,none⟩), .int .i64 0])∧bz w' w.heap.size g (pX me (aX l))∧Below w.heap.size w w':=by
 obtain⟨a,c,rfl⟩:=hs.shape;have HC:=jD (qg _ l w hs);have HS:=jD hs;have HZ:=jD hc;have d1:decide (me < 0)=false:=by simp;omega
 have d2:decide (5≤me)=false:=by simp;omega
 clear hs hc;go_enter Tryz.func92,Tryz.ntmps92;go_wp2_with fail
 (with_reducible refine(HC.o).mono ?_);rintro e w1 ⟨rfl,hb1⟩;have HP:=jD (Ey _ l w1 (HS.o.below hb1) HZ.o);have bh:=jD hb1;have hz:=HZ.o;rw[hz];clear hb1 HC hz;go_wp2_with fail
 (with_reducible refine(HP.o).mono ?_);rintro e w2 ⟨v,l2,rfl,ho,hg,hb2⟩;have jO:=jD (show FO w2 w.heap.size v (aX l) from⟨l2,cR.mono ho bh.o.size,hg.GK,fun k n hk hn=>by rw[hg.pts k n hk hn,fS hk hn]⟩);have cw:=jD (aj bh.o hb2);obtain⟨fa,fn,fc,Jw⟩:=FO.ow jO.o;subst Jw;clear ho hg hb2 HP bh d1 d2;go_wp2;go_ret2;have hba:=aG (W:=w2) (.cells #[.int .i64 me, .int .i64 0, .int .i64 0, .slice fa fn fc, .slice none 0 0, .slice none 0 0] 191);exact⟨_,rfl,⟨Xi hm _,cw.o.size,_,_,_,au _ _ _ _ rfl,jO.o.below hba,nt _ _,⟨[],eW.nil _ _,by simp,rfl⟩⟩,aj cw.o hba⟩
structure l7 (w:World) (b g:Nat) (s:aL) (f l p:Value):Prop where
 blk:w.heap[g]? =some (.cells (xm s f l p) 191 (0,0))
 f:FO w b f s.P
 l:bA w b l s.L
 p:aY w b p s.S
theorem l7.bD {G:Nat→Prop} {w w':World} {b g:Nat} {s:aL} {f l p:Value} (h:l7 w b g s f l p) (hs:aB G w w') (hG: ¬G g):l7 w' b g s f l p:=⟨hs.block h.blk hG,h.f.bD hs,h.l.bD hs,h.p.bD hs⟩
theorem l7.below {w w':World} {b g:Nat} {s:aL} {f l p:Value} (h:l7 w b g s f l p) (hb:Below w.heap.size w w'):l7 w' b g s f l p:=h.bD (G:=fun _=>False) (aB.of_below hb) fun h=>h
def Cv (w:World) (b g:Nat) (s:aL) (id:ByteArray) (t n bd:Int) (e:Ending) (w':World):Prop:=
 e= .returned (.tuple #[.agg #[.int .i64 (if fF s id t n bd=0 then s.me else 0), .int .i64 (if fF s id t n bd=0 then s.made+1 else 0)], .int .i64 (fF s id t n bd)])∧bz w' b g (mP s id t n bd)∧aB (fun q=>q=g) w w'
theorem wI {w w':World} {b g:Nat} {s:aL} {id:ByteArray} {t n bd E:Int} (h:bz w b g s) (he:fF s id t n bd=E) (h0:E≠0) (hb:Below w.heap.size w w'):Cv w b g s id t n bd (.returned (.tuple #[.agg #[.int .i64 0, .int .i64 0], .int .i64 E])) w':=by
 have h1:fF s id t n bd≠0:=by omega
 have h2:mP s id t n bd=s:=by unfold mP;rw [if_neg h1]
 refine⟨by rw[if_neg h1,if_neg h1,he],by rw[h2];exact h.below hb,aB.of_below hb⟩
structure Cu (wz:World) (B:Nat) (t n:Int) (w:World):Prop where
 bp:w.heap[B]? =some (Obj.cells #[.int .i64 t, .int .i64 n] 96 (0,0))
 bd:w.heap[B+1]? =some (Obj.cells #[.int .i64 0, .int .i64 0] 103 (0,0))
 aW:Below wz.heap.size wz w
 hB:B=wz.heap.size
theorem Cu.below {wz:World} {B:Nat} {t n:Int} {w w':World} (h:Cu wz B t n w) (hb:Below w.heap.size w w'):Cu wz B t n w':=⟨ag hb h.bp,ag hb h.bd,aj h.aW hb,h.hB⟩
theorem Cu.zero {wz:World} {B:Nat} {t n:Int} {w:World} (h:Cu wz B t n w):Below wz.heap.size wz ((w.setCell ⟨B+1,0,none⟩ (.int .i64 0)).setCell ⟨B+1,1,none⟩ (.int .i64 0)):=
 (h.aW.setCell (p:=⟨B+1,0,none⟩) (by have:=h.hB;show _≤B+1;omega) _).setCell (p:=⟨B+1,1,none⟩) (by have:=h.hB;show _≤B+1;omega) _
def sD (w:World) (base:Nat) (L:List aA) (v1:aA) (v:Value):Prop:= ∃a n c,v= .tuple #[.slice a n c, .int .i64 (cM L v1)]∧bA w base (.slice a n c) (xu L v1)
theorem sD.below {w w':World} {base:Nat} {L:List aA} {v1:aA} {v:Value} (h:sD w base L v1 v) (hb:Below w.heap.size w w'):sD w' base L v1 v:=by
 obtain⟨a,n,c,h1,h2⟩:=h;exact ⟨a,n,c,h1,h2.below hb⟩
def xW (w:World) (base:Nat) (L:List aA) (v1:aA) (v:Value):Prop:= ∃a n c,v= .slice a n c∧bA w base (.slice a n c) (xu L v1)
theorem xW.below {w w':World} {base:Nat} {L:List aA} {v1:aA} {v:Value} (h:xW w base L v1 v) (hb:Below w.heap.size w w'):xW w' base L v1 v:=by
 obtain⟨a,n,c,h1,h2⟩:=h;exact ⟨a,n,c,h1,h2.below hb⟩
theorem FZ (L:List aA) (id:ByteArray):(nS L id).vec.length≤5∧(nS L id).more.length≤1000000:=by
 refine⟨(Cm _).len, ?_⟩;have:=vF (xw (ir L id));unfold nS;omega
theorem aB.sets {G:Nat→Prop} {w w':World} {g j:Nat} {v:Value} {cs:Array Value} {t:TypeId} (h:aB G w w') (hg:w'.heap[g]? =some (Obj.cells cs t (0,0))) (ht:kJ t=false) (hG:G g):aB G w (w'.setCell ⟨g,j,none⟩ v):=
 h.trans ((aB.set hg ht).mono fun k hk=>by subst hk;exact hG)
theorem aB.new {G:Nat→Prop} {w w':World} {k j:Nat} {v:Value} {cs:Array Value} {t:TypeId} (h:aB G w w') (_hk:w'.heap[k]? =some (Obj.cells cs t (0,0))) (hn:w.heap.size≤k):aB G w (w'.setCell ⟨k,j,none⟩ v):=by
 refine⟨⟨h.sp.os,h.sp.tape,h.sp.output,by simpa using h.sp.size,fun q hq hG=> ?_,fun q cs' e hc=> ?_⟩,⟨by simpa using h.sp.size,fun q cs' e hc he=> ?_⟩⟩
 ·rw[aC (by omega)];exact h.sp.keep q hq hG
 ·obtain⟨c2,h1,h2⟩:=h.sp.shape q cs' e hc;exact⟨c2,by rw[aC (by have:=ai hc;omega)];exact h1,h2⟩
 ·rw[aC (by have:=ai hc;omega)];exact h.tk.blk q cs' e hc he
theorem EC {w w':World} {base e size n:Nat} {v:Value} {xs:List Value} (h:w.ownsRow base e size v n xs) (hk: ∀k,base≤k→w'.heap[k]? =w.heap[k]?):w'.ownsRow base e size v n xs:=by
 refine⟨h.1, ?_⟩;rcases h.2 with h0 | ⟨g,cap,cur,h1,h2,h3,h4⟩
 ·exact .inl h0
 ·exact .inr ⟨g,cap,cur,h1,h2,by rw[hk g h2];exact h3,h4⟩
theorem bA.up {w w':World} {base:Nat} {v:Value} {l:List aA} (h:bA w base v l) (hk: ∀k,base≤k→w'.heap[k]? =w.heap[k]?):bA w' base v l:=by
 obtain⟨css,h1,h2⟩:=h;exact⟨css,h1.map fun u x k hh=>⟨EC hh.vec hk,EC hh.more hk⟩,EC h2 hk⟩
theorem Te {wz w7:World} {b g B m6:Nat} {s:aL} {id:ByteArray} {t n bd:Int} {fv lv pv Jd:Value} (h:bz wz b g s) (he:fF s id t n bd=0) (hr:xu s.L (gw s id t n bd)=fR s.L (gw s id t n bd)) (m:Cu wz B t n w7) (v0:l7 wz b g s fv lv pv) (v:l7 w7 b g s fv lv pv)
  (ho:bA w7 m6 Jd (xu s.L (gw s id t n bd))) (hgB:g < B) (hm:B+1 < m6):
  Cv wz b g s id t n bd (.returned (.tuple #[.agg #[.int .i64 s.me, .int .i64 (s.made+1)], .int .i64 0]))
   ((((w7.setCell ⟨g,4,none⟩ Jd).setCell ⟨g,1,none⟩ (.int .i64 (s.made+1))).setCell ⟨B+1,0,none⟩ (.int .i64 s.me)).setCell ⟨B+1,1,none⟩ (.int .i64 (s.made+1))):=by
 have d1:kJ 191=false:=by decide
 have hz:wz.heap.size≤B+1:=by have:=m.hB;omega
 have b0:=v.blk;have b1:=ax (j:=4) (v:=Jd) b0;have b2:=ax (j:=1) (v:= .int .i64 (s.made+1)) b1;have c0:((w7.setCell ⟨g,4,none⟩ Jd).setCell ⟨g,1,none⟩ (.int .i64 (s.made+1))).heap[B+1]? =some (Obj.cells #[.int .i64 0, .int .i64 0] 103 (0,0)):=by
  rw[aC (by omega),aC (by omega)];exact m.bd
 have S1:aB (fun q=>q=g) wz ((w7.setCell ⟨g,4,none⟩ Jd).setCell ⟨g,1,none⟩ (.int .i64 (s.made+1))):=
  aB.sets (G:=fun q=>q=g) (aB.sets (G:=fun q=>q=g) (aB.of_below m.aW) b0 d1 rfl) b1 d1 rfl
 have key:=(S1.new (j:=0) (v:= .int .i64 s.me) c0 hz).new (j:=1) (v:= .int .i64 (s.made+1)) (ax (j:=0) (v:= .int .i64 s.me) c0) hz;have hS:dV (mP s id t n bd):=Tg h.ok id t n bd;have eS:mP s id t n bd= { s with L:=fR s.L (gw s id t n bd),made:=s.made+1 } :=by unfold mP;rw [if_pos he]
 rw[hr] at ho;have hb:b≤m6:=by have:=h.ge;have:=h.lt;have:=m.hB;omega
 refine⟨by rw[if_pos he,if_pos he,he],⟨hS,h.ge,fv,Jd,pv, ?_, ?_, ?_, ?_⟩,key⟩
 ·rw[aC (by omega),aC (by omega),b2,eS];rfl
 ·rw[eS];exact v0.f.bD key
 ·rw[eS];exact bA.mono (ho.up fun k hk=>by rw[aC (by omega),aC (by omega),aC (by omega),aC (by omega)]) hb
 ·rw[eS];exact v0.p.bD key
theorem smake_c (g b:Nat) (s:aL) (id:ByteArray) (t n bd:Int) (wz:World) (h:bz wz b g s):
  Calls Tryz.prog 94 #[.pointer (some ⟨g,0,none⟩), .string id, .agg #[.int .i64 t, .int .i64 n], .int .i64 bd] wz (Cv wz b g s id t n bd):=by
 obtain⟨B,hB⟩: ∃B,B=wz.heap.size:=⟨_,rfl⟩
 obtain⟨W,hW⟩: ∃W,W=(wz.alloc (.cells #[.int .i64 t, .int .i64 n] 96)).alloc (.cells #[.int .i64 0, .int .i64 0] 103):=⟨_,rfl⟩
 have M:=jD (show Cu wz B t n W from⟨by rw[hW];exact aO _ (au _ _ _ _ hB),by rw[hW];exact au _ _ _ _ (by rw[World.size_alloc,hB]),by rw[hW];exact (aG _).alloc (by simp) _,hB⟩);have HS:=jD h;have H3:=jD (show gI id=false→fF s id t n bd=3 from fun h=>by unfold fF;rw [if_pos h]);have H1:=jD (show gI id=true→tL t n bd=true→fF s id t n bd=1 from fun h h2=>by unfold fF;rw [if_neg (by rw[h];decide),if_pos h2]);have H2:=jD (show gI id=true→tL t n bd=false→s.made=1000→fF s id t n bd=2 from fun h h2 h3=>by unfold fF;rw [if_neg (by rw[h];decide),if_neg (by rw[h2];decide),if_pos h3]);have H4:=jD (show gI id=true→tL t n bd=false→s.made≠1000→iB s.L id≠0→fF s id t n bd=iB s.L id from fun h h2 h3 h4=>by unfold fF;rw [if_neg (by rw[h];decide),if_neg (by rw[h2];decide),if_neg h3,if_pos h4]);have H5:=jD (show gI id=true→tL t n bd=false→s.made≠1000→iB s.L id=0→fF s id t n bd=cM s.L (gw s id t n bd) from fun h h2 h3 h4=>by unfold fF;rw [if_neg (by rw[h];decide),if_neg (by rw[h2];decide),if_neg h3,if_neg (by omega)]);have RD:=jD (show tL t n bd=((!eP t n || decide (bd < 0)) || decide (1000000 < bd)) from rfl);clear h;go_enter Tryz.func94,Tryz.ntmps94;go_wp2_with fail
 rw[←hW,←hB];clear hW hB;(with_reducible refine(NV id W).mono ?_);rintro e w1 ⟨rfl,rfl⟩;cases hid:gI id
 ·have hE:=jD (H3.o hid);clear H1 H2 H3 H4 H5 RD hid;have r0:=cq 0 M.o.bd rfl;have r1:=cq 1 M.o.bd rfl;have f0:=fq 0 M.o.bd;have f1:=fq 1 M.o.bd;have hrl:=ai M.o.bd;go_wp2;refine bodyPost_ret (v:= .tuple #[.agg #[.int .i64 0, .int .i64 0], .int .i64 3]) (by simp[results,Tryz.results94,go_sem, *]) rfl ?_;exact wI HS.o hE.o (by decide) M.o.zero
 have p0:=cq 0 M.o.bp rfl;have p1:=cq 1 M.o.bp rfl;have hpl:=ai M.o.bp;have MM:=jD hid;have GU:=jD (AA t n w1);clear hid;go_wp2_with fail
 (with_reducible refine(GU.o).mono ?_);rintro e w2 ⟨rfl,hb2⟩;replace M:=jD (M.o.below hb2);clear hb2 GU p0 p1 hpl;cases hmb:tL t n bd
 rotate_left
 ·have hE:=jD (H1.o MM.o hmb);have hq:=RD.o.symm.trans hmb;clear H1 H2 H3 H4 H5 RD hmb;have r0:=cq 0 M.o.bd rfl;have r1:=cq 1 M.o.bd rfl;have f0:=fq 0 M.o.bd;have f1:=fq 1 M.o.bd;have hrl:=ai M.o.bd;generalize eP t n=q at*;generalize hx1:decide (bd < 0)=x1 at*;generalize hx2:decide (1000000 < bd)=x2 at*;cases q <;> cases x1 <;> cases x2 <;> first
   | (exact absurd hq (by decide))
   | (
     clear hq;go_wp2;refine bodyPost_ret (v:= .tuple #[.agg #[.int .i64 0, .int .i64 0], .int .i64 1]) (by simp[results,Tryz.results94,go_sem, *]) rfl ?_;exact wI HS.o hE.o (by decide) M.o.zero)
 have hq:=RD.o.symm.trans hmb;have HM:=jD hmb;rw[Bool.or_eq_false_iff,Bool.or_eq_false_iff] at hq;obtain⟨⟨e1,e2⟩,e3⟩:=hq;have e1:eP t n=true:=by simpa using e1
 rw[e1];clear hmb RD H1 H3;obtain⟨fv,lv,pv,hblk,hf,hl,vr⟩:=HS.o.cells;have V0:=jD (show l7 wz b g s fv lv pv from⟨hblk,hf,hl,vr⟩);have V:=jD (l7.below V0.o M.o.aW);have Ad:=jD (HS.o.lt);have V9:=jD HS.o.ok.made;have c1:w2.cell? ⟨g,1,none⟩=some (.int .i64 s.made):=cq 1 V.o.blk rfl;clear hblk hf hl vr;by_cases tN:s.made=1000
 ·have hE:=jD (H2.o MM.o HM.o tN);rw[tN] at c1;clear H2 H4 H5 tN;have r0:=cq 0 M.o.bd rfl;have r1:=cq 1 M.o.bd rfl;have f0:=fq 0 M.o.bd;have f1:=fq 1 M.o.bd;have hrl:=ai M.o.bd;go_wp2;refine bodyPost_ret (v:= .tuple #[.agg #[.int .i64 0, .int .i64 0], .int .i64 2]) (by simp[results,Tryz.results94,go_sem, *]) rfl ?_;exact wI HS.o hE.o (by decide) M.o.zero
 have hd:decide (s.made=1000)=false:=by simpa using tN
 have HN:=jD tN;obtain⟨la,lc,hlv⟩:=V.o.l.shape;subst hlv;have hbd:=ij HS.o.ok.L.ok;have hll:=HS.o.ok.L.len;have HPA:=jD (past_c _ s.L id w2 (V.o.l.at_ hbd (by omega)));have c4:w2.cell? ⟨g,4,none⟩=some (.slice la s.L.length lc):=cq 4 V.o.blk rfl;have hd2:(s.made==1000)=false:=beq_eq_false_iff_ne.2 tN;clear hbd H2;go_wp2_with fail
 (with_reducible refine(HPA.o).mono ?_);rintro e w3 ⟨x,y,rfl,hk,hb3⟩;replace M:=jD (M.o.below hb3);replace V:=jD (V.o.below hb3);obtain⟨xa,xn,xc,ya,yn,yc,rfl,rfl⟩:=hk.shape;have Wb:=jD hk;obtain⟨BK,kD⟩: ∃BK,BK=w3.heap.size:=⟨_,rfl⟩
 obtain⟨w4,hw4⟩: ∃w4,w4=w3.alloc (.cells #[.slice xa xn xc, .slice ya yn yc] 118):=⟨_,rfl⟩
 have hb4:Below w3.heap.size w3 w4:=by rw[hw4];exact aG _
 have He:=jD (show w4.heap[BK]? =some (Obj.cells #[.slice xa xn xc, .slice ya yn yc] 118 (0,0)) by rw[hw4];exact au _ _ _ _ kD);replace M:=jD (M.o.below hb4);replace V:=jD (V.o.below hb4);replace Wb:=jD (Wb.o.below hb4);clear hk hb3 hb4 HPA c1 c4 e2 e3 e1 hd hd2 tN;by_cases Ge:iB s.L id=0;rotate_left
 ·have hE:=jD (H4.o MM.o HM.o HN.o Ge);have hdp:decide (iB s.L id=0)=false:=by simpa using Ge
  have hdq:(iB s.L id != 0)=true:=bne_iff_ne.2 Ge;have HNZ:=jD Ge;clear H4 H5 Ge;generalize iB s.L id=q at*;have r0:=cq 0 M.o.bd rfl;have r1:=cq 1 M.o.bd rfl;have f0:=fq 0 M.o.bd;have f1:=fq 1 M.o.bd;have hrl:=ai M.o.bd;rw[hw4] at r0 r1 f0 f1 hrl;go_wp2;rw[←hw4];refine bodyPost_ret (v:= .tuple #[.agg #[.int .i64 0, .int .i64 0], .int .i64 q]) (by simp[results,Tryz.results94,go_sem, *]) rfl ?_;exact wI HS.o hE.o HNZ.o M.o.zero
 have G0:=jD (show bI w4 w2.heap.size (.slice xa xn xc) (.slice ya yn yc) (nS s.L id) from Wb.o.elim (fun h=>h.2) fun h=>absurd Ge h.1);have HE:=jD (H5.o MM.o HM.o HN.o Ge);rw[Ge];clear H4 H5 Wb;go_wp2;rw[←hw4,←kD];clear hw4 kD;have c0:w4.cell? ⟨g,0,none⟩=some (.int .i64 s.me):=cq 0 V.o.blk rfl;have c1:w4.cell? ⟨g,1,none⟩=some (.int .i64 s.made):=cq 1 V.o.blk rfl;have hgl:=ai V.o.blk;have p5:=V9.o.1;have hm2:=V9.o.2;go_region;obtain⟨BN,hBN⟩: ∃BN,BN=w4.heap.size:=⟨_,rfl⟩
 obtain⟨w5,lD⟩: ∃w5,w5=w4.alloc (.cells #[.int .i64 s.me, .int .i64 (s.made+1)] 103):=⟨_,rfl⟩
 rw[←lD,←hBN];have bR:Below w4.heap.size w4 w5:=by rw[lD];exact aG _
 have hd5:w5.heap[BN]? =some (Obj.cells #[.int .i64 s.me, .int .i64 (s.made+1)] 103 (0,0)):=by rw[lD];exact au _ _ _ _ hBN
 have cK:=jD (show B+1 < BN by have:=ai M.o.bd;omega);obtain⟨w6,s7⟩: ∃w6,w6=w5.drew:=⟨_,rfl⟩
 rw[←s7];have gP:Below w5.heap.size w5 w6:=by rw[s7];exact (br).drew
 have lq:=jD (ag gP hd5);replace M:=jD ((M.o.below bR).below gP);replace V:=jD ((V.o.below bR).below gP);replace He:=jD (ag gP (ag bR He.o));replace G0:=jD (bI.below (bI.below G0.o bR) gP);clear lD s7 bR gP hd5 hBN c0 c1 hgl p5 hm2;have nN:=jD (cq 0 M.o.bp rfl:w6.cell? ⟨B,0,none⟩=some (.int .i64 t));have ME:=jD (cq 1 M.o.bp rfl:w6.cell? ⟨B,1,none⟩=some (.int .i64 n));have MO:=jD (cq 0 lq.o rfl:w6.cell? ⟨BN,0,none⟩=some (.int .i64 s.me));have HD2:=jD (cq 1 lq.o rfl:w6.cell? ⟨BN,1,none⟩=some (.int .i64 (s.made+1)));have dQ:=jD (cq 0 He.o rfl:w6.cell? ⟨BK,0,none⟩=some (.slice xa xn xc));have cS:=jD (cq 1 He.o rfl:w6.cell? ⟨BK,1,none⟩=some (.slice ya yn yc));have Hi:=jD (cq 4 V.o.blk rfl:w6.cell? ⟨g,4,none⟩=some (.slice la s.L.length lc));have RG:=jD (V.o.l.at_ (ij HS.o.ok.L.ok) (by omega));have Hf:=jD (bI.at_ G0.o (FZ s.L id).1 (FZ s.L id).2);go_wp2_with fail
 refine Cl.aV 90 rfl [] (fun _=>True) (fun _=>[]) (fun jq v ww=>match jq with | 0=>v= .pointer (some ⟨g,0,none⟩) | 1=>v= .pointer (some ⟨g,0,none⟩) | 2=>v= .pointer (some ⟨g,4,none⟩) | 3=>v= .slice la s.L.length lc | 4=>v= .string id | 5=>v= .agg #[.int .i64 s.me, .int .i64 (s.made+1)] | 6=>v= .agg #[.int .i64 t, .int .i64 n] | 7=>v= .int .i64 bd | 8=>v= .agg #[.slice xa xn xc, .slice ya yn yc] | 9=>v= .agg #[.string id, .int .i64 s.me, .int .i64 (s.made+1), .int .i64 t, .int .i64 n, .int .i64 bd, .slice xa xn xc, .slice ya yn yc] | 10=>sD ww w6.heap.size s.L (gw s id t n bd) v | 11=>sD ww w6.heap.size s.L (gw s id t n bd) v | 12=>xW ww w6.heap.size s.L (gw s id t n bd) v | 13=>v= .int .i64 (cM s.L (gw s id t n bd)) | 14=>xW ww w6.heap.size s.L (gw s id t n bd) v | 15=>v= .int .i64 (cM s.L (gw s id t n bd)) | _=>True) (fun ww=>Below w6.heap.size w6 ww) (fun jq ww aR=>Below ww.heap.size ww aR) Tryz.mixed (by decide+kernel) (br).drew trivial ?_ (fun _ _ _ _ _ _=>trivial) ?_ ?_
 ·intro q r v w w' hne hk hlt h hR;match r,hk,hlt,h,hne with
  | 0,_,_,h,_=>exact h
  | 1,_,_,h,_=>exact h
  | 2,_,_,h,_=>exact h
  | 3,_,_,h,_=>exact h
  | 4,_,_,h,_=>exact h
  | 5,_,_,h,_=>exact h
  | 6,_,_,h,_=>exact h
  | 7,_,_,h,_=>exact h
  | 8,_,_,h,_=>exact h
  | 9,_,_,h,_=>exact h
  | 10,_,_,h,_=>exact h.below hR
  | 11,_,_,h,_=>exact h.below hR
  | 12,_,_,h,_=>exact h.below hR
  | 13,_,_,h,_=>exact h
  | 14,_,_,h,_=>exact h.below hR
  | 15,_,_,h,_=>exact h
  | _+16,_,_,_,_=>trivial
 ·refine⟨?_, ?_, ?_, ?_, ?_, ?_, ?_, ?_, ?_, ?_, ?_, ?_, ?_, ?_, ?_, ?_,trivial⟩
  ·intro x wx hG;have f0:=hG.o 0;replace hG:=hG.g;go_wp2;exact⟨_,rfl,rfl,hG,br⟩
  ·intro x wx hG;have g0:=gr 60 (hG.c 0 _ rfl);replace hG:=hG.g;go_wp2;exact⟨_,rfl,rfl,hG,br⟩
  ·intro x wx hG;have g1:=gr 61 (hG.c 1 _ rfl);replace hG:=hG.g;go_wp2;exact⟨_,rfl,rfl,hG,br⟩
  ·intro x wx hG;have g2:=gr 62 (hG.c 2 _ rfl);replace hG:=hG.g;have acI:=ah hG Hi.o;go_wp2;exact⟨_,rfl,rfl,hG,br⟩
  ·intro x wx hG;have f1:=hG.o 1;replace hG:=hG.g;go_wp2;exact⟨_,rfl,rfl,hG,br⟩
  ·intro x wx hG;have f12:=hG.o 12;replace hG:=hG.g;have acH:=ah hG MO.o;have c_HD2:=ah hG HD2.o;go_wp2;exact⟨_,rfl,rfl,hG,br⟩
  ·intro x wx hG;have f6:=hG.o 6;replace hG:=hG.g;have VK:=ah hG nN.o;have c_HP2:=ah hG ME.o;go_wp2;exact⟨_,rfl,rfl,hG,br⟩
  ·intro x wx hG;have f3:=hG.o 3;replace hG:=hG.g;go_wp2;exact⟨_,rfl,rfl,hG,br⟩
  ·intro x wx hG;have f10:=hG.o 10;replace hG:=hG.g;have VN:=ah hG dQ.o;have VM:=ah hG cS.o;go_wp2;exact⟨_,rfl,rfl,hG,br⟩
  ·intro x wx hG;have⟨g4,qE⟩:=gs 64 (hG.c 4 _ rfl);have⟨g5,sj⟩:=gs 65 (hG.c 5 _ rfl);have⟨g6,uy⟩:=gs 66 (hG.c 6 _ rfl);have⟨g7,Gt⟩:=gs 67 (hG.c 7 _ rfl);have⟨g8,Bb⟩:=gs 68 (hG.c 8 _ rfl);replace hG:=hG.g;go_wp2;exact⟨_,rfl,rfl,hG,br⟩
  ·intro x wx hG;have g3:=gr 63 (hG.c 3 _ rfl);have g9:=gr 69 (hG.c 9 _ rfl);replace hG:=hG.g;have HF:=jD (show Calls Tryz.prog 131 #[.slice la s.L.length lc, .agg #[.string id, .int .i64 s.me, .int .i64 (s.made+1), .int .i64 t, .int .i64 n, .int .i64 bd, .slice xa xn xc, .slice ya yn yc]] wx _ from put_c _ s.L (gw s id t n bd) _ _ wx (RG.o.below hG) (Hf.o.below hG));go_wp2_with fail
   (with_reducible refine(HF.o).mono ?_);rintro e wq ⟨ov,rfl,ho,hb⟩;obtain⟨oa,oc,hov⟩:=ho.shape;subst hov;have HN:=jD (bA.mono ho hG.size);have cK:=jD hb;clear ho hb HF;go_wp2;exact⟨_,rfl,⟨_,_,_,rfl,HN.o⟩,aj hG cK.o,cK.o⟩
  ·intro x wx hG;have g10:sD wx w6.heap.size s.L (gw s id t n bd) (x.tmps.getD 70 undef):=hG.c 10 _ rfl;replace hG:=hG.g;obtain⟨oa,on,oc,hv,ho⟩:=g10;have HO:=jD ho;have hvb:=hv;rw[Array.getD_eq_getD_getElem?] at hvb;clear ho;go_wp2;exact⟨_,rfl,⟨_,_,_,rfl,HO.o⟩,hG,br⟩
  ·intro x wx hG;have g11:sD wx w6.heap.size s.L (gw s id t n bd) (x.tmps.getD 59 undef):=hG.c 11 _ rfl;replace hG:=hG.g;obtain⟨oa,on,oc,hv,ho⟩:=g11;have HO:=jD ho;have hvb:=hv;rw[Array.getD_eq_getD_getElem?] at hvb;clear ho;go_wp2;exact⟨_,rfl,⟨_,_,_,rfl,HO.o⟩,hG,br⟩
  ·intro x wx hG;have g11:sD wx w6.heap.size s.L (gw s id t n bd) (x.tmps.getD 59 undef):=hG.c 11 _ rfl;replace hG:=hG.g;obtain⟨oa,on,oc,hv,ho⟩:=g11;have HO:=jD ho;have hvb:=hv;rw[Array.getD_eq_getD_getElem?] at hvb;clear ho;go_wp2;exact⟨_,rfl,rfl,hG,br⟩
  ·intro x wx hG;have g12:xW wx w6.heap.size s.L (gw s id t n bd) (x.tmps.getD 71 undef):=hG.c 12 _ rfl;replace hG:=hG.g;obtain⟨oa,on,oc,hv,ho⟩:=g12;have HO:=jD ho;have hvb:=hv;rw[Array.getD_eq_getD_getElem?] at hvb;clear ho;go_wp2;exact⟨_,rfl,⟨_,_,_,rfl,HO.o⟩,hG,br⟩
  ·intro x wx hG;have g13:=gr 72 (hG.c 13 _ rfl);replace hG:=hG.g;go_wp2;exact⟨_,rfl,rfl,hG,br⟩
 ·intro af w7 hg hF;obtain⟨g0,g1,g2,g3,g4,g5,g6,g7,g8,g9,g10,g11,g12,g13,g14,g15, -⟩:=hF;replace g14:xW w7 w6.heap.size s.L (gw s id t n bd) (af 14):=g14 rfl;simp only[Cl3.puts,gq (af 0) g0,gq (af 1) g1,gq (af 2) g2,gq (af 3) g3,gq (af 4) g4,gq (af 5) g5,gq (af 6) g6,gq (af 7) g7,gq (af 8) g8,gq (af 9) g9,gq (af 13) g13,gq (af 15) g15];clear g0 g1 g2 g3 g4 g5 g6 g7 g8 g9 g10 g11 g12 g13 g15;go_simp
  generalize af 14=Jd at*;obtain⟨oa,on,oc,ae7,ho⟩:=g14;subst ae7;have HO:=jD ho;have wV:=jD (show B+1 < w6.heap.size from ai M.o.bd);replace M:=jD (M.o.below hg);replace V:=jD (V.o.below hg);replace lq:=jD (ag hg lq.o);clear ho hg nN ME MO HD2 dQ cS Hi RG Hf G0 He;by_cases hpe:cM s.L (gw s id t n bd)=0;rotate_left
  ·have hE:=jD HE.o;have hdp:decide (cM s.L (gw s id t n bd)=0)=false:=by simpa using hpe
   have hdq:(cM s.L (gw s id t n bd) != 0)=true:=bne_iff_ne.2 hpe;have HNZ:=jD hpe;clear HE hpe HO;generalize cM s.L (gw s id t n bd)=q at*;have r0:=cq 0 M.o.bd rfl;have r1:=cq 1 M.o.bd rfl;have f0:=fq 0 M.o.bd;have f1:=fq 1 M.o.bd;have hrl:=ai M.o.bd;go_wp2;refine bodyPost_ret (v:= .tuple #[.agg #[.int .i64 0, .int .i64 0], .int .i64 q]) (by simp[results,Tryz.results94,go_sem, *]) rfl ?_;exact wI HS.o hE.o HNZ.o M.o.zero
  have hE:=jD (HE.o.trans hpe);have HR:=jD (wF hpe);rw[hpe];clear HE hpe;generalize af 10=j10 at*;generalize af 11=j11 at*;generalize af 12=j12 at*;have r0:=cq 0 M.o.bd rfl;have r1:=cq 1 M.o.bd rfl;have f0:=fq 0 M.o.bd;have f1:=fq 1 M.o.bd;have hrl:=ai M.o.bd;have s1:w7.cell? ⟨g,1,none⟩=some (.int .i64 s.made):=cq 1 V.o.blk rfl;have s4:w7.cell? ⟨g,4,none⟩=some (.slice la s.L.length lc):=cq 4 V.o.blk rfl;have t1:=fq 1 V.o.blk;have t4:=fq 4 V.o.blk;have hsl:=ai V.o.blk;have e1:w7.cell? ⟨BN,0,none⟩=some (.int .i64 s.me):=cq 0 lq.o rfl;have e2:w7.cell? ⟨BN,1,none⟩=some (.int .i64 (s.made+1)):=cq 1 lq.o rfl;have hel:=ai lq.o;have n1:g≠B+1:=by have:=Ad.o;have:=M.o.hB;omega
  have n2:g≠BN:=by have:=Ad.o;have:=M.o.hB;have:=cK.o;omega
  have n3:B+1≠BN:=by have:=cK.o;omega
  have p5:=V9.o.1;have hm2:=V9.o.2;go_wp2;refine bodyPost_ret (v:= .tuple #[.agg #[.int .i64 s.me, .int .i64 (s.made+1)], .int .i64 0]) (by simp[results,Tryz.results94,go_sem, *]) rfl ?_;exact Te HS.o hE.o HR.o M.o V0.o V.o HO.o (by have:=Ad.o;have:=M.o.hB;omega) wV.o
theorem VE.kn {w:World} {base:Nat} : ∀ {l:List aA} {cs:List (List Value)} (_:VE w base l cs) (i:Nat) (hi:i < l.length) {u x:Value},cs[i]? =some (aN l[i] u x).toList→bI w base u x l[i].past
 | [],_,_,i,hi,_,_,_=>by simp at hi
 | _::_,_::_,⟨⟨a,n,d,b,m,e,h1,h2⟩,_⟩,0,_,u,x,hc=>by
  simp only[List.getElem?_cons_zero,Option.some.injEq,List.getElem_cons_zero] at hc ⊢;rw[h1] at hc;simp only[aN,List.cons.injEq,and_true,true_and] at hc;obtain⟨rfl,rfl⟩:=hc;exact h2
 | _::_,_::_,⟨_,h4⟩,i+1,hi,u,x,hc=>by
  have:=VE.kn h4 i (by simpa using hi) (u:=u) (x:=x) (by simpa using hc);simpa using this
 | _::_,[],h,_,_,_,_,_=>h.elim
theorem Cq {w:World} {base:Nat} (p:aA→Bool): ∀ {l:List aA} {cs:List (List Value)},VE w base l cs→VE w base (l.filter p) (filtC p l cs)
 | [],[],_=>trivial
 | v::l,c::cs,h=>by
  unfold filtC;cases hp:p v
  ·rw[List.filter_cons_of_neg (by rw[hp];decide),if_neg (by decide)];exact Cq p h.2
  ·rw[List.filter_cons_of_pos hp,if_pos rfl];exact ⟨h.1,Cq p h.2⟩
 | [],_::_,h=>h.elim
 | _::_,[],h=>h.elim
theorem aM.I7 {T:Nat→Bool} {w w':World} {g:Nat} {cs:Array Value} {t:TypeId} (h:dD w w' g) (hg:w.heap[g]? =some (Obj.cells cs t (0,0))) (ht:T t=false):aM T w w':=
 aM.of_block (by rw[h.size];exact Nat.le_refl _) (fun k _ hk=>h.other k hk) hg ht
structure R8 (w0 w:World) (g cap:Nat) (dJ X:List Value) (k q:Nat) (wr:World):Prop where
 ex: ∃cur:List Value,wr.heap[g]? =some (.cells cur.toArray 120 (0,0))∧cur.length=cap*8∧cur.take (k*8)=X∧cur.drop (q*8)=dJ.drop (q*8)
 aW:Below w0.heap.size w0 wr
 tk:aM (fun t=>t != 120) w wr
theorem Yf (w0 w:World) (s:Value) (l:List aA) (g0:FuncId) (caps:Array Value) (p:aA→Bool) (hbl:Below w0.heap.size w0 w) (hown:bA w w0.heap.size s l) (hn:l.length≤1000) (hD: ∀v∈l,dz v) (hp:oQ dz g0 caps p w0):
  Calls Tryz.prog 133 #[s, .func (.func g0) #[] caps] w fun e w'=> ∃s',e= .returned s'∧bA w' w0.heap.size s' (l.filter fun v=> !p v)∧Below w0.heap.size w0 w':=by
 have hp1:=hp.below hbl;have hat:=hown.at_ (ij hD) (by omega);have HI:=jD (Cg dz s l g0 caps p w hat hD hp1);have HP:=jD hp.2;have hcall:=hp.1;have HD:=jD hD;obtain⟨css,P7,hrow⟩:=hown;have jQ:=P7.els (ij hD);have HVE:=jD P7;have aZ:=jD (ij hD);replace hrow:w.ownsRow w0.heap.size 120 8 s l.length css.flatten:=hrow;have hlc:l.length=css.length:=jQ.length.symm;clear hat hp hp1 hD;rcases wu (p:=p) (l:=l) with⟨h1,hall⟩ | ⟨i,h1,hi,hpi,zq⟩
 ·have hfl:(l.filter fun v=> !p v)=l:=List.filter_eq_self.2 fun v hv=>by rw[hall v hv];rfl
  rw[hfl];rw[h1] at HI;have jR:=jD (show bA w w0.heap.size s l from⟨css,P7,hrow⟩);have aP:=jD hbl;obtain⟨a,cap,rfl⟩:=ay hrow;clear jQ P7 hrow hall hbl hcall hlc;go_enter Tryz.func133,Tryz.ntmps133;go_wp2_with fail
  (with_reducible refine(HI.o).mono ?_);rintro e w1 ⟨rfl,hb1⟩;have hr:=jR.o.below hb1;have hb:=aj aP.o hb1;clear hb1;go_wp2;go_ret;exact⟨_,rfl,hr,hb⟩
 ·rw[h1] at HI;rcases hrow.2 with⟨-,h0⟩ | ⟨g,cap,cur,rfl,hbg,hg,hnc,hcm,hcs,htake⟩
  ·omega
  obtain⟨dJ,p7⟩: ∃c:List Value,c=cur.toList:=⟨_,rfl⟩
  have hg':w.heap[g]? =some (.cells dJ.toArray 120 (0,0)):=by rw[p7];simpa using hg
  have hcl:dJ.length=cap*8:=by rw[p7];simpa using hcs
  rw[←p7] at htake;have p6:=jQ.lens;have HT:=jD (fun (q:Nat) (hq:q≤l.length)=>(show(css.take q).flatten=dJ.take (q*8) by
   rw[rA (n:=8) p6,←htake,List.take_take];congr 1;show min (q*8) (l.length*8)=q*8;omega))
  have kG:=jD htake;have hst:R8 w0 w g cap dJ (filtC (fun v=> !p v) (l.take (i+1)) (css.take (i+1))).flatten i (i+1) w:=by
   refine⟨⟨dJ,hg',hcl, ?_,rfl⟩,hbl,aM.refl _ _⟩;obtain⟨c, -,hc, -⟩:=jQ.cell i hi;rw[nW _ hlc hi hc,if_neg (by rw[hpi];decide),List.append_nil,vG _ (by rw[List.length_take,List.length_take,hlc]) (fun v hv=>by
    obtain⟨j,hj,rfl⟩:=List.getElem_of_mem hv;rw[List.length_take] at hj;rw[List.getElem_take,zq j (by omega)];rfl),HT.o i (by omega)]
  have hki:((l.take (i+1)).filter fun v=> !p v).length=i:=by
   rw[List.take_succ_eq_append_getElem hi,List.filter_append,List.filter_cons_of_neg (by rw[hpi];decide),List.filter_nil,List.append_nil,List.filter_eq_self.2 fun v hv=>by
    obtain⟨j,hj,rfl⟩:=List.getElem_of_mem hv;rw[List.length_take] at hj;rw[List.getElem_take,zq j (by omega)];rfl]
   rw[List.length_take];omega
  have HST:=jD hst;have yA:=jD hki;have Br:=jD jQ;have GZ:=jD hlc;have lu:=jD hcl;have HFE:=jD (fun (X:List (List Value))=>show X=X from rfl);clear hst hki jQ P7 hrow p6 hg hg' hcs p7 zq htake hbl hlc hcl;have hw1:IntKind.i64.wrap ((i:Int)+1)=(i:Int)+1:=by rw[IntKind.wrap_i64];omega
  have p5:((i:Int)== -1)=false:=by rw[beq_eq_false_iff_ne];omega
  go_enter Tryz.func133,Tryz.ntmps133;go_wp2_with fail
  (with_reducible refine(HI.o).mono ?_);rintro e w1 ⟨rfl,hb1⟩;have zZ:=jD (show R8 w0 w g cap dJ (filtC (fun v=> !p v) (l.take (i+1)) (css.take (i+1))).flatten i (i+1) w1 by
   obtain⟨⟨cur,h2,h3⟩,h4,h5⟩:=HST.o;exact⟨⟨cur,ag hb1 h2,h3⟩,aj h4 hb1,h5.trans (aM.of_below hb1)⟩)
  clear HST hb1 HI;go_wp2;go_loopw [5,6] (fun iv jv wr=> ∃k q:Nat,iv= .int .i64 k∧jv= .int .i64 q∧k+1≤q∧q≤l.length∧((l.take q).filter fun v=> !p v).length=k∧R8 w0 w g cap dJ (filtC (fun v=> !p v) (l.take q) (css.take q)).flatten k q wr) (fun _ jv _=>l.length - (intOf jv).toNat)
  case atStart=>exact ⟨i,i+1,rfl,by go_num,Nat.le_refl _,by omega,yA.o,zZ.o⟩
  case round=>
   obtain⟨k,q,rfl,rfl,hkq,hq,hkl,hst⟩:=hrel;have pK:=jD hkl;have oH:=jD hst;clear hkl hst zZ;by_cases hlt:q < l.length
   ·obtain⟨c,⟨u,x,rfl,hk2⟩,vt,hcc⟩:=Br.o.cell q hlt;obtain⟨⟨cur,pE,hcl,htk,hdr⟩,hbel,EO⟩:=oH.o;clear hk2;have hk2:=((HVE.o.kn q hlt vt).tk EO (by decide) (by decide)).at_ (aZ.o _ (List.getElem_mem hlt)).1 (by have:=(aZ.o _ (List.getElem_mem hlt)).2;omega);have HTP:=jD EO;clear EO;have hcell:=fun (j:Nat) (y:Value) (hj:j < 8) (hy:(aN l[q] u x).toList[j]? =some y)=>(show wr.cell? ⟨g,q*8+j,none⟩=some y from
     aD pE (by
      have e1:=hcc j y hy;have e2:cur[q*8+j]? =dJ[q*8+j]? :=wm hdr;have e3:dJ[q*8+j]? =css.flatten[q*8+j]? :=by rw[←kG.o,List.getElem?_take_of_lt (by omega)]
      rw[List.getElem?_toArray,e2,e3];exact e1))
    have c0:=hcell 0 _ (by decide) rfl;have c1:=hcell 1 _ (by decide) rfl;have c2:=hcell 2 _ (by decide) rfl;have c3:=hcell 3 _ (by decide) rfl;have c4:=hcell 4 _ (by decide) rfl;have c5:=hcell 5 _ (by decide) rfl;have c6:=hcell 6 _ (by decide) rfl;have c7:=hcell 7 _ (by decide) rfl;rw[Nat.add_zero] at c0;obtain⟨ua,uc,rfl⟩:=hk2.vec.shape;obtain⟨xa,xc,rfl⟩:=hk2.more.shape;have dm:=aG (W:=wr) (.cells (aN l[q] (.slice ua l[q].past.vec.length uc) (.slice xa l[q].past.more.length xc)) 120);have HV:=jD (HP.o l[q] (.slice ua l[q].past.vec.length uc) (.slice xa l[q].past.more.length xc) _ (HD.o _ (List.getElem_mem hlt)) (aj hbel dm) (hk2.below dm));have uM:=jD (au wr (aN l[q] (.slice ua l[q].past.vec.length uc) (.slice xa l[q].past.more.length xc)) 120 _ rfl);have gM:=jD dm;have tE:=jD pE;have jo:=jD hbel;have oI:=jD (nW (fun v=> !p v) GZ.o hlt vt);have gF:=jD (show((l.take (q+1)).filter fun v=> !p v)=((l.take q).filter fun v=> !p v)++[l[q]].filter fun v=> !p v by rw[List.take_succ_eq_append_getElem hlt,List.filter_append]);have Gk:=jD (show cur.drop ((q+1)*8)=dJ.drop ((q+1)*8) by
     have e:(q+1)*8=q*8+8:=by omega
     rw[e,←List.drop_drop,←List.drop_drop,hdr])
    clear hcell hcc hk2 dm pE hbel hdr;generalize hvq:l[q]=v1 at*;have qp:=jD htk;have fh:=jD hcl;clear htk hcl vt oH;unfold aN at HV;have lV:decide ((q:Int) < (l.length:Int))=true:=by simp;omega
    go_wp2_with fail
    refine(HV.o).mono ?_;rintro e w2 ⟨rfl,hb2⟩;have bO:=ag hb2 uM.o;have wP:=jD (ag hb2 (aO (.cells (aN v1 (.slice ua v1.past.vec.length uc) (.slice xa v1.past.more.length xc)) 120) tE.o));have cw:=jD (aj (aj jo.o gM.o) hb2);have DX:=jD ((HTP.o.trans (aM.of_below gM.o)).trans (aM.of_below hb2));clear hb2 gM HV c0 c1 c2 c3 c4 c5 c6 c7;cases hpv:p v1
    ·have e0:=cq 0 bO rfl;have e1:=cq 1 bO rfl;have e2:=cq 2 bO rfl;have e3:=cq 3 bO rfl;have e4:=cq 4 bO rfl;have e5:=cq 5 bO rfl;have e6:=cq 6 bO rfl;have e7:=cq 7 bO rfl;have hkn:decide ((k:Int) < (l.length:Int))=true:=by simp;omega
     clear bO;go_wp2_with (refine pN rfl 120 _ _ rfl g (k*8) (aN v1 (.slice ua v1.past.vec.length uc) (.slice xa v1.past.more.length xc)) rfl rfl 120 cur wP.o (by kernel_rfl) (by rw[fh.o];show k*8+8≤_;omega) (by intro z hz;simp only[aN,List.mem_cons,List.not_mem_nil,or_false] at hz;rcases hz with rfl | rfl | rfl | rfl | rfl | rfl | rfl | rfl <;> rfl) ?_)
     intro w3 h3 hr3;have Ac:=jD (show((l.take (q+1)).filter fun v=> !p v).length=k+1 by
      rw[gF.o,List.length_append,pK.o,List.filter_cons_of_pos (by rw[hpv];rfl)];rfl)
     have cr:=jD (show R8 w0 w g cap dJ (filtC (fun v=> !p v) (l.take (q+1)) (css.take (q+1))).flatten (k+1) (q+1) w3 by
      have e8:(aN v1 (.slice ua v1.past.vec.length uc) (.slice xa v1.past.more.length xc)).toList.length=8:=rfl;refine⟨⟨_,h3.o,by rw[length_splice _ _ _ (by rw[e8,fh.o];omega),fh.o], ?_, ?_⟩,hr3.below cw.o hbg,DX.o.trans (aM.I7 hr3 wP.o (by decide))⟩
      ·rw[show(k+1)*8=k*8+(aN v1 (.slice ua v1.past.vec.length uc) (.slice xa v1.past.more.length xc)).toList.length by rw[e8];omega,rH (by rw[e8,fh.o];omega),qp.o,oI.o,if_pos (by rw[hpv];rfl),List.flatten_append,List.flatten_cons,List.flatten_nil,List.append_nil]
      ·rw[vX (by rw[e8];omega) (by rw[e8,fh.o];omega)];exact Gk.o)
     clear h3 hr3 hpv e0 e1 e2 e3 e4 e5 e6 e7;go_wp2;go_roundw
     case rel=>exact ⟨k+1,q+1,by go_num,by go_num,by omega,by omega,Ac.o,cr.o⟩
     case measure=>simp [intOf] <;> omega
    ·have Ac:=jD (show((l.take (q+1)).filter fun v=> !p v).length=k by
      rw[gF.o,List.length_append,pK.o,List.filter_cons_of_neg (by rw[hpv];decide)];rfl)
     have cr:=jD (show R8 w0 w g cap dJ (filtC (fun v=> !p v) (l.take (q+1)) (css.take (q+1))).flatten k (q+1) w2 from
      ⟨⟨_,wP.o,fh.o,by rw[qp.o,oI.o,if_neg (by rw[hpv];decide),List.append_nil],Gk.o⟩,cw.o,DX.o⟩)
     clear hpv bO;go_wp2;go_roundw
     case rel=>exact ⟨k,q+1,rfl,by go_num,by omega,by omega,Ac.o,cr.o⟩
     case measure=>simp [intOf] <;> omega
   ·obtain rfl:q=l.length:=by omega
    rw[List.take_length] at pK;have hct:css.take l.length=css:=by rw[GZ.o,List.take_length]
    rw[List.take_length,hct] at oH;obtain⟨⟨cur,pE,hcl,htk, -⟩,hbel,EO⟩:=oH.o;have HTP:=jD EO;clear EO;have tE:=jD pE;have jo:=jD hbel;have qp:=jD htk;have fh:=jD hcl;clear pE hbel htk hcl hct oH;have hkc: ¬(cap=k):=by omega
    go_wp2_with (refine oL rfl _ 112 rfl 120 _ 8 104 Tryz.underlying112 yw.info rfl (by decide) g (k*8) (l.length - k) (cap - k) (some ⟨g,k*8,none⟩) (fun _=>rfl) rfl cur _ tE.o (by rw[fh.o];omega) ?_)
    intro w3 zs h3 hz hr3;have JJ:=jD (show bA w3 w0.heap.size (.slice (some ⟨g,0,none⟩) k cap) (l.filter fun v=> !p v) by
     refine⟨_,Cq _ (HVE.o.map fun u x k hh=>(hh.tk HTP.o (by decide) (by decide)).tk (aM.I7 (T:=fun t=>t != 120) hr3 tE.o (by decide)) (by decide) (by decide)), ?_⟩;rw[pK.o];have hfl:=(nG (fun v=> !p v) Br.o).flat;rw[pK.o] at hfl;refine⟨hfl, .inr ⟨g,cap,_,rfl,hbg,h3.o,by omega,hcm,by rw[List.size_toArray,length_splice _ _ _ (by rw[hz,fh.o];omega),fh.o], ?_⟩⟩;rw[List.toList_toArray];show(splice cur (k*8) zs).take (k*8)=_;rw[pQ (by rw[fh.o];omega),qp.o])
    have eH:=jD (hr3.below jo.o hbg);clear h3 hr3;go_wp2;go_ret;exact⟨_,rfl,JJ.o,eH.o⟩
def tQ (me:Int) (F:bB) (v:aA):Bool:= !decide (v.ds=me)&& !cE F v.tg v.nm
theorem want1_p (BS BF g:Nat) (s:aL) (f l q fv:Value) (F:bB) (w:World) (hS:w.heap[BS]? =some (Obj.cells #[.pointer (some ⟨g,0,none⟩)] 142 (0,0))) (hF:w.heap[BF]? =some (Obj.cells #[fv] 89 (0,0))) (hf:bZ w fv F)
  (hg:w.heap[g]? =some (Obj.cells (xm s f l q) 191 (0,0))):
  oQ dz 135 #[.pointer (some ⟨BS,0,none⟩), .pointer (some ⟨BF,0,none⟩)] (tQ s.me F) w:=by
 refine⟨enters_of Tryz.func135 (by kernel_rfl) rfl,fun gX u x wz hok hbl hk=> ?_⟩;show Calls Tryz.prog 135 #[.agg (aN gX u x), .pointer (some ⟨BS,0,none⟩), .pointer (some ⟨BF,0,none⟩)] wz _;obtain⟨xa,ca,rfl⟩:=hk.vec.shape;obtain⟨ya,da,rfl⟩:=hk.more.shape;obtain⟨fa,fc,rfl⟩:=hf.shape;obtain⟨BX,Gm⟩: ∃BX,BX=wz.heap.size:=⟨_,rfl⟩
 obtain⟨W,hW⟩: ∃W,W=wz.alloc (.cells (aN gX (.slice xa gX.past.vec.length ca) (.slice ya gX.past.more.length da)) 120):=⟨_,rfl⟩
 have hbW:Below wz.heap.size wz W:=by rw[hW];exact aG _
 have hX:W.heap[BX]? =some (Obj.cells (aN gX (.slice xa gX.past.vec.length ca) (.slice ya gX.past.more.length da)) 120 (0,0)):=by rw[hW];exact au _ _ _ _ Gm
 have cr:=jD (cq 1 hX rfl:W.cell? ⟨BX,1,none⟩=some (.int .i64 gX.ds));have sG:=jD (cq 3 hX rfl:W.cell? ⟨BX,3,none⟩=some (.int .i64 gX.tg));have vO:=jD (cq 4 hX rfl:W.cell? ⟨BX,4,none⟩=some (.int .i64 gX.nm));have Bn:=jD (cq 0 (ag hbW (ag hbl hS)) rfl:W.cell? ⟨BS,0,none⟩=some (.pointer (some ⟨g,0,none⟩)));have HF0:=jD (cq 0 (ag hbW (ag hbl hF)) rfl:W.cell? ⟨BF,0,none⟩=some (.slice fa F.length fc));have RQ:=jD (cq 0 (ag hbW (ag hbl hg)) rfl:W.cell? ⟨g,0,none⟩=some (.int .i64 s.me));have gM:=jD ((hf.below hbl).below hbW);have gN:=jD hbW;have RL:=jD (fun (y:World) (h:bZ y (.slice fa F.length fc) F)=>Ig _ F gX.tg gX.nm y h);have Rv:=jD (show tQ s.me F gX=(!decide (gX.ds=s.me)&& !cE F gX.tg gX.nm) from rfl);clear hS hF hf hg hok hk hbl hX hbW;unfold aN at*;go_enter Tryz.func135,Tryz.ntmps135;go_wp2_with fail
 rw[←hW,←Gm];clear hW Gm;by_cases hds:gX.ds=s.me
 ·have hdd:decide (gX.ds=s.me)=true:=by simpa using hds
  have hdb:(gX.ds != s.me)=false:=by simpa using hds
  have Wl:=jD hds;clear hds;refine Cl.aV 20 rfl [] (fun _=>True) (fun _=>[]) (fun jq v ww=>match jq with | 0=>v= .pointer (some ⟨BX,1,none⟩) | 1=>v= .pointer (some ⟨BX,1,none⟩) | 2=>v= .int .i64 gX.ds | 3=>v= .pointer (some ⟨g,0,none⟩) | 4=>v= .pointer (some ⟨g,0,none⟩) | 5=>v= .pointer (some ⟨g,0,none⟩) | 6=>v= .int .i64 s.me | 7=>v= .bool false | 8=>v= .bool false | 9=>v=undef | 10=>v=undef | 11=>v=undef | 12=>v=undef | 13=>v=undef | 14=>v= .bool false | 15=>v= .bool false | _=>True) (fun ww=>Below W.heap.size W ww) (fun jq ww aR=>Below ww.heap.size ww aR) Tryz.mixed (by decide+kernel) (br).drew trivial (fun q r v w w' _ _ _ h _=>h) (fun _ _ _ _ _ _=>trivial) ?_ ?_
  ·refine⟨?_, ?_, ?_, ?_, ?_, ?_, ?_, ?_, ?_, ?_, ?_, ?_, ?_, ?_, ?_, ?_,trivial⟩
   ·intro x wx hG;have f3:=hG.o 3;replace hG:=hG.g;go_wp2;exact⟨_,rfl,rfl,hG,br⟩
   ·intro x wx hG;have g0:=gr 5 (hG.c 0 _ rfl);replace hG:=hG.g;go_wp2;exact⟨_,rfl,rfl,hG,br⟩
   ·intro x wx hG;have g1:=gr 6 (hG.c 1 _ rfl);replace hG:=hG.g;have acA:=ah hG cr.o;go_wp2;exact⟨_,rfl,rfl,hG,br⟩
   ·intro x wx hG;have f1:=hG.o 1;replace hG:=hG.g;have acB:=ah hG Bn.o;go_wp2;exact⟨_,rfl,rfl,hG,br⟩
   ·intro x wx hG;have g3:=gr 8 (hG.c 3 _ rfl);replace hG:=hG.g;go_wp2;exact⟨_,rfl,rfl,hG,br⟩
   ·intro x wx hG;have g4:=gr 9 (hG.c 4 _ rfl);replace hG:=hG.g;go_wp2;exact⟨_,rfl,rfl,hG,br⟩
   ·intro x wx hG;have g5:=gr 10 (hG.c 5 _ rfl);replace hG:=hG.g;have acG:=ah hG RQ.o;go_wp2;exact⟨_,rfl,rfl,hG,br⟩
   ·intro x wx hG;have g2:=gr 7 (hG.c 2 _ rfl);have g6:=gr 11 (hG.c 6 _ rfl);replace hG:=hG.g;go_wp2;exact⟨_,rfl,rfl,hG,br⟩
   ·intro x wx hG;have g7:=gr 12 (hG.c 7 _ rfl);replace hG:=hG.g;go_wp2;exact⟨_,rfl,rfl,hG,br⟩
   ·intro x wx hG;have gg:=gr 13 (hG.c 8 _ rfl);replace gg:=hG.q gg;replace hG:=hG.g;go_wp2;exact⟨_,rfl,rfl,hG,br⟩
   ·intro x wx hG;have gg:=gr 13 (hG.c 8 _ rfl);replace gg:=hG.q gg;replace hG:=hG.g;go_wp2;exact⟨_,rfl,rfl,hG,br⟩
   ·intro x wx hG;have gg:=gr 13 (hG.c 8 _ rfl);replace gg:=hG.q gg;replace hG:=hG.g;go_wp2;exact⟨_,rfl,rfl,hG,br⟩
   ·intro x wx hG;have gg:=gr 13 (hG.c 8 _ rfl);replace gg:=hG.q gg;replace hG:=hG.g;go_wp2;exact⟨_,rfl,rfl,hG,br⟩
   ·intro x wx hG;have gg:=gr 13 (hG.c 8 _ rfl);replace gg:=hG.q gg;replace hG:=hG.g;go_wp2;exact⟨_,rfl,rfl,hG,br⟩
   ·intro x wx hG;have g8:=gr 13 (hG.c 8 _ rfl);have g13:=gr 18 (hG.c 13 _ rfl);replace hG:=hG.g;go_wp2;exact⟨_,rfl,rfl,hG,br⟩
   ·intro x wx hG;have g14:=gr 19 (hG.c 14 _ rfl);replace hG:=hG.g;go_wp2;exact⟨_,rfl,rfl,hG,br⟩
  ·intro af w3 hg hF;obtain⟨g0,g1,g2,g3,g4,g5,g6,g7,g8,g9,g10,g11,g12,g13,g14,g15, -⟩:=hF;simp only[Cl3.puts,gq (af 0) g0,gq (af 1) g1,gq (af 2) g2,gq (af 3) g3,gq (af 4) g4,gq (af 5) g5,gq (af 6) g6,gq (af 7) g7,gq (af 8) g8,gq (af 9) g9,gq (af 10) g10,gq (af 11) g11,gq (af 12) g12,gq (af 13) g13,gq (af 14) g14,gq (af 15) g15];clear g0 g1 g2 g3 g4 g5 g6 g7 g8 g9 g10 g11 g12 g13 g14 g15;go_simp
   go_wp2;go_ret;exact⟨by rw[Rv.o,decide_eq_true Wl.o];rfl,aj gN.o hg⟩
 ·have hdd:decide (gX.ds=s.me)=false:=by simpa using hds
  have hdb:(gX.ds != s.me)=true:=bne_iff_ne.2 hds;have Wl:=jD hds;clear hds;refine Cl.aV 20 rfl [] (fun _=>True) (fun _=>[]) (fun jq v ww=>match jq with | 0=>v= .pointer (some ⟨BX,1,none⟩) | 1=>v= .pointer (some ⟨BX,1,none⟩) | 2=>v= .int .i64 gX.ds | 3=>v= .pointer (some ⟨g,0,none⟩) | 4=>v= .pointer (some ⟨g,0,none⟩) | 5=>v= .pointer (some ⟨g,0,none⟩) | 6=>v= .int .i64 s.me | 7=>v= .bool true | 8=>v= .bool true | 9=>v= .slice fa F.length fc | 10=>v= .pointer (some ⟨BX,3,none⟩) | 11=>v= .agg #[.int .i64 gX.tg, .int .i64 gX.nm] | 12=>v= .bool (cE F gX.tg gX.nm) | 13=>v= .bool (!cE F gX.tg gX.nm) | 14=>v= .bool (!cE F gX.tg gX.nm) | 15=>v= .bool (!cE F gX.tg gX.nm) | _=>True) (fun ww=>Below W.heap.size W ww) (fun jq ww aR=>Below ww.heap.size ww aR) Tryz.mixed (by decide+kernel) (br).drew trivial (fun q r v w w' _ _ _ h _=>h) (fun _ _ _ _ _ _=>trivial) ?_ ?_
  ·refine⟨?_, ?_, ?_, ?_, ?_, ?_, ?_, ?_, ?_, ?_, ?_, ?_, ?_, ?_, ?_, ?_,trivial⟩
   ·intro x wx hG;have f3:=hG.o 3;replace hG:=hG.g;go_wp2;exact⟨_,rfl,rfl,hG,br⟩
   ·intro x wx hG;have g0:=gr 5 (hG.c 0 _ rfl);replace hG:=hG.g;go_wp2;exact⟨_,rfl,rfl,hG,br⟩
   ·intro x wx hG;have g1:=gr 6 (hG.c 1 _ rfl);replace hG:=hG.g;have acA:=ah hG cr.o;go_wp2;exact⟨_,rfl,rfl,hG,br⟩
   ·intro x wx hG;have f1:=hG.o 1;replace hG:=hG.g;have acB:=ah hG Bn.o;go_wp2;exact⟨_,rfl,rfl,hG,br⟩
   ·intro x wx hG;have g3:=gr 8 (hG.c 3 _ rfl);replace hG:=hG.g;go_wp2;exact⟨_,rfl,rfl,hG,br⟩
   ·intro x wx hG;have g4:=gr 9 (hG.c 4 _ rfl);replace hG:=hG.g;go_wp2;exact⟨_,rfl,rfl,hG,br⟩
   ·intro x wx hG;have g5:=gr 10 (hG.c 5 _ rfl);replace hG:=hG.g;have acG:=ah hG RQ.o;go_wp2;exact⟨_,rfl,rfl,hG,br⟩
   ·intro x wx hG;have g2:=gr 7 (hG.c 2 _ rfl);have g6:=gr 11 (hG.c 6 _ rfl);replace hG:=hG.g;have hds2:=Wl.o;go_wp2;exact⟨_,rfl,rfl,hG,br⟩
   ·intro x wx hG;have g7:=gr 12 (hG.c 7 _ rfl);replace hG:=hG.g;go_wp2;exact⟨_,rfl,rfl,hG,br⟩
   ·intro x wx hG;have f2:=hG.o 2;have gg:=gr 13 (hG.c 8 _ rfl);replace gg:=hG.q gg;replace hG:=hG.g;have c_HF0:=ah hG HF0.o;go_wp2;exact⟨_,rfl,rfl,hG,br⟩
   ·intro x wx hG;have f3:=hG.o 3;have gg:=gr 13 (hG.c 8 _ rfl);replace gg:=hG.q gg;replace hG:=hG.g;go_wp2;exact⟨_,rfl,rfl,hG,br⟩
   ·intro x wx hG;have g10:=gr 15 (hG.c 10 _ rfl);have gg:=gr 13 (hG.c 8 _ rfl);replace gg:=hG.q gg;replace hG:=hG.g;have c_HX3:=ah hG sG.o;have acz:=ah hG vO.o;go_wp2;exact⟨_,rfl,rfl,hG,br⟩
   ·intro x wx hG;have g9:=gr 14 (hG.c 9 _ rfl);have g11:=gr 16 (hG.c 11 _ rfl);have gg:=gr 13 (hG.c 8 _ rfl);replace gg:=hG.q gg;replace hG:=hG.g;have Af:=jD (RL.o wx (gM.o.below hG));go_wp2_with fail
    (with_reducible refine(Af.o).mono ?_);rintro e wq ⟨rfl,hb⟩;have cK:=jD hb;clear hb Af;go_wp2;exact⟨_,rfl,rfl,aj hG cK.o,cK.o⟩
   ·intro x wx hG;have g12:=gr 17 (hG.c 12 _ rfl);have gg:=gr 13 (hG.c 8 _ rfl);replace gg:=hG.q gg;replace hG:=hG.g;go_wp2;exact⟨_,rfl,rfl,hG,br⟩
   ·intro x wx hG;have g8:=gr 13 (hG.c 8 _ rfl);have g13:=gr 18 (hG.c 13 _ rfl);replace hG:=hG.g;go_wp2;exact⟨_,rfl,rfl,hG,br⟩
   ·intro x wx hG;have g14:=gr 19 (hG.c 14 _ rfl);replace hG:=hG.g;go_wp2;exact⟨_,rfl,rfl,hG,br⟩
  ·intro af w3 hg hF;obtain⟨g0,g1,g2,g3,g4,g5,g6,g7,g8,g9,g10,g11,g12,g13,g14,g15, -⟩:=hF;simp only[Cl3.puts,gq (af 0) g0,gq (af 1) g1,gq (af 2) g2,gq (af 3) g3,gq (af 4) g4,gq (af 5) g5,gq (af 6) g6,gq (af 7) g7,gq (af 8) g8,gq (af 9) g9,gq (af 10) g10,gq (af 11) g11,gq (af 12) g12,gq (af 13) g13,gq (af 14) g14,gq (af 15) g15];clear g0 g1 g2 g3 g4 g5 g6 g7 g8 g9 g10 g11 g12 g13 g14 g15;go_simp
   go_wp2;go_ret;exact⟨by rw[Rv.o,decide_eq_false Wl.o];rfl,aj gN.o hg⟩
theorem QZ {s:aL} {F:bB} {L:List aA} (h: ∀v∈L,dz v):(L.filter fun v=> !tQ s.me F v)=L.filter (NR s (aX F)):=by
 refine List.filter_congr fun v hv=> ?_;obtain⟨h1,h2,h3,h4⟩:=yX (h v hv).pt;unfold tQ NR rV;rw[fS (by omega) (by omega),Int.toNat_of_nonneg h1,Int.toNat_of_nonneg h3];cases decide (v.ds=s.me) <;> cases cE F v.tg v.nm <;> rfl
def kW (w:World) (base:Nat) (S:List SP) (v:Value):Prop:= ∃a n c,v= .tuple #[.slice a n c, .int .i64 0]∧aY w base (.slice a n c) S
theorem kW.bD {G:Nat→Prop} {w w':World} {base:Nat} {S:List SP} {v:Value} (h:kW w base S v) (hs:aB G w w'):kW w' base S v:=by
 obtain⟨a,n,c,h1,h2⟩:=h;exact ⟨a,n,c,h1,h2.bD hs⟩
def tT (w:World) (base:Nat) (S:List SP) (v:Value):Prop:= ∃a n c,v= .slice a n c∧aY w base (.slice a n c) S
theorem tT.bD {G:Nat→Prop} {w w':World} {base:Nat} {S:List SP} {v:Value} (h:tT w base S v) (hs:aB G w w'):tT w' base S v:=by
 obtain⟨a,n,c,h1,h2⟩:=h;exact ⟨a,n,c,h1,h2.bD hs⟩
def Ke (w:World) (base:Nat) (l:List aA) (v:Value):Prop:= ∃a n c,v= .slice a n c∧bA w base (.slice a n c) l
theorem Ke.bD {G:Nat→Prop} {w w':World} {base:Nat} {l:List aA} {v:Value} (h:Ke w base l v) (hs:aB G w w'):Ke w' base l v:=by
 obtain⟨a,n,c,h1,h2⟩:=h;exact ⟨a,n,c,h1,h2.bD hs⟩
def R5 (w:World) (base:Nat) (q:Nat→Nat→Bool) (v:Value):Prop:= ∃a n c,v= .slice a n c∧FO w base (.slice a n c) q
theorem R5.bD {G:Nat→Prop} {w w':World} {base:Nat} {q:Nat→Nat→Bool} {v:Value} (h:R5 w base q v) (hs:aB G w w'):R5 w' base q v:=by
 obtain⟨a,n,c,h1,h2⟩:=h;exact ⟨a,n,c,h1,h2.bD hs⟩
def zX (w:World) (base g:Nat) (s:aL) (f l:Value) (S:List SP):Prop:= ∃a n c,w.heap[g]? =some (Obj.cells (xm s f l (.slice a n c)) 191 (0,0))∧aY w base (.slice a n c) S
def zQ (w:World) (base g:Nat) (s:aL) (f q:Value) (L:List aA):Prop:= ∃a n c,w.heap[g]? =some (Obj.cells (xm s f (.slice a n c) q) 191 (0,0))∧bA w base (.slice a n c) L
def uR (w:World) (base g:Nat) (s:aL) (l q:Value) (P:Nat→Nat→Bool) (st:Int):Prop:= ∃a n c,w.heap[g]? =some (Obj.cells #[.int .i64 s.me, .int .i64 s.made, .int .i64 st, .slice a n c,l,q] 191 (0,0))∧FO w base (.slice a n c) P
structure OL (BS BF g:Nat) (fv:Value) (F:bB) (w:World):Prop where
 bs:w.heap[BS]? =some (Obj.cells #[.pointer (some ⟨g,0,none⟩)] 142 (0,0))
 bf:w.heap[BF]? =some (Obj.cells #[fv] 89 (0,0))
theorem OL.bD {BS BF g:Nat} {fv:Value} {F:bB} {w w':World} (h:OL BS BF g fv F w) (hs:aB (fun q=>q=g) w w') (h1:g < BS) (h2:g < BF):OL BS BF g fv F w':=⟨hs.block h.bs (by omega),hs.block h.bf (by omega)⟩
theorem zX.bD {G:Nat→Prop} {w w':World} {base g:Nat} {s:aL} {f l:Value} {S:List SP} (h:zX w base g s f l S) (hs:aB G w w') (hG: ¬G g):zX w' base g s f l S:=by
 obtain⟨a,n,c,h1,h2⟩:=h;exact ⟨a,n,c,hs.block h1 hG,h2.bD hs⟩
theorem zQ.bD {G:Nat→Prop} {w w':World} {base g:Nat} {s:aL} {f q:Value} {L:List aA} (h:zQ w base g s f q L) (hs:aB G w w') (hG: ¬G g):zQ w' base g s f q L:=by
 obtain⟨a,n,c,h1,h2⟩:=h;exact ⟨a,n,c,hs.block h1 hG,h2.bD hs⟩
theorem uR.bD {G:Nat→Prop} {w w':World} {base g:Nat} {s:aL} {l q:Value} {P:Nat→Nat→Bool} {st:Int} (h:uR w base g s l q P st) (hs:aB G w w') (hG: ¬G g):uR w' base g s l q P st:=by
 obtain⟨a,n,c,h1,h2⟩:=h;exact ⟨a,n,c,hs.block h1 hG,h2.bD hs⟩
theorem swant_c (g b:Nat) (s:aL) (fv:Value) (F:bB) (wz:World) (h:bz wz b g s) (JK: ∀w',aB (fun q=>q=g) wz w'→bZ w' fv F) (hc:bP F=0) (hst:s.stamp < 1000000):
  Calls Tryz.prog 95 #[.pointer (some ⟨g,0,none⟩),fv] wz fun e w'=>e= .returned (.int .i64 0)∧bz w' b g (Hx s (aX F))∧aB (fun q=>q=g) wz w':=by
 have hF:=JK wz (aB.refl _ _);have Wk:=jD JK;obtain⟨xa,xc,rfl⟩:=hF.shape;obtain⟨BS,p9⟩: ∃BS,BS=wz.heap.size:=⟨_,rfl⟩
 obtain⟨W,hW⟩: ∃W,W=(wz.alloc (.cells #[.pointer (some ⟨g,0,none⟩)] 142)).alloc (.cells #[.slice xa F.length xc] 89):=⟨_,rfl⟩
 have hbW:Below wz.heap.size wz W:=by rw[hW];exact (aG _).alloc (by simp) _
 have M:=jD (show OL BS (BS+1) g (.slice xa F.length xc) F W from⟨by rw[hW];exact aO _ (au _ _ _ _ p9),by rw[hW];exact au _ _ _ _ (by rw[World.size_alloc,p9])⟩);have HS:=jD h;have hlt:=h.lt;have lK:=jD (show g < BS∧g < BS+1 by omega);have HF:=jD (hF.below hbW);have Hh:=jD hc;have HST:=jD (show 0≤s.stamp∧s.stamp < 1000000 from⟨h.ok.stamp.1,hst⟩);obtain⟨f0,l0,p0,hblk,hf,hl,vr⟩:=h.cells;have V0:=jD (show l7 wz b g s f0 l0 p0 from⟨hblk,hf,hl,vr⟩);have V:=jD (l7.below V0.o hbW);have gN:=jD hbW;have HC:=jD (qg _ F W HF.o);have TL:=cq 0 M.o.bf rfl;have TN:=ai M.o.bf;clear h hF JK hst hblk hf hl vr hbW hlt;go_enter Tryz.func95,Tryz.ntmps95;rw[p9,hW] at TL TN;go_wp2_with fail
 rw[←hW,←p9];rw[←hW,←p9] at TL TN;clear hW TL TN;(with_reducible refine(HC.o).mono ?_);rintro e w1 ⟨rfl,hb1⟩;rw[hc];replace M:=jD (M.o.bD (aB.of_below hb1) lK.o.1 lK.o.2);replace V:=jD (V.o.below hb1);replace HF:=jD (HF.o.below hb1);have S:=jD (show aB (fun q=>q=g) wz w1 from aB.of_below (aj gN.o hb1));have dY:=jD (show wz.heap.size≤w1.heap.size from Nat.le_trans gN.o.size hb1.size);have dZ:=jD p9;clear hb1 HC gN hc p9;obtain⟨fG,hp1,hp2,yo⟩:=V.o.p;have hlen:fG.length≤29:=by have:=HS.o.ok.len;rw [←yo,List.length_map] at this;exact this
 obtain⟨pa,pc,hpv⟩:=hp1.shape;subst hpv;have RV:=jD (cq 5 V.o.blk rfl:w1.cell? ⟨g,5,none⟩=some (.slice pa fG.length pc));have kH:=jD (hp1.at_ (fun q hq=>(hp2 q hq).1) (by omega));have GY:=jD (show A5 fG F=0 by unfold A5;rw [if_neg (by rw[fo.2 ⟨by omega,fun q hq=>(hp2 q hq).1⟩];decide),Hh.o]);have HP3:=jD yo;clear hp1 hp2 yo;go_wp2_with fail
 refine Cl.aV 46 rfl [12] (fun w=>Below w1.heap.size w1 w) (fun _=>[]) (fun jq v ww=>match jq with | 0=>v= .pointer (some ⟨g,0,none⟩) | 1=>v= .pointer (some ⟨g,0,none⟩) | 2=>v= .pointer (some ⟨g,0,none⟩) | 3=>v= .pointer (some ⟨g,5,none⟩) | 4=>v= .slice pa fG.length pc | 5=>v= .slice xa F.length xc | 6=>kW ww w1.heap.size (cN s.S (aX F)) v | 7=>kW ww w1.heap.size (cN s.S (aX F)) v | 8=>tT ww w1.heap.size (cN s.S (aX F)) v | 9=>v= .int .i64 0 | 10=>v= .pointer (some ⟨g,0,none⟩) | 11=>v= .pointer (some ⟨g,5,none⟩) | 12=>zX ww w1.heap.size g s f0 l0 (cN s.S (aX F)) | _=>True) (fun ww=>aB (fun qq=>qq=g) w1 ww) (fun jq ww aR=>aB (fun qq=>qq=g) ww aR∧(jq≠12→Below ww.heap.size ww aR)) Tryz.mixed (by decide+kernel) (aB.refl _ _).drew ((br).drew) ?_ (fun q w w' hk h hR=>aj h (hR.2 (by intro e;subst e;exact absurd hk (by decide)))) ?_ ?_
 ·intro q r v w w' hne hk hlt h hR;match r,hk,hlt,h,hne with
  | 0,_,_,h,_=>exact h
  | 1,_,_,h,_=>exact h
  | 2,_,_,h,_=>exact h
  | 3,_,_,h,_=>exact h
  | 4,_,_,h,_=>exact h
  | 5,_,_,h,_=>exact h
  | 6,_,_,h,_=>exact h.bD hR.1
  | 7,_,_,h,_=>exact h.bD hR.1
  | 8,_,_,h,_=>exact h.bD hR.1
  | 9,_,_,h,_=>exact h
  | 10,_,_,h,_=>exact h
  | 11,_,_,h,_=>exact h
  | 12,_,hlt,h,hne=>exact h.bD (G:=fun _=>False) (aB.of_below (hR.2 (by exact hne))) (fun h=>h)
  | _+13,_,_,_,_=>trivial
 ·refine⟨?_, ?_, ?_, ?_, ?_, ?_, ?_, ?_, ?_, ?_, ?_, ?_, ?_,trivial⟩
  ·intro x wx hG;have f2:=hG.o 2;replace hG:=hG.g;have hbk:=cq 0 (hG.block M.o.bs (by have:=lK.o;omega)) rfl;have hbk2:=ai (hG.block M.o.bs (by have:=lK.o;omega));go_wp2;exact⟨_,rfl,rfl,hG,⟨aB.refl _ _,fun _=>br⟩⟩
  ·intro x wx hG;have f2:=hG.o 2;replace hG:=hG.g;have hbk:=cq 0 (hG.block M.o.bs (by have:=lK.o;omega)) rfl;have hbk2:=ai (hG.block M.o.bs (by have:=lK.o;omega));go_wp2;exact⟨_,rfl,rfl,hG,⟨aB.refl _ _,fun _=>br⟩⟩
  ·intro x wx hG;have g1:=gr 13 (hG.c 1 _ rfl);replace hG:=hG.g;go_wp2;exact⟨_,rfl,rfl,hG,⟨aB.refl _ _,fun _=>br⟩⟩
  ·intro x wx hG;have g2:=gr 14 (hG.c 2 _ rfl);replace hG:=hG.g;go_wp2;exact⟨_,rfl,rfl,hG,⟨aB.refl _ _,fun _=>br⟩⟩
  ·intro x wx hG;have g3:=gr 15 (hG.c 3 _ rfl);have hp:=hG.p 0;replace hG:=hG.g;have hc5:=ah hp RV.o;go_wp2;exact⟨_,rfl,rfl,hG,⟨aB.refl _ _,fun _=>br⟩⟩
  ·intro x wx hG;have f3:=hG.o 3;replace hG:=hG.g;have hbk:=cq 0 (hG.block M.o.bf (by have:=lK.o;omega)) rfl;have hbk2:=ai (hG.block M.o.bf (by have:=lK.o;omega));go_wp2;exact⟨_,rfl,rfl,hG,⟨aB.refl _ _,fun _=>br⟩⟩
  ·intro x wx hG;have g4:=gr 16 (hG.c 4 _ rfl);have g5:=gr 17 (hG.c 5 _ rfl);have hp:=hG.p 0;replace hG:=hG.g;have HN:=jD (FY _ _ fG F wx (kH.o.below hp) (HF.o.below hp));go_wp2_with fail
   (with_reducible refine(HN.o).mono ?_);rintro e wq ⟨ov,rfl,ho,hb⟩;rw[GY.o] at ho ⊢;have od:=ho.1 rfl;rw[HP3.o] at od;obtain⟨oa,oc,hov⟩:=od.shape;subst hov;have HO:=jD (aY.mono od hp.size);have cK:=jD hb;clear ho od hb HN;go_wp2;exact⟨_,rfl,⟨_,_,_,rfl,HO.o⟩,hG.below cK.o,⟨aB.of_below cK.o,fun _=>cK.o⟩⟩
  ·intro x wx hG;have g6:kW wx w1.heap.size (cN s.S (aX F)) (x.tmps.getD 18 undef):=hG.c 6 _ rfl;replace hG:=hG.g;obtain⟨oa,on,oc,hv,ho⟩:=g6;have HO:=jD ho;have hvb:=hv;rw[Array.getD_eq_getD_getElem?] at hvb;clear ho;go_wp2;exact⟨_,rfl,⟨_,_,_,rfl,HO.o⟩,hG,⟨aB.refl _ _,fun _=>br⟩⟩
  ·intro x wx hG;have g7:kW wx w1.heap.size (cN s.S (aX F)) (x.tmps.getD 11 undef):=hG.c 7 _ rfl;replace hG:=hG.g;obtain⟨oa,on,oc,hv,ho⟩:=g7;have HO:=jD ho;have hvb:=hv;rw[Array.getD_eq_getD_getElem?] at hvb;clear ho;go_wp2;exact⟨_,rfl,⟨_,_,_,rfl,HO.o⟩,hG,⟨aB.refl _ _,fun _=>br⟩⟩
  ·intro x wx hG;have g7:kW wx w1.heap.size (cN s.S (aX F)) (x.tmps.getD 11 undef):=hG.c 7 _ rfl;replace hG:=hG.g;obtain⟨oa,on,oc,hv,ho⟩:=g7;have HO:=jD ho;have hvb:=hv;rw[Array.getD_eq_getD_getElem?] at hvb;clear ho;go_wp2;exact⟨_,rfl,rfl,hG,⟨aB.refl _ _,fun _=>br⟩⟩
  ·intro x wx hG;have g0:=gr 12 (hG.c 0 _ rfl);replace hG:=hG.g;go_wp2;exact⟨_,rfl,rfl,hG,⟨aB.refl _ _,fun _=>br⟩⟩
  ·intro x wx hG;have g10:=gr 21 (hG.c 10 _ rfl);replace hG:=hG.g;go_wp2;exact⟨_,rfl,rfl,hG,⟨aB.refl _ _,fun _=>br⟩⟩
  ·intro x wx hG;have g11:=gr 22 (hG.c 11 _ rfl);have g8:tT wx w1.heap.size (cN s.S (aX F)) (x.tmps.getD 19 undef):=hG.c 8 _ rfl;have hp:=hG.p 0;replace hG:=hG.g;obtain⟨oa,on,oc,hv,ho⟩:=g8;have HO:=jD ho;have hvb:=hv;rw[Array.getD_eq_getD_getElem?] at hvb;have HV:=jD (ag hp V.o.blk);have r5:=cq 5 HV.o rfl;have q5:=fq 5 HV.o;have r8:=ai HV.o;clear ho;go_wp2;exact⟨undef,rfl,⟨_,_,_,by rw[ax HV.o];rfl,HO.o.bD (aB.set (j:=5) HV.o (by decide))⟩,hG.trans (aB.set HV.o (by decide)),aB.set HV.o (by decide),fun h=>absurd rfl h⟩
 ·intro af w2 hg hF;obtain⟨g0,g1,g2,g3,g4,g5,g6,g7,g8,g9,g10,g11,g12, -⟩:=hF;replace g12:zX w2 w1.heap.size g s f0 l0 (cN s.S (aX F)):=g12 rfl;simp only[Cl3.puts,gq (af 0) g0,gq (af 1) g1,gq (af 2) g2,gq (af 3) g3,gq (af 4) g4,gq (af 5) g5,gq (af 9) g9,gq (af 10) g10,gq (af 11) g11];clear g0 g1 g2 g3 g4 g5 g6 g7 g8 g9 g10 g11;go_simp
  obtain⟨na,nn,nc,hblk,hpo⟩:=g12;have M2:=jD (M.o.bD hg lK.o.1 lK.o.2);have S2:=jD (S.o.trans hg);have oh:=jD (Wk.o _ S2.o);have cw:=jD hblk;have D9:=jD (aY.mono hpo dY.o);have VL:=jD (V.o.l.bD hg);have UG:=jD (Nat.le_trans dY.o hg.size);obtain⟨la,lc,hlv⟩:=VL.o.shape;subst hlv;have Hi:=jD (cq 4 hblk rfl:w2.cell? ⟨g,4,none⟩=some (.slice la s.L.length lc));have mG:=jD (ij HS.o.ok.L.ok);have RF:=jD HS.o.ok.L.len;have Rv:=jD (want1_p BS (BS+1) g s f0 (.slice la s.L.length lc) (.slice na nn nc) _ F w2 M2.o.bs M2.o.bf oh.o hblk);have mW:=jD (VL.o.at_ mG.o (by have:=RF.o;omega));clear hblk hpo hg M S HF V RV kH GY HP3 dY hlen;generalize af 6=j6 at*;generalize af 7=j7 at*;generalize af 8=j8 at*;go_wp2_with fail
  refine Cl.aV 46 rfl [10] (fun w=>Below w2.heap.size w2 w) (fun jq=>match jq with | 5=>[7] | _=>[]) (fun jq v ww=>match jq with | 0=>v= .pointer (some ⟨g,0,none⟩) | 1=>v= .pointer (some ⟨g,0,none⟩) | 2=>v= .pointer (some ⟨g,0,none⟩) | 3=>v= .pointer (some ⟨g,4,none⟩) | 4=>v= .slice la s.L.length lc | 5=>Ke ww w2.heap.size s.L v | 6=>v= .func (.func 135) #[] #[.pointer (some ⟨BS,0,none⟩), .pointer (some ⟨(BS+1),0,none⟩)] | 7=>Ke ww w2.heap.size (s.L.filter fun z=> !tQ s.me F z) v | 8=>v= .pointer (some ⟨g,0,none⟩) | 9=>v= .pointer (some ⟨g,4,none⟩) | 10=>zQ ww w2.heap.size g s f0 (.slice na nn nc) (s.L.filter fun z=> !tQ s.me F z) | _=>True) (fun ww=>aB (fun qq=>qq=g) w2 ww) (fun jq ww aR=>(jq≠7→aB (fun qq=>qq=g) ww aR)∧(jq≠7→jq≠10→Below ww.heap.size ww aR)∧(jq=7→Below w2.heap.size w2 aR)) Tryz.mixed (by decide+kernel) (aB.refl _ _).drew ((br).drew) ?_ (fun q w w' hk h hR=>if e7:q=7 then hR.2.2 e7 else aj h (hR.2.1 e7 (by intro e;subst e;exact absurd hk (by decide)))) ?_ ?_
  ·intro q r v w w' hne hk hlt h hR;match r,hk,hlt,h,hne with
   | 0,_,_,h,_=>exact h
   | 1,_,_,h,_=>exact h
   | 2,_,_,h,_=>exact h
   | 3,_,_,h,_=>exact h
   | 4,_,_,h,_=>exact h
   | 5,hk,_,h,_=>exact h.bD (hR.1 (by simpa using hk))
   | 6,_,_,h,_=>exact h
   | 7,_,_,h,hne=>exact h.bD (hR.1 (by exact hne))
   | 8,_,_,h,_=>exact h
   | 9,_,_,h,_=>exact h
   | 10,_,hlt,h,hne=>
    by_cases e7:q=7
    ·subst e7;exact absurd hlt (by decide+kernel)
    ·exact h.bD (G:=fun _=>False) (aB.of_below (hR.2.1 e7 (by exact hne))) (fun h=>h)
   | _+11,_,_,_,_=>trivial
  ·refine⟨?_, ?_, ?_, ?_, ?_, ?_, ?_, ?_, ?_, ?_, ?_,trivial⟩
   ·intro x wx hG;have f2:=hG.o 2;replace hG:=hG.g;have hbk:=cq 0 (hG.block M2.o.bs (by have:=lK.o;omega)) rfl;have hbk2:=ai (hG.block M2.o.bs (by have:=lK.o;omega));go_wp2;exact⟨_,rfl,rfl,hG,⟨fun _=>aB.refl _ _,fun _ _=>br,fun h=>zd h⟩⟩
   ·intro x wx hG;have f2:=hG.o 2;replace hG:=hG.g;have hbk:=cq 0 (hG.block M2.o.bs (by have:=lK.o;omega)) rfl;have hbk2:=ai (hG.block M2.o.bs (by have:=lK.o;omega));go_wp2;exact⟨_,rfl,rfl,hG,⟨fun _=>aB.refl _ _,fun _ _=>br,fun h=>zd h⟩⟩
   ·intro x wx hG;have g1:=gr 24 (hG.c 1 _ rfl);replace hG:=hG.g;go_wp2;exact⟨_,rfl,rfl,hG,⟨fun _=>aB.refl _ _,fun _ _=>br,fun h=>zd h⟩⟩
   ·intro x wx hG;have g2:=gr 25 (hG.c 2 _ rfl);replace hG:=hG.g;go_wp2;exact⟨_,rfl,rfl,hG,⟨fun _=>aB.refl _ _,fun _ _=>br,fun h=>zd h⟩⟩
   ·intro x wx hG;have g3:=gr 26 (hG.c 3 _ rfl);have hp:=hG.p 0;replace hG:=hG.g;have hc5:=ah hp Hi.o;go_wp2;exact⟨_,rfl,rfl,hG,⟨fun _=>aB.refl _ _,fun _ _=>br,fun h=>zd h⟩⟩
   ·intro x wx hG;have g4:=gr 27 (hG.c 4 _ rfl);have hp:=hG.p 0;replace hG:=hG.g;have HN:=jD (nk _ s.L wx (mW.o.below hp) mG.o (by have:=RF.o;omega));go_wp2_with fail
    (with_reducible refine(HN.o).mono ?_);rintro e wq ⟨ov,rfl,ho,hb⟩;obtain⟨oa,oc,hov⟩:=ho.shape;subst hov;have HO:=jD (bA.mono ho hp.size);have cK:=jD hb;clear ho hb HN;go_wp2;exact⟨_,rfl,⟨_,_,_,rfl,HO.o⟩,hG.below cK.o,fun _=>aB.of_below cK.o,fun _ _=>cK.o,fun h=>zd h⟩
   ·intro x wx hG;have f2:=hG.o 2;have f3:=hG.o 3;replace hG:=hG.g;go_wp2;exact⟨_,rfl,rfl,hG,⟨fun _=>aB.refl _ _,fun _ _=>br,fun h=>zd h⟩⟩
   ·intro x wx hG;have g5:Ke wx w2.heap.size s.L (x.tmps.getD 28 undef):=hG.c 5 _ rfl;have g6:=gr 29 (hG.c 6 _ rfl);have hp:=hG.p 0;replace hG:=hG.g;obtain⟨oa,on,oc,hv,ho⟩:=g5;have hvb:=hv;rw[Array.getD_eq_getD_getElem?] at hvb;have uy:=gd g6;have HN:=jD (Yf w2 wx _ s.L _ _ (tQ s.me F) hp ho (by have:=RF.o;omega) HS.o.ok.L.ok Rv.o);clear ho;go_wp2_with fail
    (with_reducible refine(HN.o).mono ?_);rintro e wq ⟨ov,rfl,ho,hb⟩;obtain⟨qa,qc,hov⟩:=ho.shape;subst hov;have HO:=jD ho;have cK:=jD hb;clear ho hb HN;go_wp2;exact⟨_,rfl,⟨_,_,_,rfl,HO.o⟩,aB.of_below cK.o,fun h=>absurd rfl h,fun h=>absurd rfl h,fun _=>cK.o⟩
   ·intro x wx hG;have g0:=gr 23 (hG.c 0 _ rfl);replace hG:=hG.g;go_wp2;exact⟨_,rfl,rfl,hG,⟨fun _=>aB.refl _ _,fun _ _=>br,fun h=>zd h⟩⟩
   ·intro x wx hG;have g8:=gr 31 (hG.c 8 _ rfl);replace hG:=hG.g;go_wp2;exact⟨_,rfl,rfl,hG,⟨fun _=>aB.refl _ _,fun _ _=>br,fun h=>zd h⟩⟩
   ·intro x wx hG;have g9:=gr 32 (hG.c 9 _ rfl);have g7:Ke wx w2.heap.size (s.L.filter fun z=> !tQ s.me F z) (x.tmps.getD 30 undef):=hG.c 7 _ rfl;have hp:=hG.p 0;replace hG:=hG.g;obtain⟨oa,on,oc,hv,ho⟩:=g7;have HO:=jD ho;have hvb:=hv;rw[Array.getD_eq_getD_getElem?] at hvb;have HV:=jD (ag hp cw.o);have r5:=cq 4 HV.o rfl;have q5:=fq 4 HV.o;have r8:=ai HV.o;clear ho;go_wp2;exact⟨undef,rfl,⟨_,_,_,by rw[ax HV.o];rfl,HO.o.bD (aB.set (j:=4) HV.o (by decide))⟩,hG.trans (aB.set HV.o (by decide)),fun _=>aB.set HV.o (by decide),fun _ h=>absurd rfl h,fun h=>zd h⟩
  ·intro af w3 hg hF;obtain⟨g0,g1,g2,g3,g4,g5,g6,g7,g8,g9,g10, -⟩:=hF;replace g10:zQ w3 w2.heap.size g s f0 (.slice na nn nc) (s.L.filter fun z=> !tQ s.me F z):=g10 rfl;simp only[Cl3.puts,gq (af 0) g0,gq (af 1) g1,gq (af 2) g2,gq (af 3) g3,gq (af 4) g4,gq (af 6) g6,gq (af 8) g8,gq (af 9) g9];clear g0 g1 g2 g3 g4 g5 g6 g7 g8 g9;go_simp
   obtain⟨va,vn,vc,hblk,n9⟩:=g10;have M3:=jD (M2.o.bD hg lK.o.1 lK.o.2);have S3:=jD (S2.o.trans hg);have HF3:=jD (Wk.o _ S3.o);have eH:=jD hblk;rw[QZ HS.o.ok.L.ok] at n9;have GN:=jD (bA.mono n9 UG.o);have afL:=jD (D9.o.bD hg);have afG:=jD (Nat.le_trans UG.o hg.size);have sK:=jD (cq 2 hblk rfl:w3.cell? ⟨g,2,none⟩=some (.int .i64 s.stamp));have Tt:=HST.o.1;have hst2:=HST.o.2;clear hblk n9 hg M2 S2 oh Hi mG RF Rv mW VL cw D9 UG;generalize af 5=j5 at*;generalize af 7=j7b at*;go_wp2_with fail
   refine Cl.aV 46 rfl [11,14] (fun w=>Below w3.heap.size w3 w) (fun jq=>match jq with | 11=>[14] | _=>[]) (fun jq v ww=>match jq with | 0=>v= .pointer (some ⟨g,0,none⟩) | 1=>v= .pointer (some ⟨g,0,none⟩) | 2=>v= .slice xa F.length xc | 3=>R5 ww w3.heap.size (aX F) v | 4=>v= .pointer (some ⟨g,0,none⟩) | 5=>v= .pointer (some ⟨g,0,none⟩) | 6=>v= .pointer (some ⟨g,2,none⟩) | 7=>v= .int .i64 s.stamp | 8=>v= .int .i64 (s.stamp+1) | 9=>v= .pointer (some ⟨g,0,none⟩) | 10=>v= .pointer (some ⟨g,3,none⟩) | 11=>uR ww w3.heap.size g s (.slice va vn vc) (.slice na nn nc) (aX F) s.stamp | 12=>v= .pointer (some ⟨g,0,none⟩) | 13=>v= .pointer (some ⟨g,2,none⟩) | 14=>uR ww w3.heap.size g s (.slice va vn vc) (.slice na nn nc) (aX F) (s.stamp+1) | _=>True) (fun ww=>aB (fun qq=>qq=g) w3 ww) (fun jq ww aR=>aB (fun qq=>qq=g) ww aR∧(jq≠11→jq≠14→Below ww.heap.size ww aR)) Tryz.mixed (by decide+kernel) (aB.refl _ _).drew ((br).drew) ?_ (fun q w w' hk h hR=>aj h (hR.2 (by intro e;subst e;exact absurd hk (by decide)) (by intro e;subst e;exact absurd hk (by decide)))) ?_ ?_
   ·intro q r v w w' hne hk hlt h hR;match r,hk,hlt,h,hne with
    | 0,_,_,h,_=>exact h
    | 1,_,_,h,_=>exact h
    | 2,_,_,h,_=>exact h
    | 3,_,_,h,_=>exact h.bD hR.1
    | 4,_,_,h,_=>exact h
    | 5,_,_,h,_=>exact h
    | 6,_,_,h,_=>exact h
    | 7,_,_,h,_=>exact h
    | 8,_,_,h,_=>exact h
    | 9,_,_,h,_=>exact h
    | 10,_,_,h,_=>exact h
    | 11,hk,hlt,h,hne=>exact h.bD (G:=fun _=>False) (aB.of_below (hR.2 (by exact hne) (by simpa using hk))) (fun h=>h)
    | 12,_,_,h,_=>exact h
    | 13,_,_,h,_=>exact h
    | 14,_,hlt,h,hne=>
     by_cases e7:q=11
     ·subst e7;exact absurd hlt (by decide+kernel)
     ·exact h.bD (G:=fun _=>False) (aB.of_below (hR.2 e7 (by exact hne))) (fun h=>h)
    | _+15,_,_,_,_=>trivial
   ·refine⟨?_, ?_, ?_, ?_, ?_, ?_, ?_, ?_, ?_, ?_, ?_, ?_, ?_, ?_, ?_,trivial⟩
    ·intro x wx hG;have f2:=hG.o 2;replace hG:=hG.g;have hbk:=cq 0 (hG.block M3.o.bs (by have:=lK.o;omega)) rfl;have hbk2:=ai (hG.block M3.o.bs (by have:=lK.o;omega));go_wp2;exact⟨_,rfl,rfl,hG,⟨aB.refl _ _,fun _ _=>br⟩⟩
    ·intro x wx hG;have f2:=hG.o 2;replace hG:=hG.g;have hbk:=cq 0 (hG.block M3.o.bs (by have:=lK.o;omega)) rfl;have hbk2:=ai (hG.block M3.o.bs (by have:=lK.o;omega));go_wp2;exact⟨_,rfl,rfl,hG,⟨aB.refl _ _,fun _ _=>br⟩⟩
    ·intro x wx hG;have f3:=hG.o 3;replace hG:=hG.g;have hbk:=cq 0 (hG.block M3.o.bf (by have:=lK.o;omega)) rfl;have hbk2:=ai (hG.block M3.o.bf (by have:=lK.o;omega));go_wp2;exact⟨_,rfl,rfl,hG,⟨aB.refl _ _,fun _ _=>br⟩⟩
    ·intro x wx hG;have g2:=gr 35 (hG.c 2 _ rfl);have hp:=hG.p 0;replace hG:=hG.g;have HN:=jD (Ey _ F wx (HF3.o.below hp) Hh.o);go_wp2_with fail
     (with_reducible refine(HN.o).mono ?_);rintro e wq ⟨ov,l2,rfl,ho,hgd,hb⟩;have HO:=jD (show FO wq w3.heap.size ov (aX F) from⟨l2,cR.mono ho hp.size,hgd.GK,fun k n hk hn=>by rw[hgd.pts k n hk hn,fS hk hn]⟩);obtain⟨oa,on,oc,hov⟩:=FO.ow HO.o;subst hov;have cK:=jD hb;clear ho hgd hb HN;go_wp2;exact⟨_,rfl,⟨_,_,_,rfl,HO.o⟩,hG.below cK.o,⟨aB.of_below cK.o,fun _ _=>cK.o⟩⟩
    ·intro x wx hG;have f2:=hG.o 2;replace hG:=hG.g;have hbk:=cq 0 (hG.block M3.o.bs (by have:=lK.o;omega)) rfl;have hbk2:=ai (hG.block M3.o.bs (by have:=lK.o;omega));go_wp2;exact⟨_,rfl,rfl,hG,⟨aB.refl _ _,fun _ _=>br⟩⟩
    ·intro x wx hG;have g4:=gr 37 (hG.c 4 _ rfl);replace hG:=hG.g;go_wp2;exact⟨_,rfl,rfl,hG,⟨aB.refl _ _,fun _ _=>br⟩⟩
    ·intro x wx hG;have g5:=gr 38 (hG.c 5 _ rfl);replace hG:=hG.g;go_wp2;exact⟨_,rfl,rfl,hG,⟨aB.refl _ _,fun _ _=>br⟩⟩
    ·intro x wx hG;have g6:=gr 39 (hG.c 6 _ rfl);have hp:=hG.p 0;replace hG:=hG.g;have hc5:=ah hp sK.o;go_wp2;exact⟨_,rfl,rfl,hG,⟨aB.refl _ _,fun _ _=>br⟩⟩
    ·intro x wx hG;have g7:=gr 40 (hG.c 7 _ rfl);replace hG:=hG.g;go_wp2;exact⟨_,rfl,rfl,hG,⟨aB.refl _ _,fun _ _=>br⟩⟩
    ·intro x wx hG;have g0:=gr 33 (hG.c 0 _ rfl);replace hG:=hG.g;go_wp2;exact⟨_,rfl,rfl,hG,⟨aB.refl _ _,fun _ _=>br⟩⟩
    ·intro x wx hG;have g9:=gr 42 (hG.c 9 _ rfl);replace hG:=hG.g;go_wp2;exact⟨_,rfl,rfl,hG,⟨aB.refl _ _,fun _ _=>br⟩⟩
    ·intro x wx hG;have g10:=gr 43 (hG.c 10 _ rfl);have g3:R5 wx w3.heap.size (aX F) (x.tmps.getD 36 undef):=hG.c 3 _ rfl;have hp:=hG.p 0;replace hG:=hG.g;obtain⟨oa,on,oc,hv,ho⟩:=g3;have HO:=jD ho;have hvb:=hv;rw[Array.getD_eq_getD_getElem?] at hvb;have HV:=jD (ag hp eH.o);have r5:=cq 3 HV.o rfl;have q5:=fq 3 HV.o;have r8:=ai HV.o;clear ho;go_wp2;exact⟨undef,rfl,⟨_,_,_,by rw[ax HV.o];rfl,HO.o.bD (aB.set (j:=3) HV.o (by decide))⟩,hG.trans (aB.set HV.o (by decide)),aB.set HV.o (by decide),fun h=>absurd rfl h⟩
    ·intro x wx hG;have g1:=gr 34 (hG.c 1 _ rfl);replace hG:=hG.g;go_wp2;exact⟨_,rfl,rfl,hG,⟨aB.refl _ _,fun _ _=>br⟩⟩
    ·intro x wx hG;have g12:=gr 44 (hG.c 12 _ rfl);replace hG:=hG.g;go_wp2;exact⟨_,rfl,rfl,hG,⟨aB.refl _ _,fun _ _=>br⟩⟩
    ·intro x wx hG;have g13:=gr 45 (hG.c 13 _ rfl);have g8:=gr 41 (hG.c 8 _ rfl);have g11:uR wx w3.heap.size g s (.slice va vn vc) (.slice na nn nc) (aX F) s.stamp:=hG.c 11 _ rfl;replace hG:=hG.g;obtain⟨oa,on,oc,hv,ho⟩:=g11;have HO:=jD ho;have HV:=jD hv;have r5:=cq 2 HV.o rfl;have q5:=fq 2 HV.o;have r8:=ai HV.o;clear ho hv;go_wp2;exact⟨undef,rfl,⟨_,_,_,by rw[ax HV.o];rfl,HO.o.bD (aB.set (j:=2) HV.o (by decide))⟩,hG.trans (aB.set HV.o (by decide)),aB.set HV.o (by decide),fun _ h=>absurd rfl h⟩
   ·intro af w4 hg hF;obtain⟨g0,g1,g2,g3,g4,g5,g6,g7,g8,g9,g10,g11,g12,g13,g14, -⟩:=hF;replace g14:uR w4 w3.heap.size g s (.slice va vn vc) (.slice na nn nc) (aX F) (s.stamp+1):=g14 rfl;simp only[Cl3.puts,gq (af 0) g0,gq (af 1) g1,gq (af 2) g2,gq (af 4) g4,gq (af 5) g5,gq (af 6) g6,gq (af 7) g7,gq (af 8) g8,gq (af 9) g9,gq (af 10) g10,gq (af 12) g12,gq (af 13) g13];clear g0 g1 g2 g3 g4 g5 g6 g7 g8 g9 g10 g11 g12 g13;go_simp
    obtain⟨qa,qn,qc,hblk,hfo⟩:=g14;have S4:=jD (S3.o.trans hg);have gp:=jD hblk;have jO:=jD (FO.mono hfo afG.o);have afD:=jD (GN.o.bD hg);have afK:=jD (afL.o.bD hg);clear hblk hfo hg;go_wp2;go_ret;have hbz:b≤wz.heap.size:=by have:=HS.o.ge;have:=HS.o.lt;omega
    exact⟨rfl,⟨Sd HS.o.ok _ HST.o.2,HS.o.ge,_,_,_,gp.o,FO.mono jO.o hbz,bA.mono afD.o hbz,aY.mono afK.o hbz⟩,S4.o⟩
end Go.Proofs.YtajgndoiddmbmaaGreatDoor
