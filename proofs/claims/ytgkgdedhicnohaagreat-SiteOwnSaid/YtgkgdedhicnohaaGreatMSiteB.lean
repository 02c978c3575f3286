/- What a site knows, asks and tells. Written by a small program (gen/site3.py). How a site begins, and makes a version. Written by a small program (gen/site4.py). A site wants something else. Written by a small program (gen/site5.py). -/
import Derived.Test.YtgkgdedhicnohaaGreatMSiteA
namespace Go.Proofs.YtgkgdedhicnohaaGreat
set_option maxRecDepth 100000
set_option maxHeartbeats 40000000
open Go.RowKit
def OwnVs (w:World) (base:Nat) (s:SiteS) (f u:Value):Prop:=FOwn w base f everyB∧w.ownsRow base 3 1 u (ownVec s.me s.made).length (intsC (ownVec s.me s.made))
theorem OwnVs.below {w w':World} {base:Nat} {s:SiteS} {f u:Value} (h:OwnVs w base s f u) (hb:Below w.heap.size w w'):OwnVs w' base s f u:=⟨h.1.below hb,owns_below h.2 hb⟩
theorem OwnVs.mono {w:World} {base base':Nat} {s:SiteS} {f u:Value} (h:OwnVs w base s f u) (hb:base'≤base):OwnVs w base' s f u:=⟨h.1.mono hb,owns_mono h.2 hb⟩
theorem OwnVs.shape {w:World} {base:Nat} {s:SiteS} {f u:Value} (h:OwnVs w base s f u):(∃a c,f= .slice a 1 c)∧ ∃a c,u= .slice a (ownVec s.me s.made).length c:=by
 obtain⟨⟨us, -,h1, -⟩,h2⟩:=h
 exact⟨owns_slice h1,owns_slice h2⟩
theorem OwnVs.el {w:World} {base:Nat} {s:SiteS} {f u:Value} (h:OwnVs w base s f u) (hs:SiteOk s):partE.El w (ownPt s) [f,u, .slice none 0 0]:=by
 have h1:=(ownVec_ok hs.me hs.made).len
 have h1:(ownVec s.me s.made).length≤5:=h1
 exact⟨f,u,_,rfl,h.1.at_ok (show fChk everyB=0 by decide),⟨CellsAt.of_owns h.2 (show(ownVec s.me s.made).length≤_ by omega),CellsAt.nil _⟩⟩
def OwnAgg (w:World) (base:Nat) (s:SiteS) (v:Value):Prop:= ∃f u,v= .agg #[f,u, .slice none 0 0]∧OwnVs w base s f u
theorem OwnAgg.below {w w':World} {base:Nat} {s:SiteS} {v:Value} (h:OwnAgg w base s v) (hb:Below w.heap.size w w'):OwnAgg w' base s v:=by
 obtain⟨f,u,h1,h2⟩:=h;exact ⟨f,u,h1,h2.below hb⟩
def OwnLit (w:World) (base:Nat) (s:SiteS) (v:Value):Prop:= ∃q f u,v= .slice (some ⟨q,0,none⟩) 1 1∧w.heap[q]? =some (Obj.cells #[f,u, .slice none 0 0] 105 (0,0))∧base≤q∧OwnVs w base s f u
theorem OwnLit.below {w w':World} {base:Nat} {s:SiteS} {v:Value} (h:OwnLit w base s v) (hb:Below w.heap.size w w'):OwnLit w' base s v:=by
 obtain⟨q,f,u,h1,h2,h3,h4⟩:=h;exact ⟨q,f,u,h1,below_keep hb h2,h3,h4.below hb⟩
def KnRow (w:World) (s:SiteS) (l:List Pt) (v:Value):Prop:= ∃a c,v= .slice a (l.length+1) c∧RowAt partE w (.slice a (l.length+1) c) (ownPt s::l)
theorem KnRow.below {w w':World} {s:SiteS} {l:List Pt} {v:Value} (h:KnRow w s l v) (hb:Below w.heap.size w w'):KnRow w' s l v:=by
 obtain⟨a,c,h1,h2⟩:=h;exact ⟨a,c,h1,h2.below hb⟩
theorem askSet {w:World} {B base:Nat} {s:SiteS} {f p:Value} (hB:w.heap[B]? =some (Obj.cells #[.int .i64 0, .int .i64 0, .slice none 0 0, .slice none 0 0] 56 (0,0))) (hf:FO w base f s.P) (hp:PtsOwnA w base p (knownS s)):
  ∃f' p',((((w.setCell ⟨B,0,none⟩ (.int .i64 s.me)).setCell ⟨B,1,none⟩ (.int .i64 s.stamp)).setCell ⟨B,2,none⟩ f).setCell ⟨B,3,none⟩ p).heap[B]? =some (Obj.cells #[.int .i64 s.me, .int .i64 s.stamp,f',p'] 56 (0,0))∧FO ((((w.setCell ⟨B,0,none⟩ (.int .i64 s.me)).setCell ⟨B,1,none⟩ (.int .i64 s.stamp)).setCell ⟨B,2,none⟩ f).setCell ⟨B,3,none⟩ p) base f' s.P∧PtsOwnA ((((w.setCell ⟨B,0,none⟩ (.int .i64 s.me)).setCell ⟨B,1,none⟩ (.int .i64 s.stamp)).setCell ⟨B,2,none⟩ f).setCell ⟨B,3,none⟩ p) base p' (knownS s):=by
 have ht:dataT 56=false:=by decide
 have h0:=Stp.set (j:=0) (v:= .int .i64 s.me) hB ht
 have b0:=heap_set_same (j:=0) (v:= .int .i64 s.me) hB
 have h1:=Stp.set (j:=1) (v:= .int .i64 s.stamp) b0 ht
 have b1:=heap_set_same (j:=1) (v:= .int .i64 s.stamp) b0
 have h2:=Stp.set (j:=2) (v:=f) b1 ht
 have b2:=heap_set_same (j:=2) (v:=f) b1
 have h3:=Stp.set (j:=3) (v:=p) b2 ht
 have b3:=heap_set_same (j:=3) (v:=p) b2
 have hs:=((h0.trans h1).trans h2).trans h3
 exact⟨f,p,by rw[b3];rfl,hf.stp hs,hp.stp hs⟩
theorem known_c (g b:Nat) (s:SiteS) (wz:World) (h:SiteAt wz b g s):
  Calls Tryz.prog 72 #[.pointer (some ⟨g,0,none⟩)] wz fun e w'=> ∃v,e= .returned v∧PtsOwnA w' wz.heap.size v (knownS s)∧Below wz.heap.size wz w':=by
 obtain⟨fv,lv,pv,hblk,hf,hl,⟨lst,hp1,hp2,hp3⟩⟩:=h.cells
 have hok:=h.ok
 have hlen:lst.length≤29:=by have:=hok.len;rw [←hp3,List.length_map] at this;exact this
 obtain⟨pa,pc,hpv⟩:=hp1.shape
 subst hpv
 have HOK:=jD hok
 have HBK:=jD (cell_of_block (j:=5) hblk rfl:wz.cell? ⟨g,5,none⟩=some (.slice pa lst.length pc))
 have HBLK:=jD hblk
 have HRW:=jD (hp1.at_ (fun q hq=>(hp2 q hq).1) (by omega))
 have HOWN:=jD (own_c g s fv lv (.slice pa lst.length pc) · hok)
 have HPOK:=jD (show ∀x∈ownPt s::lst,PtOk x from fun x hx=>(List.mem_cons.1 hx).elim (fun e=>e ▸ ownPt_ok hok) fun hx=>(hp2 x hx).1)
 have HSEM:=jD (show(ownPt s::lst).map sem=ownSP s::s.S by rw[List.map_cons,ownPt_sem,hp3])
 clear h hblk hf hl hp1 hp2 hp3 hok
 go_enter Tryz.func72,Tryz.ntmps72
 go_wp2_with fail
 refine Cl.region0 12 rfl [7] (fun w=>Below wz.heap.size wz w) (fun jq=>match jq with | 1=>[7] | 2=>[7] | _=>[]) (fun jq v ww=>match jq with | 0=>v= .pointer (some ⟨g,0,none⟩) | 1=>OwnAgg ww wz.heap.size s v | 2=>OwnLit ww wz.heap.size s v | 3=>v= .pointer (some ⟨g,0,none⟩) | 4=>v= .pointer (some ⟨g,0,none⟩) | 5=>v= .pointer (some ⟨g,5,none⟩) | 6=>v= .slice pa lst.length pc | 7=>KnRow ww s lst v | 8=>PtsOwnA ww wz.heap.size v (knownS s) | 9=>PtsOwnA ww wz.heap.size v (knownS s) | _=>True) (fun ww=>Below wz.heap.size wz ww) (fun jq ww ww'=>jq≠7→Below ww.heap.size ww ww') Tryz.mixed (by decide+kernel) (Below.refl _ _).drew ((Below.refl _ _).drew) ?_ (fun q w w' hk h hR=>bstep h (hR (by simpa using hk))) ?_ ?_
 ·intro q r v w w' hne hk hlt h hR
  match r,hk,hlt,h,hne with
  | 0,_,_,h,_=>exact h
  | 1,hk,_,h,_=>exact h.below (hR (by simpa using hk))
  | 2,hk,_,h,_=>exact h.below (hR (by simpa using hk))
  | 3,_,_,h,_=>exact h
  | 4,_,_,h,_=>exact h
  | 5,_,_,h,_=>exact h
  | 6,_,_,h,_=>exact h
  | 7,_,_,h,hne=>exact h.below (hR (by exact hne))
  | 8,_,hlt,h,_=>exact h.below (hR (by intro e;subst e;exact absurd hlt (by decide+kernel)))
  | 9,_,hlt,h,_=>exact h.below (hR (by intro e;subst e;exact absurd hlt (by decide+kernel)))
  | _+10,_,_,_,_=>trivial
 ·refine⟨?_, ?_, ?_, ?_, ?_, ?_, ?_, ?_, ?_, ?_,trivial⟩
  ·intro x wx hG
   have f0:=hG.o 0
   replace hG:=hG.good
   go_wp2
   exact⟨_,rfl,rfl,hG,fun _=>Below.refl _ _⟩
  ·intro x wx hG
   have g0:(x.tmps.getD 3 undef)= .pointer (some ⟨g,0,none⟩):=hG.c 0 _ rfl
   replace hG:=hG.good
   have HO:=jD (HOWN.out wx (below_keep hG HBLK.out))
   go_wp2_with fail
   (with_reducible refine(HO.out).mono ?_)
   rintro e wq ⟨f,u,rfl,h1,h2,hb⟩
   have HN:=jD (OwnVs.mono (s:=s) ⟨h1,h2⟩ hG.size)
   have HBB:=jD hb
   clear h1 h2 hb HO
   go_wp2
   exact⟨_,rfl,⟨_,_,rfl,HN.out⟩,bstep hG HBB.out,fun _=>HBB.out⟩
  ·intro x wx hG
   have g1:OwnAgg wx wz.heap.size s (x.tmps.getD 4 undef):=hG.c 1 _ rfl
   replace hG:=hG.good
   obtain⟨f,u,hv,h1⟩:=g1
   have hvb:=hv
   rw[Array.getD_eq_getD_getElem?] at hvb
   obtain⟨⟨a1,c1,hf1⟩,a2,c2,hu1⟩:=h1.shape
   subst hf1
   subst hu1
   have HN:=jD (h1.below (bal (.cells #[.slice a1 1 c1, .slice a2 (ownVec s.me s.made).length c2, .slice none 0 0] 105)))
   clear h1
   go_wp2
   exact⟨_,rfl,⟨_,_,_,rfl,alloc_new _ _ _ _ rfl,hG.size,HN.out⟩,hG.alloc hG.size _,fun _=>bal _⟩
  ·intro x wx hG
   have f0:=hG.o 0
   replace hG:=hG.good
   go_wp2
   exact⟨_,rfl,rfl,hG,fun _=>Below.refl _ _⟩
  ·intro x wx hG
   have g3:(x.tmps.getD 6 undef)= .pointer (some ⟨g,0,none⟩):=hG.c 3 _ rfl
   replace hG:=hG.good
   go_wp2
   exact⟨_,rfl,rfl,hG,fun _=>Below.refl _ _⟩
  ·intro x wx hG
   have g4:(x.tmps.getD 7 undef)= .pointer (some ⟨g,0,none⟩):=hG.c 4 _ rfl
   replace hG:=hG.good
   go_wp2
   exact⟨_,rfl,rfl,hG,fun _=>Below.refl _ _⟩
  ·intro x wx hG
   have g5:(x.tmps.getD 8 undef)= .pointer (some ⟨g,5,none⟩):=hG.c 5 _ rfl
   replace hG:=hG.good
   have c_HBK:=ckeep hG HBK.out
   go_wp2
   exact⟨_,rfl,rfl,hG,fun _=>Below.refl _ _⟩
  ·intro x wx hG
   have g2:OwnLit wx wz.heap.size s (x.tmps.getD 5 undef):=hG.c 2 _ rfl
   have g6:(x.tmps.getD 9 undef)= .slice pa lst.length pc:=hG.c 6 _ rfl
   replace hG:=hG.good
   obtain⟨q,f,u,hv,hq,hqs,h1⟩:=g2
   have hvb:=hv
   rw[Array.getD_eq_getD_getElem?] at hvb
   have g6b:=gd g6
   obtain⟨css,hE,hC⟩:=HRW.out
   have HE:=jD hE
   have HC:=jD (hC.below hG)
   have HR:=jD (show wx.ownsRow wz.heap.size 105 3 (.slice (some ⟨q,0,none⟩) 1 1) 1 [f,u, .slice none 0 0] from⟨rfl, .inr ⟨q,1,_,rfl,hqs,hq,Nat.le_refl _,by decide,rfl,rfl⟩⟩)
   have HN:=jD h1
   have hbs:=hG.size
   have hcl:css.flatten.length=lst.length*3:=hE.flat
   have HC1:=jD hE.one
   clear hE hC hq h1
   go_wp2_with (at_builtin;refine wpList_append_cells2 rfl (.tmp 5) (.tmp 9) 50 rfl wz.heap.size 105 _ 3 72 Tryz.underlying50 PartTy.info rfl (by decide) (.slice (some ⟨q,0,none⟩) 1 1) 1 _ hv HR.out (.slice pa lst.length pc) lst.length _ g6 HC.out hcl HC1.out hbs (by unfold maxLen;omega) (by omega) ?_)
   intro v' wq ho hgr
   rw[Nat.add_comm 1 lst.length] at ho
   obtain⟨qa,qc,hq⟩:=owns_slice ho
   subst hq
   have HBE:=jD (hG.grown hgr hbs (fun k hk=>(HR.out.lt k hk).1))
   have HOV:=jD (show OwnVs wq wz.heap.size s f u from⟨HN.out.1.other HR.out (by decide) (by decide) hgr,own_kept2 HN.out.2 HR.out (by decide) hgr⟩)
   have HFIN:=jD (show RowAt partE wq (.slice qa (lst.length+1) qc) (ownPt s::lst) from⟨[f,u, .slice none 0 0]::css,⟨HOV.out.el HOK.out,HE.out.sub (Sub.of_below HBE.out)⟩,by rw[List.length_cons,List.flatten_cons];exact CellsAt.of_owns ho (by omega)⟩)
   clear ho hgr
   go_wp2
   exact⟨_,rfl,⟨_,_,rfl,HFIN.out⟩,HBE.out,fun h=>absurd rfl h⟩
  ·intro x wx hG
   have g7:KnRow wx s lst (x.tmps.getD 10 undef):=hG.c 7 _ rfl
   replace hG:=hG.good
   obtain⟨a,c,hv,h1⟩:=g7
   have hvb:=hv
   rw[Array.getD_eq_getD_getElem?] at hvb
   have HF:=jD (few_a _ (ownPt s::lst) wx h1 HPOK.out (by rw[List.length_cons];omega))
   clear h1
   go_wp2_with fail
   (with_reducible refine(HF.out).mono ?_)
   rintro e wq ⟨ov,rfl,ho,hb⟩
   rw[HSEM.out] at ho
   have HN:=jD (ho.mono hG.size)
   have HBB:=jD hb
   clear ho hb HF
   obtain⟨oa,oc,hov⟩:=HN.out.shape
   subst hov
   go_wp2
   exact⟨_,rfl,HN.out,bstep hG HBB.out,fun _=>HBB.out⟩
  ·intro x wx hG
   have g8:PtsOwnA wx wz.heap.size (x.tmps.getD 11 undef) (knownS s):=hG.c 8 _ rfl
   replace hG:=hG.good
   have HN:=jD g8
   obtain⟨oa,oc,hov⟩:=g8.shape
   have hvb:=hov
   rw[Array.getD_eq_getD_getElem?] at hvb
   clear g8
   go_wp2
   rw[hov] at HN;exact ⟨_,rfl,HN.out,hG,fun _=>Below.refl _ _⟩
 ·intro vals w3 hg hF
  obtain⟨g0,g1,g2,g3,g4,g5,g6,g7,g8,g9, -⟩:=hF
  have e0:=gq (vals 0) g0
  have e3:=gq (vals 3) g3
  have e4:=gq (vals 4) g4
  have e5:=gq (vals 5) g5
  have e6:=gq (vals 6) g6
  replace g9:PtsOwnA w3 wz.heap.size (vals 9) (knownS s):=g9 rfl
  simp only[Cl.puts,e0,e3,e4,e5,e6]
  clear e0 e3 e4 e5 e6 g0 g1 g2 g3 g4 g5 g6 g7 g8
  go_simp
  generalize vals 9=ov at*
  go_wp2
  go_ret
  exact⟨_,rfl,g9,hg⟩
theorem parts_c (g b:Nat) (s:SiteS) (wz:World) (h:SiteAt wz b g s):
  Calls Tryz.prog 45 #[.pointer (some ⟨g,0,none⟩)] wz fun e w'=> ∃v,e= .returned v∧PtsOwnA w' wz.heap.size v (knownS s)∧Below wz.heap.size wz w':=by
 have HK:=jD (known_c g b s wz h)
 clear h
 go_enter Tryz.func45,Tryz.ntmps45
 go_wp2_with fail
 (with_reducible refine(HK.out).mono ?_)
 rintro e w' ⟨v,rfl,h1,h2⟩
 have H1:=jD h1
 have H2:=jD h2
 obtain⟨a,c,hv⟩:=h1.shape
 subst hv
 clear h1 h2 HK
 go_wp2
 go_ret
 exact⟨_,rfl,H1.out,H2.out⟩
theorem sfilter_c (g b:Nat) (s:SiteS) (wz:World) (h:SiteAt wz b g s):
  Calls Tryz.prog 55 #[.pointer (some ⟨g,0,none⟩)] wz fun e w'=> ∃v,e= .returned v∧FO w' wz.heap.size v s.P∧Below wz.heap.size wz w':=by
 obtain⟨fv,lv,pv,hblk,⟨l,h1,h2,h3⟩, -, -⟩:=h.cells
 have c3:wz.cell? ⟨g,3,none⟩=some fv:=cell_of_block (j:=3) hblk rfl
 have HK:=jD (copied_c fv l wz (FOwn.at_ok h1 h2) h2)
 have HL:=jD (show fChk l=0∧ ∀k n:Nat,k < 16→n < 32→inF l k n=s.P k n from⟨h2,h3⟩)
 obtain⟨a,c,hv⟩:=(show ∃a c,fv= .slice a l.length c by obtain⟨us, -,h4, -⟩:=h1;exact owns_slice h4)
 subst hv
 clear h hblk h1 h2 h3
 go_enter Tryz.func55,Tryz.ntmps55
 go_wp2_with fail
 (with_reducible refine(HK.out).mono ?_)
 rintro e w' ⟨v,rfl,h1,h2⟩
 have H1:=jD (show FO w' wz.heap.size v s.P from⟨l,h1,HL.out.1,HL.out.2⟩)
 have H2:=jD h2
 obtain⟨a,n,c,hv⟩:=FO.shape0 H1.out
 subst hv
 clear h1 h2 HK c3
 go_wp2
 go_ret
 exact⟨_,rfl,H1.out,H2.out⟩
theorem sshelf_c (g b:Nat) (s:SiteS) (wz:World) (h:SiteAt wz b g s):
  Calls Tryz.prog 27 #[.pointer (some ⟨g,0,none⟩)] wz fun e w'=> ∃a c,e= .returned (.slice a s.L.length c)∧VOwn w' wz.heap.size (.slice a s.L.length c) s.L∧Below wz.heap.size wz w':=by
 obtain⟨fv,lv,pv,hblk, -,h1, -⟩:=h.cells
 have c4:wz.cell? ⟨g,4,none⟩=some lv:=cell_of_block (j:=4) hblk rfl
 have hb:=shok_bd h.ok.L.ok
 have hl:=h.ok.L.len
 have HK:=jD (vcopied_c lv s.L wz (h1.at_ hb (by omega)) hb (by omega))
 obtain⟨a,c,hv⟩:=h1.shape
 subst hv
 clear h hblk h1 hb
 go_enter Tryz.func27,Tryz.ntmps27
 go_wp2_with fail
 (with_reducible refine(HK.out).mono ?_)
 rintro e w' ⟨v,rfl,h1,h2⟩
 have H1:=jD h1
 have H2:=jD h2
 obtain⟨a,c,hv⟩:=h1.shape
 subst hv
 clear h1 h2 HK c4
 go_wp2
 go_ret
 exact⟨_,_,rfl,H1.out,H2.out⟩
def AskPost (wz:World) (s:SiteS) (e:Ending) (w':World):Prop:=
 ∃f p,e= .returned (.agg #[.int .i64 s.me, .int .i64 s.stamp,f,p])∧FO w' wz.heap.size f s.P∧PtsOwnA w' wz.heap.size p (knownS s)∧Below wz.heap.size wz w'
def AskAgg (w:World) (base:Nat) (s:SiteS) (v:Value):Prop:= ∃f p,v= .agg #[.int .i64 s.me, .int .i64 s.stamp,f,p]∧FO w base f s.P∧PtsOwnA w base p (knownS s)
theorem AskAgg.below {w w':World} {base:Nat} {s:SiteS} {v:Value} (h:AskAgg w base s v) (hb:Below w.heap.size w w'):AskAgg w' base s v:=by
 obtain⟨f,p,h1,h2,h3⟩:=h;exact ⟨f,p,h1,h2.below hb,h3.below hb⟩
def AskBlk (w:World) (base B:Nat) (s:SiteS):Prop:= ∃f p,w.heap[B]? =some (Obj.cells #[.int .i64 s.me, .int .i64 s.stamp,f,p] 56 (0,0))∧FO w base f s.P∧PtsOwnA w base p (knownS s)
theorem AskBlk.below {w w':World} {base B:Nat} {s:SiteS} (h:AskBlk w base B s) (hb:Below w.heap.size w w'):AskBlk w' base B s:=by
 obtain⟨f,p,h1,h2,h3⟩:=h;exact ⟨f,p,below_keep hb h1,h2.below hb,h3.below hb⟩
theorem ask_c (g b:Nat) (s:SiteS) (wz:World) (h:SiteAt wz b g s):
  Calls Tryz.prog 22 #[.pointer (some ⟨g,0,none⟩)] wz (AskPost wz s):=by
 obtain⟨fv,lv,pv,hblk,⟨l,h1,h2,h3⟩, -, -⟩:=h.cells
 have HC0:=jD (cell_of_block (j:=0) hblk rfl:wz.cell? ⟨g,0,none⟩=some (.int .i64 s.me))
 have HC2:=jD (cell_of_block (j:=2) hblk rfl:wz.cell? ⟨g,2,none⟩=some (.int .i64 s.stamp))
 have HS:=jD h
 have HFO:=jD h1
 have HL:=jD (show fChk l=0∧ ∀k n:Nat,k < 16→n < 32→inF l k n=s.P k n from⟨h2,h3⟩)
 obtain⟨fa,fc,hv⟩:=(show ∃a c,fv= .slice a l.length c by obtain⟨us, -,h4, -⟩:=h1;exact owns_slice h4)
 subst hv
 have HC3:=jD (cell_of_block (j:=3) hblk rfl:wz.cell? ⟨g,3,none⟩=some (.slice fa l.length fc))
 obtain⟨W,hW⟩: ∃W,W=wz.alloc (.cells #[.int .i64 0, .int .i64 0, .slice none 0 0, .slice none 0 0] 56):=⟨_,rfl⟩
 have HB0:=jD (show Below wz.heap.size wz W by rw[hW];exact bal _)
 have HR0:=jD (show W.heap[wz.heap.size]? =some (Obj.cells #[.int .i64 0, .int .i64 0, .slice none 0 0, .slice none 0 0] 56 (0,0)) by rw[hW];exact alloc_new _ _ _ _ rfl)
 clear h hblk h1 h2 h3
 go_enter Tryz.func22,Tryz.ntmps22
 go_wp2_with fail
 rw[←hW]
 clear hW
 refine Cl.region0 19 rfl [16] (fun w=>Below W.heap.size W w) (fun jq=>match jq with | 12=>[16] | 14=>[16] | 15=>[16] | _=>[]) (fun jq v ww=>match jq with | 0=>v= .pointer (some ⟨g,0,none⟩) | 1=>v= .pointer (some ⟨g,0,none⟩) | 2=>v= .pointer (some ⟨g,0,none⟩) | 3=>v= .int .i64 s.me | 4=>v= .pointer (some ⟨g,0,none⟩) | 5=>v= .pointer (some ⟨g,0,none⟩) | 6=>v= .pointer (some ⟨g,2,none⟩) | 7=>v= .int .i64 s.stamp | 8=>v= .pointer (some ⟨g,0,none⟩) | 9=>v= .pointer (some ⟨g,0,none⟩) | 10=>v= .pointer (some ⟨g,3,none⟩) | 11=>v= .slice fa l.length fc | 12=>FO ww wz.heap.size v s.P | 13=>v= .pointer (some ⟨g,0,none⟩) | 14=>PtsOwnA ww wz.heap.size v (knownS s) | 15=>AskAgg ww wz.heap.size s v | 16=>AskBlk ww wz.heap.size wz.heap.size s | _=>True) (fun ww=>Below wz.heap.size wz ww) (fun jq ww ww'=>jq≠16→Below ww.heap.size ww ww') Tryz.mixed (by decide+kernel) HB0.out.drew ((Below.refl _ _).drew) ?_ (fun q w w' hk h hR=>bstep h (hR (by simpa using hk))) ?_ ?_
 ·intro q r v w w' hne hk hlt h hR
  match r,hk,hlt,h,hne with
  | 0,_,_,h,_=>exact h
  | 1,_,_,h,_=>exact h
  | 2,_,_,h,_=>exact h
  | 3,_,_,h,_=>exact h
  | 4,_,_,h,_=>exact h
  | 5,_,_,h,_=>exact h
  | 6,_,_,h,_=>exact h
  | 7,_,_,h,_=>exact h
  | 8,_,_,h,_=>exact h
  | 9,_,_,h,_=>exact h
  | 10,_,_,h,_=>exact h
  | 11,_,_,h,_=>exact h
  | 12,hk,_,h,_=>exact h.below (hR (by simpa using hk))
  | 13,_,_,h,_=>exact h
  | 14,hk,_,h,_=>exact h.below (hR (by simpa using hk))
  | 15,hk,_,h,_=>exact h.below (hR (by simpa using hk))
  | 16,_,_,h,hne=>exact h.below (hR (by exact hne))
  | _+17,_,_,_,_=>trivial
 ·refine⟨?_, ?_, ?_, ?_, ?_, ?_, ?_, ?_, ?_, ?_, ?_, ?_, ?_, ?_, ?_, ?_, ?_,trivial⟩
  ·intro x wx hG
   have f0:=hG.o 0
   replace hG:=hG.good
   go_wp2
   exact⟨_,rfl,rfl,hG,fun _=>Below.refl _ _⟩
  ·intro x wx hG
   have g0:(x.tmps.getD 3 undef)= .pointer (some ⟨g,0,none⟩):=hG.c 0 _ rfl
   replace hG:=hG.good
   go_wp2
   exact⟨_,rfl,rfl,hG,fun _=>Below.refl _ _⟩
  ·intro x wx hG
   have g1:(x.tmps.getD 4 undef)= .pointer (some ⟨g,0,none⟩):=hG.c 1 _ rfl
   replace hG:=hG.good
   go_wp2
   exact⟨_,rfl,rfl,hG,fun _=>Below.refl _ _⟩
  ·intro x wx hG
   have g2:(x.tmps.getD 5 undef)= .pointer (some ⟨g,0,none⟩):=hG.c 2 _ rfl
   replace hG:=hG.good
   have c_HC0:=ckeep hG HC0.out
   go_wp2
   exact⟨_,rfl,rfl,hG,fun _=>Below.refl _ _⟩
  ·intro x wx hG
   have f0:=hG.o 0
   replace hG:=hG.good
   go_wp2
   exact⟨_,rfl,rfl,hG,fun _=>Below.refl _ _⟩
  ·intro x wx hG
   have g4:(x.tmps.getD 7 undef)= .pointer (some ⟨g,0,none⟩):=hG.c 4 _ rfl
   replace hG:=hG.good
   go_wp2
   exact⟨_,rfl,rfl,hG,fun _=>Below.refl _ _⟩
  ·intro x wx hG
   have g5:(x.tmps.getD 8 undef)= .pointer (some ⟨g,0,none⟩):=hG.c 5 _ rfl
   replace hG:=hG.good
   go_wp2
   exact⟨_,rfl,rfl,hG,fun _=>Below.refl _ _⟩
  ·intro x wx hG
   have g6:(x.tmps.getD 9 undef)= .pointer (some ⟨g,2,none⟩):=hG.c 6 _ rfl
   replace hG:=hG.good
   have c_HC2:=ckeep hG HC2.out
   go_wp2
   exact⟨_,rfl,rfl,hG,fun _=>Below.refl _ _⟩
  ·intro x wx hG
   have f0:=hG.o 0
   replace hG:=hG.good
   go_wp2
   exact⟨_,rfl,rfl,hG,fun _=>Below.refl _ _⟩
  ·intro x wx hG
   have g8:(x.tmps.getD 11 undef)= .pointer (some ⟨g,0,none⟩):=hG.c 8 _ rfl
   replace hG:=hG.good
   go_wp2
   exact⟨_,rfl,rfl,hG,fun _=>Below.refl _ _⟩
  ·intro x wx hG
   have g9:(x.tmps.getD 12 undef)= .pointer (some ⟨g,0,none⟩):=hG.c 9 _ rfl
   replace hG:=hG.good
   go_wp2
   exact⟨_,rfl,rfl,hG,fun _=>Below.refl _ _⟩
  ·intro x wx hG
   have g10:(x.tmps.getD 13 undef)= .pointer (some ⟨g,3,none⟩):=hG.c 10 _ rfl
   replace hG:=hG.good
   have c_HC3:=ckeep hG HC3.out
   go_wp2
   exact⟨_,rfl,rfl,hG,fun _=>Below.refl _ _⟩
  ·intro x wx hG
   have g11:(x.tmps.getD 14 undef)= .slice fa l.length fc:=hG.c 11 _ rfl
   replace hG:=hG.good
   have HF:=jD (copied_c _ l wx (FOwn.at_ok (HFO.out.below hG) HL.out.1) HL.out.1)
   go_wp2_with fail
   (with_reducible refine(HF.out).mono ?_)
   rintro e wq ⟨ov,rfl,ho,hb⟩
   have HN:=jD (FO.mono (show FO wq wx.heap.size ov s.P from⟨l,ho,HL.out.1,HL.out.2⟩) hG.size)
   have HBB:=jD hb
   clear ho hb HF
   obtain⟨oa,on,oc,hov⟩:=FO.shape0 HN.out
   subst hov
   go_wp2
   exact⟨_,rfl,HN.out,bstep hG HBB.out,fun _=>HBB.out⟩
  ·intro x wx hG
   have f0:=hG.o 0
   replace hG:=hG.good
   go_wp2
   exact⟨_,rfl,rfl,hG,fun _=>Below.refl _ _⟩
  ·intro x wx hG
   have g13:(x.tmps.getD 16 undef)= .pointer (some ⟨g,0,none⟩):=hG.c 13 _ rfl
   replace hG:=hG.good
   have HF:=jD (known_c g b s wx (HS.out.below hG))
   go_wp2_with fail
   (with_reducible refine(HF.out).mono ?_)
   rintro e wq ⟨ov,rfl,ho,hb⟩
   have HN:=jD (ho.mono hG.size)
   have HBB:=jD hb
   clear ho hb HF
   obtain⟨oa,oc,hov⟩:=HN.out.shape
   subst hov
   go_wp2
   exact⟨_,rfl,HN.out,bstep hG HBB.out,fun _=>HBB.out⟩
  ·intro x wx hG
   have g3:(x.tmps.getD 6 undef)= .int .i64 s.me:=hG.c 3 _ rfl
   have g3b:=gd g3
   have g7:(x.tmps.getD 10 undef)= .int .i64 s.stamp:=hG.c 7 _ rfl
   have g7b:=gd g7
   have g12:FO wx wz.heap.size (x.tmps.getD 15 undef) s.P:=hG.c 12 _ rfl
   have g14:PtsOwnA wx wz.heap.size (x.tmps.getD 17 undef) (knownS s):=hG.c 14 _ rfl
   replace hG:=hG.good
   have HF:=jD g12
   have HP:=jD g14
   obtain⟨oa,on,oc,hov⟩:=FO.shape0 g12
   obtain⟨qa,qc,hqv⟩:=g14.shape
   have hovb:=hov
   rw[Array.getD_eq_getD_getElem?] at hovb
   have hqvb:=hqv
   rw[Array.getD_eq_getD_getElem?] at hqvb
   rw[hov] at HF
   rw[hqv] at HP
   clear g12 g14
   go_wp2
   exact⟨_,rfl,⟨_,_,rfl,HF.out,HP.out⟩,hG,fun _=>Below.refl _ _⟩
  ·intro x wx hG
   have f2:=hG.o 2
   have g15:AskAgg wx wz.heap.size s (x.tmps.getD 18 undef):=hG.c 15 _ rfl
   have hp:=hG.p
   replace hG:=hG.good
   have HR1:=jD (below_keep hp HR0.out)
   obtain⟨f,pp,hv,hf,hpp⟩:=g15
   have hvb:=hv
   rw[Array.getD_eq_getD_getElem?] at hvb
   have HF:=jD hf
   have HP:=jD hpp
   obtain⟨oa,on,oc,hov⟩:=FO.shape0 hf
   subst hov
   obtain⟨qa,qc,hqv⟩:=hpp.shape
   subst hqv
   have r0:=cell_of_block (j:=0) HR1.out rfl
   have r1:=cell_of_block (j:=1) HR1.out rfl
   have r2:=cell_of_block (j:=2) HR1.out rfl
   have r3:=cell_of_block (j:=3) HR1.out rfl
   have q0:=free_of_block (j:=0) HR1.out
   have q1:=free_of_block (j:=1) HR1.out
   have q2:=free_of_block (j:=2) HR1.out
   have q3:=free_of_block (j:=3) HR1.out
   have hRl:=hlt_of HR1.out
   clear hf hpp
   go_wp2
   exact⟨undef,rfl,askSet HR1.out HF.out HP.out,(((hG.setCell (p:=⟨wz.heap.size,0,none⟩) (Nat.le_refl _) _).setCell (p:=⟨wz.heap.size,1,none⟩) (Nat.le_refl _) _).setCell (p:=⟨wz.heap.size,2,none⟩) (Nat.le_refl _) _).setCell (p:=⟨wz.heap.size,3,none⟩) (Nat.le_refl _) _,fun h=>absurd rfl h⟩
 ·intro vals w3 hg hF
  obtain⟨g0,g1,g2,g3,g4,g5,g6,g7,g8,g9,g10,g11,g12,g13,g14,g15,g16, -⟩:=hF
  have e0:=gq (vals 0) g0
  have e1:=gq (vals 1) g1
  have e2:=gq (vals 2) g2
  have e3:=gq (vals 3) g3
  have e4:=gq (vals 4) g4
  have e5:=gq (vals 5) g5
  have e6:=gq (vals 6) g6
  have e7:=gq (vals 7) g7
  have e8:=gq (vals 8) g8
  have e9:=gq (vals 9) g9
  have e10:=gq (vals 10) g10
  have e11:=gq (vals 11) g11
  have e13:=gq (vals 13) g13
  replace g16:AskBlk w3 wz.heap.size wz.heap.size s:=g16 rfl
  simp only[Cl.puts,e0,e1,e2,e3,e4,e5,e6,e7,e8,e9,e10,e11,e13]
  clear e0 e1 e2 e3 e4 e5 e6 e7 e8 e9 e10 e11 e13 g0 g1 g2 g3 g4 g5 g6 g7 g8 g9 g10 g11 g12 g13 g14 g15
  go_simp
  obtain⟨f,pp,hb1,hf1,hp1⟩:=g16
  have r0:=cell_of_block (j:=0) hb1 rfl
  have r1:=cell_of_block (j:=1) hb1 rfl
  have r2:=cell_of_block (j:=2) hb1 rfl
  have r3:=cell_of_block (j:=3) hb1 rfl
  have hRl:=hlt_of hb1
  have HF:=jD hf1
  have HP:=jD hp1
  have HG:=jD hg
  clear hb1 hf1 hp1 hg
  go_wp2
  refine bodyPost_ret (v:= .agg #[.int .i64 s.me, .int .i64 s.stamp,f,pp]) (by simp[results,Tryz.results22,go_sem, *]) rfl ?_
  exact⟨_,_,rfl,HF.out,HP.out,HG.out⟩
def newS (me:Int) (p:Nat→Nat→Bool):SiteS:=⟨me,0,0,p,[],[]⟩
theorem newS_ok {me:Int} (h:0≤me∧me < 5) (p:Nat→Nat→Bool):SiteOk (newS me p):=⟨h,⟨Int.le_refl _,show(0:Int)≤1000 by decide⟩,⟨Int.le_refl _,show(0:Int)≤1000000 by decide⟩,⟨by simp[newS],by simp[newS],by simp[newS],by simp[newS]⟩,by simp[newS],by simp[newS]⟩
theorem snew_c (me:Int) (fv:Value) (l:Bxs) (w:World) (hm:0≤me∧me < 5) (hs:BxsAt w fv l) (hc:fChk l=0):
  Calls Tryz.prog 30 #[.int .i64 me,fv] w fun e w'=> ∃g,e= .returned (.tuple #[.pointer (some ⟨g,0,none⟩), .int .i64 0])∧SiteAt w' w.heap.size g (newS me (ptsOf l))∧Below w.heap.size w w':=by
 obtain⟨a,c,rfl⟩:=hs.shape
 have HC:=jD (fChk_c _ l w hs)
 have HS:=jD hs
 have HZ:=jD hc
 have d1:decide (me < 0)=false:=by simp;omega
 have d2:decide (5≤me)=false:=by simp;omega
 clear hs hc
 go_enter Tryz.func30,Tryz.ntmps30
 go_wp2_with fail
 (with_reducible refine(HC.out).mono ?_)
 rintro e w1 ⟨rfl,hb1⟩
 have HP:=jD (plain_c _ l w1 (HS.out.below hb1) HZ.out)
 have HB1:=jD hb1
 have hz:=HZ.out
 rw[hz]
 clear hb1 HC hz
 go_wp2_with fail
 (with_reducible refine(HP.out).mono ?_)
 rintro e w2 ⟨v,l2,rfl,ho,hg,hb2⟩
 have HFO:=jD (show FO w2 w.heap.size v (ptsOf l) from⟨l2,FOwn.mono ho HB1.out.size,hg.chk,fun k n hk hn=>by rw[hg.pts k n hk hn,ptsOf_in hk hn]⟩)
 have HB2:=jD (bstep HB1.out hb2)
 obtain⟨fa,fn,fc,hfv⟩:=FO.shape0 HFO.out
 subst hfv
 clear ho hg hb2 HP HB1 d1 d2
 go_wp2
 go_ret2
 have hba:=bal (W:=w2) (.cells #[.int .i64 me, .int .i64 0, .int .i64 0, .slice fa fn fc, .slice none 0 0, .slice none 0 0] 128)
 exact⟨_,rfl,⟨newS_ok hm _,HB2.out.size,_,_,_,alloc_new _ _ _ _ rfl,HFO.out.below hba,own_nilV _ _,⟨[],POwnA.nil _ _,by simp,rfl⟩⟩,bstep HB2.out hba⟩
structure SiteV (w:World) (b g:Nat) (s:SiteS) (f l p:Value):Prop where
 blk:w.heap[g]? =some (.cells (siteC s f l p) 128 (0,0))
 f:FO w b f s.P
 l:VOwn w b l s.L
 p:PtsOwnA w b p s.S
theorem SiteV.stp {G:Nat→Prop} {w w':World} {b g:Nat} {s:SiteS} {f l p:Value} (h:SiteV w b g s f l p) (hs:Stp G w w') (hG: ¬G g):SiteV w' b g s f l p:=⟨hs.block h.blk hG,h.f.stp hs,h.l.stp hs,h.p.stp hs⟩
theorem SiteV.below {w w':World} {b g:Nat} {s:SiteS} {f l p:Value} (h:SiteV w b g s f l p) (hb:Below w.heap.size w w'):SiteV w' b g s f l p:=h.stp (G:=fun _=>False) (Stp.of_below hb) fun h=>h
def MakePost (w:World) (b g:Nat) (s:SiteS) (id:ByteArray) (t n bd:Int) (e:Ending) (w':World):Prop:=
 e= .returned (.tuple #[.agg #[.int .i64 (if madeE s id t n bd=0 then s.me else 0), .int .i64 (if madeE s id t n bd=0 then s.made+1 else 0)], .int .i64 (madeE s id t n bd)])∧SiteAt w' b g (madeS s id t n bd)∧Stp (fun q=>q=g) w w'
theorem make_no {w w':World} {b g:Nat} {s:SiteS} {id:ByteArray} {t n bd E:Int} (h:SiteAt w b g s) (he:madeE s id t n bd=E) (h0:E≠0) (hb:Below w.heap.size w w'):MakePost w b g s id t n bd (.returned (.tuple #[.agg #[.int .i64 0, .int .i64 0], .int .i64 E])) w':=by
 have h1:madeE s id t n bd≠0:=by omega
 have h2:madeS s id t n bd=s:=by unfold madeS;rw [if_neg h1]
 refine⟨by rw[if_neg h1,if_neg h1,he],by rw[h2];exact h.below hb,Stp.of_below hb⟩
structure MkSt (wz:World) (B:Nat) (t n:Int) (w:World):Prop where
 bp:w.heap[B]? =some (Obj.cells #[.int .i64 t, .int .i64 n] 39 (0,0))
 bd:w.heap[B+1]? =some (Obj.cells #[.int .i64 0, .int .i64 0] 41 (0,0))
 bel:Below wz.heap.size wz w
 hB:B=wz.heap.size
theorem MkSt.below {wz:World} {B:Nat} {t n:Int} {w w':World} (h:MkSt wz B t n w) (hb:Below w.heap.size w w'):MkSt wz B t n w':=⟨below_keep hb h.bp,below_keep hb h.bd,bstep h.bel hb,h.hB⟩
theorem MkSt.zero {wz:World} {B:Nat} {t n:Int} {w:World} (h:MkSt wz B t n w):Below wz.heap.size wz ((w.setCell ⟨B+1,0,none⟩ (.int .i64 0)).setCell ⟨B+1,1,none⟩ (.int .i64 0)):=
 (h.bel.setCell (p:=⟨B+1,0,none⟩) (by have:=h.hB;show _≤B+1;omega) _).setCell (p:=⟨B+1,1,none⟩) (by have:=h.hB;show _≤B+1;omega) _
def PutTup (w:World) (base:Nat) (L:List Ver) (v1:Ver) (v:Value):Prop:= ∃a n c,v= .tuple #[.slice a n c, .int .i64 (putE L v1)]∧VOwn w base (.slice a n c) (putR L v1)
theorem PutTup.below {w w':World} {base:Nat} {L:List Ver} {v1:Ver} {v:Value} (h:PutTup w base L v1 v) (hb:Below w.heap.size w w'):PutTup w' base L v1 v:=by
 obtain⟨a,n,c,h1,h2⟩:=h;exact ⟨a,n,c,h1,h2.below hb⟩
def PutSl (w:World) (base:Nat) (L:List Ver) (v1:Ver) (v:Value):Prop:= ∃a n c,v= .slice a n c∧VOwn w base (.slice a n c) (putR L v1)
theorem PutSl.below {w w':World} {base:Nat} {L:List Ver} {v1:Ver} {v:Value} (h:PutSl w base L v1 v) (hb:Below w.heap.size w w'):PutSl w' base L v1 v:=by
 obtain⟨a,n,c,h1,h2⟩:=h;exact ⟨a,n,c,h1,h2.below hb⟩
theorem pastF_len (L:List Ver) (id:ByteArray):(pastF L id).vec.length≤5∧(pastF L id).more.length≤1000000:=by
 refine⟨(formK_ok _).len, ?_⟩
 have:=formM_len (pastP (getL L id))
 unfold pastF
 omega
theorem Stp.sets {G:Nat→Prop} {w w':World} {g j:Nat} {v:Value} {cs:Array Value} {t:TypeId} (h:Stp G w w') (hg:w'.heap[g]? =some (Obj.cells cs t (0,0))) (ht:dataT t=false) (hG:G g):Stp G w (w'.setCell ⟨g,j,none⟩ v):=
 h.trans ((Stp.set hg ht).mono fun k hk=>by subst hk;exact hG)
theorem Stp.new {G:Nat→Prop} {w w':World} {k j:Nat} {v:Value} {cs:Array Value} {t:TypeId} (h:Stp G w w') (_hk:w'.heap[k]? =some (Obj.cells cs t (0,0))) (hn:w.heap.size≤k):Stp G w (w'.setCell ⟨k,j,none⟩ v):=by
 refine⟨⟨h.sp.os,h.sp.tape,h.sp.output,by simpa using h.sp.size,fun q hq hG=> ?_,fun q cs' e hc=> ?_⟩,⟨by simpa using h.sp.size,fun q cs' e hc he=> ?_⟩⟩
 ·rw[heap_set_other (by omega)];exact h.sp.keep q hq hG
 ·obtain⟨c2,h1,h2⟩:=h.sp.shape q cs' e hc
  exact⟨c2,by rw[heap_set_other (by have:=hlt_of hc;omega)];exact h1,h2⟩
 ·rw[heap_set_other (by have:=hlt_of hc;omega)];exact h.tk.blk q cs' e hc he
theorem owns_up {w w':World} {base e size n:Nat} {v:Value} {xs:List Value} (h:w.ownsRow base e size v n xs) (hk: ∀k,base≤k→w'.heap[k]? =w.heap[k]?):w'.ownsRow base e size v n xs:=by
 refine⟨h.1, ?_⟩
 rcases h.2 with h0 | ⟨g,cap,cur,h1,h2,h3,h4⟩
 ·exact .inl h0
 ·exact .inr ⟨g,cap,cur,h1,h2,by rw[hk g h2];exact h3,h4⟩
theorem VOwn.up {w w':World} {base:Nat} {v:Value} {l:List Ver} (h:VOwn w base v l) (hk: ∀k,base≤k→w'.heap[k]? =w.heap[k]?):VOwn w' base v l:=by
 obtain⟨css,h1,h2⟩:=h
 exact⟨css,h1.map fun u x k hh=>⟨owns_up hh.vec hk,owns_up hh.more hk⟩,owns_up h2 hk⟩
theorem make_yes {wz w7:World} {b g B m6:Nat} {s:SiteS} {id:ByteArray} {t n bd:Int} {fv lv pv lv2:Value} (h:SiteAt wz b g s) (he:madeE s id t n bd=0) (hr:putR s.L (madeV s id t n bd)=putL s.L (madeV s id t n bd)) (m:MkSt wz B t n w7) (v0:SiteV wz b g s fv lv pv) (v:SiteV w7 b g s fv lv pv)
  (ho:VOwn w7 m6 lv2 (putR s.L (madeV s id t n bd))) (hgB:g < B) (hm:B+1 < m6):
  MakePost wz b g s id t n bd (.returned (.tuple #[.agg #[.int .i64 s.me, .int .i64 (s.made+1)], .int .i64 0]))
   ((((w7.setCell ⟨g,4,none⟩ lv2).setCell ⟨g,1,none⟩ (.int .i64 (s.made+1))).setCell ⟨B+1,0,none⟩ (.int .i64 s.me)).setCell ⟨B+1,1,none⟩ (.int .i64 (s.made+1))):=by
 have d1:dataT 128=false:=by decide
 have hz:wz.heap.size≤B+1:=by have:=m.hB;omega
 have b0:=v.blk
 have b1:=heap_set_same (j:=4) (v:=lv2) b0
 have b2:=heap_set_same (j:=1) (v:= .int .i64 (s.made+1)) b1
 have c0:((w7.setCell ⟨g,4,none⟩ lv2).setCell ⟨g,1,none⟩ (.int .i64 (s.made+1))).heap[B+1]? =some (Obj.cells #[.int .i64 0, .int .i64 0] 41 (0,0)):=by
  rw[heap_set_other (by omega),heap_set_other (by omega)];exact m.bd
 have S1:Stp (fun q=>q=g) wz ((w7.setCell ⟨g,4,none⟩ lv2).setCell ⟨g,1,none⟩ (.int .i64 (s.made+1))):=
  Stp.sets (G:=fun q=>q=g) (Stp.sets (G:=fun q=>q=g) (Stp.of_below m.bel) b0 d1 rfl) b1 d1 rfl
 have key:=(S1.new (j:=0) (v:= .int .i64 s.me) c0 hz).new (j:=1) (v:= .int .i64 (s.made+1)) (heap_set_same (j:=0) (v:= .int .i64 s.me) c0) hz
 have hS:SiteOk (madeS s id t n bd):=madeS_ok h.ok id t n bd
 have eS:madeS s id t n bd= { s with L:=putL s.L (madeV s id t n bd),made:=s.made+1 } :=by unfold madeS;rw [if_pos he]
 rw[hr] at ho
 have hb:b≤m6:=by have:=h.ge;have:=h.lt;have:=m.hB;omega
 refine⟨by rw[if_pos he,if_pos he,he],⟨hS,h.ge,fv,lv2,pv, ?_, ?_, ?_, ?_⟩,key⟩
 ·rw[heap_set_other (by omega),heap_set_other (by omega),b2,eS];rfl
 ·rw[eS];exact v0.f.stp key
 ·rw[eS];exact VOwn.mono (ho.up fun k hk=>by rw[heap_set_other (by omega),heap_set_other (by omega),heap_set_other (by omega),heap_set_other (by omega)]) hb
 ·rw[eS];exact v0.p.stp key
theorem smake_c (g b:Nat) (s:SiteS) (id:ByteArray) (t n bd:Int) (wz:World) (h:SiteAt wz b g s):
  Calls Tryz.prog 17 #[.pointer (some ⟨g,0,none⟩), .string id, .agg #[.int .i64 t, .int .i64 n], .int .i64 bd] wz (MakePost wz b g s id t n bd):=by
 obtain⟨B,hB⟩: ∃B,B=wz.heap.size:=⟨_,rfl⟩
 obtain⟨W,hW⟩: ∃W,W=(wz.alloc (.cells #[.int .i64 t, .int .i64 n] 39)).alloc (.cells #[.int .i64 0, .int .i64 0] 41):=⟨_,rfl⟩
 have M:=jD (show MkSt wz B t n W from⟨by rw[hW];exact alloc_keep _ (alloc_new _ _ _ _ hB),by rw[hW];exact alloc_new _ _ _ _ (by rw[World.size_alloc,hB]),by rw[hW];exact (bal _).alloc (by simp) _,hB⟩)
 have HS:=jD h
 have H3:=jD (show idOk id=false→madeE s id t n bd=3 from fun h=>by unfold madeE;rw [if_pos h])
 have H1:=jD (show idOk id=true→madeB t n bd=true→madeE s id t n bd=1 from fun h h2=>by unfold madeE;rw [if_neg (by rw[h];decide),if_pos h2])
 have H2:=jD (show idOk id=true→madeB t n bd=false→s.made=1000→madeE s id t n bd=2 from fun h h2 h3=>by unfold madeE;rw [if_neg (by rw[h];decide),if_neg (by rw[h2];decide),if_pos h3])
 have H4:=jD (show idOk id=true→madeB t n bd=false→s.made≠1000→pastE s.L id≠0→madeE s id t n bd=pastE s.L id from fun h h2 h3 h4=>by unfold madeE;rw [if_neg (by rw[h];decide),if_neg (by rw[h2];decide),if_neg h3,if_pos h4])
 have H5:=jD (show idOk id=true→madeB t n bd=false→s.made≠1000→pastE s.L id=0→madeE s id t n bd=putE s.L (madeV s id t n bd) from fun h h2 h3 h4=>by unfold madeE;rw [if_neg (by rw[h];decide),if_neg (by rw[h2];decide),if_neg h3,if_neg (by omega)])
 have HMB:=jD (show madeB t n bd=((!ptOk t n || decide (bd < 0)) || decide (1000000 < bd)) from rfl)
 clear h
 go_enter Tryz.func17,Tryz.ntmps17
 go_wp2_with fail
 rw[←hW,←hB]
 clear hW hB
 (with_reducible refine(id_c id W).mono ?_)
 rintro e w1 ⟨rfl,rfl⟩
 cases hid:idOk id
 ·have hE:=jD (H3.out hid)
  clear H1 H2 H3 H4 H5 HMB hid
  have r0:=cell_of_block (j:=0) M.out.bd rfl
  have r1:=cell_of_block (j:=1) M.out.bd rfl
  have f0:=free_of_block (j:=0) M.out.bd
  have f1:=free_of_block (j:=1) M.out.bd
  have hrl:=hlt_of M.out.bd
  go_wp2
  refine bodyPost_ret (v:= .tuple #[.agg #[.int .i64 0, .int .i64 0], .int .i64 3]) (by simp[results,Tryz.results17,go_sem, *]) rfl ?_
  exact make_no HS.out hE.out (by decide) M.out.zero
 have p0:=cell_of_block (j:=0) M.out.bp rfl
 have p1:=cell_of_block (j:=1) M.out.bp rfl
 have hpl:=hlt_of M.out.bp
 have HID:=jD hid
 have HPT:=jD (point_c t n w1)
 clear hid
 go_wp2_with fail
 (with_reducible refine(HPT.out).mono ?_)
 rintro e w2 ⟨rfl,hb2⟩
 replace M:=jD (M.out.below hb2)
 clear hb2 HPT p0 p1 hpl
 cases hmb:madeB t n bd
 rotate_left
 ·have hE:=jD (H1.out HID.out hmb)
  have hq:=HMB.out.symm.trans hmb
  clear H1 H2 H3 H4 H5 HMB hmb
  have r0:=cell_of_block (j:=0) M.out.bd rfl
  have r1:=cell_of_block (j:=1) M.out.bd rfl
  have f0:=free_of_block (j:=0) M.out.bd
  have f1:=free_of_block (j:=1) M.out.bd
  have hrl:=hlt_of M.out.bd
  generalize ptOk t n=q at*
  generalize hx1:decide (bd < 0)=x1 at*
  generalize hx2:decide (1000000 < bd)=x2 at*
  cases q <;> cases x1 <;> cases x2 <;> first
   | (exact absurd hq (by decide))
   | (
     clear hq
     go_wp2
     refine bodyPost_ret (v:= .tuple #[.agg #[.int .i64 0, .int .i64 0], .int .i64 1]) (by simp[results,Tryz.results17,go_sem, *]) rfl ?_
     exact make_no HS.out hE.out (by decide) M.out.zero)
 have hq:=HMB.out.symm.trans hmb
 have HM:=jD hmb
 rw[Bool.or_eq_false_iff,Bool.or_eq_false_iff] at hq
 obtain⟨⟨e1,e2⟩,e3⟩:=hq
 have e1:ptOk t n=true:=by simpa using e1
 rw[e1]
 clear hmb HMB H1 H3
 obtain⟨fv,lv,pv,hblk,hf,hl,hpp⟩:=HS.out.cells
 have V0:=jD (show SiteV wz b g s fv lv pv from⟨hblk,hf,hl,hpp⟩)
 have V:=jD (SiteV.below V0.out M.out.bel)
 have HLT:=jD (HS.out.lt)
 have HMD:=jD HS.out.ok.made
 have c1:w2.cell? ⟨g,1,none⟩=some (.int .i64 s.made):=cell_of_block (j:=1) V.out.blk rfl
 clear hblk hf hl hpp
 by_cases h1000:s.made=1000
 ·have hE:=jD (H2.out HID.out HM.out h1000)
  rw[h1000] at c1
  clear H2 H4 H5 h1000
  have r0:=cell_of_block (j:=0) M.out.bd rfl
  have r1:=cell_of_block (j:=1) M.out.bd rfl
  have f0:=free_of_block (j:=0) M.out.bd
  have f1:=free_of_block (j:=1) M.out.bd
  have hrl:=hlt_of M.out.bd
  go_wp2
  refine bodyPost_ret (v:= .tuple #[.agg #[.int .i64 0, .int .i64 0], .int .i64 2]) (by simp[results,Tryz.results17,go_sem, *]) rfl ?_
  exact make_no HS.out hE.out (by decide) M.out.zero
 have hd:decide (s.made=1000)=false:=by simpa using h1000
 have HN:=jD h1000
 obtain⟨la,lc,hlv⟩:=V.out.l.shape
 subst hlv
 have hbd:=shok_bd HS.out.ok.L.ok
 have hll:=HS.out.ok.L.len
 have HPA:=jD (past_c _ s.L id w2 (V.out.l.at_ hbd (by omega)))
 have c4:w2.cell? ⟨g,4,none⟩=some (.slice la s.L.length lc):=cell_of_block (j:=4) V.out.blk rfl
 have hd2:(s.made==1000)=false:=beq_eq_false_iff_ne.2 h1000
 clear hbd H2
 go_wp2_with fail
 (with_reducible refine(HPA.out).mono ?_)
 rintro e w3 ⟨x,y,rfl,hk,hb3⟩
 replace M:=jD (M.out.below hb3)
 replace V:=jD (V.out.below hb3)
 obtain⟨xa,xn,xc,ya,yn,yc,rfl,rfl⟩:=hk.shape
 have HKR:=jD hk
 obtain⟨BK,hBK⟩: ∃BK,BK=w3.heap.size:=⟨_,rfl⟩
 obtain⟨w4,hw4⟩: ∃w4,w4=w3.alloc (.cells #[.slice xa xn xc, .slice ya yn yc] 73):=⟨_,rfl⟩
 have hb4:Below w3.heap.size w3 w4:=by rw[hw4];exact bal _
 have HKB:=jD (show w4.heap[BK]? =some (Obj.cells #[.slice xa xn xc, .slice ya yn yc] 73 (0,0)) by rw[hw4];exact alloc_new _ _ _ _ hBK)
 replace M:=jD (M.out.below hb4)
 replace V:=jD (V.out.below hb4)
 replace HKR:=jD (HKR.out.below hb4)
 clear hk hb3 hb4 HPA c1 c4 e2 e3 e1 hd hd2 h1000
 by_cases hpz:pastE s.L id=0
 rotate_left
 ·have hE:=jD (H4.out HID.out HM.out HN.out hpz)
  have hdp:decide (pastE s.L id=0)=false:=by simpa using hpz
  have hdq:(pastE s.L id != 0)=true:=bne_iff_ne.2 hpz
  have HNZ:=jD hpz
  clear H4 H5 hpz
  generalize pastE s.L id=q at*
  have r0:=cell_of_block (j:=0) M.out.bd rfl
  have r1:=cell_of_block (j:=1) M.out.bd rfl
  have f0:=free_of_block (j:=0) M.out.bd
  have f1:=free_of_block (j:=1) M.out.bd
  have hrl:=hlt_of M.out.bd
  rw[hw4] at r0 r1 f0 f1 hrl
  go_wp2
  rw[←hw4]
  refine bodyPost_ret (v:= .tuple #[.agg #[.int .i64 0, .int .i64 0], .int .i64 q]) (by simp[results,Tryz.results17,go_sem, *]) rfl ?_
  exact make_no HS.out hE.out HNZ.out M.out.zero
 have HKO:=jD (show KnOwn w4 w2.heap.size (.slice xa xn xc) (.slice ya yn yc) (pastF s.L id) from HKR.out.elim (fun h=>h.2) fun h=>absurd hpz h.1)
 have HE:=jD (H5.out HID.out HM.out HN.out hpz)
 rw[hpz]
 clear H4 H5 HKR
 go_wp2
 rw[←hw4,←hBK]
 clear hw4 hBK
 have c0:w4.cell? ⟨g,0,none⟩=some (.int .i64 s.me):=cell_of_block (j:=0) V.out.blk rfl
 have c1:w4.cell? ⟨g,1,none⟩=some (.int .i64 s.made):=cell_of_block (j:=1) V.out.blk rfl
 have hgl:=hlt_of V.out.blk
 have hm1:=HMD.out.1
 have hm2:=HMD.out.2
 go_region
 obtain⟨BN,hBN⟩: ∃BN,BN=w4.heap.size:=⟨_,rfl⟩
 obtain⟨w5,hw5⟩: ∃w5,w5=w4.alloc (.cells #[.int .i64 s.me, .int .i64 (s.made+1)] 41):=⟨_,rfl⟩
 rw[←hw5,←hBN]
 have hb5:Below w4.heap.size w4 w5:=by rw[hw5];exact bal _
 have hd5:w5.heap[BN]? =some (Obj.cells #[.int .i64 s.me, .int .i64 (s.made+1)] 41 (0,0)):=by rw[hw5];exact alloc_new _ _ _ _ hBN
 have HBB:=jD (show B+1 < BN by have:=hlt_of M.out.bd;omega)
 obtain⟨w6,hw6⟩: ∃w6,w6=w5.drew:=⟨_,rfl⟩
 rw[←hw6]
 have hb6:Below w5.heap.size w5 w6:=by rw[hw6];exact (Below.refl _ _).drew
 have HDB:=jD (below_keep hb6 hd5)
 replace M:=jD ((M.out.below hb5).below hb6)
 replace V:=jD ((V.out.below hb5).below hb6)
 replace HKB:=jD (below_keep hb6 (below_keep hb5 HKB.out))
 replace HKO:=jD (KnOwn.below (KnOwn.below HKO.out hb5) hb6)
 clear hw5 hw6 hb5 hb6 hd5 hBN c0 c1 hgl hm1 hm2
 have HP1:=jD (cell_of_block (j:=0) M.out.bp rfl:w6.cell? ⟨B,0,none⟩=some (.int .i64 t))
 have HP2:=jD (cell_of_block (j:=1) M.out.bp rfl:w6.cell? ⟨B,1,none⟩=some (.int .i64 n))
 have HD1:=jD (cell_of_block (j:=0) HDB.out rfl:w6.cell? ⟨BN,0,none⟩=some (.int .i64 s.me))
 have HD2:=jD (cell_of_block (j:=1) HDB.out rfl:w6.cell? ⟨BN,1,none⟩=some (.int .i64 (s.made+1)))
 have HK1:=jD (cell_of_block (j:=0) HKB.out rfl:w6.cell? ⟨BK,0,none⟩=some (.slice xa xn xc))
 have HK2:=jD (cell_of_block (j:=1) HKB.out rfl:w6.cell? ⟨BK,1,none⟩=some (.slice ya yn yc))
 have HC4:=jD (cell_of_block (j:=4) V.out.blk rfl:w6.cell? ⟨g,4,none⟩=some (.slice la s.L.length lc))
 have HLA:=jD (V.out.l.at_ (shok_bd HS.out.ok.L.ok) (by omega))
 have HKA:=jD (KnOwn.at_ HKO.out (pastF_len s.L id).1 (pastF_len s.L id).2)
 go_wp2_with fail
 refine Cl.region0 90 rfl [] (fun _=>True) (fun _=>[]) (fun jq v ww=>match jq with | 0=>v= .pointer (some ⟨g,0,none⟩) | 1=>v= .pointer (some ⟨g,0,none⟩) | 2=>v= .pointer (some ⟨g,4,none⟩) | 3=>v= .slice la s.L.length lc | 4=>v= .string id | 5=>v= .agg #[.int .i64 s.me, .int .i64 (s.made+1)] | 6=>v= .agg #[.int .i64 t, .int .i64 n] | 7=>v= .int .i64 bd | 8=>v= .agg #[.slice xa xn xc, .slice ya yn yc] | 9=>v= .agg #[.string id, .int .i64 s.me, .int .i64 (s.made+1), .int .i64 t, .int .i64 n, .int .i64 bd, .slice xa xn xc, .slice ya yn yc] | 10=>PutTup ww w6.heap.size s.L (madeV s id t n bd) v | 11=>PutTup ww w6.heap.size s.L (madeV s id t n bd) v | 12=>PutSl ww w6.heap.size s.L (madeV s id t n bd) v | 13=>v= .int .i64 (putE s.L (madeV s id t n bd)) | 14=>PutSl ww w6.heap.size s.L (madeV s id t n bd) v | 15=>v= .int .i64 (putE s.L (madeV s id t n bd)) | _=>True) (fun ww=>Below w6.heap.size w6 ww) (fun jq ww ww'=>Below ww.heap.size ww ww') Tryz.mixed (by decide+kernel) (Below.refl _ _).drew trivial ?_ (fun _ _ _ _ _ _=>trivial) ?_ ?_
 ·intro q r v w w' hne hk hlt h hR
  match r,hk,hlt,h,hne with
  | 0,_,_,h,_=>exact h
  | 1,_,_,h,_=>exact h
  | 2,_,_,h,_=>exact h
  | 3,_,_,h,_=>exact h
  | 4,_,_,h,_=>exact h
  | 5,_,_,h,_=>exact h
  | 6,_,_,h,_=>exact h
  | 7,_,_,h,_=>exact h
  | 8,_,_,h,_=>exact h
  | 9,_,_,h,_=>exact h
  | 10,_,_,h,_=>exact h.below hR
  | 11,_,_,h,_=>exact h.below hR
  | 12,_,_,h,_=>exact h.below hR
  | 13,_,_,h,_=>exact h
  | 14,_,_,h,_=>exact h.below hR
  | 15,_,_,h,_=>exact h
  | _+16,_,_,_,_=>trivial
 ·refine⟨?_, ?_, ?_, ?_, ?_, ?_, ?_, ?_, ?_, ?_, ?_, ?_, ?_, ?_, ?_, ?_,trivial⟩
  ·intro x wx hG
   have f0:=hG.o 0
   replace hG:=hG.good
   go_wp2
   exact⟨_,rfl,rfl,hG,Below.refl _ _⟩
  ·intro x wx hG
   have g0:(x.tmps.getD 60 undef)= .pointer (some ⟨g,0,none⟩):=hG.c 0 _ rfl
   replace hG:=hG.good
   go_wp2
   exact⟨_,rfl,rfl,hG,Below.refl _ _⟩
  ·intro x wx hG
   have g1:(x.tmps.getD 61 undef)= .pointer (some ⟨g,0,none⟩):=hG.c 1 _ rfl
   replace hG:=hG.good
   go_wp2
   exact⟨_,rfl,rfl,hG,Below.refl _ _⟩
  ·intro x wx hG
   have g2:(x.tmps.getD 62 undef)= .pointer (some ⟨g,4,none⟩):=hG.c 2 _ rfl
   replace hG:=hG.good
   have c_HC4:=ckeep hG HC4.out
   go_wp2
   exact⟨_,rfl,rfl,hG,Below.refl _ _⟩
  ·intro x wx hG
   have f1:=hG.o 1
   replace hG:=hG.good
   go_wp2
   exact⟨_,rfl,rfl,hG,Below.refl _ _⟩
  ·intro x wx hG
   have f12:=hG.o 12
   replace hG:=hG.good
   have c_HD1:=ckeep hG HD1.out
   have c_HD2:=ckeep hG HD2.out
   go_wp2
   exact⟨_,rfl,rfl,hG,Below.refl _ _⟩
  ·intro x wx hG
   have f6:=hG.o 6
   replace hG:=hG.good
   have c_HP1:=ckeep hG HP1.out
   have c_HP2:=ckeep hG HP2.out
   go_wp2
   exact⟨_,rfl,rfl,hG,Below.refl _ _⟩
  ·intro x wx hG
   have f3:=hG.o 3
   replace hG:=hG.good
   go_wp2
   exact⟨_,rfl,rfl,hG,Below.refl _ _⟩
  ·intro x wx hG
   have f10:=hG.o 10
   replace hG:=hG.good
   have c_HK1:=ckeep hG HK1.out
   have c_HK2:=ckeep hG HK2.out
   go_wp2
   exact⟨_,rfl,rfl,hG,Below.refl _ _⟩
  ·intro x wx hG
   have g4:(x.tmps.getD 64 undef)= .string id:=hG.c 4 _ rfl
   have g4b:=gd g4
   have g5:(x.tmps.getD 65 undef)= .agg #[.int .i64 s.me, .int .i64 (s.made+1)]:=hG.c 5 _ rfl
   have g5b:=gd g5
   have g6:(x.tmps.getD 66 undef)= .agg #[.int .i64 t, .int .i64 n]:=hG.c 6 _ rfl
   have g6b:=gd g6
   have g7:(x.tmps.getD 67 undef)= .int .i64 bd:=hG.c 7 _ rfl
   have g7b:=gd g7
   have g8:(x.tmps.getD 68 undef)= .agg #[.slice xa xn xc, .slice ya yn yc]:=hG.c 8 _ rfl
   have g8b:=gd g8
   replace hG:=hG.good
   go_wp2
   exact⟨_,rfl,rfl,hG,Below.refl _ _⟩
  ·intro x wx hG
   have g3:(x.tmps.getD 63 undef)= .slice la s.L.length lc:=hG.c 3 _ rfl
   have g9:(x.tmps.getD 69 undef)= .agg #[.string id, .int .i64 s.me, .int .i64 (s.made+1), .int .i64 t, .int .i64 n, .int .i64 bd, .slice xa xn xc, .slice ya yn yc]:=hG.c 9 _ rfl
   replace hG:=hG.good
   have HF:=jD (show Calls Tryz.prog 65 #[.slice la s.L.length lc, .agg #[.string id, .int .i64 s.me, .int .i64 (s.made+1), .int .i64 t, .int .i64 n, .int .i64 bd, .slice xa xn xc, .slice ya yn yc]] wx _ from put_c _ s.L (madeV s id t n bd) _ _ wx (HLA.out.below hG) (HKA.out.below hG))
   go_wp2_with fail
   (with_reducible refine(HF.out).mono ?_)
   rintro e wq ⟨ov,rfl,ho,hb⟩
   obtain⟨oa,oc,hov⟩:=ho.shape
   subst hov
   have HN:=jD (VOwn.mono ho hG.size)
   have HBB:=jD hb
   clear ho hb HF
   go_wp2
   exact⟨_,rfl,⟨_,_,_,rfl,HN.out⟩,bstep hG HBB.out,HBB.out⟩
  ·intro x wx hG
   have g10:PutTup wx w6.heap.size s.L (madeV s id t n bd) (x.tmps.getD 70 undef):=hG.c 10 _ rfl
   replace hG:=hG.good
   obtain⟨oa,on,oc,hv,ho⟩:=g10
   have HO:=jD ho
   have hvb:=hv
   rw[Array.getD_eq_getD_getElem?] at hvb
   clear ho
   go_wp2
   exact⟨_,rfl,⟨_,_,_,rfl,HO.out⟩,hG,Below.refl _ _⟩
  ·intro x wx hG
   have g11:PutTup wx w6.heap.size s.L (madeV s id t n bd) (x.tmps.getD 59 undef):=hG.c 11 _ rfl
   replace hG:=hG.good
   obtain⟨oa,on,oc,hv,ho⟩:=g11
   have HO:=jD ho
   have hvb:=hv
   rw[Array.getD_eq_getD_getElem?] at hvb
   clear ho
   go_wp2
   exact⟨_,rfl,⟨_,_,_,rfl,HO.out⟩,hG,Below.refl _ _⟩
  ·intro x wx hG
   have g11:PutTup wx w6.heap.size s.L (madeV s id t n bd) (x.tmps.getD 59 undef):=hG.c 11 _ rfl
   replace hG:=hG.good
   obtain⟨oa,on,oc,hv,ho⟩:=g11
   have HO:=jD ho
   have hvb:=hv
   rw[Array.getD_eq_getD_getElem?] at hvb
   clear ho
   go_wp2
   exact⟨_,rfl,rfl,hG,Below.refl _ _⟩
  ·intro x wx hG
   have g12:PutSl wx w6.heap.size s.L (madeV s id t n bd) (x.tmps.getD 71 undef):=hG.c 12 _ rfl
   replace hG:=hG.good
   obtain⟨oa,on,oc,hv,ho⟩:=g12
   have HO:=jD ho
   have hvb:=hv
   rw[Array.getD_eq_getD_getElem?] at hvb
   clear ho
   go_wp2
   exact⟨_,rfl,⟨_,_,_,rfl,HO.out⟩,hG,Below.refl _ _⟩
  ·intro x wx hG
   have g13:(x.tmps.getD 72 undef)= .int .i64 (putE s.L (madeV s id t n bd)):=hG.c 13 _ rfl
   replace hG:=hG.good
   go_wp2
   exact⟨_,rfl,rfl,hG,Below.refl _ _⟩
 ·intro vals w7 hg hF
  obtain⟨g0,g1,g2,g3,g4,g5,g6,g7,g8,g9,g10,g11,g12,g13,g14,g15, -⟩:=hF
  have e0:=gq (vals 0) g0
  have e1:=gq (vals 1) g1
  have e2:=gq (vals 2) g2
  have e3:=gq (vals 3) g3
  have e4:=gq (vals 4) g4
  have e5:=gq (vals 5) g5
  have e6:=gq (vals 6) g6
  have e7:=gq (vals 7) g7
  have e8:=gq (vals 8) g8
  have e9:=gq (vals 9) g9
  have e13:=gq (vals 13) g13
  replace g14:PutSl w7 w6.heap.size s.L (madeV s id t n bd) (vals 14):=g14 rfl
  have e15:=gq (vals 15) g15
  simp only[Cl.puts,e0,e1,e2,e3,e4,e5,e6,e7,e8,e9,e13,e15]
  clear e0 e1 e2 e3 e4 e5 e6 e7 e8 e9 e13 e15 g0 g1 g2 g3 g4 g5 g6 g7 g8 g9 g10 g11 g12 g13 g15
  go_simp
  generalize vals 14=lv2 at*
  obtain⟨oa,on,oc,hlv2,ho⟩:=g14
  subst hlv2
  have HO:=jD ho
  have HB6:=jD (show B+1 < w6.heap.size from hlt_of M.out.bd)
  replace M:=jD (M.out.below hg)
  replace V:=jD (V.out.below hg)
  replace HDB:=jD (below_keep hg HDB.out)
  clear ho hg HP1 HP2 HD1 HD2 HK1 HK2 HC4 HLA HKA HKO HKB
  by_cases hpe:putE s.L (madeV s id t n bd)=0
  rotate_left
  ·have hE:=jD HE.out
   have hdp:decide (putE s.L (madeV s id t n bd)=0)=false:=by simpa using hpe
   have hdq:(putE s.L (madeV s id t n bd) != 0)=true:=bne_iff_ne.2 hpe
   have HNZ:=jD hpe
   clear HE hpe HO
   generalize putE s.L (madeV s id t n bd)=q at*
   have r0:=cell_of_block (j:=0) M.out.bd rfl
   have r1:=cell_of_block (j:=1) M.out.bd rfl
   have f0:=free_of_block (j:=0) M.out.bd
   have f1:=free_of_block (j:=1) M.out.bd
   have hrl:=hlt_of M.out.bd
   go_wp2
   refine bodyPost_ret (v:= .tuple #[.agg #[.int .i64 0, .int .i64 0], .int .i64 q]) (by simp[results,Tryz.results17,go_sem, *]) rfl ?_
   exact make_no HS.out hE.out HNZ.out M.out.zero
  have hE:=jD (HE.out.trans hpe)
  have HR:=jD (putR_ok hpe)
  rw[hpe]
  clear HE hpe
  generalize vals 10=j10 at*
  generalize vals 11=j11 at*
  generalize vals 12=j12 at*
  have r0:=cell_of_block (j:=0) M.out.bd rfl
  have r1:=cell_of_block (j:=1) M.out.bd rfl
  have f0:=free_of_block (j:=0) M.out.bd
  have f1:=free_of_block (j:=1) M.out.bd
  have hrl:=hlt_of M.out.bd
  have s1:w7.cell? ⟨g,1,none⟩=some (.int .i64 s.made):=cell_of_block (j:=1) V.out.blk rfl
  have s4:w7.cell? ⟨g,4,none⟩=some (.slice la s.L.length lc):=cell_of_block (j:=4) V.out.blk rfl
  have t1:=free_of_block (j:=1) V.out.blk
  have t4:=free_of_block (j:=4) V.out.blk
  have hsl:=hlt_of V.out.blk
  have e1:w7.cell? ⟨BN,0,none⟩=some (.int .i64 s.me):=cell_of_block (j:=0) HDB.out rfl
  have e2:w7.cell? ⟨BN,1,none⟩=some (.int .i64 (s.made+1)):=cell_of_block (j:=1) HDB.out rfl
  have hel:=hlt_of HDB.out
  have n1:g≠B+1:=by have:=HLT.out;have:=M.out.hB;omega
  have n2:g≠BN:=by have:=HLT.out;have:=M.out.hB;have:=HBB.out;omega
  have n3:B+1≠BN:=by have:=HBB.out;omega
  have hm1:=HMD.out.1
  have hm2:=HMD.out.2
  go_wp2
  refine bodyPost_ret (v:= .tuple #[.agg #[.int .i64 s.me, .int .i64 (s.made+1)], .int .i64 0]) (by simp[results,Tryz.results17,go_sem, *]) rfl ?_
  exact make_yes HS.out hE.out HR.out M.out V0.out V.out HO.out (by have:=HLT.out;have:=M.out.hB;omega) HB6.out
def NarTup (w:World) (base:Nat) (S:List SP) (v:Value):Prop:= ∃a n c,v= .tuple #[.slice a n c, .int .i64 0]∧PtsOwnA w base (.slice a n c) S
theorem NarTup.stp {G:Nat→Prop} {w w':World} {base:Nat} {S:List SP} {v:Value} (h:NarTup w base S v) (hs:Stp G w w'):NarTup w' base S v:=by
 obtain⟨a,n,c,h1,h2⟩:=h;exact ⟨a,n,c,h1,h2.stp hs⟩
def NarSl (w:World) (base:Nat) (S:List SP) (v:Value):Prop:= ∃a n c,v= .slice a n c∧PtsOwnA w base (.slice a n c) S
theorem NarSl.stp {G:Nat→Prop} {w w':World} {base:Nat} {S:List SP} {v:Value} (h:NarSl w base S v) (hs:Stp G w w'):NarSl w' base S v:=by
 obtain⟨a,n,c,h1,h2⟩:=h;exact ⟨a,n,c,h1,h2.stp hs⟩
end Go.Proofs.YtgkgdedhicnohaaGreat
