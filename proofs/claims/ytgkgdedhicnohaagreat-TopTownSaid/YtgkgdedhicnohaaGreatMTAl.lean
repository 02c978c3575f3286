/- The shelves of a town, all told, and compared: the closures of TownLetters. A town beside a map, beside a cell; what a map holds through steps; the row of two filters. No walk of the program here. A town and sites of one's own in the same states. No walk here. -/
import Derived.Test.YtgkgdedhicnohaaGreatMTown0
import Derived.Test.YtgkgdedhicnohaaGreatMSiteC
import Derived.Test.YtgkgdedhicnohaaGreatMTown1
import Derived.Test.YtgkgdedhicnohaaGreatTown6
import Derived.Test.YtgkgdedhicnohaaGreatMSiteD
import Derived.Test.YtgkgdedhicnohaaGreatMShelf1
import Derived.Deep.CutBlock
import Derived.Test.YtgkgdedhicnohaaGreatTownF
import Derived.Test.YtgkgdedhicnohaaGreatMShelf7
import Derived.Test.YtgkgdedhicnohaaGreatMElt
import Derived.Test.YtgkgdedhicnohaaGreatMPure
import Derived.Test.YtgkgdedhicnohaaGreatMKnow1
import Derived.Test.YtgkgdedhicnohaaGreatChecked
import Derived.Test.YtgkgdedhicnohaaGreatMClone
import Derived.Laws.Bits64b
import Derived.Test.YtgkgdedhicnohaaGreatMClaims
import Derived.Deep.QuietTactic
import Derived.BigQuiet
import Derived.Test.YtgkgdedhicnohaaGreatMKnow5
import Derived.Test.YtgkgdedhicnohaaGreatMShelf4
import Derived.Maps.OwnSet
import Derived.Maps.OwnOps
import Derived.Test.YtgkgdedhicnohaaGreatMTopF
namespace Go.Proofs.YtgkgdedhicnohaaGreat
open Go.RowKit
theorem TownAt.retype {w:World} {b g:Nat} {T T':Nat→Prop} {t:TownS} (h:TownAt w b T g t) (hT: ∀q,q < w.heap.size→T q→T' q):TownAt w b T' g t:=by
 obtain⟨sv,wv,gs,css,V⟩:=h.at_
 refine⟨h.ok,⟨h.ge.1,hT g V.lt h.ge.2⟩,sv,wv,gs,css,V.blk,V.srow,V.sites,fun q hq=> ?_,V.lets,V.wrow,fun q hq=>hT q (V.wrow.lt q hq).2 (V.wT q hq)⟩
 obtain⟨i,hi,rfl⟩:=List.getElem_of_mem hq
 exact hT _ (V.sites.each i hi (by have:=V.sites.len;omega)).lt (V.gT _ hq)
end Go.Proofs.YtgkgdedhicnohaaGreat
namespace Go.Proofs.YtgkgdedhicnohaaGreat
open Go.RowKit Go.Maps
theorem DotNew.stpT {G:Nat→Prop} {w w':World} {lo:Nat} {v:Value} (h:DotNew w lo v) (hs:Stp G w w') (hg: ∀q,G q→q < lo):DotNew w' lo v:=by
 obtain⟨q,h1,h2,h3⟩:=h;exact ⟨q,h1,hs.block h2 (fun e=>by have:=hg q e;omega),h3⟩
end Go.Proofs.YtgkgdedhicnohaaGreat
namespace Go.Proofs.YtgkgdedhicnohaaGreat
open Go.RowKit
structure DirAt (w:World) (b:Nat) (sv:Value) (gs:List Nat) (l:List SiteS):Prop where
 row:w.ownsRow b 43 1 sv gs.length (ptrs gs)
 sites:SitesAt w b gs l
theorem DirAt.stp {G:Nat→Prop} {w w':World} {b:Nat} {sv:Value} {gs:List Nat} {l:List SiteS} (h:DirAt w b sv gs l) (hs:Stp G w w') (hG: ∀q∈gs,¬G q) (hr: ∀q,sv.ownBlock=some q→ ¬G q):DirAt w' b sv gs l:=
 ⟨owns_sp h.row hs.sp hr,h.sites.stp hs hG⟩
theorem DirAt.below {w w':World} {b:Nat} {sv:Value} {gs:List Nat} {l:List SiteS} (h:DirAt w b sv gs l) (hb:Below w.heap.size w w'):DirAt w' b sv gs l:=h.stp (G:=fun _=>False) (Stp.of_below hb) (fun _ _ h=>h) fun _ _ h=>h
theorem DirAt.off {w:World} {b:Nat} {sv:Value} {gs:List Nat} {l:List SiteS} (h:DirAt w b sv gs l) {q:Nat} (hq:sv.ownBlock=some q):q∉gs:=fun hm=>by
 obtain⟨i,hi,rfl⟩:=List.getElem_of_mem hm
 obtain⟨cs,hc⟩:=(h.sites.each i hi (by have:=h.sites.len;omega)).ty
 obtain⟨ds,hd⟩:=owns_type h.row hq
 exact absurd (heap_ty hc hd) (by decide)
theorem DirAt.set {w w':World} {b i:Nat} {sv:Value} {gs:List Nat} {l:List SiteS} {s:SiteS} (h:DirAt w b sv gs l) (hi:i < gs.length) (hs:Stp (fun q=>q=gs[i]) w w') (hn:SiteAt w' b gs[i] s):DirAt w' b sv gs (l.set i s):=
 ⟨owns_sp h.row hs.sp fun q hq e=>h.off hq (by rw[e];exact List.getElem_mem hi),h.sites.set hi hs hn⟩
structure TtSt (B:Nat) (wr:World) (b g:Nat) (sv:Value) (gs:List Nat) (t:TownS):Prop where
 town:TownAt wr B (fun q=>B≤q) g t
 dir:DirAt wr b sv gs t.sites
 way:t.way=[]
 n4:t.sites.length=4
 off: ∀q∈gs,q < B
 rowoff: ∀q,sv.ownBlock=some q→q < B
 size:B≤wr.heap.size
section
variable {B:Nat} {w w':World} {b g:Nat} {sv:Value} {gs:List Nat} {t:TownS}
theorem TtSt.below (h:TtSt B w b g sv gs t) (hb:Below w.heap.size w w'):TtSt B w' b g sv gs t:=⟨h.town.below hb,h.dir.below hb,h.way,h.n4,h.off,h.rowoff,Nat.le_trans h.size hb.size⟩
theorem TtSt.gl (h:TtSt B w b g sv gs t):gs.length=4:=by rw[h.dir.sites.len];exact h.n4
theorem TtSt.lt (h:TtSt B w b g sv gs t) {i:Nat} (hi:i < 4):i < t.sites.length:=by rw[h.n4];exact hi
theorem TtSt.me (h:TtSt B w b g sv gs t) {i:Nat} (hi:i < t.sites.length):t.sites[i].me=i:=h.town.ok.me i hi
theorem TtSt.cell (h:TtSt B w b g sv gs t) {i:Nat} (hi:i < 4): ∃qs gi c,sv= .slice (some ⟨qs,0,none⟩) 4 c∧gs[i]? =some gi∧w.cell? ⟨qs,i,none⟩=some (.pointer (some ⟨gi,0,none⟩))∧SiteAt w b gi (t.sites[i]'(h.lt hi))∧gi < B:=by
 have hg:=h.gl
 have hig:i < gs.length:=by omega
 obtain⟨qs,cap,e,hq,hqc⟩:=row_one (i:=i) h.dir.row (x:= .pointer (some ⟨gs[i],0,none⟩)) (by unfold ptrs;rw [List.getElem?_map,List.getElem?_eq_getElem hig];rfl)
 rw[hg] at e
 exact⟨qs,gs[i],cap,e,List.getElem?_eq_getElem hig,hqc,h.dir.sites.each i hig (h.lt hi),h.off _ (List.getElem_mem hig)⟩
theorem TtSt.own (h:TtSt B w b g sv gs t) {i gi:Nat} (hi:gs[i]? =some gi) (hs:Stp (fun q=>q=gi) w w'):TownAt w' B (fun q=>B≤q) g t:=by
 obtain⟨hil,e⟩:=List.getElem?_eq_some_iff.1 hi
 refine h.town.apart hs fun q hq=> ?_
 subst hq
 have h1:=h.off _ (List.getElem_mem hil)
 rw[e] at h1
 have h2:=(h.dir.sites.each i hil (by have:=h.dir.sites.len;omega)).ty
 rw[e] at h2
 exact⟨by omega,h2⟩
theorem TtSt.step {w1 w2:World} {i gi:Nat} {s':SiteS} {t':TownS} (h:TtSt B w b g sv gs t) (hgi:gs[i]? =some gi) (hs:Stp (fun q=>q=gi) w w1) (hn:SiteAt w1 b gi s') (ht:TownAt w2 B (fun q=>B≤q) g t') (h2:Stp (fun q=>B≤q) w1 w2) (he:t'.sites=t.sites.set i s') (hw:t'.way=[]):TtSt B w2 b g sv gs t':=by
 obtain⟨hil,e⟩:=List.getElem?_eq_some_iff.1 hgi
 subst e
 have hd:=h.dir.set hil hs hn
 rw[←he] at hd
 exact⟨ht,hd.stp h2 (fun q hq hB=>by have:=h.off q hq;omega) (fun q hq hB=>by have:=h.rowoff q hq;omega),hw,by rw[he,List.length_set];exact h.n4,h.off,h.rowoff,Nat.le_trans (Nat.le_trans h.size hs.size) h2.size⟩
end
def PtNew (w:World) (lo:Nat) (v:Value):Prop:= ∃q,v= .pointer (some ⟨q,0,none⟩)∧w.heap[q]? =some (Obj.cells #[.int .i64 0, .int .i64 0] 39 (0,0))∧lo≤q
def PtIs (w:World) (lo:Nat) (x y:Int) (v:Value):Prop:= ∃q,v= .pointer (some ⟨q,0,none⟩)∧w.heap[q]? =some (Obj.cells #[.int .i64 x, .int .i64 y] 39 (0,0))∧lo≤q
def PtSet (lo:Nat) (w w':World):Prop:= ∃(q:Nat) (x y:Value),lo≤q∧w.heap[q]? =some (Obj.cells #[.int .i64 0, .int .i64 0] 39 (0,0))∧w'=(w.setCell ⟨q,0,none⟩ x).setCell ⟨q,1,none⟩ y
theorem PtNew.below {w w':World} {lo:Nat} {v:Value} (h:PtNew w lo v) (hb:Below w.heap.size w w'):PtNew w' lo v:=by
 obtain⟨q,h1,h2,h3⟩:=h;exact ⟨q,h1,below_keep hb h2,h3⟩
theorem PtIs.below {w w':World} {lo:Nat} {x y:Int} {v:Value} (h:PtIs w lo x y v) (hb:Below w.heap.size w w'):PtIs w' lo x y v:=by
 obtain⟨q,h1,h2,h3⟩:=h;exact ⟨q,h1,below_keep hb h2,h3⟩
theorem PtSet.keep {lo:Nat} {w w':World} (h:PtSet lo w w') {q:Nat} {cs:Array Value} {t:TypeId} (hq:w.heap[q]? =some (Obj.cells cs t (0,0))) (ht:t≠39):w'.heap[q]? =some (Obj.cells cs t (0,0)):=by
 obtain⟨p,x,y, -,h2,rfl⟩:=h
 have hne:q≠p:=fun e=>by subst e;exact ht (heap_ty hq h2)
 rw[heap_set_other hne,heap_set_other hne];exact hq
theorem StrRow.pt {w w':World} {lo n l2:Nat} {cs:Array Value} {v:Value} (h:StrRow w lo n cs v) (hs:PtSet l2 w w'):StrRow w' lo n cs v:=by
 obtain⟨q,h1,h2,h3⟩:=h;exact ⟨q,h1,hs.keep h2 (by decide),h3⟩
theorem StrPt.pt {w w':World} {lo k l2:Nat} {cs:Array Value} {v:Value} (h:StrPt w lo k cs v) (hs:PtSet l2 w w'):StrPt w' lo k cs v:=by
 obtain⟨q,h1,h2,h3⟩:=h;exact ⟨q,h1,hs.keep h2 (by decide),h3⟩
def AkV (w:World) (b:Nat) (ak:AskS) (v:Value):Prop:= ∃(fa:Option Addr) (fn fc:Nat) (pa:Option Addr) (pc:Nat),v= .agg #[.int .i64 ak.site, .int .i64 ak.stamp, .slice fa fn fc, .slice pa ak.S.length pc]∧FO w b (.slice fa fn fc) ak.P∧PtsOwnA w b (.slice pa ak.S.length pc) ak.S
theorem AkV.stp {G:Nat→Prop} {w w':World} {b:Nat} {ak:AskS} {v:Value} (h:AkV w b ak v) (hs:Stp G w w'):AkV w' b ak v:=by
 obtain⟨fa,fn,fc,pa,pc,e,h1,h2⟩:=h;exact ⟨fa,fn,fc,pa,pc,e,h1.stp hs,h2.stp hs⟩
set_option maxRecDepth 100000 in
theorem askV_c (g b:Nat) (s:SiteS) (w:World) (h:SiteAt w b g s):
  Calls Tryz.prog 22 #[.pointer (some ⟨g,0,none⟩)] w fun e w'=> ∃v,e= .returned v∧AkV w' 0 (askS s) v∧Below w.heap.size w w':=
 (ask_c g b s w h).mono fun e w' hh=>by
  obtain⟨f,pv,e1,hf,hp,hb⟩:=hh
  obtain⟨fa,fn,fc,rfl⟩:=hf.shape
  obtain⟨pa,pc,rfl⟩:=hp.shape
  exact⟨_,e1,⟨fa,fn,fc,pa,pc,rfl,hf.mono (Nat.zero_le _),hp.mono (Nat.zero_le _)⟩,hb⟩
set_option maxRecDepth 100000 in
theorem giveV_c (g b:Nat) (r:SiteS) (ak:AskS) (v:Value) (w:World) (h:SiteAt w b g r) (hk:AskSOk ak) (hv:AkV w 0 ak v):
  Calls Tryz.prog 21 #[.pointer (some ⟨g,0,none⟩),v] w fun e w'=> ∃u,e= .returned u∧GvT w' 0 (giveB r ak.site ak.stamp ak.P ak.S) u∧Below w.heap.size w w':=by
 obtain⟨fa,fn,fc,pa,pc,rfl,⟨FF,hF1,hF2,hF3⟩,AP,hA1,hA2,hA3⟩:=hv
 have hl:=hk.ls
 have hA30:AP.length≤30:=by rw[←hA3,List.length_map] at hl;exact hl
 refine(sgive_c g b r ak.site ak.stamp _ _ FF AP w h hk.site hk.stamp.1 (FOwn.at_ok hF1 hF2) hF2 (hA1.at_ (fun z hz=>(hA2 z hz).1) (by omega)) (ptsChk_zero.2 ⟨hA30,fun z hz=>(hA2 z hz).1⟩)).mono ?_
 rintro e w' ⟨vv,gv,pv,rfl,ho,hb2⟩
 have e2:giveB r ak.site ak.stamp (ptsOf FF) (AP.map sem)=giveB r ak.site ak.stamp ak.P ak.S:=by
  rw[hA3]
  exact giveB_congr h.ok fun t n ht hn=>by rw[ptsOf_in ht hn];exact hF3 t n ht hn
 rw[e2] at ho
 obtain⟨a1,c1,rfl⟩:=ho.vers.shape
 obtain⟨a2,c2,rfl⟩:=GOwn.shape ho.gone
 obtain⟨a3,c3,rfl⟩:=ho.parts.shape
 exact⟨_,rfl,⟨a1,c1,a2,c2,a3,c3,rfl,ho.mono (Nat.zero_le _)⟩,hb2⟩
set_option maxRecDepth 100000 in
theorem takeV_c (g b base:Nat) (s:SiteS) (bt:BtS) (v:Value) (w:World) (h:SiteAt w b g s) (hk:BtSOk bt) (hv:GvA w base bt v):
  Calls Tryz.prog 23 #[.pointer (some ⟨g,0,none⟩),v] w fun e w'=>e= .returned (.int .i64 (tookE s bt))∧SiteAt w' b g (tookS s bt)∧Stp (fun q=>q=g) w w':=by
 obtain⟨a1,c1,a2,c2,a3,c3,rfl,ho⟩:=hv
 exact(take_bt h hk ho).mono fun e w' hh=>by
  obtain⟨h1,h2,h3⟩:=hh
  exact⟨h1,h2,h3⟩
section
variable {B:Nat} {w w' w1:World} {b g:Nat} {sv:Value} {gs:List Nat} {t t':TownS}
theorem SitesAt.set' {G:Nat→Prop} {w w':World} {b i:Nat} {gs:List Nat} {l:List SiteS} {s:SiteS} (h:SitesAt w b gs l) (hi:i < gs.length) (hs:Stp G w w') (hG: ∀q∈gs,q≠gs[i]→ ¬G q) (hn:SiteAt w' b gs[i] s):SitesAt w' b gs (l.set i s):=by
 refine⟨by rw[List.length_set];exact h.len,h.nd,fun j h1 h2=> ?_⟩
 by_cases hj:j=i
 ·subst hj;rw [List.getElem_set_self];exact hn
 ·rw[List.getElem_set_ne (by omega)]
  refine(h.each j h1 (by simpa using h2)).stp hs (hG _ (List.getElem_mem h1) fun e=>hj ?_)
  have hnd:=List.pairwise_iff_getElem.1 h.nd
  rcases Nat.lt_trichotomy j i with hl | hl | hl
  ·exact absurd e (hnd j i h1 hi hl)
  ·exact hl
  ·exact absurd e.symm (hnd i j hi h1 hl)
theorem TtSt.both {i gi:Nat} {s':SiteS} (h:TtSt B w b g sv gs t) (hgi:gs[i]? =some gi) (hs:Stp (fun q=>q=gi∨B≤q) w w') (hn:SiteAt w' b gi s') (ht:TownAt w' B (fun q=>B≤q) g t') (he:t'.sites=t.sites.set i s') (hw:t'.way=[]):TtSt B w' b g sv gs t':=by
 obtain⟨hil,e⟩:=List.getElem?_eq_some_iff.1 hgi
 subst e
 refine⟨ht,⟨owns_sp h.dir.row hs.sp fun q hq e=> ?_, ?_⟩,hw,by rw[he,List.length_set];exact h.n4,h.off,h.rowoff,Nat.le_trans h.size hs.size⟩
 ·have h1:=h.rowoff q hq
  rcases e with e | e
  ·exact h.dir.off hq (by rw[e];exact List.getElem_mem hil)
  ·omega
 ·rw[he]
  refine h.dir.sites.set' hil hs (fun q hq hne e=> ?_) hn
  have h1:=h.off q hq
  rcases e with e | e
  ·exact hne e
  ·omega
end
theorem TownAt.wayl {w:World} {b b' g:Nat} {T T':Nat→Prop} {t t':TownS} (h:TownAt w b T g t) (h':TownAt w b' T' g t'):t.way.length=t'.way.length:=by
 obtain⟨sv,wv,css,h1, -,h2, -⟩:=h.letters
 obtain⟨sv',wv',css',h3, -,h4, -⟩:=h'.letters
 rw[h1] at h3
 simp only[Option.some.injEq,Obj.cells.injEq,and_true,Array.mk.injEq,List.cons.injEq] at h3
 obtain⟨-,rfl⟩:=h3
 obtain⟨a,c,e1⟩:=owns_slice h2
 obtain⟨a',c',e2⟩:=owns_slice h4
 rw[e1] at e2
 simp only[Value.slice.injEq] at e2
 exact e2.2.1
section
variable {B g gi:Nat} {T:Nat→Prop} {t3 t4 t5:TownS} {W ww ww':World} {jq u:Nat}
structure LastR (B g gi:Nat) (T:Nat→Prop) (t3 t4 t5:TownS) (jq:Nat) (ww ww':World):Prop where
 bel:jq≠8→jq≠10→jq≠15→jq≠20→Below ww.heap.size ww ww'
 own:jq=8→Stp (fun q=>q=gi) ww ww'∧ ∃cs,ww.heap[gi]? =some (Obj.cells cs 128 (0,0))
 twn:jq=10∨jq=15∨jq=20→Stp T ww ww'
 r10:jq=10→TownAt ww' B T g t3
 r15:jq=15→TownAt ww' B T g t4
 r20:jq=20→TownAt ww' B T g t5
theorem LastR.read (h8:jq≠8) (h10:jq≠10) (h15:jq≠15) (h20:jq≠20) (hb:Below ww.heap.size ww ww'):LastR B g gi T t3 t4 t5 jq ww ww':=
 ⟨fun _ _ _ _=>hb,fun e=>absurd e h8,fun e=>by omega,fun e=>absurd e h10,fun e=>absurd e h15,fun e=>absurd e h20⟩
def Tn3 (B g:Nat) (T:Nat→Prop) (t3 t4 t5:TownS) (w:World):Prop:=TownAt w B T g t3∨TownAt w B T g t4∨TownAt w B T g t5
def Tn4 (B g:Nat) (T:Nat→Prop) (t4 t5:TownS) (w:World):Prop:=TownAt w B T g t4∨TownAt w B T g t5
theorem LastR.keep {t:TownS} (hR:LastR B g gi T t3 t4 t5 jq ww ww') (hg: ¬T gi) (h:TownAt ww B T g t) (h10:jq≠10) (h15:jq≠15) (h20:jq≠20):TownAt ww' B T g t:=by
 by_cases e:jq=8
 ·exact h.apart (hR.own e).1 fun z hz=>⟨by rw[hz];exact hg,by rw[hz];exact (hR.own e).2⟩
 ·exact h.below (hR.bel e h10 h15 h20)
theorem LastR.tn3 (hR:LastR B g gi T t3 t4 t5 jq ww ww') (hg: ¬T gi) (h:Tn3 B g T t3 t4 t5 ww) (h10:jq≠10):Tn3 B g T t3 t4 t5 ww':=by
 by_cases e1:jq=15
 ·exact .inr (.inl (hR.r15 e1))
 by_cases e2:jq=20
 ·exact .inr (.inr (hR.r20 e2))
 rcases h with h | h | h
 ·exact .inl (hR.keep hg h h10 e1 e2)
 ·exact .inr (.inl (hR.keep hg h h10 e1 e2))
 ·exact .inr (.inr (hR.keep hg h h10 e1 e2))
theorem LastR.tn4 (hR:LastR B g gi T t3 t4 t5 jq ww ww') (hg: ¬T gi) (h:Tn4 B g T t4 t5 ww) (h10:jq≠10) (h15:jq≠15):Tn4 B g T t4 t5 ww':=by
 by_cases e2:jq=20
 ·exact .inr (hR.r20 e2)
 rcases h with h | h
 ·exact .inl (hR.keep hg h h10 h15 e2)
 ·exact .inr (hR.keep hg h h10 h15 e2)
def PreL (u:Nat):List Nat:=if u=0 then [8] else if u=1 then [10,15,20] else if u=2 then [15,20] else [20]
def PreW (B g:Nat) (T:Nat→Prop) (gi:Nat) (W:World) (u:Nat) (w:World):Prop:=
 if u=0 then Stp T W w else if u=1 then Stp (fun q=>q=gi) W w else if u=2 then ∃t,TownAt w B T g t∧t.way.length=2 else ∃t,TownAt w B T g t∧1≤t.way.length
theorem PreW.z (h:PreW B g T gi W 0 ww):Stp T W ww:=h
theorem PreW.s (h:PreW B g T gi W 1 ww):Stp (fun q=>q=gi) W ww:=h
theorem PreW.two (h:PreW B g T gi W 2 ww): ∃t,TownAt ww B T g t∧t.way.length=2:=h
theorem PreW.three (h:PreW B g T gi W 3 ww): ∃t,TownAt ww B T g t∧1≤t.way.length:=h
theorem PreW.refl {t:TownS} (h:TownAt W B T g t) (h2:t.way.length=2) (gi:Nat) (u:Nat):PreW B g T gi W u W.drew:=by
 have hd:=h.below ((Below.refl W.heap.size W).drew)
 unfold PreW
 split
 ·exact(Stp.refl _ _).drew
 split
 ·exact(Stp.refl _ _).drew
 split
 ·exact⟨t,hd,h2⟩
 ·exact⟨t,hd,by omega⟩
theorem PreW.step (h:PreW B g T gi W u ww) (hR:LastR B g gi T t3 t4 t5 jq ww ww') (hg: ¬T gi) (l3:t3.way.length=2) (l4:t4.way.length=1) (hk:jq∉PreL u):PreW B g T gi W u ww':=by
 unfold PreL at hk
 unfold PreW at h ⊢
 by_cases u0:u=0
 ·rw[if_pos u0] at h hk ⊢
  simp only[List.mem_singleton] at hk
  by_cases e:jq=10∨jq=15∨jq=20
  ·exact h.trans (hR.twn e)
  ·exact h.trans (Stp.of_below (hR.bel hk (by omega) (by omega) (by omega)))
 rw[if_neg u0] at h hk ⊢
 by_cases u1:u=1
 ·rw[if_pos u1] at h hk ⊢
  simp only[List.mem_cons,List.not_mem_nil,or_false,not_or] at hk
  by_cases e:jq=8
  ·exact h.trans (hR.own e).1
  ·exact h.trans (Stp.of_below (hR.bel e hk.1 hk.2.1 hk.2.2))
 rw[if_neg u1] at h hk ⊢
 by_cases u2:u=2
 ·rw[if_pos u2] at h hk ⊢
  simp only[List.mem_cons,List.not_mem_nil,or_false,not_or] at hk
  by_cases e:jq=10
  ·exact⟨t3,hR.r10 e,l3⟩
  ·obtain⟨t,h1,h2⟩:=h
   exact⟨t,hR.keep hg h1 e hk.1 hk.2,h2⟩
 rw[if_neg u2] at h hk ⊢
 simp only[List.mem_singleton] at hk
 by_cases e:jq=10
 ·exact⟨t3,hR.r10 e,by omega⟩
 by_cases e2:jq=15
 ·exact⟨t4,hR.r15 e2,by omega⟩
 obtain⟨t,h1,h2⟩:=h
 exact⟨t,hR.keep hg h1 e e2 hk,h2⟩
theorem Tn3.is3 (h:Tn3 B g T t3 t4 t5 ww) (hp:PreW B g T gi W 2 ww) (l4:t4.way.length=1) (l5:t5.way.length=0):TownAt ww B T g t3:=by
 obtain⟨t,h1,h2⟩:=hp.two
 rcases h with h | h | h
 ·exact h
 ·have:=h.wayl h1;omega
 ·have:=h.wayl h1;omega
theorem Tn4.is4 (h:Tn4 B g T t4 t5 ww) (hp:PreW B g T gi W 3 ww) (l5:t5.way.length=0):TownAt ww B T g t4:=by
 obtain⟨t,h1,h2⟩:=hp.three
 rcases h with h | h
 ·exact h
 ·have:=h.wayl h1;omega
end
end Go.Proofs.YtgkgdedhicnohaaGreat
