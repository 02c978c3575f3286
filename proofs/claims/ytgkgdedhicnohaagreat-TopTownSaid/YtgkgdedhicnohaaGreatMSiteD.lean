/- Histories of versions that sites made, and what a shelf holds after some were taken. No program in sight. What the laws on sites call: siteBegun, two, synced, wanted. A site that makes versions, one by one. No program in sight. A site makes some versions (reedkeep.makes). Written by a small program (gen/site10.py). What the laws on sites want: sites asking each other. No walk here. -/
import Derived.Test.YtgkgdedhicnohaaGreatMSiteA
import Derived.Test.YtgkgdedhicnohaaGreatMShelfP
import Derived.Test.YtgkgdedhicnohaaGreatMShelf13
import Derived.Test.YtgkgdedhicnohaaGreatMSiteC
import Derived.Test.YtgkgdedhicnohaaGreatMClaims
import Derived.Test.YtgkgdedhicnohaaGreatMDots
namespace Go.Proofs.YtgkgdedhicnohaaGreat
open Go.RowKit
theorem rep_self {U L:List Ver} (hL:ShOk L) (h: ∀x∈L,x∈U):Rep U L L:=⟨h,hL.ord,fun x=>⟨fun hx=>⟨hx,fun b hb=>hL.free x hx b hb⟩,fun h=>h.1⟩⟩
theorem rep_on {U:List Ver} (hU:Uni U): ∀(V l L:List Ver),Rep U l L→(∀x∈V,x∈U)→Rep U (l++V) (laidOn L V)∧putsE L V=0
 | [],l,L,h,_=>by rw[List.append_nil];exact ⟨h,rfl⟩
 | v::V,l,L,h,hV=>by
  have h1:=h.put hU (hV v (by simp))
  have h2:=putE_rep hU h (hV v (by simp))
  obtain⟨k1,k2⟩:=rep_on hU V _ _ h1 fun x hx=>hV x (by simp[hx])
  refine⟨?_, ?_⟩
  ·rw[List.append_assoc,List.singleton_append] at k1
   exact k1
  ·unfold putsE;rw [if_neg (by omega)];exact k2
theorem drops_mem {W:List Ver} : ∀ {L:List Ver} {x:Ver},x∈dropsL L (W.map fun v=>⟨v.id,v.past⟩)↔x∈L∧ ∀b∈W,verOver b x=false:=by
 induction W with
 | nil=>intro L x;simp [dropsL]
 | cons b W ih=>
  intro L x
  show x∈dropsL (dropL L b.id b.past) (W.map fun v=>⟨v.id,v.past⟩)↔_
  rw[ih]
  unfold dropL
  rw[List.mem_filter]
  have e:underB b.id b.past x=verOver b x:=by
   unfold underB verOver
   congr 1
   rw[decide_eq_decide];exact ⟨fun h=>h.symm,fun h=>h.symm⟩
  rw[e]
  constructor
  ·rintro⟨⟨h1,h2⟩,h3⟩
   refine⟨h1,fun c hc=> ?_⟩
   rcases List.mem_cons.1 hc with rfl | hc
   ·simpa using h2
   ·exact h3 c hc
  ·rintro⟨h1,h2⟩
   exact⟨⟨h1,by rw[h2 b (by simp)];rfl⟩,fun c hc=>h2 c (by simp[hc])⟩
structure Taken (L V W R:List Ver):Prop where
 ok:ShOk R
 mem: ∀x,x∈R↔(x∈L∨x∈V)∧(∀b∈L,verOver b x=false)∧(∀b∈V,verOver b x=false)∧ ∀b∈W,verOver b x=false
theorem taken {U L V W:List Ver} (hU:Uni U) (hL:ShOk L) (hLU: ∀x∈L,x∈U) (hV: ∀x∈V,x∈U):putsE L V=0∧Taken L V W (dropsL (laidOn L V) (W.map fun v=>⟨v.id,v.past⟩)):=by
 obtain⟨h1,h2⟩:=rep_on hU V L L (rep_self hL hLU) hV
 refine⟨h2,dropsL_ok (h1.ok hU) _,fun x=> ?_⟩
 rw[drops_mem,h1.mem,List.mem_append]
 constructor
 ·rintro⟨⟨h3,h4⟩,h5⟩
  exact⟨h3,fun b hb=>h4 b (List.mem_append_left _ hb),fun b hb=>h4 b (List.mem_append_right _ hb),h5⟩
 ·rintro⟨h3,h4,h5,h6⟩
  exact⟨⟨h3,fun b hb=>(List.mem_append.1 hb).elim (h4 b) (h5 b)⟩,h6⟩
end Go.Proofs.YtgkgdedhicnohaaGreat
namespace Go.Proofs.YtgkgdedhicnohaaGreat
open Go.RowKit
theorem giveB_congr {r:SiteS} (h:SiteOk r) {st sm:Int} {p q:Nat→Nat→Bool} {A:List SP} (hpq: ∀t n,t < 16→n < 32→p t n=q t n):giveB r st sm p A=giveB r st sm q A:=by
 have hin: ∀v∈r.L,inP p v=inP q v:=fun v hv=>by
  obtain⟨h1,h2,h3,h4⟩:=pt_rng (h.L.ok v hv).pt
  exact hpq _ _ (by omega) (by omega)
 unfold giveB
 congr 1
 ·unfold giveV
  exact List.filter_congr fun v hv=>by rw[hin v hv]
 ·unfold giveG
  congr 1
  exact List.filter_congr fun v hv=>by rw[hin v hv]
 ·exact narrow_congr h.known hpq
theorem EveryPost.own {w w':World} {e:Ending} (h:EveryPost w e w'): ∃v,e= .returned v∧FOwn w' w.heap.size v everyB∧Below w.heap.size w w':=by
 obtain⟨g,h',rfl,h1,h2,h3,h4,h5,h6⟩:=h
 exact⟨_,rfl,boxOwn (s:=(0,32)) h1 h2 h4 h5,h6⟩
set_option maxRecDepth 100000 in
theorem everyS (w:World):Calls Tryz.prog 15 #[] w fun e w'=> ∃v,e= .returned v∧FOwn w' w.heap.size v everyB∧Below w.heap.size w w':=
 (everyX w).mono fun _ _ h=>EveryPost.own h
theorem gone_bd {g:Gn} (h:goneChk g=0):g.past.vec.length≤5∧g.past.more.length≤60:=by
 unfold goneChk at h
 cases hi:idOk g.id
 ·rw[if_pos hi] at h;exact absurd h (by decide)
 ·rw[if_neg (by rw[hi];decide)] at h
  exact⟨(knChk_zero.1 h).1.len,(knChk_zero.1 h).2⟩
theorem every_chk:fChk everyB=0:=by decide
end Go.Proofs.YtgkgdedhicnohaaGreat
namespace Go.Proofs.YtgkgdedhicnohaaGreat
open Go.RowKit
def sidA (k:Nat):ByteArray:=if k=0 then⟨#[97]⟩ else if k=1 then⟨#[98]⟩ else if k=2 then⟨#[99]⟩ else⟨#[100]⟩
end Go.Proofs.YtgkgdedhicnohaaGreat
namespace Go.Proofs.YtgkgdedhicnohaaGreat
open Go.RowKit
def StrRow (w:World) (lo n:Nat) (cs:Array Value) (v:Value):Prop:= ∃q,v= .slice (some ⟨q,0,none⟩) n n∧w.heap[q]? =some (Obj.cells cs 9 (0,0))∧lo≤q
theorem StrRow.below {w w':World} {lo n:Nat} {cs:Array Value} {v:Value} (h:StrRow w lo n cs v) (hb:Below w.heap.size w w'):StrRow w' lo n cs v:=by
 obtain⟨q,h1,h2,h3⟩:=h;exact ⟨q,h1,below_keep hb h2,h3⟩
def StrPt (w:World) (lo k:Nat) (cs:Array Value) (v:Value):Prop:= ∃q,v= .pointer (some ⟨q,k,none⟩)∧w.heap[q]? =some (Obj.cells cs 9 (0,0))∧lo≤q
theorem StrPt.below {w w':World} {lo k:Nat} {cs:Array Value} {v:Value} (h:StrPt w lo k cs v) (hb:Below w.heap.size w w'):StrPt w' lo k cs v:=by
 obtain⟨q,h1,h2,h3⟩:=h;exact ⟨q,h1,below_keep hb h2,h3⟩
def DotNew (w:World) (lo:Nat) (v:Value):Prop:= ∃q,v= .pointer (some ⟨q,0,none⟩)∧w.heap[q]? =some (Obj.cells #[.int .i64 0, .int .i64 0] 41 (0,0))∧lo≤q
theorem DotNew.below {w w':World} {lo:Nat} {v:Value} (h:DotNew w lo v) (hb:Below w.heap.size w w'):DotNew w' lo v:=by
 obtain⟨q,h1,h2,h3⟩:=h;exact ⟨q,h1,below_keep hb h2,h3⟩
theorem DotNew.stp {w w':World} {lo g:Nat} {v:Value} (h:DotNew w lo v) (hs:Stp (fun q=>q=g) w w') (hg:g < lo):DotNew w' lo v:=by
 obtain⟨q,h1,h2,h3⟩:=h;exact ⟨q,h1,hs.block h2 (by omega),h3⟩
def DotIs (w:World) (lo:Nat) (x y:Int) (v:Value):Prop:= ∃q,v= .pointer (some ⟨q,0,none⟩)∧w.heap[q]? =some (Obj.cells #[.int .i64 x, .int .i64 y] 41 (0,0))∧lo≤q
theorem DotIs.below {w w':World} {lo:Nat} {x y:Int} {v:Value} (h:DotIs w lo x y v) (hb:Below w.heap.size w w'):DotIs w' lo x y v:=by
 obtain⟨q,h1,h2,h3⟩:=h;exact ⟨q,h1,below_keep hb h2,h3⟩
theorem names2 {k:Nat} (h:k < 2):(#[.string { data:= #[97] }, .string { data:= #[98] }]:Array Value)[k]? =some (.string (sidA k)):=by
 obtain rfl | rfl:k=0∨k=1:=by omega
 all_goals rfl
theorem three_ints {w:World} {v:Value} {l:List Int} (h:IsAt w v l) (h3:3≤l.length): ∃cb coff cc,v= .slice (some ⟨cb,coff,none⟩) l.length cc∧cb < w.heap.size∧ ∃x0 x1 x2,w.cell? ⟨cb,coff,none⟩=some (.int .i64 x0)∧w.cell? ⟨cb,coff+1,none⟩=some (.int .i64 x1)∧w.cell? ⟨cb,coff+2,none⟩=some (.int .i64 x2)∧l[0]? =some x0∧l[1]? =some x1∧l[2]? =some x2:=by
 obtain⟨a,c,rfl, -, -, -,hl⟩:=h.open_
 rcases hl with hn | ⟨b,off,rfl,hb,hc⟩
 ·rw[hn] at h3;simp at h3
 ·exact⟨b,off,c,rfl,hb,l[0],l[1],l[2],(by have:=hc 0 (by omega);rwa [Nat.add_zero] at this),hc 1 (by omega),hc 2 (by omega),by simp,by simp,by simp⟩
end Go.Proofs.YtgkgdedhicnohaaGreat
namespace Go.Proofs.YtgkgdedhicnohaaGreat
open Go.RowKit
theorem SiteAt.mono {w:World} {b b' g:Nat} {s:SiteS} (h:SiteAt w b g s) (hb:b'≤b):SiteAt w b' g s:=by
 obtain⟨f,l,p,h1,h2,h3,h4⟩:=h.cells
 exact⟨h.ok,Nat.le_trans hb h.ge,f,l,p,h1,FO.mono h2 hb,VOwn.mono h3 hb,PtsOwnA.mono h4 hb⟩
set_option maxRecDepth 100000 in
theorem take_bt {wz:World} {b g:Nat} {s:SiteS} {bt:BtS} {base vc gc pc:Nat} {va ga pa:Option Addr} (h:SiteAt wz b g s) (hbt:BtSOk bt) (ho:BtOwn wz base (.slice va bt.V.length vc) (.slice ga bt.G.length gc) (.slice pa bt.S.length pc) bt):
  Calls Tryz.prog 23 #[.pointer (some ⟨g,0,none⟩), .agg #[.int .i64 bt.site, .int .i64 bt.stamp, .slice va bt.V.length vc, .slice ga bt.G.length gc, .slice pa bt.S.length pc]] wz (TakePost wz b g s bt):=by
 obtain⟨PP,hP1,hP2,hP3⟩:=ho.parts
 have hPl:PP.length≤30:=by have:=hbt.ls;rw [←hP3,List.length_map] at this;exact this
 exact stake_c g b s bt PP _ _ _ wz h hbt (ho.vers.at_ (shok_bd hbt.V) (by have:=hbt.lv;omega)) (GOwn.at_ ho.gone (fun z hz=>gone_bd (hbt.G z hz)) (by have:=hbt.lg;omega)) (hP1.at_ (fun z hz=>(hP2 z hz).1) (by omega)) (fun z hz=>(hP2 z hz).1) hP3
end Go.Proofs.YtgkgdedhicnohaaGreat
