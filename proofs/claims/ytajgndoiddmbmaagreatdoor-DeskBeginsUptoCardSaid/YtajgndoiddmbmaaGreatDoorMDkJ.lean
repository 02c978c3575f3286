/- Towards what desk.Run answers. -/
import Derived.Test.YtajgndoiddmbmaaGreatDoorMDkG
namespace Go.Proofs.YtajgndoiddmbmaaGreatDoor
set_option maxRecDepth 100000
set_option maxHeartbeats 40000000
open Go.RowKit
def Rg (e:Int):Prop:=0≤e∧e≤9
theorem lB:Rg 0:=⟨by decide,by decide⟩
theorem yh:Rg 1:=⟨by decide,by decide⟩
theorem yQ:Rg 2:=⟨by decide,by decide⟩
theorem FT:Rg 3:=⟨by decide,by decide⟩
theorem IW:Rg 4:=⟨by decide,by decide⟩
theorem rg5:Rg 5:=⟨by decide,by decide⟩
theorem rg6:Rg 6:=⟨by decide,by decide⟩
theorem CR:Rg 9:=⟨by decide,by decide⟩
theorem bW {c:Prop} [Decidable c] {a b:Int} (ha:Rg a) (hb:Rg b):Rg (if c then a else b):=by split <;> assumption
theorem abW (i:Nat) (n:Nd):Rg (ez i n):=by
 unfold ez;exact bW lB (bW (bW yh lB) (bW (bW yh lB) (bW (bW yh lB) (bW (bW yh lB) FT))))
theorem Py: ∀(i:Nat) (l:cH),Rg (ndsFrom i l)
 | _,[]=>lB
 | i,n::l=>by unfold ndsFrom;exact bW (Py _ l) (abW _ _)
theorem W7 (l:cH):Rg (cI l):=by unfold cI;exact bW yQ (Py _ _)
theorem LU (s:ByteArray):Rg (readE s):=by
 unfold readE;refine bW yQ ?_;split
 ·exact CR
 ·exact bW CR (W7 _)
theorem Yr (l:List ByteArray) (k:Nat):Rg (filE l k):=by
 unfold filE;split
 ·exact CR
 ·exact LU _
theorem Yt (v:List Int) (x:Option (Int×Int)) (d:Int×Int):Rg (dotChk v x d):=by
 unfold dotChk;refine bW yh (bW FT ?_);split
 ·exact lB
 ·exact bW lB FT
theorem LX (v:List Int): ∀(l:dN) (x:Option (Int×Int)),Rg (dotsFrom v x l)
 | [],_=>lB
 | d::l,x=>by unfold dotsFrom;exact bW (LX v l _) (Yt _ _ _)
theorem abY (k:Kn):Rg (bF k):=by unfold bF;exact bW yQ (bW yh (bW FT (LX _ _ _)))
theorem abZ (k:Kn):Rg (kE k):=by unfold kE;exact bW yQ lB
theorem Pv (v:aA):Rg (bC v):=by unfold bC;exact bW (bW (bW (bW FT lB) (abY _)) yh) FT
theorem WW (l:List aA) (i:Nat):Rg (stepC l i):=by
 unfold stepC;split
 ·refine bW (Pv _) ?_;split
  ·exact lB
  ·exact bW FT lB
  ·exact lB
 ·exact lB
theorem Px (l:List aA): ∀k,Rg (ordC l k)
 | 0=>lB
 | k+1=>by unfold ordC;exact bW (WW _ _) (Px l k)
theorem IV (l:List aA):Rg (bH l):=by
 unfold bH;exact bW yQ (bW (Px _ _) (bW rg6 lB))
theorem Pw (l:List aA) (v:aA):Rg (cM l v):=by unfold cM;exact bW (IV _) (bW (Pv _) (bW yQ lB))
theorem WY (l:List aA) (id:ByteArray):Rg (iB l id):=by unfold iB;exact bW (IV _) (abZ _)
theorem WZ (s:aL) (id:ByteArray) (t n bd:Int):Rg (fF s id t n bd):=by unfold fF;exact bW FT (bW yh (bW yQ (bW (WY _ _) (Pw _ _))))
theorem LW: ∀(L V:List aA),Rg (putsE L V)
 | _,[]=>lB
 | L,v::V=>by unfold putsE;exact bW (Pw _ _) (LW _ V)
theorem WV (s:aL) (b:jP):Rg (iz s b):=by unfold iz;exact bW yh (bW rg6 (bW (LW _ _) (bW yQ lB)))
theorem W6 (t n s c:Int):Rg (rM t n s c):=by unfold rM;exact bW lB yh
theorem WX (t:aK) (i k:Nat):Rg (pS t i k):=by unfold pS;exact bW yh (bW yQ lB)
theorem W5 (t:aK) (k:Int):Rg (lU t k):=by unfold lU;exact bW IW lB
theorem aJ.cells {w:World} {b:Nat} {T:Nat→Prop} {g:Nat} {t:aK} (h:aJ w b T g t): ∃sa sc wa wc,w.heap[g]? =some (.cells #[.slice sa t.sites.length sc, .slice wa t.way.length wc] 141 (0,0)):=by
 obtain⟨sv,wv,gs,css,V⟩:=h.at_;obtain⟨sa,sc,rfl⟩:=ay V.qL;obtain⟨wa,wc,rfl⟩:=ay V.oV;have:=V.sites.len;refine⟨sa,sc,wa,wc, ?_⟩;rw[←this];exact V.blk
theorem tU {g n cap:Nat} {a:Option Addr} {wv:Value} {i:Nat} (hi: ¬i < n) (w:World) (h:w.heap[g]? =some (.cells #[.slice a n cap,wv] 141 (0,0))):
  Calls Tryz.prog 93 #[.pointer (some ⟨g,0,none⟩), .int .i64 (i:Nat)] w fun e w'=>e= .returned (.bool false)∧Below w.heap.size w w':=
 (U5 g n cap a wv i w h).mono fun e w' hh=>by
  obtain⟨h1,h2⟩:=hh;rw[decide_eq_true (show(0:Int)≤(i:Int) by omega),decide_eq_false (show ¬(i:Int) < (n:Int) by omega)] at h1;exact⟨h1,h2⟩
theorem WE (g n cap:Nat) (a:Option Addr) (wv:Value) (i:Nat) (hi: ¬i < n) (id:ByteArray) (t m bd:Int) (w:World) (h:w.heap[g]? =some (.cells #[.slice a n cap,wv] 141 (0,0))):
  Calls Tryz.prog 62 #[.pointer (some ⟨g,0,none⟩), .int .i64 (i:Nat), .string id, .agg #[.int .i64 t, .int .i64 m], .int .i64 bd] w fun e w'=>e= .returned (.tuple #[.agg #[.int .i64 0, .int .i64 0], .int .i64 4])∧Below w.heap.size w w':=by
 have HI:=jD (fun (W:World) (hb:Below w.heap.size w W)=>tU hi W (ag hb h));go_enter Tryz.func62,Tryz.ntmps62;go_wp2_with fail
 refine(HI.o _ ((aG _).alloc (by simp) _)).mono ?_;rintro e w1 ⟨rfl,hb⟩;have HB:=jD (aj ((aG _).alloc (by simp) _) hb);have lq:=ag hb (show((w.alloc (.cells #[.int .i64 t, .int .i64 m] 96)).alloc (.cells #[.int .i64 0, .int .i64 0] 103)).heap[w.heap.size+1]? =some (.cells #[.int .i64 0, .int .i64 0] 103 (0,0)) from au _ _ _ _ (by simp));have y0:=cq 0 lq rfl;have y1:=cq 1 lq rfl;have f0:=fq 0 lq;have f1:=fq 1 lq;have gl:=ai lq;clear hb HI h lq;go_wp2;refine bodyPost_ret (v:= .tuple #[.agg #[.int .i64 0, .int .i64 0], .int .i64 4]) (by simp[results,Tryz.results62,go_sem, *]) rfl ?_;exact⟨rfl,(HB.o.setCell (p:=⟨w.heap.size+1,0,none⟩) (by simp) _).setCell (p:=⟨w.heap.size+1,1,none⟩) (by simp) _⟩
theorem Wz (g n cap:Nat) (a:Option Addr) (wv:Value) (i:Nat) (hi: ¬i < n) (fa:Option Addr) (fn fc:Nat) (w:World) (h:w.heap[g]? =some (.cells #[.slice a n cap,wv] 141 (0,0))):
  Calls Tryz.prog 64 #[.pointer (some ⟨g,0,none⟩), .int .i64 (i:Nat), .slice fa fn fc] w fun e w'=>e= .returned (.int .i64 4)∧Below w.heap.size w w':=by
 have HI:=jD (tU hi w h);go_enter Tryz.func64,Tryz.ntmps64;go_wp2_with fail
 (with_reducible refine(HI.o).mono ?_);rintro e w1 ⟨rfl,hb⟩;have HB:=jD hb;clear hb HI h;go_wp2;go_ret;exact⟨rfl,HB.o⟩
theorem WC (g n cap:Nat) (a:Option Addr) (wv:Value) (i k:Nat) (hi: ¬(i < n∧k < n)) (w:World) (h:w.heap[g]? =some (.cells #[.slice a n cap,wv] 141 (0,0))):
  Calls Tryz.prog 66 #[.pointer (some ⟨g,0,none⟩), .int .i64 (i:Nat), .int .i64 (k:Nat)] w fun e w'=>e= .returned (.int .i64 4)∧Below w.heap.size w w':=by
 by_cases h1:i < n
 ·have h2: ¬k < n:=fun h2=>hi ⟨h1,h2⟩;have HI:=jD (tZ h1 w h);have HH:=jD h;clear h;go_enter Tryz.func66,Tryz.ntmps66;go_wp2_with fail
  (with_reducible refine(HI.o).mono ?_);rintro e w1 ⟨rfl,hb⟩;have HB:=jD hb;have Af:=jD (tU h2 w1 (ag hb HH.o));clear hb HI;go_wp2_with fail
  (with_reducible refine(Af.o).mono ?_);rintro e w2 ⟨rfl,hb⟩;have cw:=jD (aj HB.o hb);clear hb Af;go_wp2;go_ret;exact⟨rfl,cw.o⟩
 ·have HI:=jD (tU h1 w h);clear h;go_enter Tryz.func66,Tryz.ntmps66;go_wp2_with fail
  (with_reducible refine(HI.o).mono ?_);rintro e w1 ⟨rfl,hb⟩;have HB:=jD hb;clear hb HI;go_wp2;go_ret;exact⟨rfl,HB.o⟩
theorem Sr (g n cap:Nat) (a:Option Addr) (wv:Value) (i:Nat) (hi: ¬i < n) (w:World) (h:w.heap[g]? =some (.cells #[.slice a n cap,wv] 141 (0,0))):
  Calls Tryz.prog 74 #[.pointer (some ⟨g,0,none⟩), .int .i64 (i:Nat)] w fun e w'=>e= .returned (.tuple #[.slice none 0 0, .int .i64 4])∧Below w.heap.size w w':=by
 have HI:=jD (tU hi w h);go_enter Tryz.func74,Tryz.ntmps74;go_wp2_with fail
 (with_reducible refine(HI.o).mono ?_);rintro e w1 ⟨rfl,hb⟩;have HB:=jD hb;clear hb HI h;go_wp2;go_ret2;exact⟨rfl,HB.o⟩
theorem Yi (g n cap:Nat) (a:Option Addr) (wv:Value) (i:Nat) (hi: ¬i < n) (t m d c:Int) (w:World) (h:w.heap[g]? =some (.cells #[.slice a n cap,wv] 141 (0,0))):
  Calls Tryz.prog 76 #[.pointer (some ⟨g,0,none⟩), .int .i64 (i:Nat), .agg #[.int .i64 t, .int .i64 m], .agg #[.int .i64 d, .int .i64 c]] w fun e w'=>e= .returned (.tuple #[.bool false, .int .i64 4])∧Below w.heap.size w w':=by
 have HI:=jD (fun (W:World) (hb:Below w.heap.size w W)=>tU hi W (ag hb h));go_enter Tryz.func76,Tryz.ntmps76;go_wp2_with fail
 refine(HI.o _ ((aG _).alloc (by simp) _)).mono ?_;rintro e w1 ⟨rfl,hb⟩;have HB:=jD (aj ((aG _).alloc (by simp) _) hb);clear hb HI h;go_wp2;go_ret2;exact⟨rfl,HB.o⟩
theorem Sy (g n wn cap wc:Nat) (a wa:Option Addr) (k:Nat) (hk: ¬k < wn) (w:World) (h:w.heap[g]? =some (.cells #[.slice a n cap, .slice wa wn wc] 141 (0,0))):
  Calls Tryz.prog 68 #[.pointer (some ⟨g,0,none⟩), .int .i64 (k:Nat)] w fun e w'=>e= .returned (.int .i64 4)∧Below w.heap.size w w':=by
 have c1:w.cell? ⟨g,1,none⟩=some (.slice wa wn wc):=cq 1 h rfl;have hgl:=ai h;have d0:decide ((k:Int) < 0)=false:=by simp
 have d1:decide ((wn:Int)≤(k:Int))=true:=by simp;omega
 clear h;go_enter Tryz.func68,Tryz.ntmps68;go_wp2;go_ret;exact⟨rfl,br⟩
def Db (t:aK) (i:Nat) (id:ByteArray) (a n bd:Int):Int:=if h:i < t.sites.length then fF t.sites[i] id a n bd else 4
def uh (t:aK) (i:Nat) (id:ByteArray) (a n bd:Int):Int×Int:=if h:i < t.sites.length then vh t.sites[i] id a n bd else(0,0)
def Jb (t:aK) (i:Nat) (id:ByteArray) (a n bd:Int):aK:=if h:i < t.sites.length then Ie t i h id a n bd else t
def sY (t:aK) (i:Nat):Int:=if i < t.sites.length then 0 else 4
def Ir (t:aK) (i:Nat) (p:iT):aK:=if h:i < t.sites.length then abK t i h p else t
def CM (t:aK) (i k:Nat):Int:=if i < t.sites.length∧k < t.sites.length then pS t i k else 4
def IL (t:aK) (i k:Nat):aK:=if h:i < t.sites.length∧k < t.sites.length then tI t i h.1 k else t
def brE (t:aK) (k:Nat):Int:=match t.way[k]? with
 | none=>4
 | some (.sA to b)=>if h:to < t.sites.length then iz t.sites[to] b else 0
 | some (.ask _ _)=>if t.way.length < 60 then 0 else 2
def Ka (t:aK) (k:Nat):aK:=match t.way[k]? with
 | none=>t
 | some (.sA to b)=>if h:to < t.sites.length then Ib t to h b else t
 | some (.ask to a)=>if h:to < t.sites.length∧t.way.length < 60 then { t with way:=t.way++[Fk (t.sites[to]'h.1) a] } else t
theorem abX (t:aK) (i:Nat) (id:ByteArray) (a n bd:Int):Rg (Db t i id a n bd):=by
 unfold Db;split
 ·exact WZ _ _ _ _ _
 ·exact IW
theorem U9 (t:aK) (i:Nat):Rg (sY t i):=by unfold sY;exact bW lB IW
theorem abV (t:aK) (i k:Nat):Rg (CM t i k):=by unfold CM;exact bW (WX _ _ _) IW
theorem ab1 (t:aK) (k:Nat):Rg (brE t k):=by
 unfold brE;split
 ·exact IW
 ·split
  ·exact WV _ _
  ·exact lB
 ·exact bW lB yQ
theorem YL (g b:Nat) (T:Nat→Prop) (t:aK) (i:Nat) (id:ByteArray) (a n bd:Int) (w:World) (h:aJ w b T g t):
  Calls Tryz.prog 62 #[.pointer (some ⟨g,0,none⟩), .int .i64 (i:Nat), .string id, .agg #[.int .i64 a, .int .i64 n], .int .i64 bd] w fun e w'=>e= .returned (.tuple #[.agg #[.int .i64 (uh t i id a n bd).1, .int .i64 (uh t i id a n bd).2], .int .i64 (Db t i id a n bd)])∧aJ w' b T g (Jb t i id a n bd)∧aB T w w':=by
 unfold uh Db Jb;by_cases hi:i < t.sites.length
 ·simp only[hi,dif_pos];exact tmake_c g b T t i hi id a n bd w h
 ·simp only[hi,dif_neg,not_false_eq_true];obtain⟨sa,sc,wa,wc,hc⟩:=h.cells;refine(WE g _ sc sa _ i hi id a n bd w hc).mono ?_;rintro e w' ⟨rfl,hb⟩;exact⟨rfl,h.below hb,aB.of_below hb⟩
theorem Yb (g b:Nat) (T:Nat→Prop) (t:aK) (i:Nat) (fv:Value) (B2:Nat) (p:iT) (w:World) (h:aJ w b T g t) (hf:FO w B2 fv p) (hst: ∀i (h:i < t.sites.length),t.sites[i].stamp < 1000000):
  Calls Tryz.prog 64 #[.pointer (some ⟨g,0,none⟩), .int .i64 (i:Nat),fv] w fun e w'=>e= .returned (.int .i64 (sY t i))∧aJ w' b T g (Ir t i (clip p))∧aB T w w':=by
 unfold sY Ir;by_cases hi:i < t.sites.length
 ·simp only[hi,dif_pos,if_true];obtain⟨F,f1,f2,f3⟩:=hf;rw[←Mo f3];exact WB g b T t i hi fv F w h (fun w' hs=>cR.vJ (cR.bD f1 hs) f2) f2 (hst i hi)
 ·simp only[hi,dif_neg,not_false_eq_true,if_false];obtain⟨sa,sc,wa,wc,hc⟩:=h.cells;obtain⟨fa,fn,fc,rfl⟩:=hf.ow;refine(Wz g _ sc sa _ i hi fa fn fc w hc).mono ?_;rintro e w' ⟨rfl,hb⟩;exact⟨rfl,h.below hb,aB.of_below hb⟩
theorem Yn (g b:Nat) (T:Nat→Prop) (t:aK) (i k:Nat) (w:World) (h:aJ w b T g t) (p8: ∀q,w.heap.size≤q→T q):
  Calls Tryz.prog 66 #[.pointer (some ⟨g,0,none⟩), .int .i64 (i:Nat), .int .i64 (k:Nat)] w fun e w'=>e= .returned (.int .i64 (CM t i k))∧aJ w' b T g (IL t i k)∧aB T w w':=by
 unfold CM IL;by_cases hi:i < t.sites.length∧k < t.sites.length
 ·simp only[hi,dif_pos,if_true,and_self];exact WD g b T t i k hi.1 hi.2 w h p8
 ·simp only[hi,dif_neg,not_false_eq_true,if_false];obtain⟨sa,sc,wa,wc,hc⟩:=h.cells;refine(WC g _ sc sa _ i k hi w hc).mono ?_;rintro e w' ⟨rfl,hb⟩;exact⟨rfl,h.below hb,aB.of_below hb⟩
theorem XY (g b:Nat) (T:Nat→Prop) (t:aK) (k:Nat) (w:World) (h:aJ w b T g t) (p8: ∀q,w.heap.size≤q→T q):
  Calls Tryz.prog 68 #[.pointer (some ⟨g,0,none⟩), .int .i64 (k:Nat)] w fun e w'=>e= .returned (.int .i64 (brE t k))∧aJ w' b T g (Ka t k)∧aB T w w':=by
 unfold brE Ka;by_cases hk:k < t.way.length
 ·have hget:=List.getElem?_eq_getElem hk;have hok:=h.ok.way _ (List.getElem_mem hk);cases hx:t.way[k] with
  | sA to bt=>
   rw[hx] at hget hok;have hto:to < t.sites.length:=hok.1;simp only[hget,hto,dif_pos];exact tbring_bat g b T t k to bt hget w h p8 hto
  | ask to a=>
   rw[hx] at hget hok;have hto:to < t.sites.length:=hok.1;by_cases fP:t.way.length < 60
   ·simp only[hget,hto,fP,dif_pos,if_true,and_self];exact tbring_ask g b T t k to a hget w h p8 hto fP
   ·simp only[hget,hto,fP,dif_neg,if_false,not_false_eq_true,and_false];exact La g b T t k to a hget w h p8 hto (by omega)
 ·have hget:t.way[k]? =none:=List.getElem?_eq_none (by omega);simp only[hget];obtain⟨sa,sc,wa,wc,hc⟩:=h.cells;refine(Sy g _ _ sc wc sa wa k hk w hc).mono ?_;rintro e w' ⟨rfl,hb⟩;exact⟨rfl,h.below hb,aB.of_below hb⟩
def Dk (t:aK) (i:Nat) (a n d c:Int):Int:=if i < t.sites.length then rM a n d c else 4
def hkB (t:aK) (i:Nat) (a n d c:Int):Bool:=if h:i < t.sites.length then zw (bT t.sites[i]) a n d c else false
theorem ab0 (t:aK) (i:Nat) (a n d c:Int):Rg (Dk t i a n d c):=by unfold Dk;exact bW (W6 _ _ _ _) IW
def CL (t:aK) (i:Nat):List aA:=if h:i < t.sites.length then t.sites[i].L else []
theorem WQ (g b:Nat) (T:Nat→Prop) (t:aK) (i:Nat) (w:World) (h:aJ w b T g t):
  Calls Tryz.prog 74 #[.pointer (some ⟨g,0,none⟩), .int .i64 (i:Nat)] w fun e w'=> ∃a c,e= .returned (.tuple #[.slice a (CL t i).length c, .int .i64 (sY t i)])∧bA w' w.heap.size (.slice a (CL t i).length c) (CL t i)∧Below w.heap.size w w':=by
 unfold CL sY;by_cases hi:i < t.sites.length
 ·simp only[hi,dif_pos,if_true];exact Su g b T t i hi w h
 ·simp only[hi,dif_neg,not_false_eq_true,if_false];obtain⟨sa,sc,wa,wc,hc⟩:=h.cells;refine(Sr g _ sc sa _ i hi w hc).mono ?_;rintro e w' ⟨rfl,hb⟩;exact⟨none,0,rfl,⟨[],trivial,World.ownsRow_nil _ _ _ _⟩,hb⟩
theorem o9 (d g:Nat) (fv:Value) (w:World) (h:w.heap[d]? =some (.cells #[.pointer (some ⟨g,0,none⟩),fv] 41 (0,0))):
  Calls Tryz.prog 61 #[.pointer (some ⟨d,0,none⟩)] w fun e w'=>e= .returned (.pointer (some ⟨d,0,none⟩))∧w'=w:=by
 have c0:=cq 0 h rfl;have hl:=ai h;clear h;go_enter Tryz.func61,Tryz.ntmps61;go_wp2;go_ret;exact⟨rfl,rfl⟩
theorem o8 (d:Nat) (fv:Value) (w:World) (h:w.heap[d]? =some (.cells #[.pointer none,fv] 41 (0,0))):
  Calls Tryz.prog 61 #[.pointer (some ⟨d,0,none⟩)] w fun e w'=>e=bG 4∧w'=w:=by
 have c0:=cq 0 h rfl;have hl:=ai h;clear h;go_enter Tryz.func61,Tryz.ntmps61;go_wp2_with fail
 refine(mB 4 _).mono ?_;rintro e w2 ⟨rfl,rfl⟩;unfold bG;go_wp2;exact⟨rfl,rfl,rfl⟩
def onTown (f:aK→kU×aK) (s:bn):kU×bn:=match s.fQ with
 | none=>(.error 4,s)
 | some t=>((f t).1, { s with fQ:=some (f t).2 })
def gL (t:aK) (n:Int):Prop:= ∀i (h:i < t.sites.length),t.sites[i].stamp≤n
theorem gL.mono {t:aK} {n m:Int} (h:gL t n) (hm:n≤m):gL t m:=fun i hi=>Int.le_trans (h i hi) hm
theorem gL.set {t:aK} {n:Int} {i:Nat} {s:aL} {w:List iy} (h:gL t n) (hs:s.stamp≤n):gL ⟨t.sites.set i s,w⟩ n:=by
 intro j hj;show((t.sites.set i s)[j]'hj).stamp≤n;have hj2:j < t.sites.length:=by simpa using hj
 by_cases e:j=i
 ·subst e;rw [List.getElem_set_self];exact hs
 ·rw[List.getElem_set_ne (by omega)];exact h j hj2
theorem abP {t:aK} {n:Int} (h:gL t n) (i:Nat) (id:ByteArray) (a m bd:Int):gL (Jb t i id a m bd) n:=by
 unfold Jb;split
 ·rename_i hi;exact h.set (by rw[(Jc _ _ _ _ _).2.1];exact h i hi)
 ·exact h
theorem abN {t:aK} {n:Int} (h:gL t n) (i:Nat) (p:iT):gL (Ir t i p) (n+1):=by
 unfold Ir;split
 ·rename_i hi;exact(h.mono (by omega)).set (by show t.sites[i].stamp+1≤n+1;have:=h i hi;omega)
 ·exact h.mono (by omega)
theorem abO {t:aK} {n:Int} (h:gL t n) (i k:Nat):gL (IL t i k) n:=by
 unfold IL;split
 ·unfold tI;split
  ·exact h
  ·exact h
 ·exact h
theorem abR {t:aK} {n:Int} (h:gL t n) (k:Nat):gL (Ka t k) n:=by
 unfold Ka;split
 ·exact h
 ·split
  ·rename_i hi;exact h.set (by rw[(IE _ _).2.1];exact h _ hi)
  ·exact h
 ·split
  ·exact h
  ·exact h
theorem abQ {t:aK} {n:Int} (h:gL t n) (k:Int):gL (rL t k) n:=by
 unfold rL;split
 ·exact h
 ·exact h
theorem kg {B d:Nat} {w w' w2:World} {s:bn} {g b:Nat} {t t':aK} {fv:Value} (h:eN B d w s) (ht0:s.fQ=some t) (hd:w.heap[d]? =some (.cells #[.pointer (some ⟨g,0,none⟩),fv] 41 (0,0))) (hB:B≤b) (ht:aJ w' b (Tw B w) g t') (hs:aB (Tw B w) w w') (hn:gL t' ((s.n+1:Nat):Int)) (hb:Below w'.heap.size w' w2) {f:aK→kU×aK} {r:kU} (hf:f t=(r,t')) {e:Ending} (he:e=IX r):dA B d w (onTown f s) e w2:=by
 have h1:=h.step hd hB ht hs hn;have e2:onTown f s=(r, { s with fQ:=some t' }):=by unfold onTown;rw [ht0];simp only[hf]
 rw[e2];exact⟨he,h1.1.below hb,(h1.2.1.trans (aM.of_below hb)).weak KD.kt,h1.2.2.trans (hb.mono (Nat.le_trans (Nat.le_trans h.ge (Nat.le_of_lt h.lt)) hs.size))⟩
theorem nu {B d:Nat} {w w2:World} {s:bn} (h:eN B d w s) (ht0:s.fQ=none) (hb:Below w.heap.size w w2) (f:aK→kU×aK):dA B d w (onTown f s) (bG 4) w2:=by
 rw[show onTown f s=(.error 4,s) by unfold onTown;rw [ht0]];exact dA.look (r:= .error 4) h hb
theorem uj {B d:Nat} {w w2:World} {s:bn} {t:aK} (h:eN B d w s) (ht0:s.fQ=some t) (hb:Below w.heap.size w w2) {f:aK→kU×aK} {r:kU} (hf:f t=(r,t)) {e:Ending} (he:e=IX r):dA B d w (onTown f s) e w2:=by
 have e2:onTown f s=(r,s):=by
  unfold onTown;rw [ht0];simp only[hf];cases s;simp at ht0;subst ht0;rfl
 rw[e2,he];exact dA.look h hb
theorem acn (g b:Nat) (T:Nat→Prop) (t:aK) (i:Nat) (a n d c:Int) (w:World) (h:aJ w b T g t):
  Calls Tryz.prog 76 #[.pointer (some ⟨g,0,none⟩), .int .i64 (i:Nat), .agg #[.int .i64 a, .int .i64 n], .agg #[.int .i64 d, .int .i64 c]] w fun e w'=>e= .returned (.tuple #[.bool (hkB t i a n d c), .int .i64 (Dk t i a n d c)])∧Below w.heap.size w w':=by
 unfold hkB Dk;by_cases hi:i < t.sites.length
 ·simp only[hi,dif_pos,if_true];exact thas_c g b T t i hi a n d c w h
 ·simp only[hi,dif_neg,not_false_eq_true,if_false];obtain⟨sa,sc,wa,wc,hc⟩:=h.cells;exact Yi g _ sc sa _ i hi a n d c w hc
theorem AQ (e0:Int) (w:World):Calls Tryz.prog 43 #[.int .i64 e0] w fun e w'=>w'=w∧((e0=0∧e= .returned (.tuple #[]))∨(e0≠0∧e=bG e0)):=by
 by_cases h:e0=0
 ·subst h;exact (kS w).mono fun e w' h=>⟨h.2, .inl ⟨rfl,h.1⟩⟩
 ·exact(qZ e0 h w).mono fun e w' k=>⟨k.2, .inr ⟨h,k.1⟩⟩
theorem abG (b:Bool) (e0:Int) (w:World):Calls Tryz.prog 54 #[.bool b, .int .i64 e0] w fun e w'=>w'=w∧((e0=0∧e= .returned (.string (kL b)))∨(e0≠0∧e=bG e0)):=by
 by_cases h:e0=0
 ·subst h;exact (Hw b w).mono fun e w' h=>⟨h.2, .inl ⟨rfl,h.1⟩⟩
 ·exact(U0 b e0 h w).mono fun e w' k=>⟨k.2, .inr ⟨h,k.1⟩⟩
theorem Xk {w:World} {b:Nat} {T:Nat→Prop} {g:Nat} {t:aK} (h:aJ w b T g t) (i:Nat) (id:ByteArray) (a n bd:Int): ∀x∈[(uh t i id a n bd).1,(uh t i id a n bd).2],0≤x∧x < 10000000000:=by
 unfold uh;split
 ·rename_i hi;obtain⟨_,_,_,_,_,_,_,hS, -⟩:=h.use hi;have h1:=hS.ok.me;have h2:=hS.ok.made;unfold vh;split
  ·simp;omega
  ·simp
 ·simp
theorem dsend_c (B d g0 g1 g2:Nat) (i k:Nat) (wo:World) (s:bn) (hA:eN B d wo s) (hgd:mY s) (hG:Gd B wo) (h0:wo.heap[g0]? =some (.cells #[.pointer (some ⟨d,0,none⟩)] 37 (0,0))) (h1:wo.heap[g1]? =some (.cells #[.int .i64 (i:Nat)] 3 (0,0))) (h2:wo.heap[g2]? =some (.cells #[.int .i64 (k:Nat)] 3 (0,0))):
  Calls Tryz.prog 65 #[.pointer (some ⟨g0,0,none⟩), .pointer (some ⟨g1,0,none⟩), .pointer (some ⟨g2,0,none⟩)] wo (dA B d wo (onTown (fun t=>(if CM t i k=0 then .ok ⟨#[111,107]⟩ else .error (CM t i k),IL t i k)) s)):=by
 have fL:=jD (cq 0 h0 rfl);have dF:=jD (ai h0);have lM:=jD (cq 0 h1 rfl);have fe:=jD (ai h1);have sK:=jD (cq 0 h2 rfl);have mH:=jD (ai h2);obtain⟨tv,fa,fc,us,hbk, -, -,cF⟩:=hA.open_;have HA:=jD hA;have HG:=jD hG;have pL:=jD hgd;cases htn:s.fQ with
 | none=>
  rw[htn] at cF;obtain rfl:tv= .pointer none:=cF;have eZ:=jD htn;have bU:=jD hbk;clear hA hgd hG hbk htn h0 h1 h2;go_enter Tryz.func65,Tryz.ntmps65;go_wp2;refine uS.aV 13 rfl [] (fun _=>True) (fun _=>[]) (fun jq v ww=>match jq with | 0=>v= .pointer (some ⟨d,0,none⟩) | 1=>False | 2=>False | 3=>False | 4=>False | 7=>False | 8=>False | _=>True) (fun ww=>Below wo.heap.size wo ww) (fun jq ww aR=>Below ww.heap.size ww aR) Tryz.mixed (by decide+kernel) (br).drew trivial (fun q r v w w' _ _ _ h _=>h) (fun _ _ _ _ _ _=>trivial) ?_ ?_
  ·refine⟨?_, ?_, ?_, ?_, ?_, ?_, ?_, ?_, ?_,trivial⟩
   ·intro x wx hG;have f0:=hG.o 0;replace hG:=hG.g;have c:=ah hG fL.o;have hl:=Nat.lt_of_lt_of_le dF.o hG.size;go_wp2;exact⟨_,rfl,rfl,hG,br⟩
   ·intro x wx hG;have⟨g0,og⟩:=gs 4 (hG.c 0 _ rfl);have hg:=hG.g;have nM:=jD hG.defers;clear hG;have HN:=jD (o8 d _ wx (ag hg bU.o));go_wp2_with fail
    (with_reducible refine(HN.o).mono ?_);rintro e wq ⟨rfl,rfl⟩;unfold bG;go_wp2;exact⟨nM.o,nu HA.o eZ.o hg _⟩
   ·intro x wx hG;exact False.elim (hG.c 1 _ rfl)
   ·intro x wx hG;exact False.elim (hG.c 2 _ rfl)
   ·intro x wx hG;exact False.elim (hG.c 3 _ rfl)
   ·intro x wx hG;have f1:=hG.o 1;replace hG:=hG.g;have c:=ah hG lM.o;have hl:=Nat.lt_of_lt_of_le fe.o hG.size;go_wp2;exact⟨_,rfl,trivial,hG,br⟩
   ·intro x wx hG;have f2:=hG.o 2;replace hG:=hG.g;have c:=ah hG sK.o;have hl:=Nat.lt_of_lt_of_le mH.o hG.size;go_wp2;exact⟨_,rfl,trivial,hG,br⟩
   ·intro x wx hG;exact False.elim (hG.c 4 _ rfl)
   ·intro x wx hG;exact False.elim (hG.c 7 _ rfl)
  ·intro af wx hg hF;obtain⟨g0,g1,g2,g3,g4,g5,g6,g7,g8, -⟩:=hF;exact(g1 rfl).elim
 | some t=>
  rw[htn] at cF;obtain⟨g,b,T,rfl,hBb,cF⟩:=cF;have HT:=jD (cF.re hBb);have eZ:=jD htn;have cK:=jD hBb;have bU:=jD hbk;have pM:=jD (cq 0 hbk rfl);have tD:=jD (ai hbk);have HST:=jD (show gL t (s.n:Nat) from fun i hi=>hA.st t htn i hi);have ek:=jD (show B≤wo.heap.size from Nat.le_trans hA.ge (Nat.le_of_lt hA.lt));clear hA hgd hG hbk htn cF hBb h0 h1 h2;obtain⟨E9,iH⟩: ∃E9,E9=CM t i k:=⟨_,rfl⟩
  obtain⟨t9,mR⟩: ∃t9,t9=IL t i k:=⟨_,rfl⟩
  have vQ:=jD (show gL t9 ((s.n+1:Nat):Int) by rw[mR];exact (abO HST.o i k).mono (by omega));have lI:=jD (fun (wx:World) (hp:Below wo.heap.size wo wx)=>Yn g b (Tw B wo) t i k wx (HT.o.below hp) (fun q hq=>Tw.new ek.o q (Nat.le_trans hp.size hq)));rw[←iH,←mR] at lI;have om:=jD iH;have vP:=jD mR;clear iH mR;go_enter Tryz.func65,Tryz.ntmps65;go_wp2;refine uS.aV 13 rfl [7] (fun w=>Below wo.heap.size wo w) (fun _=>[]) (fun jq v ww=>match jq with | 0=>v= .pointer (some ⟨d,0,none⟩) | 1=>v= .pointer (some ⟨d,0,none⟩) | 2=>v= .pointer (some ⟨d,0,none⟩) | 3=>v= .pointer (some ⟨d,0,none⟩) | 4=>v= .pointer (some ⟨g,0,none⟩) | 5=>v= .int .i64 (i:Nat) | 6=>v= .int .i64 (k:Nat) | 7=>aJ ww b (Tw B wo) g t9∧v= .int .i64 E9 | 8=>E9=0 | _=>True) (fun ww=>aB (Tw B wo) wo ww) (fun jq ww aR=>(jq≠7→Below ww.heap.size ww aR)∧(jq=7→aB (Tw B wo) ww aR)) Tryz.mixed (by decide+kernel) (aB.refl _ _).drew ((br).drew) ?_ (fun q w w' hk h hR=>aj h (hR.1 (by intro e;subst e;exact absurd hk (by decide)))) ?_ ?_
  ·intro q r v w w' hne hk hlt h hR;match r,hk,hlt,h,hne with
   | 0,_,_,h,_=>exact h
   | 1,_,_,h,_=>exact h
   | 2,_,_,h,_=>exact h
   | 3,_,_,h,_=>exact h
   | 4,_,_,h,_=>exact h
   | 5,_,_,h,_=>exact h
   | 6,_,_,h,_=>exact h
   | 7,hk,hlt,h,hne=>exact ⟨h.1.below (hR.1 (by exact hne)),h.2⟩
   | 8,_,_,h,_=>exact h
   | _+9,_,_,_,_=>trivial
  ·refine⟨?_, ?_, ?_, ?_, ?_, ?_, ?_, ?_, ?_,trivial⟩
   ·intro x wx hG;have f0:=hG.o 0;have hp:=hG.p 0;replace hG:=hG.g;have oP:=ah hp fL.o;have hl:=Nat.lt_of_lt_of_le dF.o hp.size;go_wp2;exact⟨_,rfl,rfl,hG,⟨fun _=>br,fun h=>zd h⟩⟩
   ·intro x wx hG;have⟨g0,og⟩:=gs 4 (hG.c 0 _ rfl);have hp:=hG.p 0;replace hG:=hG.g;have HN:=jD (o9 d g _ wx (ag hp bU.o));go_wp2_with fail
    (with_reducible refine(HN.o).mono ?_);rintro e wq ⟨rfl,rfl⟩;go_wp2;exact⟨_,rfl,rfl,hG,⟨fun _=>br,fun h=>zd h⟩⟩
   ·intro x wx hG;have⟨g1,tq⟩:=gs 5 (hG.c 1 _ rfl);replace hG:=hG.g;go_wp2;exact⟨_,rfl,rfl,hG,⟨fun _=>br,fun h=>zd h⟩⟩
   ·intro x wx hG;have⟨g2,vD⟩:=gs 6 (hG.c 2 _ rfl);replace hG:=hG.g;go_wp2;exact⟨_,rfl,rfl,hG,⟨fun _=>br,fun h=>zd h⟩⟩
   ·intro x wx hG;have⟨g3,qF⟩:=gs 7 (hG.c 3 _ rfl);have hp:=hG.p 0;replace hG:=hG.g;have AU:=ah hp pM.o;have hl:=Nat.lt_of_lt_of_le tD.o hp.size;go_wp2;exact⟨_,rfl,rfl,hG,⟨fun _=>br,fun h=>zd h⟩⟩
   ·intro x wx hG;have f1:=hG.o 1;have hp:=hG.p 0;replace hG:=hG.g;have vH:=ah hp lM.o;have hl:=Nat.lt_of_lt_of_le fe.o hp.size;go_wp2;exact⟨_,rfl,rfl,hG,⟨fun _=>br,fun h=>zd h⟩⟩
   ·intro x wx hG;have f2:=hG.o 2;have hp:=hG.p 0;replace hG:=hG.g;have DI:=ah hp sK.o;have hl:=Nat.lt_of_lt_of_le mH.o hp.size;go_wp2;exact⟨_,rfl,rfl,hG,⟨fun _=>br,fun h=>zd h⟩⟩
   ·intro x wx hG;have⟨g4,qE⟩:=gs 8 (hG.c 4 _ rfl);have⟨g5,sj⟩:=gs 9 (hG.c 5 _ rfl);have⟨g6,uy⟩:=gs 10 (hG.c 6 _ rfl);have hp:=hG.p 0;replace hG:=hG.g;have HN:=jD (lI.o wx hp);go_wp2_with fail
    (with_reducible refine(HN.o).mono ?_);rintro e wq ⟨rfl,h1,h2⟩;have H1:=jD h1;have H2:=jD h2;clear h1 h2 HN;go_wp2;exact⟨_,rfl,⟨H1.o,rfl⟩,hG.trans H2.o,⟨fun h=>absurd rfl h,fun _=>H2.o⟩⟩
   ·intro x wx hG;have g7:aJ wx b (Tw B wo) g t9∧(x.tmps.getD 11 undef)= .int .i64 E9:=hG.c 7 _ rfl;have hg:=hG.g;have nM:=jD hG.defers;clear hG;have ZO:=g7.2;have TU:=ZO;rw[Array.getD_eq_getD_getElem?] at TU;have H7:=jD g7.1;have iV:=jD hg;go_wp2_with fail
    (with_reducible refine(AQ E9 wx).mono ?_);rintro e wq ⟨rfl,⟨hz,rfl⟩ | ⟨hz,rfl⟩⟩
    ·go_wp2;exact⟨_,rfl,hz,iV.o,⟨fun _=>br,fun h=>zd h⟩⟩
    unfold bG;go_wp2;exact⟨nM.o,kg HA.o eZ.o bU.o cK.o H7.o iV.o vQ.o (br) (r:= .error E9) (by rw[←om.o,←vP.o,if_neg hz]) rfl⟩
  ·intro af w9 hg hF;obtain⟨g0,g1,g2,g3,g4,g5,g6,g7,g8, -⟩:=hF;replace g7:aJ w9 b (Tw B wo) g t9∧(af 7)= .int .i64 E9:=g7 rfl;replace g8:E9=0:=g8 rfl;simp only[Cl3.puts,gq (af 0) g0,gq (af 1) g1,gq (af 2) g2,gq (af 3) g3,gq (af 4) g4,gq (af 5) g5,gq (af 6) g6];clear g0 g1 g2 g3 g4 g5 g6;go_simp
   generalize af 7=Z3 at*;generalize af 8=z at*;have H7:=jD g7.1;have iV:=jD hg;have HZ:=jD g8;clear hg g7 g8;go_wp2;go_ret;exact kg HA.o eZ.o bU.o cK.o H7.o iV.o vQ.o (br) (r:= .ok ⟨#[111,107]⟩) (by rw[←om.o,←vP.o,if_pos HZ.o]) rfl
theorem dbring_c (B d g0 g1:Nat) (k:Nat) (wo:World) (s:bn) (hA:eN B d wo s) (hgd:mY s) (hG:Gd B wo) (h0:wo.heap[g0]? =some (.cells #[.pointer (some ⟨d,0,none⟩)] 37 (0,0))) (h1:wo.heap[g1]? =some (.cells #[.int .i64 (k:Nat)] 3 (0,0))):
  Calls Tryz.prog 67 #[.pointer (some ⟨g0,0,none⟩), .pointer (some ⟨g1,0,none⟩)] wo (dA B d wo (onTown (fun t=>(if brE t k=0 then .ok ⟨#[111,107]⟩ else .error (brE t k),Ka t k)) s)):=by
 have fL:=jD (cq 0 h0 rfl);have dF:=jD (ai h0);have lM:=jD (cq 0 h1 rfl);have fe:=jD (ai h1);obtain⟨tv,fa,fc,us,hbk, -, -,cF⟩:=hA.open_;have HA:=jD hA;have HG:=jD hG;have pL:=jD hgd;cases htn:s.fQ with
 | none=>
  rw[htn] at cF;obtain rfl:tv= .pointer none:=cF;have eZ:=jD htn;have bU:=jD hbk;clear hA hgd hG hbk htn h0 h1;go_enter Tryz.func67,Tryz.ntmps67;go_wp2;refine uS.aV 11 rfl [] (fun _=>True) (fun _=>[]) (fun jq v ww=>match jq with | 0=>v= .pointer (some ⟨d,0,none⟩) | 1=>False | 2=>False | 3=>False | 4=>False | 6=>False | 7=>False | _=>True) (fun ww=>Below wo.heap.size wo ww) (fun jq ww aR=>Below ww.heap.size ww aR) Tryz.mixed (by decide+kernel) (br).drew trivial (fun q r v w w' _ _ _ h _=>h) (fun _ _ _ _ _ _=>trivial) ?_ ?_
  ·refine⟨?_, ?_, ?_, ?_, ?_, ?_, ?_, ?_,trivial⟩
   ·intro x wx hG;have f0:=hG.o 0;replace hG:=hG.g;have c:=ah hG fL.o;have hl:=Nat.lt_of_lt_of_le dF.o hG.size;go_wp2;exact⟨_,rfl,rfl,hG,br⟩
   ·intro x wx hG;have⟨g0,og⟩:=gs 3 (hG.c 0 _ rfl);have hg:=hG.g;have nM:=jD hG.defers;clear hG;have HN:=jD (o8 d _ wx (ag hg bU.o));go_wp2_with fail
    (with_reducible refine(HN.o).mono ?_);rintro e wq ⟨rfl,rfl⟩;unfold bG;go_wp2;exact⟨nM.o,nu HA.o eZ.o hg _⟩
   ·intro x wx hG;exact False.elim (hG.c 1 _ rfl)
   ·intro x wx hG;exact False.elim (hG.c 2 _ rfl)
   ·intro x wx hG;exact False.elim (hG.c 3 _ rfl)
   ·intro x wx hG;have f1:=hG.o 1;replace hG:=hG.g;have c:=ah hG lM.o;have hl:=Nat.lt_of_lt_of_le fe.o hG.size;go_wp2;exact⟨_,rfl,trivial,hG,br⟩
   ·intro x wx hG;exact False.elim (hG.c 4 _ rfl)
   ·intro x wx hG;exact False.elim (hG.c 6 _ rfl)
  ·intro af wx hg hF;obtain⟨g0,g1,g2,g3,g4,g5,g6,g7, -⟩:=hF;exact(g1 rfl).elim
 | some t=>
  rw[htn] at cF;obtain⟨g,b,T,rfl,hBb,cF⟩:=cF;have HT:=jD (cF.re hBb);have eZ:=jD htn;have cK:=jD hBb;have bU:=jD hbk;have pM:=jD (cq 0 hbk rfl);have tD:=jD (ai hbk);have HST:=jD (show gL t (s.n:Nat) from fun i hi=>hA.st t htn i hi);have ek:=jD (show B≤wo.heap.size from Nat.le_trans hA.ge (Nat.le_of_lt hA.lt));clear hA hgd hG hbk htn cF hBb h0 h1;obtain⟨E9,iH⟩: ∃E9,E9=brE t k:=⟨_,rfl⟩
  obtain⟨t9,mR⟩: ∃t9,t9=Ka t k:=⟨_,rfl⟩
  have vQ:=jD (show gL t9 ((s.n+1:Nat):Int) by rw[mR];exact (abR HST.o k).mono (by omega));have lI:=jD (fun (wx:World) (hp:Below wo.heap.size wo wx)=>XY g b (Tw B wo) t k wx (HT.o.below hp) (fun q hq=>Tw.new ek.o q (Nat.le_trans hp.size hq)));rw[←iH,←mR] at lI;have om:=jD iH;have vP:=jD mR;clear iH mR;go_enter Tryz.func67,Tryz.ntmps67;go_wp2;refine uS.aV 11 rfl [6] (fun w=>Below wo.heap.size wo w) (fun _=>[]) (fun jq v ww=>match jq with | 0=>v= .pointer (some ⟨d,0,none⟩) | 1=>v= .pointer (some ⟨d,0,none⟩) | 2=>v= .pointer (some ⟨d,0,none⟩) | 3=>v= .pointer (some ⟨d,0,none⟩) | 4=>v= .pointer (some ⟨g,0,none⟩) | 5=>v= .int .i64 (k:Nat) | 6=>aJ ww b (Tw B wo) g t9∧v= .int .i64 E9 | 7=>E9=0 | _=>True) (fun ww=>aB (Tw B wo) wo ww) (fun jq ww aR=>(jq≠6→Below ww.heap.size ww aR)∧(jq=6→aB (Tw B wo) ww aR)) Tryz.mixed (by decide+kernel) (aB.refl _ _).drew ((br).drew) ?_ (fun q w w' hk h hR=>aj h (hR.1 (by intro e;subst e;exact absurd hk (by decide)))) ?_ ?_
  ·intro q r v w w' hne hk hlt h hR;match r,hk,hlt,h,hne with
   | 0,_,_,h,_=>exact h
   | 1,_,_,h,_=>exact h
   | 2,_,_,h,_=>exact h
   | 3,_,_,h,_=>exact h
   | 4,_,_,h,_=>exact h
   | 5,_,_,h,_=>exact h
   | 6,hk,hlt,h,hne=>exact ⟨h.1.below (hR.1 (by exact hne)),h.2⟩
   | 7,_,_,h,_=>exact h
   | _+8,_,_,_,_=>trivial
  ·refine⟨?_, ?_, ?_, ?_, ?_, ?_, ?_, ?_,trivial⟩
   ·intro x wx hG;have f0:=hG.o 0;have hp:=hG.p 0;replace hG:=hG.g;have oP:=ah hp fL.o;have hl:=Nat.lt_of_lt_of_le dF.o hp.size;go_wp2;exact⟨_,rfl,rfl,hG,⟨fun _=>br,fun h=>zd h⟩⟩
   ·intro x wx hG;have⟨g0,og⟩:=gs 3 (hG.c 0 _ rfl);have hp:=hG.p 0;replace hG:=hG.g;have HN:=jD (o9 d g _ wx (ag hp bU.o));go_wp2_with fail
    (with_reducible refine(HN.o).mono ?_);rintro e wq ⟨rfl,rfl⟩;go_wp2;exact⟨_,rfl,rfl,hG,⟨fun _=>br,fun h=>zd h⟩⟩
   ·intro x wx hG;have⟨g1,tq⟩:=gs 4 (hG.c 1 _ rfl);replace hG:=hG.g;go_wp2;exact⟨_,rfl,rfl,hG,⟨fun _=>br,fun h=>zd h⟩⟩
   ·intro x wx hG;have⟨g2,vD⟩:=gs 5 (hG.c 2 _ rfl);replace hG:=hG.g;go_wp2;exact⟨_,rfl,rfl,hG,⟨fun _=>br,fun h=>zd h⟩⟩
   ·intro x wx hG;have⟨g3,qF⟩:=gs 6 (hG.c 3 _ rfl);have hp:=hG.p 0;replace hG:=hG.g;have AU:=ah hp pM.o;have hl:=Nat.lt_of_lt_of_le tD.o hp.size;go_wp2;exact⟨_,rfl,rfl,hG,⟨fun _=>br,fun h=>zd h⟩⟩
   ·intro x wx hG;have f1:=hG.o 1;have hp:=hG.p 0;replace hG:=hG.g;have vH:=ah hp lM.o;have hl:=Nat.lt_of_lt_of_le fe.o hp.size;go_wp2;exact⟨_,rfl,rfl,hG,⟨fun _=>br,fun h=>zd h⟩⟩
   ·intro x wx hG;have⟨g4,qE⟩:=gs 7 (hG.c 4 _ rfl);have⟨g5,sj⟩:=gs 8 (hG.c 5 _ rfl);have hp:=hG.p 0;replace hG:=hG.g;have HN:=jD (lI.o wx hp);go_wp2_with fail
    (with_reducible refine(HN.o).mono ?_);rintro e wq ⟨rfl,h1,h2⟩;have H1:=jD h1;have H2:=jD h2;clear h1 h2 HN;go_wp2;exact⟨_,rfl,⟨H1.o,rfl⟩,hG.trans H2.o,⟨fun h=>absurd rfl h,fun _=>H2.o⟩⟩
   ·intro x wx hG;have g6:aJ wx b (Tw B wo) g t9∧(x.tmps.getD 9 undef)= .int .i64 E9:=hG.c 6 _ rfl;have hg:=hG.g;have nM:=jD hG.defers;clear hG;have Qm:=g6.2;have JM:=Qm;rw[Array.getD_eq_getD_getElem?] at JM;have H7:=jD g6.1;have iV:=jD hg;go_wp2_with fail
    (with_reducible refine(AQ E9 wx).mono ?_);rintro e wq ⟨rfl,⟨hz,rfl⟩ | ⟨hz,rfl⟩⟩
    ·go_wp2;exact⟨_,rfl,hz,iV.o,⟨fun _=>br,fun h=>zd h⟩⟩
    unfold bG;go_wp2;exact⟨nM.o,kg HA.o eZ.o bU.o cK.o H7.o iV.o vQ.o (br) (r:= .error E9) (by rw[←om.o,←vP.o,if_neg hz]) rfl⟩
  ·intro af w9 hg hF;obtain⟨g0,g1,g2,g3,g4,g5,g6,g7, -⟩:=hF;replace g6:aJ w9 b (Tw B wo) g t9∧(af 6)= .int .i64 E9:=g6 rfl;replace g7:E9=0:=g7 rfl;simp only[Cl3.puts,gq (af 0) g0,gq (af 1) g1,gq (af 2) g2,gq (af 3) g3,gq (af 4) g4,gq (af 5) g5];clear g0 g1 g2 g3 g4 g5;go_simp
   generalize af 6=Z3 at*;generalize af 7=z at*;have H7:=jD g6.1;have iV:=jD hg;have HZ:=jD g7;clear hg g6 g7;go_wp2;go_ret;exact kg HA.o eZ.o bU.o cK.o H7.o iV.o vQ.o (br) (r:= .ok ⟨#[111,107]⟩) (by rw[←om.o,←vP.o,if_pos HZ.o]) rfl
theorem XO (B d g0 g1:Nat) (k:Nat) (wo:World) (s:bn) (hA:eN B d wo s) (hgd:mY s) (hG:Gd B wo) (h0:wo.heap[g0]? =some (.cells #[.pointer (some ⟨d,0,none⟩)] 37 (0,0))) (h1:wo.heap[g1]? =some (.cells #[.int .i64 (k:Nat)] 3 (0,0))):
  Calls Tryz.prog 69 #[.pointer (some ⟨g0,0,none⟩), .pointer (some ⟨g1,0,none⟩)] wo (dA B d wo (onTown (fun t=>(if lU t (k:Nat)=0 then .ok ⟨#[111,107]⟩ else .error (lU t (k:Nat)),rL t (k:Nat))) s)):=by
 have fL:=jD (cq 0 h0 rfl);have dF:=jD (ai h0);have lM:=jD (cq 0 h1 rfl);have fe:=jD (ai h1);obtain⟨tv,fa,fc,us,hbk, -, -,cF⟩:=hA.open_;have HA:=jD hA;have HG:=jD hG;have pL:=jD hgd;cases htn:s.fQ with
 | none=>
  rw[htn] at cF;obtain rfl:tv= .pointer none:=cF;have eZ:=jD htn;have bU:=jD hbk;clear hA hgd hG hbk htn h0 h1;go_enter Tryz.func69,Tryz.ntmps69;go_wp2;refine uS.aV 11 rfl [] (fun _=>True) (fun _=>[]) (fun jq v ww=>match jq with | 0=>v= .pointer (some ⟨d,0,none⟩) | 1=>False | 2=>False | 3=>False | 4=>False | 6=>False | 7=>False | _=>True) (fun ww=>Below wo.heap.size wo ww) (fun jq ww aR=>Below ww.heap.size ww aR) Tryz.mixed (by decide+kernel) (br).drew trivial (fun q r v w w' _ _ _ h _=>h) (fun _ _ _ _ _ _=>trivial) ?_ ?_
  ·refine⟨?_, ?_, ?_, ?_, ?_, ?_, ?_, ?_,trivial⟩
   ·intro x wx hG;have f0:=hG.o 0;replace hG:=hG.g;have c:=ah hG fL.o;have hl:=Nat.lt_of_lt_of_le dF.o hG.size;go_wp2;exact⟨_,rfl,rfl,hG,br⟩
   ·intro x wx hG;have⟨g0,og⟩:=gs 3 (hG.c 0 _ rfl);have hg:=hG.g;have nM:=jD hG.defers;clear hG;have HN:=jD (o8 d _ wx (ag hg bU.o));go_wp2_with fail
    (with_reducible refine(HN.o).mono ?_);rintro e wq ⟨rfl,rfl⟩;unfold bG;go_wp2;exact⟨nM.o,nu HA.o eZ.o hg _⟩
   ·intro x wx hG;exact False.elim (hG.c 1 _ rfl)
   ·intro x wx hG;exact False.elim (hG.c 2 _ rfl)
   ·intro x wx hG;exact False.elim (hG.c 3 _ rfl)
   ·intro x wx hG;have f1:=hG.o 1;replace hG:=hG.g;have c:=ah hG lM.o;have hl:=Nat.lt_of_lt_of_le fe.o hG.size;go_wp2;exact⟨_,rfl,trivial,hG,br⟩
   ·intro x wx hG;exact False.elim (hG.c 4 _ rfl)
   ·intro x wx hG;exact False.elim (hG.c 6 _ rfl)
  ·intro af wx hg hF;obtain⟨g0,g1,g2,g3,g4,g5,g6,g7, -⟩:=hF;exact(g1 rfl).elim
 | some t=>
  rw[htn] at cF;obtain⟨g,b,T,rfl,hBb,cF⟩:=cF;have HT:=jD (cF.re hBb);have eZ:=jD htn;have cK:=jD hBb;have bU:=jD hbk;have pM:=jD (cq 0 hbk rfl);have tD:=jD (ai hbk);have HST:=jD (show gL t (s.n:Nat) from fun i hi=>hA.st t htn i hi);have ek:=jD (show B≤wo.heap.size from Nat.le_trans hA.ge (Nat.le_of_lt hA.lt));clear hA hgd hG hbk htn cF hBb h0 h1;obtain⟨E9,iH⟩: ∃E9,E9=lU t (k:Nat):=⟨_,rfl⟩
  obtain⟨t9,mR⟩: ∃t9,t9=rL t (k:Nat):=⟨_,rfl⟩
  have vQ:=jD (show gL t9 ((s.n+1:Nat):Int) by rw[mR];exact (abQ HST.o (k:Nat)).mono (by omega));have lI:=jD (fun (wx:World) (hp:Below wo.heap.size wo wx)=>WG g b (Tw B wo) t (k:Nat) wx (HT.o.below hp));rw[←iH,←mR] at lI;have om:=jD iH;have vP:=jD mR;clear iH mR;go_enter Tryz.func69,Tryz.ntmps69;go_wp2;refine uS.aV 11 rfl [6] (fun w=>Below wo.heap.size wo w) (fun _=>[]) (fun jq v ww=>match jq with | 0=>v= .pointer (some ⟨d,0,none⟩) | 1=>v= .pointer (some ⟨d,0,none⟩) | 2=>v= .pointer (some ⟨d,0,none⟩) | 3=>v= .pointer (some ⟨d,0,none⟩) | 4=>v= .pointer (some ⟨g,0,none⟩) | 5=>v= .int .i64 (k:Nat) | 6=>aJ ww b (Tw B wo) g t9∧v= .int .i64 E9 | 7=>E9=0 | _=>True) (fun ww=>aB (Tw B wo) wo ww) (fun jq ww aR=>(jq≠6→Below ww.heap.size ww aR)∧(jq=6→aB (Tw B wo) ww aR)) Tryz.mixed (by decide+kernel) (aB.refl _ _).drew ((br).drew) ?_ (fun q w w' hk h hR=>aj h (hR.1 (by intro e;subst e;exact absurd hk (by decide)))) ?_ ?_
  ·intro q r v w w' hne hk hlt h hR;match r,hk,hlt,h,hne with
   | 0,_,_,h,_=>exact h
   | 1,_,_,h,_=>exact h
   | 2,_,_,h,_=>exact h
   | 3,_,_,h,_=>exact h
   | 4,_,_,h,_=>exact h
   | 5,_,_,h,_=>exact h
   | 6,hk,hlt,h,hne=>exact ⟨h.1.below (hR.1 (by exact hne)),h.2⟩
   | 7,_,_,h,_=>exact h
   | _+8,_,_,_,_=>trivial
  ·refine⟨?_, ?_, ?_, ?_, ?_, ?_, ?_, ?_,trivial⟩
   ·intro x wx hG;have f0:=hG.o 0;have hp:=hG.p 0;replace hG:=hG.g;have oP:=ah hp fL.o;have hl:=Nat.lt_of_lt_of_le dF.o hp.size;go_wp2;exact⟨_,rfl,rfl,hG,⟨fun _=>br,fun h=>zd h⟩⟩
   ·intro x wx hG;have⟨g0,og⟩:=gs 3 (hG.c 0 _ rfl);have hp:=hG.p 0;replace hG:=hG.g;have HN:=jD (o9 d g _ wx (ag hp bU.o));go_wp2_with fail
    (with_reducible refine(HN.o).mono ?_);rintro e wq ⟨rfl,rfl⟩;go_wp2;exact⟨_,rfl,rfl,hG,⟨fun _=>br,fun h=>zd h⟩⟩
   ·intro x wx hG;have⟨g1,tq⟩:=gs 4 (hG.c 1 _ rfl);replace hG:=hG.g;go_wp2;exact⟨_,rfl,rfl,hG,⟨fun _=>br,fun h=>zd h⟩⟩
   ·intro x wx hG;have⟨g2,vD⟩:=gs 5 (hG.c 2 _ rfl);replace hG:=hG.g;go_wp2;exact⟨_,rfl,rfl,hG,⟨fun _=>br,fun h=>zd h⟩⟩
   ·intro x wx hG;have⟨g3,qF⟩:=gs 6 (hG.c 3 _ rfl);have hp:=hG.p 0;replace hG:=hG.g;have AU:=ah hp pM.o;have hl:=Nat.lt_of_lt_of_le tD.o hp.size;go_wp2;exact⟨_,rfl,rfl,hG,⟨fun _=>br,fun h=>zd h⟩⟩
   ·intro x wx hG;have f1:=hG.o 1;have hp:=hG.p 0;replace hG:=hG.g;have vH:=ah hp lM.o;have hl:=Nat.lt_of_lt_of_le fe.o hp.size;go_wp2;exact⟨_,rfl,rfl,hG,⟨fun _=>br,fun h=>zd h⟩⟩
   ·intro x wx hG;have⟨g4,qE⟩:=gs 7 (hG.c 4 _ rfl);have⟨g5,sj⟩:=gs 8 (hG.c 5 _ rfl);have hp:=hG.p 0;replace hG:=hG.g;have HN:=jD (lI.o wx hp);go_wp2_with fail
    (with_reducible refine(HN.o).mono ?_);rintro e wq ⟨rfl,h1,h2⟩;have H1:=jD h1;have H2:=jD h2;clear h1 h2 HN;go_wp2;exact⟨_,rfl,⟨H1.o,rfl⟩,hG.trans H2.o,⟨fun h=>absurd rfl h,fun _=>H2.o⟩⟩
   ·intro x wx hG;have g6:aJ wx b (Tw B wo) g t9∧(x.tmps.getD 9 undef)= .int .i64 E9:=hG.c 6 _ rfl;have hg:=hG.g;have nM:=jD hG.defers;clear hG;have Qm:=g6.2;have JM:=Qm;rw[Array.getD_eq_getD_getElem?] at JM;have H7:=jD g6.1;have iV:=jD hg;go_wp2_with fail
    (with_reducible refine(AQ E9 wx).mono ?_);rintro e wq ⟨rfl,⟨hz,rfl⟩ | ⟨hz,rfl⟩⟩
    ·go_wp2;exact⟨_,rfl,hz,iV.o,⟨fun _=>br,fun h=>zd h⟩⟩
    unfold bG;go_wp2;exact⟨nM.o,kg HA.o eZ.o bU.o cK.o H7.o iV.o vQ.o (br) (r:= .error E9) (by rw[←om.o,←vP.o,if_neg hz]) rfl⟩
  ·intro af w9 hg hF;obtain⟨g0,g1,g2,g3,g4,g5,g6,g7, -⟩:=hF;replace g6:aJ w9 b (Tw B wo) g t9∧(af 6)= .int .i64 E9:=g6 rfl;replace g7:E9=0:=g7 rfl;simp only[Cl3.puts,gq (af 0) g0,gq (af 1) g1,gq (af 2) g2,gq (af 3) g3,gq (af 4) g4,gq (af 5) g5];clear g0 g1 g2 g3 g4 g5;go_simp
   generalize af 6=Z3 at*;generalize af 7=z at*;have H7:=jD g6.1;have iV:=jD hg;have HZ:=jD g7;clear hg g6 g7;go_wp2;go_ret;exact kg HA.o eZ.o bU.o cK.o H7.o iV.o vQ.o (br) (r:= .ok ⟨#[111,107]⟩) (by rw[←om.o,←vP.o,if_pos HZ.o]) rfl
theorem XC (B d g0 g1 g2:Nat) (i B2 un uc:Nat) (ua:Option Addr) (p:iT) (wo:World) (s:bn) (hA:eN B d wo s) (hgd:mY s) (hG:Gd B wo) (h0:wo.heap[g0]? =some (.cells #[.pointer (some ⟨d,0,none⟩)] 37 (0,0))) (h1:wo.heap[g1]? =some (.cells #[.int .i64 (i:Nat)] 3 (0,0))) (h2:wo.heap[g2]? =some (.cells #[.slice ua un uc] 89 (0,0))) (hf:FO wo B2 (.slice ua un uc) p):
  Calls Tryz.prog 63 #[.pointer (some ⟨g0,0,none⟩), .pointer (some ⟨g1,0,none⟩), .pointer (some ⟨g2,0,none⟩)] wo (dA B d wo (onTown (fun t=>(if sY t i=0 then .ok ⟨#[111,107]⟩ else .error (sY t i),Ir t i (clip p))) s)):=by
 have fL:=jD (cq 0 h0 rfl);have dF:=jD (ai h0);have lM:=jD (cq 0 h1 rfl);have fe:=jD (ai h1);have sK:=jD (cq 0 h2 rfl);have mH:=jD (ai h2);obtain⟨tv,fa,fc,us,hbk, -, -,cF⟩:=hA.open_;have HA:=jD hA;have HG:=jD hG;have pL:=jD hgd;have jO:=jD hf;clear hf;cases htn:s.fQ with
 | none=>
  rw[htn] at cF;obtain rfl:tv= .pointer none:=cF;have eZ:=jD htn;have bU:=jD hbk;clear hA hgd hG hbk htn h0 h1 h2;go_enter Tryz.func63,Tryz.ntmps63;go_wp2;refine uS.aV 13 rfl [] (fun _=>True) (fun _=>[]) (fun jq v ww=>match jq with | 0=>v= .pointer (some ⟨d,0,none⟩) | 1=>False | 2=>False | 3=>False | 4=>False | 7=>False | 8=>False | _=>True) (fun ww=>Below wo.heap.size wo ww) (fun jq ww aR=>Below ww.heap.size ww aR) Tryz.mixed (by decide+kernel) (br).drew trivial (fun q r v w w' _ _ _ h _=>h) (fun _ _ _ _ _ _=>trivial) ?_ ?_
  ·refine⟨?_, ?_, ?_, ?_, ?_, ?_, ?_, ?_, ?_,trivial⟩
   ·intro x wx hG;have f0:=hG.o 0;replace hG:=hG.g;have c:=ah hG fL.o;have hl:=Nat.lt_of_lt_of_le dF.o hG.size;go_wp2;exact⟨_,rfl,rfl,hG,br⟩
   ·intro x wx hG;have⟨g0,og⟩:=gs 4 (hG.c 0 _ rfl);have hg:=hG.g;have nM:=jD hG.defers;clear hG;have HN:=jD (o8 d _ wx (ag hg bU.o));go_wp2_with fail
    (with_reducible refine(HN.o).mono ?_);rintro e wq ⟨rfl,rfl⟩;unfold bG;go_wp2;exact⟨nM.o,nu HA.o eZ.o hg _⟩
   ·intro x wx hG;exact False.elim (hG.c 1 _ rfl)
   ·intro x wx hG;exact False.elim (hG.c 2 _ rfl)
   ·intro x wx hG;exact False.elim (hG.c 3 _ rfl)
   ·intro x wx hG;have f1:=hG.o 1;replace hG:=hG.g;have c:=ah hG lM.o;have hl:=Nat.lt_of_lt_of_le fe.o hG.size;go_wp2;exact⟨_,rfl,trivial,hG,br⟩
   ·intro x wx hG;have f2:=hG.o 2;replace hG:=hG.g;have c:=ah hG sK.o;have hl:=Nat.lt_of_lt_of_le mH.o hG.size;go_wp2;exact⟨_,rfl,trivial,hG,br⟩
   ·intro x wx hG;exact False.elim (hG.c 4 _ rfl)
   ·intro x wx hG;exact False.elim (hG.c 7 _ rfl)
  ·intro af wx hg hF;obtain⟨g0,g1,g2,g3,g4,g5,g6,g7,g8, -⟩:=hF;exact(g1 rfl).elim
 | some t=>
  rw[htn] at cF;obtain⟨g,b,T,rfl,hBb,cF⟩:=cF;have HT:=jD (cF.re hBb);have eZ:=jD htn;have cK:=jD hBb;have bU:=jD hbk;have pM:=jD (cq 0 hbk rfl);have tD:=jD (ai hbk);have HST:=jD (show gL t (s.n:Nat) from fun i hi=>hA.st t htn i hi);have ek:=jD (show B≤wo.heap.size from Nat.le_trans hA.ge (Nat.le_of_lt hA.lt));clear hA hgd hG hbk htn cF hBb h0 h1 h2;obtain⟨E9,iH⟩: ∃E9,E9=sY t i:=⟨_,rfl⟩
  obtain⟨t9,mR⟩: ∃t9,t9=Ir t i (clip p):=⟨_,rfl⟩
  have vQ:=jD (show gL t9 ((s.n+1:Nat):Int) by rw[mR];exact (abN HST.o i (clip p)).mono (by omega));have lI:=jD (fun (wx:World) (hp:Below wo.heap.size wo wx)=>Yb g b (Tw B wo) t i _ B2 p wx (HT.o.below hp) (FO.iL jO.o hp) (fun i hi=>by have h1:=HST.o i hi;have h2:=pL.o;unfold mY at h2;omega));rw[←iH,←mR] at lI;have om:=jD iH;have vP:=jD mR;clear iH mR;go_enter Tryz.func63,Tryz.ntmps63;go_wp2;refine uS.aV 13 rfl [7] (fun w=>Below wo.heap.size wo w) (fun _=>[]) (fun jq v ww=>match jq with | 0=>v= .pointer (some ⟨d,0,none⟩) | 1=>v= .pointer (some ⟨d,0,none⟩) | 2=>v= .pointer (some ⟨d,0,none⟩) | 3=>v= .pointer (some ⟨d,0,none⟩) | 4=>v= .pointer (some ⟨g,0,none⟩) | 5=>v= .int .i64 (i:Nat) | 6=>v= .slice ua un uc | 7=>aJ ww b (Tw B wo) g t9∧v= .int .i64 E9 | 8=>E9=0 | _=>True) (fun ww=>aB (Tw B wo) wo ww) (fun jq ww aR=>(jq≠7→Below ww.heap.size ww aR)∧(jq=7→aB (Tw B wo) ww aR)) Tryz.mixed (by decide+kernel) (aB.refl _ _).drew ((br).drew) ?_ (fun q w w' hk h hR=>aj h (hR.1 (by intro e;subst e;exact absurd hk (by decide)))) ?_ ?_
  ·intro q r v w w' hne hk hlt h hR;match r,hk,hlt,h,hne with
   | 0,_,_,h,_=>exact h
   | 1,_,_,h,_=>exact h
   | 2,_,_,h,_=>exact h
   | 3,_,_,h,_=>exact h
   | 4,_,_,h,_=>exact h
   | 5,_,_,h,_=>exact h
   | 6,_,_,h,_=>exact h
   | 7,hk,hlt,h,hne=>exact ⟨h.1.below (hR.1 (by exact hne)),h.2⟩
   | 8,_,_,h,_=>exact h
   | _+9,_,_,_,_=>trivial
  ·refine⟨?_, ?_, ?_, ?_, ?_, ?_, ?_, ?_, ?_,trivial⟩
   ·intro x wx hG;have f0:=hG.o 0;have hp:=hG.p 0;replace hG:=hG.g;have oP:=ah hp fL.o;have hl:=Nat.lt_of_lt_of_le dF.o hp.size;go_wp2;exact⟨_,rfl,rfl,hG,⟨fun _=>br,fun h=>zd h⟩⟩
   ·intro x wx hG;have⟨g0,og⟩:=gs 4 (hG.c 0 _ rfl);have hp:=hG.p 0;replace hG:=hG.g;have HN:=jD (o9 d g _ wx (ag hp bU.o));go_wp2_with fail
    (with_reducible refine(HN.o).mono ?_);rintro e wq ⟨rfl,rfl⟩;go_wp2;exact⟨_,rfl,rfl,hG,⟨fun _=>br,fun h=>zd h⟩⟩
   ·intro x wx hG;have⟨g1,tq⟩:=gs 5 (hG.c 1 _ rfl);replace hG:=hG.g;go_wp2;exact⟨_,rfl,rfl,hG,⟨fun _=>br,fun h=>zd h⟩⟩
   ·intro x wx hG;have⟨g2,vD⟩:=gs 6 (hG.c 2 _ rfl);replace hG:=hG.g;go_wp2;exact⟨_,rfl,rfl,hG,⟨fun _=>br,fun h=>zd h⟩⟩
   ·intro x wx hG;have⟨g3,qF⟩:=gs 7 (hG.c 3 _ rfl);have hp:=hG.p 0;replace hG:=hG.g;have AU:=ah hp pM.o;have hl:=Nat.lt_of_lt_of_le tD.o hp.size;go_wp2;exact⟨_,rfl,rfl,hG,⟨fun _=>br,fun h=>zd h⟩⟩
   ·intro x wx hG;have f1:=hG.o 1;have hp:=hG.p 0;replace hG:=hG.g;have vH:=ah hp lM.o;have hl:=Nat.lt_of_lt_of_le fe.o hp.size;go_wp2;exact⟨_,rfl,rfl,hG,⟨fun _=>br,fun h=>zd h⟩⟩
   ·intro x wx hG;have f2:=hG.o 2;have hp:=hG.p 0;replace hG:=hG.g;have DI:=ah hp sK.o;have hl:=Nat.lt_of_lt_of_le mH.o hp.size;go_wp2;exact⟨_,rfl,rfl,hG,⟨fun _=>br,fun h=>zd h⟩⟩
   ·intro x wx hG;have⟨g4,qE⟩:=gs 8 (hG.c 4 _ rfl);have⟨g5,sj⟩:=gs 9 (hG.c 5 _ rfl);have⟨g6,uy⟩:=gs 10 (hG.c 6 _ rfl);have hp:=hG.p 0;replace hG:=hG.g;have HN:=jD (lI.o wx hp);go_wp2_with fail
    (with_reducible refine(HN.o).mono ?_);rintro e wq ⟨rfl,h1,h2⟩;have H1:=jD h1;have H2:=jD h2;clear h1 h2 HN;go_wp2;exact⟨_,rfl,⟨H1.o,rfl⟩,hG.trans H2.o,⟨fun h=>absurd rfl h,fun _=>H2.o⟩⟩
   ·intro x wx hG;have g7:aJ wx b (Tw B wo) g t9∧(x.tmps.getD 11 undef)= .int .i64 E9:=hG.c 7 _ rfl;have hg:=hG.g;have nM:=jD hG.defers;clear hG;have ZO:=g7.2;have TU:=ZO;rw[Array.getD_eq_getD_getElem?] at TU;have H7:=jD g7.1;have iV:=jD hg;go_wp2_with fail
    (with_reducible refine(AQ E9 wx).mono ?_);rintro e wq ⟨rfl,⟨hz,rfl⟩ | ⟨hz,rfl⟩⟩
    ·go_wp2;exact⟨_,rfl,hz,iV.o,⟨fun _=>br,fun h=>zd h⟩⟩
    unfold bG;go_wp2;exact⟨nM.o,kg HA.o eZ.o bU.o cK.o H7.o iV.o vQ.o (br) (r:= .error E9) (by rw[←om.o,←vP.o,if_neg hz]) rfl⟩
  ·intro af w9 hg hF;obtain⟨g0,g1,g2,g3,g4,g5,g6,g7,g8, -⟩:=hF;replace g7:aJ w9 b (Tw B wo) g t9∧(af 7)= .int .i64 E9:=g7 rfl;replace g8:E9=0:=g8 rfl;simp only[Cl3.puts,gq (af 0) g0,gq (af 1) g1,gq (af 2) g2,gq (af 3) g3,gq (af 4) g4,gq (af 5) g5,gq (af 6) g6];clear g0 g1 g2 g3 g4 g5 g6;go_simp
   generalize af 7=Z3 at*;generalize af 8=z at*;have H7:=jD g7.1;have iV:=jD hg;have HZ:=jD g8;clear hg g7 g8;go_wp2;go_ret;exact kg HA.o eZ.o bU.o cK.o H7.o iV.o vQ.o (br) (r:= .ok ⟨#[111,107]⟩) (by rw[←om.o,←vP.o,if_pos HZ.o]) rfl
theorem dknows_c (B d g0 g1 g2 g3:Nat) (i a n z c:Nat) (wo:World) (s:bn) (hA:eN B d wo s) (hgd:mY s) (hG:Gd B wo) (h0:wo.heap[g0]? =some (.cells #[.pointer (some ⟨d,0,none⟩)] 37 (0,0))) (h1:wo.heap[g1]? =some (.cells #[.int .i64 (i:Nat)] 3 (0,0))) (h2:wo.heap[g2]? =some (.cells #[.int .i64 (a:Nat), .int .i64 (n:Nat)] 96 (0,0))) (h3:wo.heap[g3]? =some (.cells #[.int .i64 (z:Nat), .int .i64 (c:Nat)] 103 (0,0))):
  Calls Tryz.prog 75 #[.pointer (some ⟨g0,0,none⟩), .pointer (some ⟨g1,0,none⟩), .pointer (some ⟨g2,0,none⟩), .pointer (some ⟨g3,0,none⟩)] wo (dA B d wo (onTown (fun t=>(if Dk t i (a:Nat) (n:Nat) (z:Nat) (c:Nat)=0 then .ok (kL (hkB t i (a:Nat) (n:Nat) (z:Nat) (c:Nat))) else .error (Dk t i (a:Nat) (n:Nat) (z:Nat) (c:Nat)),t)) s)):=by
 have fL:=jD (cq 0 h0 rfl);have dF:=jD (ai h0);have lM:=jD (cq 0 h1 rfl);have fe:=jD (ai h1);have sK:=jD (cq 0 h2 rfl);have Wm:=jD (cq 1 h2 rfl);have mH:=jD (ai h2);have KM:=jD (cq 0 h3 rfl);have Ee:=jD (cq 1 h3 rfl);have Bp:=jD (ai h3);obtain⟨tv,fa,fc,us,hbk, -, -,cF⟩:=hA.open_;have HA:=jD hA;have HG:=jD hG;have pL:=jD hgd;cases htn:s.fQ with
 | none=>
  rw[htn] at cF;obtain rfl:tv= .pointer none:=cF;have eZ:=jD htn;have bU:=jD hbk;clear hA hgd hG hbk htn h0 h1 h2 h3;go_enter Tryz.func75,Tryz.ntmps75;go_wp2;refine uS.aV 17 rfl [] (fun _=>True) (fun _=>[]) (fun jq v ww=>match jq with | 0=>v= .pointer (some ⟨d,0,none⟩) | 1=>False | 2=>False | 3=>False | 4=>False | 8=>False | 9=>False | 10=>False | 11=>False | 12=>False | _=>True) (fun ww=>Below wo.heap.size wo ww) (fun jq ww aR=>Below ww.heap.size ww aR) Tryz.mixed (by decide+kernel) (br).drew trivial (fun q r v w w' _ _ _ h _=>h) (fun _ _ _ _ _ _=>trivial) ?_ ?_
  ·refine⟨?_, ?_, ?_, ?_, ?_, ?_, ?_, ?_, ?_, ?_, ?_, ?_, ?_,trivial⟩
   ·intro x wx hG;have f0:=hG.o 0;replace hG:=hG.g;have c:=ah hG fL.o;have hl:=Nat.lt_of_lt_of_le dF.o hG.size;go_wp2;exact⟨_,rfl,rfl,hG,br⟩
   ·intro x wx hG;have⟨g0,og⟩:=gs 5 (hG.c 0 _ rfl);have hg:=hG.g;have nM:=jD hG.defers;clear hG;have HN:=jD (o8 d _ wx (ag hg bU.o));go_wp2_with fail
    (with_reducible refine(HN.o).mono ?_);rintro e wq ⟨rfl,rfl⟩;unfold bG;go_wp2;exact⟨nM.o,nu HA.o eZ.o hg _⟩
   ·intro x wx hG;exact False.elim (hG.c 1 _ rfl)
   ·intro x wx hG;exact False.elim (hG.c 2 _ rfl)
   ·intro x wx hG;exact False.elim (hG.c 3 _ rfl)
   ·intro x wx hG;have f1:=hG.o 1;replace hG:=hG.g;have c:=ah hG lM.o;have hl:=Nat.lt_of_lt_of_le fe.o hG.size;go_wp2;exact⟨_,rfl,trivial,hG,br⟩
   ·intro x wx hG;have f2:=hG.o 2;replace hG:=hG.g;have c:=ah hG sK.o;have hl:=Nat.lt_of_lt_of_le mH.o hG.size;have c1:=ah hG Wm.o;go_wp2;exact⟨_,rfl,trivial,hG,br⟩
   ·intro x wx hG;have f3:=hG.o 3;replace hG:=hG.g;have c:=ah hG KM.o;have hl:=Nat.lt_of_lt_of_le Bp.o hG.size;have c1:=ah hG Ee.o;go_wp2;exact⟨_,rfl,trivial,hG,br⟩
   ·intro x wx hG;exact False.elim (hG.c 4 _ rfl)
   ·intro x wx hG;exact False.elim (hG.c 8 _ rfl)
   ·intro x wx hG;exact False.elim (hG.c 8 _ rfl)
   ·intro x wx hG;exact False.elim (hG.c 9 _ rfl)
   ·intro x wx hG;exact False.elim (hG.c 11 _ rfl)
  ·intro af wx hg hF;obtain⟨g0,g1,g2,g3,g4,g5,g6,g7,g8,g9,g10,g11,g12, -⟩:=hF;exact(g1 rfl).elim
 | some t=>
  rw[htn] at cF;obtain⟨g,b,T,rfl,hBb,cF⟩:=cF;have HT:=jD (cF.re hBb);have eZ:=jD htn;have cK:=jD hBb;have bU:=jD hbk;have pM:=jD (cq 0 hbk rfl);have tD:=jD (ai hbk);have HST:=jD (show gL t (s.n:Nat) from fun i hi=>hA.st t htn i hi);have ek:=jD (show B≤wo.heap.size from Nat.le_trans hA.ge (Nat.le_of_lt hA.lt));clear hA hgd hG hbk htn cF hBb h0 h1 h2 h3;obtain⟨E9,iH⟩: ∃E9,E9=Dk t i (a:Nat) (n:Nat) (z:Nat) (c:Nat):=⟨_,rfl⟩
  obtain⟨r9,Ma⟩: ∃r9,r9=hkB t i (a:Nat) (n:Nat) (z:Nat) (c:Nat):=⟨_,rfl⟩
  have lI:=jD (fun (wx:World) (hp:Below wo.heap.size wo wx)=>acn g b (Tw B wo) t i (a:Nat) (n:Nat) (z:Nat) (c:Nat) wx (HT.o.below hp));rw[←iH,←Ma] at lI;have om:=jD iH;have yx:=jD Ma;clear iH Ma;go_enter Tryz.func75,Tryz.ntmps75;go_wp2;refine uS.aV 17 rfl [] (fun _=>True) (fun _=>[]) (fun jq v ww=>match jq with | 0=>v= .pointer (some ⟨d,0,none⟩) | 1=>v= .pointer (some ⟨d,0,none⟩) | 2=>v= .pointer (some ⟨d,0,none⟩) | 3=>v= .pointer (some ⟨d,0,none⟩) | 4=>v= .pointer (some ⟨g,0,none⟩) | 5=>v= .int .i64 (i:Nat) | 6=>v= .agg #[.int .i64 (a:Nat), .int .i64 (n:Nat)] | 7=>v= .agg #[.int .i64 (z:Nat), .int .i64 (c:Nat)] | 8=>v= .tuple #[.bool r9, .int .i64 E9] | 9=>v= .bool r9 | 10=>v= .int .i64 E9 | 11=>E9=0∧v= .string (kL r9) | 12=>v= .string (kL r9) | _=>True) (fun ww=>Below wo.heap.size wo ww) (fun jq ww aR=>Below ww.heap.size ww aR) Tryz.mixed (by decide+kernel) (br).drew trivial (fun q r v w w' _ _ _ h _=>h) (fun _ _ _ _ _ _=>trivial) ?_ ?_
  ·refine⟨?_, ?_, ?_, ?_, ?_, ?_, ?_, ?_, ?_, ?_, ?_, ?_, ?_,trivial⟩
   ·intro x wx hG;have f0:=hG.o 0;replace hG:=hG.g;have oP:=ah hG fL.o;have hl:=Nat.lt_of_lt_of_le dF.o hG.size;go_wp2;exact⟨_,rfl,rfl,hG,br⟩
   ·intro x wx hG;have⟨g0,og⟩:=gs 5 (hG.c 0 _ rfl);replace hG:=hG.g;have HN:=jD (o9 d g _ wx (ag hG bU.o));go_wp2_with fail
    (with_reducible refine(HN.o).mono ?_);rintro e wq ⟨rfl,rfl⟩;go_wp2;exact⟨_,rfl,rfl,hG,br⟩
   ·intro x wx hG;have⟨g1,tq⟩:=gs 6 (hG.c 1 _ rfl);replace hG:=hG.g;go_wp2;exact⟨_,rfl,rfl,hG,br⟩
   ·intro x wx hG;have⟨g2,vD⟩:=gs 7 (hG.c 2 _ rfl);replace hG:=hG.g;go_wp2;exact⟨_,rfl,rfl,hG,br⟩
   ·intro x wx hG;have⟨g3,qF⟩:=gs 8 (hG.c 3 _ rfl);replace hG:=hG.g;have AU:=ah hG pM.o;have hl:=Nat.lt_of_lt_of_le tD.o hG.size;go_wp2;exact⟨_,rfl,rfl,hG,br⟩
   ·intro x wx hG;have f1:=hG.o 1;replace hG:=hG.g;have vH:=ah hG lM.o;have hl:=Nat.lt_of_lt_of_le fe.o hG.size;go_wp2;exact⟨_,rfl,rfl,hG,br⟩
   ·intro x wx hG;have f2:=hG.o 2;replace hG:=hG.g;have DI:=ah hG sK.o;have c_HC2_1:=ah hG Wm.o;have hl:=Nat.lt_of_lt_of_le mH.o hG.size;go_wp2;exact⟨_,rfl,rfl,hG,br⟩
   ·intro x wx hG;have f3:=hG.o 3;replace hG:=hG.g;have VO:=ah hG KM.o;have XW:=ah hG Ee.o;have hl:=Nat.lt_of_lt_of_le Bp.o hG.size;go_wp2;exact⟨_,rfl,rfl,hG,br⟩
   ·intro x wx hG;have⟨g4,qE⟩:=gs 9 (hG.c 4 _ rfl);have⟨g5,sj⟩:=gs 10 (hG.c 5 _ rfl);have⟨g6,uy⟩:=gs 11 (hG.c 6 _ rfl);have⟨g7,Gt⟩:=gs 12 (hG.c 7 _ rfl);replace hG:=hG.g;have HN:=jD (lI.o wx hG);go_wp2_with fail
    (with_reducible refine(HN.o).mono ?_);rintro e wq ⟨rfl,rZ⟩;have oK:=jD rZ;clear rZ HN;go_wp2;exact⟨_,rfl,rfl,aj hG oK.o,oK.o⟩
   ·intro x wx hG;have⟨g8,Bb⟩:=gs 13 (hG.c 8 _ rfl);replace hG:=hG.g;go_wp2;exact⟨_,rfl,rfl,hG,br⟩
   ·intro x wx hG;have⟨g8,Bb⟩:=gs 13 (hG.c 8 _ rfl);replace hG:=hG.g;go_wp2;exact⟨_,rfl,rfl,hG,br⟩
   ·intro x wx hG;have⟨g9,zy⟩:=gs 14 (hG.c 9 _ rfl);have⟨g10,xN⟩:=gs 15 (hG.c 10 _ rfl);have hg:=hG.g;have nM:=jD hG.defers;clear hG;have iV:=jD hg;go_wp2_with fail
    (with_reducible refine(abG r9 E9 wx).mono ?_);rintro e wq ⟨rfl,⟨hz,rfl⟩ | ⟨hz,rfl⟩⟩
    ·go_wp2;exact⟨_,rfl,⟨hz,rfl⟩,iV.o,br⟩
    unfold bG;go_wp2;exact⟨nM.o,uj HA.o eZ.o iV.o (r:= .error E9) (by rw[←om.o,if_neg hz]) rfl⟩
   ·intro x wx hG;have g11:E9=0∧(x.tmps.getD 16 undef)= .string (kL r9):=hG.c 11 _ rfl;replace hG:=hG.g;have afv:=g11.2;have acp:=afv;rw[Array.getD_eq_getD_getElem?] at acp;go_wp2;exact⟨_,rfl,rfl,hG,br⟩
  ·intro af w9 hg hF;obtain⟨g0,g1,g2,g3,g4,g5,g6,g7,g8,g9,g10,g11,g12, -⟩:=hF;replace g11:E9=0∧(af 11)= .string (kL r9):=g11 rfl;simp only[Cl3.puts,gq (af 0) g0,gq (af 1) g1,gq (af 2) g2,gq (af 3) g3,gq (af 4) g4,gq (af 5) g5,gq (af 6) g6,gq (af 7) g7,gq (af 8) g8,gq (af 9) g9,gq (af 10) g10,gq (af 12) g12];clear g0 g1 g2 g3 g4 g5 g6 g7 g8 g9 g10 g12;go_simp
   generalize af 11=z at*;have iV:=jD hg;have HZ:=jD g11.1;clear hg g11;go_wp2;go_ret;exact uj HA.o eZ.o iV.o (r:= .ok (kL r9)) (by rw[←om.o,←yx.o,if_pos HZ.o]) rfl
end Go.Proofs.YtajgndoiddmbmaaGreatDoor
