/- Towards what desk.Run answers. -/
import Derived.Test.YtajgndoiddmbmaaGreatDoorMDkK
namespace Go.Proofs.YtajgndoiddmbmaaGreatDoor
set_option maxRecDepth 100000
set_option maxHeartbeats 40000000
open Go.RowKit
theorem XM (g:Nat) (v:Value) (all:List ByteArray) (k:Nat) (s:ByteArray) (w:World) (h:Wd w g v all k) (hs:all[k]? =some s):
  Calls Tryz.prog 42 #[.pointer (some ⟨g,0,none⟩)] w fun e w'=>e= .returned (.string s)∧Wd w' g v all (k+1)∧Kp g bL bL w w':=by
 obtain⟨hk,rfl⟩:=List.getElem?_eq_some_iff.1 hs;exact wQ g v all k w h hk
def MW:ByteArray:=⟨#[115,105,116,101]⟩
def Iy:ByteArray:=⟨#[115,116,97,114,116]⟩
def MZ:ByteArray:=⟨#[109,97,107,101]⟩
def MV:ByteArray:=⟨#[119,97,110,116]⟩
def MX:ByteArray:=⟨#[115,101,110,100]⟩
def IB:ByteArray:=⟨#[98,114,105,110,103]⟩
def M7:ByteArray:=⟨#[108,111,115,101]⟩
def Sg:ByteArray:=⟨#[119,97,121]⟩
def Iz:ByteArray:=⟨#[115,104,101,108,102]⟩
def IA:ByteArray:=⟨#[107,110,111,119,115]⟩
def mkA (i:Nat) (id:ByteArray) (a n bd:Nat):bn→kU×bn:=onTown fun t=>(if Db t i id (a:Nat) (n:Nat) (bd:Nat)=0 then .ok (jf [(uh t i id (a:Nat) (n:Nat) (bd:Nat)).1,(uh t i id (a:Nat) (n:Nat) (bd:Nat)).2]) else .error (Db t i id (a:Nat) (n:Nat) (bd:Nat)),Jb t i id (a:Nat) (n:Nat) (bd:Nat))
def wtA (i:Nat) (p:iT):bn→kU×bn:=onTown fun t=>(if sY t i=0 then .ok ⟨#[111,107]⟩ else .error (sY t i),Ir t i (clip p))
def sdA (i k:Nat):bn→kU×bn:=onTown fun t=>(if CM t i k=0 then .ok ⟨#[111,107]⟩ else .error (CM t i k),IL t i k)
def brA (k:Nat):bn→kU×bn:=onTown fun t=>(if brE t k=0 then .ok ⟨#[111,107]⟩ else .error (brE t k),Ka t k)
def lsA (k:Nat):bn→kU×bn:=onTown fun t=>(if lU t (k:Nat)=0 then .ok ⟨#[111,107]⟩ else .error (lU t (k:Nat)),rL t (k:Nat))
def hkA (i a n z c:Nat):bn→kU×bn:=onTown fun t=>(if Dk t i (a:Nat) (n:Nat) (z:Nat) (c:Nat)=0 then .ok (kL (hkB t i (a:Nat) (n:Nat) (z:Nat) (c:Nat))) else .error (Dk t i (a:Nat) (n:Nat) (z:Nat) (c:Nat)),t)
def uB (l:List ByteArray):gA:=pFil l 1 fun p=> .act (pR p) 2
def AL (_:List ByteArray):gA:= .act pP 1
def jF (l:List ByteArray):gA:=pNum l 1 fun i=>pTxt l 2 fun id=>pNum l 3 fun a=>pNum l 4 fun n=>pNum l 5 fun bd=> .act (mkA i id a n bd) 6
def qi (l:List ByteArray):gA:=pNum l 1 fun i=>pFil l 2 fun p=> .act (wtA i p) 3
def qj (l:List ByteArray):gA:=pNum l 1 fun i=>pNum l 2 fun k=> .act (sdA i k) 3
def qY (l:List ByteArray):gA:=pNum l 1 fun k=> .act (brA k) 2
def uC (l:List ByteArray):gA:=pNum l 1 fun k=> .act (lsA k) 2
def Ih (_:List ByteArray):gA:= .act Sc 1
def qX (l:List ByteArray):gA:=pNum l 1 fun i=> .act (Pm i) 2
def iu (l:List ByteArray):gA:=pNum l 1 fun i=>pNum l 2 fun a=>pNum l 3 fun n=>pNum l 4 fun z=>pNum l 5 fun c=> .act (hkA i a n z c) 6
theorem Uk (B d g:Nat) (v:Value) (all:List ByteArray) (w:World) (h:Wd w g v all 1) (hG:Gd B w) (hB:B≤g) (hl:1≤all.length) (hsz: ∀s∈all,s.size≤65536):
  Calls Tryz.prog 29 #[.pointer (some ⟨d,0,none⟩), .string ⟨#[115,105,116,101]⟩, .pointer (some ⟨g,0,none⟩)] w (fk B d g v all w (fun u=>u) (uB all)):=by
 have pz: ∀(fn:Fn) (first cap:Array Value) (w:World),(Instr.makeFunc fn first cap).run Tryz.prog w= .ok (.func fn first cap) w:=fun _ _ _ _=>rfl;obtain⟨W,hW⟩: ∃W,W=w.alloc (.cells #[.pointer (some ⟨d,0,none⟩)] 37):=⟨_,rfl⟩
 have hbW:Below w.heap.size w W:=by rw[hW];exact aG _
 have aZ:=jD (show W.heap[w.heap.size]? =some (.cells #[.pointer (some ⟨d,0,none⟩)] 37 (0,0)) by rw[hW];exact au _ _ _ _ rfl);have aH:=jD (h.below hbW);have HG:=jD (hG.below hbW);have HK:=jD (Kp.of_below (R:=g) (v:=bL) hbW);have dY:=jD hsz;have dF:=jD hl;clear h hbW hG hl;go_enter Tryz.func29,Tryz.ntmps29;go_wp2_with fail
 rw[←hW];clear hW;have HN:=jD (sy B g v all 1 W aH.o HG.o hB dF.o dY.o);cases hx:kR all 1 with
 | none=>
  rw[hx] at HN;have cr:=jD hx;clear hx;go_wp2_with fail
  (with_reducible refine(HN.o).mono ?_);rintro e wn ⟨hkp,he⟩;obtain rfl:e=bG (filE all 1):=he;have dh:=jD (HK.o.trans hkp);clear hkp HN;unfold bG;go_wp2;refine⟨rfl, ?_⟩;rw[show uB all= .bad (filE all 1) by simp only[uB,pFil,cr.o]];exact⟨dh.o,rfl⟩
 | some p1=>
  rw[hx] at HN;have cr:=jD hx;have fe:=jD (show 2≤all.length from pH hx);clear hx;go_wp2_with fail
  (with_reducible refine(HN.o).mono ?_);rintro e w1 ⟨hkp,⟨u1,rfl,hf⟩,hwd⟩;have gF:=jD hf;obtain⟨uV,uT,uU,hu1⟩:=FO.shape hf;subst hu1;have htk:=Kp.tk (T:=KW) hkp aH.o.blk (by decide);have afY:=jD HG.o.le;have dL:=jD (HG.o.kp hkp hB (ai aH.o.blk));have dQ:=jD (HK.o.trans hkp);replace aZ:=jD (htk.blk _ _ _ aZ.o (by decide));have dW:=jD hwd;clear hkp htk hwd HN HG HK aH hf;have HG:=dL;have HK:=dQ;have aH:=dW;clear dL dQ dW;obtain⟨x1,hx1⟩: ∃x,x=(w1).alloc (.cells #[.slice uV uT uU] 89):=⟨_,rfl⟩
  have dM:Below w1.heap.size w1 x1:=by rw[hx1];exact aG _
  have mb:=jD (show x1.heap[w1.heap.size]? =some (.cells #[.slice uV uT uU] 89 (0,0)) by rw[hx1];exact au _ _ _ _ (by simp));replace aZ:=jD (ag dM aZ.o);replace gF:=jD (FO.iL gF.o dM);replace aH:=jD (aH.o.below dM);replace HG:=jD (HG.o.below dM);replace HK:=jD (HK.o.trans (Kp.of_below (R:=g) (v:=bL) dM));go_wp2;try rw[←hx1]
  go_ret;try rw[←hx1]
  rw[show uB all= .act (pR p1) 2 by simp only[uB,pFil,cr.o]];refine⟨HK.o,⟨_,_,rfl,Go.Proofs.enters_of Tryz.func56 (by kernel_rfl) rfl, ?_⟩,aH.o⟩;intro w9 s9 dw mA j0 jk;exact dsite_c B d _ _ _ _ _ _ p1 w9 s9 j0 jk mA (ag dw aZ.o) (ag dw mb.o) (FO.iL gF.o dw) afY.o
theorem Qw (B d g:Nat) (v:Value) (all:List ByteArray) (w:World) (h:Wd w g v all 1) (hG:Gd B w) (_hB:B≤g) (hl:1≤all.length) (hsz: ∀s∈all,s.size≤65536):
  Calls Tryz.prog 29 #[.pointer (some ⟨d,0,none⟩), .string ⟨#[115,116,97,114,116]⟩, .pointer (some ⟨g,0,none⟩)] w (fk B d g v all w (fun u=>u) (AL all)):=by
 have pz: ∀(fn:Fn) (first cap:Array Value) (w:World),(Instr.makeFunc fn first cap).run Tryz.prog w= .ok (.func fn first cap) w:=fun _ _ _ _=>rfl;obtain⟨W,hW⟩: ∃W,W=w.alloc (.cells #[.pointer (some ⟨d,0,none⟩)] 37):=⟨_,rfl⟩
 have hbW:Below w.heap.size w W:=by rw[hW];exact aG _
 have aZ:=jD (show W.heap[w.heap.size]? =some (.cells #[.pointer (some ⟨d,0,none⟩)] 37 (0,0)) by rw[hW];exact au _ _ _ _ rfl);have aH:=jD (h.below hbW);have HG:=jD (hG.below hbW);have HK:=jD (Kp.of_below (R:=g) (v:=bL) hbW);have dY:=jD hsz;have dF:=jD hl;clear h hbW hG hl;go_enter Tryz.func29,Tryz.ntmps29;go_wp2;go_ret;rw[←hW];rw[show AL all= .act (pP) 1 by rfl];refine⟨HK.o,⟨_,_,rfl,Go.Proofs.enters_of Tryz.func59 (by kernel_rfl) rfl, ?_⟩,aH.o⟩;intro w9 s9 dw mA j0 jk;exact Uf B d _ w9 s9 j0 jk mA (ag dw aZ.o)
theorem Un (B d g:Nat) (v:Value) (all:List ByteArray) (w:World) (h:Wd w g v all 1) (hG:Gd B w) (hB:B≤g) (hl:1≤all.length) (hsz: ∀s∈all,s.size≤65536):
  Calls Tryz.prog 29 #[.pointer (some ⟨d,0,none⟩), .string ⟨#[109,97,107,101]⟩, .pointer (some ⟨g,0,none⟩)] w (fk B d g v all w (fun u=>u) (jF all)):=by
 have pz: ∀(fn:Fn) (first cap:Array Value) (w:World),(Instr.makeFunc fn first cap).run Tryz.prog w= .ok (.func fn first cap) w:=fun _ _ _ _=>rfl;obtain⟨W,hW⟩: ∃W,W=w.alloc (.cells #[.pointer (some ⟨d,0,none⟩)] 37):=⟨_,rfl⟩
 have hbW:Below w.heap.size w W:=by rw[hW];exact aG _
 have aZ:=jD (show W.heap[w.heap.size]? =some (.cells #[.pointer (some ⟨d,0,none⟩)] 37 (0,0)) by rw[hW];exact au _ _ _ _ rfl);have aH:=jD (h.below hbW);have HG:=jD (hG.below hbW);have HK:=jD (Kp.of_below (R:=g) (v:=bL) hbW);have dY:=jD hsz;have dF:=jD hl;clear h hbW hG hl;go_enter Tryz.func29,Tryz.ntmps29;go_wp2_with fail
 rw[←hW];clear hW;have HN:=jD (iI B g v all 1 W aH.o HG.o hB dF.o dY.o);cases hx:iX all 1 with
 | none=>
  rw[hx] at HN;have cr:=jD hx;clear hx;go_wp2_with fail
  (with_reducible refine(HN.o).mono ?_);rintro e wn ⟨hkp,he⟩;obtain rfl:e=bG (9):=he;have dh:=jD (HK.o.trans hkp);clear hkp HN;unfold bG;go_wp2;refine⟨rfl, ?_⟩;rw[show jF all= .bad (9) by simp only[jF,pNum,cr.o]];exact⟨dh.o,rfl⟩
 | some n1=>
  rw[hx] at HN;have cr:=jD hx;have fe:=jD (show 2≤all.length from gf hx);clear hx;go_wp2_with fail
  (with_reducible refine(HN.o).mono ?_);rintro e w1 ⟨hkp,⟨u1,rfl,hu⟩,hwd⟩;subst hu;have htk:=Kp.tk (T:=KW) hkp aH.o.blk (by decide);have dL:=jD (HG.o.kp hkp hB (ai aH.o.blk));have dQ:=jD (HK.o.trans hkp);replace aZ:=jD (htk.blk _ _ _ aZ.o (by decide));have dW:=jD hwd;clear hkp htk hwd HN HG HK aH;have HG:=dL;have HK:=dQ;have aH:=dW;clear dL dQ dW;cases hx:all[2]? with
  | none=>
   have gQ:=jD hx;have hle:all.length≤2:=List.getElem?_eq_none_iff.1 hx;have hkl:2=all.length:=by have:=fe.o;omega
   have HN:=jD (AO g v all w1 (by have h9:Wd w1 g v all 2:=aH.o;rw [hkl] at h9;exact h9));clear hx hle hkl;go_wp2_with fail
   (with_reducible refine(HN.o).mono ?_);rintro e wn ⟨rfl,hkp⟩;have dh:=jD (HK.o.trans hkp);clear hkp HN;unfold bG;go_wp2;refine⟨rfl, ?_⟩;rw[show jF all= .bad 9 by simp only[jF,pNum,pTxt,cr.o,gQ.o]];exact⟨dh.o,rfl⟩
  | some s2=>
   have gQ:=jD hx;have mH:=jD (show 3≤all.length from(List.getElem?_eq_some_iff.1 hx).1);have HN:=jD (XM g v all 2 s2 w1 aH.o hx);clear hx;go_wp2_with fail
   (with_reducible refine(HN.o).mono ?_);rintro e w2 ⟨rfl,hwd,hkp⟩;have htk:=Kp.tk (T:=KW) hkp aH.o.blk (by decide);have HG2:=jD (HG.o.kp hkp hB (ai aH.o.blk));have cS:=jD (HK.o.trans hkp);replace aZ:=jD (htk.blk _ _ _ aZ.o (by decide));have iM:=jD hwd;clear hkp htk hwd HN HG HK aH;have HG:=HG2;have HK:=cS;have aH:=iM;clear HG2 cS iM;have HN:=jD (iI B g v all 3 w2 aH.o HG.o hB mH.o dY.o);cases hx:iX all 3 with
   | none=>
    rw[hx] at HN;have sG:=jD hx;clear hx;go_wp2_with fail
    (with_reducible refine(HN.o).mono ?_);rintro e wn ⟨hkp,he⟩;obtain rfl:e=bG (9):=he;have dh:=jD (HK.o.trans hkp);clear hkp HN;unfold bG;go_wp2;refine⟨rfl, ?_⟩;rw[show jF all= .bad (9) by simp only[jF,pNum,pTxt,pNum,cr.o,gQ.o,sG.o]];exact⟨dh.o,rfl⟩
   | some n3=>
    rw[hx] at HN;have sG:=jD hx;have Bp:=jD (show 4≤all.length from gf hx);clear hx;go_wp2_with fail
    (with_reducible refine(HN.o).mono ?_);rintro e w3 ⟨hkp,⟨u3,rfl,hu⟩,hwd⟩;subst hu;have htk:=Kp.tk (T:=KW) hkp aH.o.blk (by decide);have kZ:=jD (HG.o.kp hkp hB (ai aH.o.blk));have kX:=jD (HK.o.trans hkp);replace aZ:=jD (htk.blk _ _ _ aZ.o (by decide));have sW:=jD hwd;clear hkp htk hwd HN HG HK aH;have HG:=kZ;have HK:=kX;have aH:=sW;clear kZ kX sW;have HN:=jD (iI B g v all 4 w3 aH.o HG.o hB Bp.o dY.o);cases hx:iX all 4 with
    | none=>
     rw[hx] at HN;have vO:=jD hx;clear hx;go_wp2_with fail
     (with_reducible refine(HN.o).mono ?_);rintro e wn ⟨hkp,he⟩;obtain rfl:e=bG (9):=he;have dh:=jD (HK.o.trans hkp);clear hkp HN;unfold bG;go_wp2;refine⟨rfl, ?_⟩;rw[show jF all= .bad (9) by simp only[jF,pNum,pTxt,pNum,pNum,cr.o,gQ.o,sG.o,vO.o]];exact⟨dh.o,rfl⟩
    | some n4=>
     rw[hx] at HN;have vO:=jD hx;have ML:=jD (show 5≤all.length from gf hx);clear hx;go_wp2_with fail
     (with_reducible refine(HN.o).mono ?_);rintro e w4 ⟨hkp,⟨u4,rfl,hu⟩,hwd⟩;subst hu;have htk:=Kp.tk (T:=KW) hkp aH.o.blk (by decide);have tF:=jD (HG.o.kp hkp hB (ai aH.o.blk));have lJ:=jD (HK.o.trans hkp);replace aZ:=jD (htk.blk _ _ _ aZ.o (by decide));have Cx:=jD hwd;clear hkp htk hwd HN HG HK aH;have HG:=tF;have HK:=lJ;have aH:=Cx;clear tF lJ Cx;have HN:=jD (iI B g v all 5 w4 aH.o HG.o hB ML.o dY.o);cases hx:iX all 5 with
     | none=>
      rw[hx] at HN;have Kl:=jD hx;clear hx;go_wp2_with fail
      (with_reducible refine(HN.o).mono ?_);rintro e wn ⟨hkp,he⟩;obtain rfl:e=bG (9):=he;have dh:=jD (HK.o.trans hkp);clear hkp HN;unfold bG;go_wp2;refine⟨rfl, ?_⟩;rw[show jF all= .bad (9) by simp only[jF,pNum,pTxt,pNum,pNum,pNum,cr.o,gQ.o,sG.o,vO.o,Kl.o]];exact⟨dh.o,rfl⟩
     | some n5=>
      rw[hx] at HN;have Kl:=jD hx;have Eb:=jD (show 6≤all.length from gf hx);clear hx;go_wp2_with fail
      (with_reducible refine(HN.o).mono ?_);rintro e w5 ⟨hkp,⟨u5,rfl,hu⟩,hwd⟩;subst hu;have htk:=Kp.tk (T:=KW) hkp aH.o.blk (by decide);have uO:=jD (HG.o.kp hkp hB (ai aH.o.blk));have vT:=jD (HK.o.trans hkp);replace aZ:=jD (htk.blk _ _ _ aZ.o (by decide));have Km:=jD hwd;clear hkp htk hwd HN HG HK aH;have HG:=uO;have HK:=vT;have aH:=Km;clear uO vT Km;obtain⟨x5,uk⟩: ∃x,x=((((w5).alloc (.cells #[.int .i64 (n1:Nat)] 3)).alloc (.cells #[.string s2] 9)).alloc (.cells #[.int .i64 (n3:Nat), .int .i64 (n4:Nat)] 96)).alloc (.cells #[.int .i64 (n5:Nat)] 3):=⟨_,rfl⟩
      have xJ:Below w5.heap.size w5 x5:=by rw[uk];exact (((aG _).alloc (by simp) _).alloc (by simp;omega) _).alloc (by simp;omega) _
      have xZ:=jD (show x5.heap[w5.heap.size]? =some (.cells #[.int .i64 (n1:Nat)] 3 (0,0)) by rw[uk];exact aO _ (aO _ (aO _ (au _ _ _ _ (by simp)))));have acV:=jD (show x5.heap[w5.heap.size+1]? =some (.cells #[.string s2] 9 (0,0)) by rw[uk];exact aO _ (aO _ (au _ _ _ _ (by simp))));have Eg:=jD (show x5.heap[w5.heap.size+2]? =some (.cells #[.int .i64 (n3:Nat), .int .i64 (n4:Nat)] 96 (0,0)) by rw[uk];exact aO _ (au _ _ _ _ (by simp)));have acW:=jD (show x5.heap[w5.heap.size+3]? =some (.cells #[.int .i64 (n5:Nat)] 3 (0,0)) by rw[uk];exact au _ _ _ _ (by simp));replace aZ:=jD (ag xJ aZ.o);replace aH:=jD (aH.o.below xJ);replace HG:=jD (HG.o.below xJ);replace HK:=jD (HK.o.trans (Kp.of_below (R:=g) (v:=bL) xJ));go_wp2;try rw[←uk]
      go_ret;try rw[←uk]
      rw[show jF all= .act (mkA n1 s2 n3 n4 n5) 6 by simp only[jF,pNum,pTxt,pNum,pNum,pNum,cr.o,gQ.o,sG.o,vO.o,Kl.o]];refine⟨HK.o,⟨_,_,rfl,Go.Proofs.enters_of Tryz.func60 (by kernel_rfl) rfl, ?_⟩,aH.o⟩;intro w9 s9 dw mA j0 jk;exact dmake_c B d _ _ _ _ _ n1 n3 n4 n5 s2 w9 s9 j0 jk mA (ag dw aZ.o) (ag dw xZ.o) (ag dw acV.o) (ag dw Eg.o) (ag dw acW.o)
theorem Uj (B d g:Nat) (v:Value) (all:List ByteArray) (w:World) (h:Wd w g v all 1) (hG:Gd B w) (hB:B≤g) (hl:1≤all.length) (hsz: ∀s∈all,s.size≤65536):
  Calls Tryz.prog 29 #[.pointer (some ⟨d,0,none⟩), .string ⟨#[119,97,110,116]⟩, .pointer (some ⟨g,0,none⟩)] w (fk B d g v all w (fun u=>u) (qi all)):=by
 have pz: ∀(fn:Fn) (first cap:Array Value) (w:World),(Instr.makeFunc fn first cap).run Tryz.prog w= .ok (.func fn first cap) w:=fun _ _ _ _=>rfl;obtain⟨W,hW⟩: ∃W,W=w.alloc (.cells #[.pointer (some ⟨d,0,none⟩)] 37):=⟨_,rfl⟩
 have hbW:Below w.heap.size w W:=by rw[hW];exact aG _
 have aZ:=jD (show W.heap[w.heap.size]? =some (.cells #[.pointer (some ⟨d,0,none⟩)] 37 (0,0)) by rw[hW];exact au _ _ _ _ rfl);have aH:=jD (h.below hbW);have HG:=jD (hG.below hbW);have HK:=jD (Kp.of_below (R:=g) (v:=bL) hbW);have dY:=jD hsz;have dF:=jD hl;clear h hbW hG hl;go_enter Tryz.func29,Tryz.ntmps29;go_wp2_with fail
 rw[←hW];clear hW;have HN:=jD (iI B g v all 1 W aH.o HG.o hB dF.o dY.o);cases hx:iX all 1 with
 | none=>
  rw[hx] at HN;have cr:=jD hx;clear hx;go_wp2_with fail
  (with_reducible refine(HN.o).mono ?_);rintro e wn ⟨hkp,he⟩;obtain rfl:e=bG (9):=he;have dh:=jD (HK.o.trans hkp);clear hkp HN;unfold bG;go_wp2;refine⟨rfl, ?_⟩;rw[show qi all= .bad (9) by simp only[qi,pNum,cr.o]];exact⟨dh.o,rfl⟩
 | some n1=>
  rw[hx] at HN;have cr:=jD hx;have fe:=jD (show 2≤all.length from gf hx);clear hx;go_wp2_with fail
  (with_reducible refine(HN.o).mono ?_);rintro e w1 ⟨hkp,⟨u1,rfl,hu⟩,hwd⟩;subst hu;have htk:=Kp.tk (T:=KW) hkp aH.o.blk (by decide);have dL:=jD (HG.o.kp hkp hB (ai aH.o.blk));have dQ:=jD (HK.o.trans hkp);replace aZ:=jD (htk.blk _ _ _ aZ.o (by decide));have dW:=jD hwd;clear hkp htk hwd HN HG HK aH;have HG:=dL;have HK:=dQ;have aH:=dW;clear dL dQ dW;have HN:=jD (sy B g v all 2 w1 aH.o HG.o hB fe.o dY.o);cases hx:kR all 2 with
  | none=>
   rw[hx] at HN;have gQ:=jD hx;clear hx;go_wp2_with fail
   (with_reducible refine(HN.o).mono ?_);rintro e wn ⟨hkp,he⟩;obtain rfl:e=bG (filE all 2):=he;have dh:=jD (HK.o.trans hkp);clear hkp HN;unfold bG;go_wp2;refine⟨rfl, ?_⟩;rw[show qi all= .bad (filE all 2) by simp only[qi,pNum,pFil,cr.o,gQ.o]];exact⟨dh.o,rfl⟩
  | some p2=>
   rw[hx] at HN;have gQ:=jD hx;have mH:=jD (show 3≤all.length from pH hx);clear hx;go_wp2_with fail
   (with_reducible refine(HN.o).mono ?_);rintro e w2 ⟨hkp,⟨u2,rfl,hf⟩,hwd⟩;have oh:=jD hf;obtain⟨FD,Fz,FC,hu2⟩:=FO.shape hf;subst hu2;have htk:=Kp.tk (T:=KW) hkp aH.o.blk (by decide);have Cy:=jD HG.o.le;have HG2:=jD (HG.o.kp hkp hB (ai aH.o.blk));have cS:=jD (HK.o.trans hkp);replace aZ:=jD (htk.blk _ _ _ aZ.o (by decide));have iM:=jD hwd;clear hkp htk hwd HN HG HK aH hf;have HG:=HG2;have HK:=cS;have aH:=iM;clear HG2 cS iM;obtain⟨x2,hx2⟩: ∃x,x=((w2).alloc (.cells #[.int .i64 (n1:Nat)] 3)).alloc (.cells #[.slice FD Fz FC] 89):=⟨_,rfl⟩
   have gU:Below w2.heap.size w2 x2:=by rw[hx2];exact (aG _).alloc (by simp) _
   have xZ:=jD (show x2.heap[w2.heap.size]? =some (.cells #[.int .i64 (n1:Nat)] 3 (0,0)) by rw[hx2];exact aO _ (au _ _ _ _ (by simp)));have mb:=jD (show x2.heap[w2.heap.size+1]? =some (.cells #[.slice FD Fz FC] 89 (0,0)) by rw[hx2];exact au _ _ _ _ (by simp));replace aZ:=jD (ag gU aZ.o);replace oh:=jD (FO.iL oh.o gU);replace aH:=jD (aH.o.below gU);replace HG:=jD (HG.o.below gU);replace HK:=jD (HK.o.trans (Kp.of_below (R:=g) (v:=bL) gU));go_wp2;try rw[←hx2]
   go_ret;try rw[←hx2]
   rw[show qi all= .act (wtA n1 p2) 3 by simp only[qi,pNum,pFil,cr.o,gQ.o]];refine⟨HK.o,⟨_,_,rfl,Go.Proofs.enters_of Tryz.func63 (by kernel_rfl) rfl, ?_⟩,aH.o⟩;intro w9 s9 dw mA j0 jk;exact XC B d _ _ _ n1 _ _ _ _ p2 w9 s9 j0 jk mA (ag dw aZ.o) (ag dw xZ.o) (ag dw mb.o) (FO.iL oh.o dw)
theorem Ul (B d g:Nat) (v:Value) (all:List ByteArray) (w:World) (h:Wd w g v all 1) (hG:Gd B w) (hB:B≤g) (hl:1≤all.length) (hsz: ∀s∈all,s.size≤65536):
  Calls Tryz.prog 29 #[.pointer (some ⟨d,0,none⟩), .string ⟨#[115,101,110,100]⟩, .pointer (some ⟨g,0,none⟩)] w (fk B d g v all w (fun u=>u) (qj all)):=by
 have pz: ∀(fn:Fn) (first cap:Array Value) (w:World),(Instr.makeFunc fn first cap).run Tryz.prog w= .ok (.func fn first cap) w:=fun _ _ _ _=>rfl;obtain⟨W,hW⟩: ∃W,W=w.alloc (.cells #[.pointer (some ⟨d,0,none⟩)] 37):=⟨_,rfl⟩
 have hbW:Below w.heap.size w W:=by rw[hW];exact aG _
 have aZ:=jD (show W.heap[w.heap.size]? =some (.cells #[.pointer (some ⟨d,0,none⟩)] 37 (0,0)) by rw[hW];exact au _ _ _ _ rfl);have aH:=jD (h.below hbW);have HG:=jD (hG.below hbW);have HK:=jD (Kp.of_below (R:=g) (v:=bL) hbW);have dY:=jD hsz;have dF:=jD hl;clear h hbW hG hl;go_enter Tryz.func29,Tryz.ntmps29;go_wp2_with fail
 rw[←hW];clear hW;have HN:=jD (iI B g v all 1 W aH.o HG.o hB dF.o dY.o);cases hx:iX all 1 with
 | none=>
  rw[hx] at HN;have cr:=jD hx;clear hx;go_wp2_with fail
  (with_reducible refine(HN.o).mono ?_);rintro e wn ⟨hkp,he⟩;obtain rfl:e=bG (9):=he;have dh:=jD (HK.o.trans hkp);clear hkp HN;unfold bG;go_wp2;refine⟨rfl, ?_⟩;rw[show qj all= .bad (9) by simp only[qj,pNum,cr.o]];exact⟨dh.o,rfl⟩
 | some n1=>
  rw[hx] at HN;have cr:=jD hx;have fe:=jD (show 2≤all.length from gf hx);clear hx;go_wp2_with fail
  (with_reducible refine(HN.o).mono ?_);rintro e w1 ⟨hkp,⟨u1,rfl,hu⟩,hwd⟩;subst hu;have htk:=Kp.tk (T:=KW) hkp aH.o.blk (by decide);have dL:=jD (HG.o.kp hkp hB (ai aH.o.blk));have dQ:=jD (HK.o.trans hkp);replace aZ:=jD (htk.blk _ _ _ aZ.o (by decide));have dW:=jD hwd;clear hkp htk hwd HN HG HK aH;have HG:=dL;have HK:=dQ;have aH:=dW;clear dL dQ dW;have HN:=jD (iI B g v all 2 w1 aH.o HG.o hB fe.o dY.o);cases hx:iX all 2 with
  | none=>
   rw[hx] at HN;have gQ:=jD hx;clear hx;go_wp2_with fail
   (with_reducible refine(HN.o).mono ?_);rintro e wn ⟨hkp,he⟩;obtain rfl:e=bG (9):=he;have dh:=jD (HK.o.trans hkp);clear hkp HN;unfold bG;go_wp2;refine⟨rfl, ?_⟩;rw[show qj all= .bad (9) by simp only[qj,pNum,pNum,cr.o,gQ.o]];exact⟨dh.o,rfl⟩
  | some n2=>
   rw[hx] at HN;have gQ:=jD hx;have mH:=jD (show 3≤all.length from gf hx);clear hx;go_wp2_with fail
   (with_reducible refine(HN.o).mono ?_);rintro e w2 ⟨hkp,⟨u2,rfl,hu⟩,hwd⟩;subst hu;have htk:=Kp.tk (T:=KW) hkp aH.o.blk (by decide);have HG2:=jD (HG.o.kp hkp hB (ai aH.o.blk));have cS:=jD (HK.o.trans hkp);replace aZ:=jD (htk.blk _ _ _ aZ.o (by decide));have iM:=jD hwd;clear hkp htk hwd HN HG HK aH;have HG:=HG2;have HK:=cS;have aH:=iM;clear HG2 cS iM;obtain⟨x2,hx2⟩: ∃x,x=((w2).alloc (.cells #[.int .i64 (n1:Nat)] 3)).alloc (.cells #[.int .i64 (n2:Nat)] 3):=⟨_,rfl⟩
   have gU:Below w2.heap.size w2 x2:=by rw[hx2];exact (aG _).alloc (by simp) _
   have xZ:=jD (show x2.heap[w2.heap.size]? =some (.cells #[.int .i64 (n1:Nat)] 3 (0,0)) by rw[hx2];exact aO _ (au _ _ _ _ (by simp)));have KO:=jD (show x2.heap[w2.heap.size+1]? =some (.cells #[.int .i64 (n2:Nat)] 3 (0,0)) by rw[hx2];exact au _ _ _ _ (by simp));replace aZ:=jD (ag gU aZ.o);replace aH:=jD (aH.o.below gU);replace HG:=jD (HG.o.below gU);replace HK:=jD (HK.o.trans (Kp.of_below (R:=g) (v:=bL) gU));go_wp2;try rw[←hx2]
   go_ret;try rw[←hx2]
   rw[show qj all= .act (sdA n1 n2) 3 by simp only[qj,pNum,pNum,cr.o,gQ.o]];refine⟨HK.o,⟨_,_,rfl,Go.Proofs.enters_of Tryz.func65 (by kernel_rfl) rfl, ?_⟩,aH.o⟩;intro w9 s9 dw mA j0 jk;exact dsend_c B d _ _ _ n1 n2 w9 s9 j0 jk mA (ag dw aZ.o) (ag dw xZ.o) (ag dw KO.o)
theorem Qz (B d g:Nat) (v:Value) (all:List ByteArray) (w:World) (h:Wd w g v all 1) (hG:Gd B w) (hB:B≤g) (hl:1≤all.length) (hsz: ∀s∈all,s.size≤65536):
  Calls Tryz.prog 29 #[.pointer (some ⟨d,0,none⟩), .string ⟨#[98,114,105,110,103]⟩, .pointer (some ⟨g,0,none⟩)] w (fk B d g v all w (fun u=>u) (qY all)):=by
 have pz: ∀(fn:Fn) (first cap:Array Value) (w:World),(Instr.makeFunc fn first cap).run Tryz.prog w= .ok (.func fn first cap) w:=fun _ _ _ _=>rfl;obtain⟨W,hW⟩: ∃W,W=w.alloc (.cells #[.pointer (some ⟨d,0,none⟩)] 37):=⟨_,rfl⟩
 have hbW:Below w.heap.size w W:=by rw[hW];exact aG _
 have aZ:=jD (show W.heap[w.heap.size]? =some (.cells #[.pointer (some ⟨d,0,none⟩)] 37 (0,0)) by rw[hW];exact au _ _ _ _ rfl);have aH:=jD (h.below hbW);have HG:=jD (hG.below hbW);have HK:=jD (Kp.of_below (R:=g) (v:=bL) hbW);have dY:=jD hsz;have dF:=jD hl;clear h hbW hG hl;go_enter Tryz.func29,Tryz.ntmps29;go_wp2_with fail
 rw[←hW];clear hW;have HN:=jD (iI B g v all 1 W aH.o HG.o hB dF.o dY.o);cases hx:iX all 1 with
 | none=>
  rw[hx] at HN;have cr:=jD hx;clear hx;go_wp2_with fail
  (with_reducible refine(HN.o).mono ?_);rintro e wn ⟨hkp,he⟩;obtain rfl:e=bG (9):=he;have dh:=jD (HK.o.trans hkp);clear hkp HN;unfold bG;go_wp2;refine⟨rfl, ?_⟩;rw[show qY all= .bad (9) by simp only[qY,pNum,cr.o]];exact⟨dh.o,rfl⟩
 | some n1=>
  rw[hx] at HN;have cr:=jD hx;have fe:=jD (show 2≤all.length from gf hx);clear hx;go_wp2_with fail
  (with_reducible refine(HN.o).mono ?_);rintro e w1 ⟨hkp,⟨u1,rfl,hu⟩,hwd⟩;subst hu;have htk:=Kp.tk (T:=KW) hkp aH.o.blk (by decide);have dL:=jD (HG.o.kp hkp hB (ai aH.o.blk));have dQ:=jD (HK.o.trans hkp);replace aZ:=jD (htk.blk _ _ _ aZ.o (by decide));have dW:=jD hwd;clear hkp htk hwd HN HG HK aH;have HG:=dL;have HK:=dQ;have aH:=dW;clear dL dQ dW;obtain⟨x1,hx1⟩: ∃x,x=(w1).alloc (.cells #[.int .i64 (n1:Nat)] 3):=⟨_,rfl⟩
  have dM:Below w1.heap.size w1 x1:=by rw[hx1];exact aG _
  have KO:=jD (show x1.heap[w1.heap.size]? =some (.cells #[.int .i64 (n1:Nat)] 3 (0,0)) by rw[hx1];exact au _ _ _ _ (by simp));replace aZ:=jD (ag dM aZ.o);replace aH:=jD (aH.o.below dM);replace HG:=jD (HG.o.below dM);replace HK:=jD (HK.o.trans (Kp.of_below (R:=g) (v:=bL) dM));go_wp2;try rw[←hx1]
  go_ret;try rw[←hx1]
  rw[show qY all= .act (brA n1) 2 by simp only[qY,pNum,cr.o]];refine⟨HK.o,⟨_,_,rfl,Go.Proofs.enters_of Tryz.func67 (by kernel_rfl) rfl, ?_⟩,aH.o⟩;intro w9 s9 dw mA j0 jk;exact dbring_c B d _ _ n1 w9 s9 j0 jk mA (ag dw aZ.o) (ag dw KO.o)
theorem Uo (B d g:Nat) (v:Value) (all:List ByteArray) (w:World) (h:Wd w g v all 1) (hG:Gd B w) (hB:B≤g) (hl:1≤all.length) (hsz: ∀s∈all,s.size≤65536):
  Calls Tryz.prog 29 #[.pointer (some ⟨d,0,none⟩), .string ⟨#[108,111,115,101]⟩, .pointer (some ⟨g,0,none⟩)] w (fk B d g v all w (fun u=>u) (uC all)):=by
 have pz: ∀(fn:Fn) (first cap:Array Value) (w:World),(Instr.makeFunc fn first cap).run Tryz.prog w= .ok (.func fn first cap) w:=fun _ _ _ _=>rfl;obtain⟨W,hW⟩: ∃W,W=w.alloc (.cells #[.pointer (some ⟨d,0,none⟩)] 37):=⟨_,rfl⟩
 have hbW:Below w.heap.size w W:=by rw[hW];exact aG _
 have aZ:=jD (show W.heap[w.heap.size]? =some (.cells #[.pointer (some ⟨d,0,none⟩)] 37 (0,0)) by rw[hW];exact au _ _ _ _ rfl);have aH:=jD (h.below hbW);have HG:=jD (hG.below hbW);have HK:=jD (Kp.of_below (R:=g) (v:=bL) hbW);have dY:=jD hsz;have dF:=jD hl;clear h hbW hG hl;go_enter Tryz.func29,Tryz.ntmps29;go_wp2_with fail
 rw[←hW];clear hW;have HN:=jD (iI B g v all 1 W aH.o HG.o hB dF.o dY.o);cases hx:iX all 1 with
 | none=>
  rw[hx] at HN;have cr:=jD hx;clear hx;go_wp2_with fail
  (with_reducible refine(HN.o).mono ?_);rintro e wn ⟨hkp,he⟩;obtain rfl:e=bG (9):=he;have dh:=jD (HK.o.trans hkp);clear hkp HN;unfold bG;go_wp2;refine⟨rfl, ?_⟩;rw[show uC all= .bad (9) by simp only[uC,pNum,cr.o]];exact⟨dh.o,rfl⟩
 | some n1=>
  rw[hx] at HN;have cr:=jD hx;have fe:=jD (show 2≤all.length from gf hx);clear hx;go_wp2_with fail
  (with_reducible refine(HN.o).mono ?_);rintro e w1 ⟨hkp,⟨u1,rfl,hu⟩,hwd⟩;subst hu;have htk:=Kp.tk (T:=KW) hkp aH.o.blk (by decide);have dL:=jD (HG.o.kp hkp hB (ai aH.o.blk));have dQ:=jD (HK.o.trans hkp);replace aZ:=jD (htk.blk _ _ _ aZ.o (by decide));have dW:=jD hwd;clear hkp htk hwd HN HG HK aH;have HG:=dL;have HK:=dQ;have aH:=dW;clear dL dQ dW;obtain⟨x1,hx1⟩: ∃x,x=(w1).alloc (.cells #[.int .i64 (n1:Nat)] 3):=⟨_,rfl⟩
  have dM:Below w1.heap.size w1 x1:=by rw[hx1];exact aG _
  have KO:=jD (show x1.heap[w1.heap.size]? =some (.cells #[.int .i64 (n1:Nat)] 3 (0,0)) by rw[hx1];exact au _ _ _ _ (by simp));replace aZ:=jD (ag dM aZ.o);replace aH:=jD (aH.o.below dM);replace HG:=jD (HG.o.below dM);replace HK:=jD (HK.o.trans (Kp.of_below (R:=g) (v:=bL) dM));go_wp2;try rw[←hx1]
  go_ret;try rw[←hx1]
  rw[show uC all= .act (lsA n1) 2 by simp only[uC,pNum,cr.o]];refine⟨HK.o,⟨_,_,rfl,Go.Proofs.enters_of Tryz.func69 (by kernel_rfl) rfl, ?_⟩,aH.o⟩;intro w9 s9 dw mA j0 jk;exact XO B d _ _ n1 w9 s9 j0 jk mA (ag dw aZ.o) (ag dw KO.o)
theorem XP (B d g:Nat) (v:Value) (all:List ByteArray) (w:World) (h:Wd w g v all 1) (hG:Gd B w) (_hB:B≤g) (hl:1≤all.length) (hsz: ∀s∈all,s.size≤65536):
  Calls Tryz.prog 29 #[.pointer (some ⟨d,0,none⟩), .string ⟨#[119,97,121]⟩, .pointer (some ⟨g,0,none⟩)] w (fk B d g v all w (fun u=>u) (Ih all)):=by
 have pz: ∀(fn:Fn) (first cap:Array Value) (w:World),(Instr.makeFunc fn first cap).run Tryz.prog w= .ok (.func fn first cap) w:=fun _ _ _ _=>rfl;obtain⟨W,hW⟩: ∃W,W=w.alloc (.cells #[.pointer (some ⟨d,0,none⟩)] 37):=⟨_,rfl⟩
 have hbW:Below w.heap.size w W:=by rw[hW];exact aG _
 have aZ:=jD (show W.heap[w.heap.size]? =some (.cells #[.pointer (some ⟨d,0,none⟩)] 37 (0,0)) by rw[hW];exact au _ _ _ _ rfl);have aH:=jD (h.below hbW);have HG:=jD (hG.below hbW);have HK:=jD (Kp.of_below (R:=g) (v:=bL) hbW);have dY:=jD hsz;have dF:=jD hl;clear h hbW hG hl;go_enter Tryz.func29,Tryz.ntmps29;go_wp2;go_ret;rw[←hW];rw[show Ih all= .act (Sc) 1 by rfl];refine⟨HK.o,⟨_,_,rfl,Go.Proofs.enters_of Tryz.func71 (by kernel_rfl) rfl, ?_⟩,aH.o⟩;intro w9 s9 dw mA j0 jk;exact ZV B d _ w9 s9 j0 jk mA (ag dw aZ.o)
theorem Qx (B d g:Nat) (v:Value) (all:List ByteArray) (w:World) (h:Wd w g v all 1) (hG:Gd B w) (hB:B≤g) (hl:1≤all.length) (hsz: ∀s∈all,s.size≤65536):
  Calls Tryz.prog 29 #[.pointer (some ⟨d,0,none⟩), .string ⟨#[115,104,101,108,102]⟩, .pointer (some ⟨g,0,none⟩)] w (fk B d g v all w (fun u=>u) (qX all)):=by
 have pz: ∀(fn:Fn) (first cap:Array Value) (w:World),(Instr.makeFunc fn first cap).run Tryz.prog w= .ok (.func fn first cap) w:=fun _ _ _ _=>rfl;obtain⟨W,hW⟩: ∃W,W=w.alloc (.cells #[.pointer (some ⟨d,0,none⟩)] 37):=⟨_,rfl⟩
 have hbW:Below w.heap.size w W:=by rw[hW];exact aG _
 have aZ:=jD (show W.heap[w.heap.size]? =some (.cells #[.pointer (some ⟨d,0,none⟩)] 37 (0,0)) by rw[hW];exact au _ _ _ _ rfl);have aH:=jD (h.below hbW);have HG:=jD (hG.below hbW);have HK:=jD (Kp.of_below (R:=g) (v:=bL) hbW);have dY:=jD hsz;have dF:=jD hl;clear h hbW hG hl;go_enter Tryz.func29,Tryz.ntmps29;go_wp2_with fail
 rw[←hW];clear hW;have HN:=jD (iI B g v all 1 W aH.o HG.o hB dF.o dY.o);cases hx:iX all 1 with
 | none=>
  rw[hx] at HN;have cr:=jD hx;clear hx;go_wp2_with fail
  (with_reducible refine(HN.o).mono ?_);rintro e wn ⟨hkp,he⟩;obtain rfl:e=bG (9):=he;have dh:=jD (HK.o.trans hkp);clear hkp HN;unfold bG;go_wp2;refine⟨rfl, ?_⟩;rw[show qX all= .bad (9) by simp only[qX,pNum,cr.o]];exact⟨dh.o,rfl⟩
 | some n1=>
  rw[hx] at HN;have cr:=jD hx;have fe:=jD (show 2≤all.length from gf hx);clear hx;go_wp2_with fail
  (with_reducible refine(HN.o).mono ?_);rintro e w1 ⟨hkp,⟨u1,rfl,hu⟩,hwd⟩;subst hu;have htk:=Kp.tk (T:=KW) hkp aH.o.blk (by decide);have dL:=jD (HG.o.kp hkp hB (ai aH.o.blk));have dQ:=jD (HK.o.trans hkp);replace aZ:=jD (htk.blk _ _ _ aZ.o (by decide));have dW:=jD hwd;clear hkp htk hwd HN HG HK aH;have HG:=dL;have HK:=dQ;have aH:=dW;clear dL dQ dW;obtain⟨x1,hx1⟩: ∃x,x=(w1).alloc (.cells #[.int .i64 (n1:Nat)] 3):=⟨_,rfl⟩
  have dM:Below w1.heap.size w1 x1:=by rw[hx1];exact aG _
  have xZ:=jD (show x1.heap[w1.heap.size]? =some (.cells #[.int .i64 (n1:Nat)] 3 (0,0)) by rw[hx1];exact au _ _ _ _ (by simp));replace aZ:=jD (ag dM aZ.o);replace aH:=jD (aH.o.below dM);replace HG:=jD (HG.o.below dM);replace HK:=jD (HK.o.trans (Kp.of_below (R:=g) (v:=bL) dM));go_wp2;try rw[←hx1]
  go_ret;try rw[←hx1]
  rw[show qX all= .act (Pm n1) 2 by simp only[qX,pNum,cr.o]];refine⟨HK.o,⟨_,_,rfl,Go.Proofs.enters_of Tryz.func73 (by kernel_rfl) rfl, ?_⟩,aH.o⟩;intro w9 s9 dw mA j0 jk;exact dshelf_c B d _ _ n1 w9 s9 j0 jk mA (ag dw aZ.o) (ag dw xZ.o)
theorem Qy (B d g:Nat) (v:Value) (all:List ByteArray) (w:World) (h:Wd w g v all 1) (hG:Gd B w) (hB:B≤g) (hl:1≤all.length) (hsz: ∀s∈all,s.size≤65536):
  Calls Tryz.prog 29 #[.pointer (some ⟨d,0,none⟩), .string ⟨#[107,110,111,119,115]⟩, .pointer (some ⟨g,0,none⟩)] w (fk B d g v all w (fun u=>u) (iu all)):=by
 have pz: ∀(fn:Fn) (first cap:Array Value) (w:World),(Instr.makeFunc fn first cap).run Tryz.prog w= .ok (.func fn first cap) w:=fun _ _ _ _=>rfl;obtain⟨W,hW⟩: ∃W,W=w.alloc (.cells #[.pointer (some ⟨d,0,none⟩)] 37):=⟨_,rfl⟩
 have hbW:Below w.heap.size w W:=by rw[hW];exact aG _
 have aZ:=jD (show W.heap[w.heap.size]? =some (.cells #[.pointer (some ⟨d,0,none⟩)] 37 (0,0)) by rw[hW];exact au _ _ _ _ rfl);have aH:=jD (h.below hbW);have HG:=jD (hG.below hbW);have HK:=jD (Kp.of_below (R:=g) (v:=bL) hbW);have dY:=jD hsz;have dF:=jD hl;clear h hbW hG hl;go_enter Tryz.func29,Tryz.ntmps29;go_wp2_with fail
 rw[←hW];clear hW;have HN:=jD (iI B g v all 1 W aH.o HG.o hB dF.o dY.o);cases hx:iX all 1 with
 | none=>
  rw[hx] at HN;have cr:=jD hx;clear hx;go_wp2_with fail
  (with_reducible refine(HN.o).mono ?_);rintro e wn ⟨hkp,he⟩;obtain rfl:e=bG (9):=he;have dh:=jD (HK.o.trans hkp);clear hkp HN;unfold bG;go_wp2;refine⟨rfl, ?_⟩;rw[show iu all= .bad (9) by simp only[iu,pNum,cr.o]];exact⟨dh.o,rfl⟩
 | some n1=>
  rw[hx] at HN;have cr:=jD hx;have fe:=jD (show 2≤all.length from gf hx);clear hx;go_wp2_with fail
  (with_reducible refine(HN.o).mono ?_);rintro e w1 ⟨hkp,⟨u1,rfl,hu⟩,hwd⟩;subst hu;have htk:=Kp.tk (T:=KW) hkp aH.o.blk (by decide);have dL:=jD (HG.o.kp hkp hB (ai aH.o.blk));have dQ:=jD (HK.o.trans hkp);replace aZ:=jD (htk.blk _ _ _ aZ.o (by decide));have dW:=jD hwd;clear hkp htk hwd HN HG HK aH;have HG:=dL;have HK:=dQ;have aH:=dW;clear dL dQ dW;have HN:=jD (iI B g v all 2 w1 aH.o HG.o hB fe.o dY.o);cases hx:iX all 2 with
  | none=>
   rw[hx] at HN;have gQ:=jD hx;clear hx;go_wp2_with fail
   (with_reducible refine(HN.o).mono ?_);rintro e wn ⟨hkp,he⟩;obtain rfl:e=bG (9):=he;have dh:=jD (HK.o.trans hkp);clear hkp HN;unfold bG;go_wp2;refine⟨rfl, ?_⟩;rw[show iu all= .bad (9) by simp only[iu,pNum,pNum,cr.o,gQ.o]];exact⟨dh.o,rfl⟩
  | some n2=>
   rw[hx] at HN;have gQ:=jD hx;have mH:=jD (show 3≤all.length from gf hx);clear hx;go_wp2_with fail
   (with_reducible refine(HN.o).mono ?_);rintro e w2 ⟨hkp,⟨u2,rfl,hu⟩,hwd⟩;subst hu;have htk:=Kp.tk (T:=KW) hkp aH.o.blk (by decide);have HG2:=jD (HG.o.kp hkp hB (ai aH.o.blk));have cS:=jD (HK.o.trans hkp);replace aZ:=jD (htk.blk _ _ _ aZ.o (by decide));have iM:=jD hwd;clear hkp htk hwd HN HG HK aH;have HG:=HG2;have HK:=cS;have aH:=iM;clear HG2 cS iM;have HN:=jD (iI B g v all 3 w2 aH.o HG.o hB mH.o dY.o);cases hx:iX all 3 with
   | none=>
    rw[hx] at HN;have sG:=jD hx;clear hx;go_wp2_with fail
    (with_reducible refine(HN.o).mono ?_);rintro e wn ⟨hkp,he⟩;obtain rfl:e=bG (9):=he;have dh:=jD (HK.o.trans hkp);clear hkp HN;unfold bG;go_wp2;refine⟨rfl, ?_⟩;rw[show iu all= .bad (9) by simp only[iu,pNum,pNum,pNum,cr.o,gQ.o,sG.o]];exact⟨dh.o,rfl⟩
   | some n3=>
    rw[hx] at HN;have sG:=jD hx;have Bp:=jD (show 4≤all.length from gf hx);clear hx;go_wp2_with fail
    (with_reducible refine(HN.o).mono ?_);rintro e w3 ⟨hkp,⟨u3,rfl,hu⟩,hwd⟩;subst hu;have htk:=Kp.tk (T:=KW) hkp aH.o.blk (by decide);have kZ:=jD (HG.o.kp hkp hB (ai aH.o.blk));have kX:=jD (HK.o.trans hkp);replace aZ:=jD (htk.blk _ _ _ aZ.o (by decide));have sW:=jD hwd;clear hkp htk hwd HN HG HK aH;have HG:=kZ;have HK:=kX;have aH:=sW;clear kZ kX sW;have HN:=jD (iI B g v all 4 w3 aH.o HG.o hB Bp.o dY.o);cases hx:iX all 4 with
    | none=>
     rw[hx] at HN;have vO:=jD hx;clear hx;go_wp2_with fail
     (with_reducible refine(HN.o).mono ?_);rintro e wn ⟨hkp,he⟩;obtain rfl:e=bG (9):=he;have dh:=jD (HK.o.trans hkp);clear hkp HN;unfold bG;go_wp2;refine⟨rfl, ?_⟩;rw[show iu all= .bad (9) by simp only[iu,pNum,pNum,pNum,pNum,cr.o,gQ.o,sG.o,vO.o]];exact⟨dh.o,rfl⟩
    | some n4=>
     rw[hx] at HN;have vO:=jD hx;have ML:=jD (show 5≤all.length from gf hx);clear hx;go_wp2_with fail
     (with_reducible refine(HN.o).mono ?_);rintro e w4 ⟨hkp,⟨u4,rfl,hu⟩,hwd⟩;subst hu;have htk:=Kp.tk (T:=KW) hkp aH.o.blk (by decide);have tF:=jD (HG.o.kp hkp hB (ai aH.o.blk));have lJ:=jD (HK.o.trans hkp);replace aZ:=jD (htk.blk _ _ _ aZ.o (by decide));have Cx:=jD hwd;clear hkp htk hwd HN HG HK aH;have HG:=tF;have HK:=lJ;have aH:=Cx;clear tF lJ Cx;have HN:=jD (iI B g v all 5 w4 aH.o HG.o hB ML.o dY.o);cases hx:iX all 5 with
     | none=>
      rw[hx] at HN;have Kl:=jD hx;clear hx;go_wp2_with fail
      (with_reducible refine(HN.o).mono ?_);rintro e wn ⟨hkp,he⟩;obtain rfl:e=bG (9):=he;have dh:=jD (HK.o.trans hkp);clear hkp HN;unfold bG;go_wp2;refine⟨rfl, ?_⟩;rw[show iu all= .bad (9) by simp only[iu,pNum,pNum,pNum,pNum,pNum,cr.o,gQ.o,sG.o,vO.o,Kl.o]];exact⟨dh.o,rfl⟩
     | some n5=>
      rw[hx] at HN;have Kl:=jD hx;have Eb:=jD (show 6≤all.length from gf hx);clear hx;go_wp2_with fail
      (with_reducible refine(HN.o).mono ?_);rintro e w5 ⟨hkp,⟨u5,rfl,hu⟩,hwd⟩;subst hu;have htk:=Kp.tk (T:=KW) hkp aH.o.blk (by decide);have uO:=jD (HG.o.kp hkp hB (ai aH.o.blk));have vT:=jD (HK.o.trans hkp);replace aZ:=jD (htk.blk _ _ _ aZ.o (by decide));have Km:=jD hwd;clear hkp htk hwd HN HG HK aH;have HG:=uO;have HK:=vT;have aH:=Km;clear uO vT Km;obtain⟨x5,uk⟩: ∃x,x=(((w5).alloc (.cells #[.int .i64 (n1:Nat)] 3)).alloc (.cells #[.int .i64 (n2:Nat), .int .i64 (n3:Nat)] 96)).alloc (.cells #[.int .i64 (n4:Nat), .int .i64 (n5:Nat)] 103):=⟨_,rfl⟩
      have xJ:Below w5.heap.size w5 x5:=by rw[uk];exact ((aG _).alloc (by simp) _).alloc (by simp;omega) _
      have xZ:=jD (show x5.heap[w5.heap.size]? =some (.cells #[.int .i64 (n1:Nat)] 3 (0,0)) by rw[uk];exact aO _ (aO _ (au _ _ _ _ (by simp))));have Eg:=jD (show x5.heap[w5.heap.size+1]? =some (.cells #[.int .i64 (n2:Nat), .int .i64 (n3:Nat)] 96 (0,0)) by rw[uk];exact aO _ (au _ _ _ _ (by simp)));have afS:=jD (show x5.heap[w5.heap.size+2]? =some (.cells #[.int .i64 (n4:Nat), .int .i64 (n5:Nat)] 103 (0,0)) by rw[uk];exact au _ _ _ _ (by simp));replace aZ:=jD (ag xJ aZ.o);replace aH:=jD (aH.o.below xJ);replace HG:=jD (HG.o.below xJ);replace HK:=jD (HK.o.trans (Kp.of_below (R:=g) (v:=bL) xJ));go_wp2;try rw[←uk]
      go_ret;try rw[←uk]
      rw[show iu all= .act (hkA n1 n2 n3 n4 n5) 6 by simp only[iu,pNum,pNum,pNum,pNum,pNum,cr.o,gQ.o,sG.o,vO.o,Kl.o]];refine⟨HK.o,⟨_,_,rfl,Go.Proofs.enters_of Tryz.func75 (by kernel_rfl) rfl, ?_⟩,aH.o⟩;intro w9 s9 dw mA j0 jk;exact dknows_c B d _ _ _ _ n1 n2 n3 n4 n5 w9 s9 j0 jk mA (ag dw aZ.o) (ag dw xZ.o) (ag dw Eg.o) (ag dw afS.o)
theorem Um (d g:Nat) (wd:ByteArray) (w:World) (h1:wd≠MW) (h2:wd≠Iy) (h3:wd≠MZ) (h4:wd≠MV) (h5:wd≠MX) (h6:wd≠IB) (h7:wd≠M7) (h8:wd≠Sg) (h9:wd≠Iz) (h10:wd≠IA):
  Calls Tryz.prog 29 #[.pointer (some ⟨d,0,none⟩), .string wd, .pointer (some ⟨g,0,none⟩)] w fun e w'=>e=bG 9∧Below w.heap.size w w':=by
 have q1:=qz (L:=[115,105,116,101]) h1;have q2:=qz (L:=[115,116,97,114,116]) h2;have q3:=qz (L:=[109,97,107,101]) h3;have q4:=qz (L:=[119,97,110,116]) h4;have q5:=qz (L:=[115,101,110,100]) h5;have q6:=qz (L:=[98,114,105,110,103]) h6;have q7:=qz (L:=[108,111,115,101]) h7;have q8:=qz (L:=[119,97,121]) h8;have q9:=qz (L:=[115,104,101,108,102]) h9;have q10:=qz (L:=[107,110,111,119,115]) h10;clear h1 h2 h3 h4 h5 h6 h7 h8 h9 h10;go_enter Tryz.func29,Tryz.ntmps29;go_wp2_with fail
 refine(mB 9 _).mono ?_;rintro e w1 ⟨rfl,rfl⟩;unfold bG;go_wp2;exact⟨rfl,rfl,aG _⟩
def kF (l:List ByteArray):gA:=
 let wd:=l.headD emp
 if wd=MW then uB l else if wd=Iy then AL l else if wd=MZ then jF l else if wd=MV then qi l else if wd=MX then qj l else if wd=IB then qY l else if wd=M7 then uC l else if wd=Sg then Ih l else if wd=Iz then qX l else if wd=IA then iu l else .bad 9
theorem acr (B d g:Nat) (v:Value) (wd:ByteArray) (tl:List ByteArray) (w:World) (h:Wd w g v (wd::tl) 1) (hG:Gd B w) (hB:B≤g) (hsz: ∀s∈wd::tl,s.size≤65536):
  Calls Tryz.prog 29 #[.pointer (some ⟨d,0,none⟩), .string wd, .pointer (some ⟨g,0,none⟩)] w (fk B d g v (wd::tl) w (fun u=>u) (kF (wd::tl))):=by
 have hl:1≤(wd::tl).length:=by simp
 have hh:(wd::tl).headD emp=wd:=rfl;by_cases h1:wd=MW
 ·rw[show kF (wd::tl)=uB (wd::tl) by simp only[kF,hh];rw [if_pos h1]];have:=Uk B d g v (wd::tl) w h hG hB hl hsz;subst h1;exact this
 by_cases h2:wd=Iy
 ·rw[show kF (wd::tl)=AL (wd::tl) by simp only[kF,hh];rw [if_neg h1,if_pos h2]];have:=Qw B d g v (wd::tl) w h hG hB hl hsz;subst h2;exact this
 by_cases h3:wd=MZ
 ·rw[show kF (wd::tl)=jF (wd::tl) by simp only[kF,hh];rw [if_neg h1,if_neg h2,if_pos h3]];have:=Un B d g v (wd::tl) w h hG hB hl hsz;subst h3;exact this
 by_cases h4:wd=MV
 ·rw[show kF (wd::tl)=qi (wd::tl) by simp only[kF,hh];rw [if_neg h1,if_neg h2,if_neg h3,if_pos h4]];have:=Uj B d g v (wd::tl) w h hG hB hl hsz;subst h4;exact this
 by_cases h5:wd=MX
 ·rw[show kF (wd::tl)=qj (wd::tl) by simp only[kF,hh];rw [if_neg h1,if_neg h2,if_neg h3,if_neg h4,if_pos h5]];have:=Ul B d g v (wd::tl) w h hG hB hl hsz;subst h5;exact this
 by_cases h6:wd=IB
 ·rw[show kF (wd::tl)=qY (wd::tl) by simp only[kF,hh];rw [if_neg h1,if_neg h2,if_neg h3,if_neg h4,if_neg h5,if_pos h6]];have:=Qz B d g v (wd::tl) w h hG hB hl hsz;subst h6;exact this
 by_cases h7:wd=M7
 ·rw[show kF (wd::tl)=uC (wd::tl) by simp only[kF,hh];rw [if_neg h1,if_neg h2,if_neg h3,if_neg h4,if_neg h5,if_neg h6,if_pos h7]];have:=Uo B d g v (wd::tl) w h hG hB hl hsz;subst h7;exact this
 by_cases h8:wd=Sg
 ·rw[show kF (wd::tl)=Ih (wd::tl) by simp only[kF,hh];rw [if_neg h1,if_neg h2,if_neg h3,if_neg h4,if_neg h5,if_neg h6,if_neg h7,if_pos h8]];have:=XP B d g v (wd::tl) w h hG hB hl hsz;subst h8;exact this
 by_cases h9:wd=Iz
 ·rw[show kF (wd::tl)=qX (wd::tl) by simp only[kF,hh];rw [if_neg h1,if_neg h2,if_neg h3,if_neg h4,if_neg h5,if_neg h6,if_neg h7,if_neg h8,if_pos h9]];have:=Qx B d g v (wd::tl) w h hG hB hl hsz;subst h9;exact this
 by_cases h10:wd=IA
 ·rw[show kF (wd::tl)=iu (wd::tl) by simp only[kF,hh];rw [if_neg h1,if_neg h2,if_neg h3,if_neg h4,if_neg h5,if_neg h6,if_neg h7,if_neg h8,if_neg h9,if_pos h10]];have:=Qy B d g v (wd::tl) w h hG hB hl hsz;subst h10;exact this
 rw[show kF (wd::tl)= .bad 9 by simp only[kF,hh];rw [if_neg h1,if_neg h2,if_neg h3,if_neg h4,if_neg h5,if_neg h6,if_neg h7,if_neg h8,if_neg h9,if_neg h10]];refine(Um d g wd w h1 h2 h3 h4 h5 h6 h7 h8 h9 h10).mono ?_;rintro e w' ⟨rfl,hb⟩;exact⟨Kp.of_below hb,rfl⟩
end Go.Proofs.YtajgndoiddmbmaaGreatDoor
