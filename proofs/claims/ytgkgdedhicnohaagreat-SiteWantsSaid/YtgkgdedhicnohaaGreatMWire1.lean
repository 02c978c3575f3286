/- What a writer of bytes does: numbers as three bytes each. What a writer of bytes does: texts, sets of dots. Batches: what wire.Check does. A batch's bytes. No program in sight. -/
import Derived.Lib.AppendStr
import Derived.Test.YtgkgdedhicnohaaGreatMPart1
namespace Go.Proofs.YtgkgdedhicnohaaGreat
set_option maxRecDepth 100000
set_option maxHeartbeats 40000000
open Go.RowKit
def byteC (out:List UInt8):List Value:=out.map fun b=> .int .u8 b.toNat
theorem byteC_len (out:List UInt8):(byteC out).length=out.length:=by simp[byteC]
theorem byteC_app (a b:List UInt8):byteC (a++b)=byteC a++byteC b:=by simp[byteC]
theorem byteC_str (s:ByteArray):byteC s.data.toList=Lib.strCells s:=rfl
def b3 (n:Int):List UInt8:=[UInt8.ofNat (n / 65536%256).toNat,UInt8.ofNat (n / 256%256).toNat,UInt8.ofNat (n%256).toNat]
def nums (l:List Int):List UInt8:=l.flatMap b3
theorem nums_len (l:List Int):(nums l).length=3*l.length:=by
 induction l with
 | nil=>rfl
 | cons a l ih=>unfold nums at*;rw [List.flatMap_cons,List.length_append,ih,List.length_cons];simp [b3];omega
theorem nums_take {l:List Int} {k:Nat} (h:k < l.length):nums (l.take (k+1))=nums (l.take k)++b3 l[k]:=by
 unfold nums
 rw[List.take_succ_eq_append_getElem h,List.flatMap_append];simp
theorem byteC_one (out:List UInt8): ∀u∈byteC out,u.oneCell'=true:=by
 intro u hu;simp only[byteC,List.mem_map] at hu;obtain ⟨b, -,rfl⟩:=hu;rfl
theorem b3_cells (x:Int):byteC (b3 x)=[.int .u8 (x / 65536%256), .int .u8 (x / 256%256), .int .u8 (x%256)]:=by
 have h: ∀y:Int,((UInt8.ofNat (y%256).toNat).toNat:Int)=y%256:=fun y=>by
  rw[UInt8.toNat_ofNat'];omega
 unfold byteC b3
 simp only[List.map_cons,List.map_nil,h]
theorem ByteTy.info:(Tryz.prog.info? 5).map (fun i=>(i.zero,i.size,i.bytes))=some (some (.int .u8 0),1,1):=by kernel_rfl
structure WKeep (w w':World):Prop where
 size:w.heap.size≤w'.heap.size
 blk: ∀(g:Nat) (cs:Array Value) (t:TypeId) (r:Nat×Nat),w.heap[g]? =some (Obj.cells cs t r)→t≠207→t≠5→w'.heap[g]? =some (Obj.cells cs t r)
theorem WKeep.refl (w:World):WKeep w w:=⟨Nat.le_refl _,fun _ _ _ _ h _ _=>h⟩
theorem WKeep.trans {a b c:World} (h:WKeep a b) (k:WKeep b c):WKeep a c:=⟨Nat.le_trans h.size k.size,fun g cs t r h1 h2 h3=>k.blk g cs t r (h.blk g cs t r h1 h2 h3) h2 h3⟩
theorem WKeep.of_below {w w':World} (h:Below w.heap.size w w'):WKeep w w':=⟨h.size,fun _ _ _ _ h1 _ _=>below_keep h h1⟩
structure WrSt (base B:Nat) (out:List UInt8) (w:World):Prop where
 hB:base≤B
 st: ∃v,w.heap[B]? =some (Obj.cells #[v] 207 (0,0))∧w.ownsRow base 5 1 v out.length (byteC out)
theorem WrSt.size {base B:Nat} {out:List UInt8} {w:World} (h:WrSt base B out w):base≤w.heap.size:=by
 obtain⟨v,h1, -⟩:=h.st;exact Nat.le_trans h.hB (Nat.le_of_lt (hlt_of h1))
theorem WrSt.below {base B:Nat} {out:List UInt8} {w w':World} (h:WrSt base B out w) (hb:Below w.heap.size w w'):WrSt base B out w':=by
 obtain⟨v,h1,h2⟩:=h.st;exact ⟨h.hB,v,below_keep hb h1,owns_below h2 hb⟩
theorem WrSt.store {base B:Nat} {out out':List UInt8} {w w':World} {v v':Value} (hB:base≤B) (h1:w.heap[B]? =some (Obj.cells #[v] 207 (0,0))) (h2:w.ownsRow base 5 1 v out.length (byteC out))
  (h3:w'.ownsRow base 5 1 v' out'.length (byteC out')) (hg:w.grownBy w' v.ownBlock):WrSt base B out' (w'.setCell ⟨B,0,none⟩ v')∧Below base w (w'.setCell ⟨B,0,none⟩ v')∧WKeep w (w'.setCell ⟨B,0,none⟩ v'):=by
 have hbs:base≤w.heap.size:=Nat.le_trans hB (Nat.le_of_lt (hlt_of h1))
 have hB':w'.heap[B]? =some (Obj.cells #[v] 207 (0,0)):=grown_keep h2 hg h1 (by decide)
 refine⟨⟨hB,v',heap_set_same hB',own_set h3 hB' (by decide)⟩, ?_, ?_⟩
 ·exact((Below.refl base w).grown hg hbs fun k hk=>(h2.lt k hk).1).setCell hB v'
 ·refine⟨Nat.le_trans hg.size (by simp[World.setCell]),fun g cs t r hk n1 n2=> ?_⟩
  have e1:=grown_keep h2 hg hk n2
  rw[heap_set_other (fun e=> ?_)]
  ·exact e1
  ·subst e;rw [hB'] at e1;simp only[Option.some.injEq,Obj.cells.injEq] at e1;exact n1 e1.2.1.symm
def Stay (base:Nat) (w:World) (v:Value) (n:Nat) (cs:List Value):Prop:= ∀w',Below base w w'→WKeep w w'→CellsAt w' v n cs
theorem wnums_c (base B:Nat) (lv:Value) (l:List Int) (out:List UInt8) (w:World) (hs:WrSt base B out w) (hl:Stay base w lv l.length (intsC l)) (hn:out.length+3*l.length≤1000000000):
  Calls Tryz.prog 136 #[.pointer (some ⟨B,0,none⟩),lv] w fun e w'=>e= .returned (.tuple #[])∧WrSt base B (out++nums l) w'∧Below base w w'∧WKeep w w':=by
 obtain⟨a,cap,rfl, -⟩:=hl w (Below.refl _ _) (WKeep.refl _)
 have HL:=jD hl
 have HS:=jD hs
 clear hl hs
 go_enter Tryz.func136,Tryz.ntmps136
 go_wp2
 go_loopw [8] (fun i wr=> ∃k:Nat,k≤l.length∧i= .int .i64 k∧WrSt base B (out++nums (l.take k)) wr∧Below base w wr∧WKeep w wr) (fun i _=>l.length - (intOf i).toNat)
 case atStart=>exact ⟨0,Nat.zero_le _,rfl,by simpa[nums] using HS.out,Below.refl _ _,WKeep.refl _⟩
 case round=>
  clear HS
  obtain⟨k,hk,rfl,hs,hb,hkp⟩:=hrel
  by_cases hlt:k < l.length
  ·have HT:=jD (nums_take hlt)
   have HN:=jD (nums_len (l.take k))
   have hcl:=HL.out wr hb hkp
   obtain⟨a',cap',ha', -, -, -,hc⟩:=hcl
   simp only[Value.slice.injEq,true_and] at ha'
   obtain⟨ha',rfl⟩:=ha'
   rcases hc with hnil | ⟨b,off,rfl,hbo,hc⟩
   ·have:=congrArg List.length hnil;simp [intsC] at this;rw [this] at hlt;simp at hlt
   subst ha'
   have c1:=hc k (.int .i64 l[k]) (by simp[intsC,hlt])
   obtain⟨v,hv,hrow⟩:=hs.st
   have c0:=cell_of_block (j:=0) hv rfl
   have HV:=jD hv
   have HR:=jD hrow
   have HB:=jD hb
   have HK:=jD hkp
   have HS:=jD hs
   clear hc hv hrow hb hkp hs
   generalize l[k]=x at*
   obtain⟨W,hW⟩: ∃W,W=wr.alloc (.cells #[.int .u8 (x / 65536%256), .int .u8 (x / 256%256), .int .u8 (x%256)] 5):=⟨_,rfl⟩
   have hbW:Below wr.heap.size wr W:=by rw[hW];exact bal _
   have HLC:=jD (show CellsAt W (.slice (some ⟨wr.heap.size,0,none⟩) 3 3) 3 (byteC (b3 x)) by
    rw[hW,b3_cells]
    exact CellsAt.of_owns (litOwn wr 0 1 5 #[.int .u8 (x / 65536%256), .int .u8 (x / 256%256), .int .u8 (x%256)] 3 _ rfl (Nat.zero_le _) (by decide) rfl) (by decide))
   have HRW:=jD (owns_below HR.out hbW)
   have HVW:=jD (below_keep hbW HV.out)
   have HSZ:=jD (Nat.le_trans HS.out.size hbW.size)
   have c0W:=cell_of_block (j:=0) HVW.out rfl
   have hvl:=hlt_of HVW.out
   have HBW:=jD hbW
   rw[hW] at c0W hvl
   have HWW:=jD hW
   clear hbW hW
   go_wp2_with (at_builtin;rw [←HWW.out];refine wpList_append_cells2 rfl (.tmp 16) (.tmp 25) 205 rfl base 5 (.int .u8 0) 1 1 Tryz.underlying205 ByteTy.info rfl (by decide) v _ _ rfl HRW.out (.slice (some ⟨wr.heap.size,0,none⟩) 3 3) 3 (byteC (b3 x)) rfl HLC.out (by rw[byteC_len];rfl) (byteC_one _) HSZ.out (by unfold maxLen;have:=HN.out;rw [List.length_append,this,List.length_take];omega) (by have:=HN.out;rw [List.length_append,this,List.length_take];omega) ?_)
   intro v' w' hown' hg'
   rw[←byteC_app] at hown'
   obtain⟨va,vc,rfl⟩:=owns_slice hown'
   have hst:=WrSt.store HS.out.hB HVW.out HRW.out (out':=out++nums (l.take k)++b3 x) (by rw[List.length_append,List.length_append];exact hown') hg'
   rw[List.append_assoc,←HT.out] at hst
   have HST:=jD hst
   have hvl2:=hlt_of (grown_keep HRW.out hg' HVW.out (by decide))
   have c0':=cell_of_block (j:=0) (grown_keep HRW.out hg' HVW.out (by decide)) rfl
   have hfz:=free_of_block (j:=0) (grown_keep HRW.out hg' HVW.out (by decide))
   clear hst hown' hg' c0W hvl
   go_wp2
   go_roundw
   case rel=>exact ⟨k+1,by omega,by go_num,HST.out.1,(HB.out.trans (HBW.out.mono HS.out.size)).trans HST.out.2.1,(HK.out.trans (WKeep.of_below HBW.out)).trans HST.out.2.2⟩
   case measure=>simp [intOf] <;> omega
  ·obtain rfl:k=l.length:=by omega
   rw[List.take_length] at hs
   go_wp2
   refine bodyPost_end (v:= .tuple #[]) ?_ rfl ?_
   ·simp[results,Tryz.results136,go_sem]
   ·exact⟨rfl,hs,hb,hkp⟩
theorem nums_append (a b:List Int):nums (a++b)=nums a++nums b:=by simp[nums]
theorem Stay.lit (base:Nat) {w:World} {g:Nat} {l:List Int} {cs:Array Value} (h:w.heap[g]? =some (Obj.cells cs 3 (0,0))) (hc:cs.toList=intsC l) (hl:l.length≤140737488355328):Stay base w (.slice (some ⟨g,0,none⟩) l.length l.length) l.length (intsC l):=by
 intro w' _ hk
 have h':=hk.blk g _ _ _ h (by decide) (by decide)
 refine CellsAt.mk (Nat.le_refl _) hl (hlt_of h') fun j x hj=> ?_
 rw[Nat.zero_add]
 refine cell_of_block h' ?_
 rw[←hc] at hj
 simpa using hj
def StayK (base:Nat) (w:World) (u x:Value) (k:Kn):Prop:= ∀w',Below base w w'→WKeep w w'→KnAt w' u x k
theorem StayK.below {base:Nat} {w0 w:World} {u x:Value} {k:Kn} (h:KnAt w0 u x k) (hs:base=w0.heap.size) (hb:Below base w0 w):StayK base w u x k:=by
 intro w' hb' _
 subst hs
 exact h.below (hb.trans hb')
def dotI (l:Dots):List Int:=l.flatMap fun d=>[d.1,d.2]
theorem dotI_take {l:Dots} {k:Nat} (h:k < l.length):dotI (l.take (k+1))=dotI (l.take k)++[l[k].1,l[k].2]:=by
 unfold dotI;rw [List.take_succ_eq_append_getElem h,List.flatMap_append];simp
theorem dotI_len (l:Dots):(dotI l).length=2*l.length:=by
 induction l with
 | nil=>rfl
 | cons a l ih=>unfold dotI at*;rw [List.flatMap_cons,List.length_append,ih,List.length_cons];simp;omega
def textW (s:ByteArray):List UInt8:=b3 (s.size:Nat)++s.data.toList
def knW (k:Kn):List UInt8:=nums ([(k.vec.length:Int)]++k.vec++[(k.more.length:Int)]++dotI k.more)
theorem knW_len (k:Kn):(knW k).length=6+3*k.vec.length+6*k.more.length:=by
 unfold knW;rw [nums_len];simp only[List.length_append,dotI_len,List.length_singleton];omega
theorem wnums_lit (base B g n:Nat) (l:List Int) (cs:Array Value) (out:List UInt8) (w:World) (hs:WrSt base B out w) (h:w.heap[g]? =some (Obj.cells cs 3 (0,0))) (hc:cs.toList=intsC l) (hl:l.length=n) (hn:out.length+3*l.length≤1000000000):
  Calls Tryz.prog 136 #[.pointer (some ⟨B,0,none⟩), .slice (some ⟨g,0,none⟩) n n] w fun e w'=>e= .returned (.tuple #[])∧WrSt base B (out++nums l) w'∧Below base w w'∧WKeep w w':=by
 subst hl;exact wnums_c base B _ l out w hs (Stay.lit base h hc (by omega)) hn
theorem wtext_c (base B:Nat) (s:ByteArray) (out:List UInt8) (w:World) (hs:WrSt base B out w) (hn:out.length+3+s.size≤1000000000):
  Calls Tryz.prog 137 #[.pointer (some ⟨B,0,none⟩), .string s] w fun e w'=>e= .returned (.tuple #[])∧WrSt base B (out++textW s) w'∧Below base w w'∧WKeep w w':=by
 obtain⟨W,hW⟩: ∃W,W=w.alloc (.cells #[.int .i64 (s.size:Nat)] 3):=⟨_,rfl⟩
 have hbW:Below w.heap.size w W:=by rw[hW];exact bal _
 have HC:=jD (wnums_lit base B w.heap.size 1 [(s.size:Int)] #[.int .i64 (s.size:Nat)] out W (hs.below hbW) (by rw[hW];exact alloc_new _ _ _ _ rfl) rfl rfl (by simp;omega))
 have HB:=jD (show Below base w W from hbW.mono hs.size)
 have HK:=jD (WKeep.of_below hbW)
 have HZ:=jD hs.size
 have hsz:s.size≤1000000000:=by omega
 clear hbW hs
 go_enter Tryz.func137,Tryz.ntmps137
 go_wp2_with fail
 rw[←hW]
 clear hW
 (with_reducible refine(HC.out).mono ?_)
 rintro e w1 ⟨rfl,hs1,hb1,hk1⟩
 obtain⟨v,hv,hrow⟩:=hs1.st
 have c0:=cell_of_block (j:=0) hv rfl
 have HV:=jD hv
 have HR:=jD hrow
 have HS:=jD hs1
 have HB1:=jD (HB.out.trans hb1)
 have HK1:=jD (HK.out.trans hk1)
 have HL:=jD (show(out++nums [(s.size:Int)]).length=out.length+3 by rw[List.length_append,nums_len];simp)
 obtain⟨i0,hi,hz0,hz1,hz2⟩:=info_parts ByteTy.info
 have HI:=jD hi
 have HI0:=jD hz0
 have HI1:=jD hz1
 have HI2:=jD hz2
 have hvl:=hlt_of hv
 clear HC hb1 hk1 hs1 hv hrow hi hz0 hz1 hz2 HB HK
 go_wp2_with (at_builtin;refine Lib.wpList_append_own_string (w:=w1) rfl (.tmp 13) (.tmp 14) 205 9 rfl base 5 i0 Tryz.underlying205 Tryz.underlying9 HI.out HI0.out HI1.out HI2.out v _ _ rfl HR.out s rfl (by rw[HL.out];unfold maxLen;omega) (by rw[HL.out];omega) HS.out.size ?_)
 intro v' w' hown' hg' _
 rw[←byteC_str,←byteC_app] at hown'
 obtain⟨va,vc,rfl⟩:=owns_slice hown'
 have hst:=WrSt.store HS.out.hB HV.out HR.out (out':=out++nums [(s.size:Int)]++s.data.toList) (by rw[List.length_append,List.length_append,Array.length_toList];exact hown') hg'
 have HST:=jD hst
 have hvl2:=hlt_of (grown_keep HR.out hg' HV.out (by decide))
 have c0':=cell_of_block (j:=0) (grown_keep HR.out hg' HV.out (by decide)) rfl
 have hfz:=free_of_block (j:=0) (grown_keep HR.out hg' HV.out (by decide))
 clear hst hown' hg' c0 hvl
 go_wp2
 refine bodyPost_end (v:= .tuple #[]) ?_ rfl ?_
 ·simp[results,Tryz.results137,go_sem]
 ·refine⟨rfl, ?_,HB1.out.trans HST.out.2.1,HK1.out.trans HST.out.2.2⟩
  have:=HST.out.1
  rw[List.append_assoc] at this
  exact this
theorem wknow_c (base B:Nat) (u x:Value) (k:Kn) (out:List UInt8) (w:World) (hs:WrSt base B out w) (hk:StayK base w u x k) (hn:out.length+6+3*k.vec.length+6*k.more.length≤1000000000):
  Calls Tryz.prog 138 #[.pointer (some ⟨B,0,none⟩), .agg #[u,x]] w fun e w'=>e= .returned (.tuple #[])∧WrSt base B (out++knW k) w'∧Below base w w'∧WKeep w w':=by
 have hka:=hk w (Below.refl _ _) (WKeep.refl _)
 obtain⟨ua,uc,rfl⟩:=hka.vec.shape
 obtain⟨xa,xc,rfl⟩:=hka.more.shape
 obtain⟨BK,hBK⟩: ∃BK,BK=w.heap.size:=⟨_,rfl⟩
 obtain⟨W,hW⟩: ∃W,W=w.alloc (.cells #[.slice ua k.vec.length uc, .slice xa k.more.length xc] 73):=⟨_,rfl⟩
 have hbW:Below w.heap.size w W:=by rw[hW];exact bal _
 have HKB:=jD (show W.heap[BK]? =some (Obj.cells #[.slice ua k.vec.length uc, .slice xa k.more.length xc] 73 (0,0)) by rw[hW];exact alloc_new _ _ _ _ hBK)
 have HS:=jD (hs.below hbW)
 have HB:=jD (show Below base w W from hbW.mono hs.size)
 have HK:=jD (WKeep.of_below hbW)
 have HZ:=jD hs.size
 have HSK:=jD hk
 have hl1:k.vec.length≤1000000000:=by omega
 have hl2:k.more.length≤1000000000:=by omega
 clear hbW hs hk hka
 go_enter Tryz.func138,Tryz.ntmps138
 have c0:=cell_of_block (j:=0) HKB.out rfl
 obtain⟨W1,hW1⟩: ∃W1,W1=W.alloc (.cells #[.int .i64 (k.vec.length:Nat)] 3):=⟨_,rfl⟩
 have hbW1:Below W.heap.size W W1:=by rw[hW1];exact bal _
 have HC:=jD (wnums_lit base B (BK+1) 1 [(k.vec.length:Int)] #[.int .i64 (k.vec.length:Nat)] out W1 (HS.out.below hbW1) (by rw[hW1];exact alloc_new _ _ _ _ (by rw[hW,hBK];simp)) rfl rfl (by simp;omega))
 have HB1:=jD (HB.out.trans (hbW1.mono HS.out.size))
 have HK1:=jD (HK.out.trans (WKeep.of_below hbW1))
 have HKB1:=jD (below_keep hbW1 HKB.out)
 clear hbW1 HKB HS HB HK
 go_wp2_with fail
 rw[←hBK,←hW,←hW1]
 clear hBK
 (with_reducible refine(HC.out).mono ?_)
 rintro e w1 ⟨rfl,hs1,hb1,hk1⟩
 have HS1:=jD hs1
 have HB2:=jD (HB1.out.trans hb1)
 have HK2:=jD (HK1.out.trans hk1)
 have HKB2:=jD (hk1.blk _ _ _ _ HKB1.out (by decide) (by decide))
 clear c0 HC hs1 hb1 hk1 HB1 HK1 HKB1 hW1
 clear hW
 have c0:=cell_of_block (j:=0) HKB2.out rfl
 have HC:=jD (wnums_c base B (.slice ua k.vec.length uc) k.vec (out++nums [(k.vec.length:Int)]) w1 HS1.out (fun w' hb' hk'=>(HSK.out w' (HB2.out.trans hb') (HK2.out.trans hk')).vec) (by rw[List.length_append,nums_len];simp;omega))
 go_wp2_with fail
 (with_reducible refine(HC.out).mono ?_)
 rintro e w2 ⟨rfl,hs1,hb1,hk1⟩
 have HS3:=jD hs1
 have HB3:=jD (HB2.out.trans hb1)
 have HK3:=jD (HK2.out.trans hk1)
 have HKB3:=jD (hk1.blk _ _ _ _ HKB2.out (by decide) (by decide))
 clear c0 HC hs1 hb1 hk1 HB2 HK2 HKB2 HS1
 have c1:=cell_of_block (j:=1) HKB3.out rfl
 obtain⟨W3,hW3⟩: ∃W3,W3=w2.alloc (.cells #[.int .i64 (k.more.length:Nat)] 3):=⟨_,rfl⟩
 have hbW3:Below w2.heap.size w2 W3:=by rw[hW3];exact bal _
 have HC:=jD (wnums_lit base B w2.heap.size 1 [(k.more.length:Int)] #[.int .i64 (k.more.length:Nat)] _ W3 (HS3.out.below hbW3) (by rw[hW3];exact alloc_new _ _ _ _ rfl) rfl rfl (by rw[List.length_append,List.length_append,nums_len,nums_len];simp;omega))
 have HB4:=jD (HB3.out.trans (hbW3.mono HS3.out.size))
 have HK4:=jD (HK3.out.trans (WKeep.of_below hbW3))
 have HKB4:=jD (below_keep hbW3 HKB3.out)
 clear hbW3 HS3 HB3 HK3 HKB3
 go_wp2_with fail
 rw[←hW3]
 (with_reducible refine(HC.out).mono ?_)
 rintro e w3 ⟨rfl,hs1,hb1,hk1⟩
 obtain⟨pre,hpre⟩: ∃pre,pre=out++nums [(k.vec.length:Int)]++nums k.vec++nums [(k.more.length:Int)]:=⟨_,rfl⟩
 have hpl:pre.length=out.length+6+3*k.vec.length:=by rw[hpre,List.length_append,List.length_append,List.length_append,nums_len,nums_len,nums_len];simp;omega
 have HPRE:=jD (show pre++nums (dotI k.more)=out++knW k by unfold knW;rw [hpre,nums_append,nums_append,nums_append];simp only[List.append_assoc])
 rw[←hpre] at hs1
 clear hpre
 have HS5:=jD hs1
 have HB5:=jD (HB4.out.trans hb1)
 have HK5:=jD (HK4.out.trans hk1)
 have HKB5:=jD (hk1.blk _ _ _ _ HKB4.out (by decide) (by decide))
 clear c1 HC hs1 hb1 hk1 HB4 HK4 HKB4 hW3
 have c1:=cell_of_block (j:=1) HKB5.out rfl
 go_wp2
 go_loopw [25] (fun i wr=> ∃n:Nat,n≤k.more.length∧i= .int .i64 n∧WrSt base B (pre++nums (dotI (k.more.take n))) wr∧Below base w wr∧WKeep w wr) (fun i _=>k.more.length - (intOf i).toNat)
 case atStart=>exact ⟨0,Nat.zero_le _,rfl,by rw[List.take_zero];simpa [dotI,nums] using HS5.out,HB5.out,HK5.out⟩
 case round=>
  clear HS5 HB5 HK5 HKB5 c1
  obtain⟨n,hn1,rfl,hs,hb,hkp⟩:=hrel
  by_cases hlt:n < k.more.length
  ·have HT:=jD (dotI_take hlt)
   have HN:=jD (show(dotI (k.more.take n)).length=2*n by rw[dotI_len,List.length_take];omega)
   obtain⟨a',cap',ha', -, -, -,hc⟩:=(HSK.out wr hb hkp).more.open_
   simp only[Value.slice.injEq,true_and] at ha'
   obtain⟨ha',rfl⟩:=ha'
   rcases hc with hnil | ⟨b,off,rfl,hbo,hc⟩
   ·rw[hnil] at hlt;simp at hlt
   subst ha'
   obtain⟨d1,d2⟩:=hc n hlt
   have HS:=jD hs
   have HB:=jD hb
   have HK:=jD hkp
   clear hc hs hb hkp
   generalize k.more[n]=d at*
   obtain⟨W1,hW1⟩: ∃W1,W1=(wr.alloc (.cells #[.int .i64 d.1, .int .i64 d.2] 41)).alloc (.cells #[.int .i64 d.1, .int .i64 d.2] 3):=⟨_,rfl⟩
   have hbW1:Below wr.heap.size wr W1:=by rw[hW1];exact (bal _).alloc (by simp) _
   have HC:=jD (wnums_lit base B (wr.heap.size+1) 2 [d.1,d.2] #[.int .i64 d.1, .int .i64 d.2] _ W1 (HS.out.below hbW1) (by rw[hW1];exact alloc_new _ _ _ _ (by simp)) rfl rfl (by rw[List.length_append,nums_len,HN.out,hpl];simp;omega))
   have HB1:=jD (HB.out.trans (hbW1.mono HS.out.size))
   have HK1:=jD (HK.out.trans (WKeep.of_below hbW1))
   have HWW:=jD hW1
   clear hbW1 HS HB HK hW1
   go_wp2_with fail
   rw[←HWW.out]
   (with_reducible refine(HC.out).mono ?_)
   rintro e w4 ⟨rfl,hs1,hb1,hk1⟩
   rw[List.append_assoc,←nums_append,←HT.out] at hs1
   have HS6:=jD hs1
   have HB6:=jD (HB1.out.trans hb1)
   have HK6:=jD (HK1.out.trans hk1)
   clear HC hs1 hb1 hk1 HB1 HK1 HWW d1 d2
   go_wp2
   go_roundw
   case rel=>exact ⟨n+1,by omega,by go_num,HS6.out,HB6.out,HK6.out⟩
   case measure=>simp [intOf] <;> omega
  ·obtain rfl:n=k.more.length:=by omega
   rw[List.take_length,HPRE.out] at hs
   go_wp2
   refine bodyPost_end (v:= .tuple #[]) ?_ rfl ?_
   ·simp[results,Tryz.results138,go_sem]
   ·exact⟨rfl,hs,hb,hkp⟩
structure Gn where
 id:ByteArray
 past:Kn
def goneE:Elt Gn where
 size:=3
 El w g cs:= ∃u x,cs=[.string g.id,u,x]∧KnAt w u x g.past
 len:=by rintro w g cs ⟨u,x,rfl, -⟩;rfl
 one:=by
  rintro w g cs ⟨u,x,rfl,h⟩ z hz
  obtain⟨a,c,rfl⟩:=h.vec.shape
  obtain⟨b,d,rfl⟩:=h.more.shape
  simp only[List.mem_cons,List.not_mem_nil,or_false] at hz
  rcases hz with rfl | rfl | rfl <;> rfl
 sub:=by rintro w w' g cs ⟨u,x,rfl,h⟩ hs;exact ⟨u,x,rfl,h.sub hs⟩
 pos:=by decide
theorem gone_cells {w wr:World} {b off i:Nat} {g:Gn} {c:List Value} (hb:b < w.heap.size) (hbl:Below w.heap.size w wr) (hE:goneE.El w g c) (hc: ∀j x,c[j]? =some x→w.cell? ⟨b,off+(i*goneE.size+j),none⟩=some x):
  ∃u x,wr.cell? ⟨b,off+i*3,none⟩=some (.string g.id)∧wr.cell? ⟨b,off+i*3+1,none⟩=some u∧wr.cell? ⟨b,off+i*3+2,none⟩=some x∧KnAt wr u x g.past:=by
 obtain⟨u,x,rfl,h1⟩:=hE
 have hk:=fun (j:Nat) (y:Value) (hy:[.string g.id,u,x][j]? =some y)=>row3 (w:=wr) (b:=b) (off:=off) (i:=i) (fun j y hy=>(hbl.cell (p:=⟨b,off+(i*3+j),none⟩) hb).trans (hc j y hy)) hy
 exact⟨u,x,by simpa using hk 0 _ rfl,hk 1 _ rfl,hk 2 _ rfl,h1.below hbl⟩
structure Bt where
 site:Int
 stamp:Int
 vers:List Ver
 gone:List Gn
 parts:List Pt
structure BtAt (w:World) (vv gv pv:Value) (b:Bt):Prop where
 vers:RowAt verE w vv b.vers
 gone:RowAt goneE w gv b.gone
 parts:RowAt partE w pv b.parts
theorem BtAt.below {w w':World} {vv gv pv:Value} {b:Bt} (h:BtAt w vv gv pv b) (hb:Below w.heap.size w w'):BtAt w' vv gv pv b:=⟨h.vers.below hb,h.gone.below hb,h.parts.below hb⟩
def firstE {α: Type} (f:α→ Int):List α→ Int
 | []=>0
 | a::l=>if f a≠0 then f a else firstE f l
theorem firstE_step {α: Type} (f:α→ Int) {l:List α} {k:Nat} (h:k < l.length):firstE f (l.drop k)=if f l[k]≠0 then f l[k] else firstE f (l.drop (k+1)):=by
 rw[List.drop_eq_getElem_cons h];rfl
theorem firstE_zero {α: Type} (f:α→ Int): ∀ {l:List α},firstE f l=0↔ ∀x∈l,f x=0
 | []=>by simp[firstE]
 | a::l=>by
  unfold firstE
  by_cases h:f a≠0
  ·rw[if_pos h];exact ⟨fun e=>absurd e h,fun k=>k a (by simp)⟩
  ·rw[if_neg h,firstE_zero f]
   have h0:f a=0:=by simpa using h
   simp[h0]
def goneChk (g:Gn):Int:=if idOk g.id=false then 3 else knChk g.past
def headBad (s t:Int):Bool:=((decide (s < 0) || decide (5≤s)) || decide (t < 0)) || decide (1000000 < t)
def batchChk (b:Bt):Int:=
 if headBad b.site b.stamp=true then 1
 else if 60 < b.vers.length∨60 < b.gone.length then 2
 else if firstE verChk b.vers≠0 then firstE verChk b.vers
 else if firstE goneChk b.gone≠0 then firstE goneChk b.gone
 else ptsChk b.parts
theorem batchChk_c (vv gv pv:Value) (b:Bt) (w:World) (hb:BtAt w vv gv pv b):
  Calls Tryz.prog 135 #[.agg #[.int .i64 b.site, .int .i64 b.stamp,vv,gv,pv]] w fun e w'=>e= .returned (.int .i64 (batchChk b))∧Below w.heap.size w w':=by
 obtain⟨va,vc,rfl⟩:=hb.vers.shape
 obtain⟨ga,gc,rfl⟩:=hb.gone.shape
 obtain⟨pa,pc,rfl⟩:=hb.parts.shape
 obtain⟨s,t,V,G,P⟩:=b
 simp only at hb ⊢
 obtain⟨W,hW⟩: ∃W,W=w.alloc (.cells #[.int .i64 s, .int .i64 t, .slice va V.length vc, .slice ga G.length gc, .slice pa P.length pc] 52):=⟨_,rfl⟩
 have hbW:Below w.heap.size w W:=by rw[hW];exact bal _
 have hbk:W.heap[w.heap.size]? =some (Obj.cells #[.int .i64 s, .int .i64 t, .slice va V.length vc, .slice ga G.length gc, .slice pa P.length pc] 52 (0,0)):=by rw[hW];exact alloc_new _ _ _ _ rfl
 have HBK:=jD hbk
 have HBV:=jD (show RowAt verE W (.slice va V.length vc) V from(hb.below hbW).vers)
 have HBG:=jD (show RowAt goneE W (.slice ga G.length gc) G from(hb.below hbW).gone)
 have HBP:=jD (show RowAt partE W (.slice pa P.length pc) P from(hb.below hbW).parts)
 have HB:=jD hbW
 have H0:=jD (show batchChk ⟨s,t,V,G,P⟩=if headBad s t=true then 1 else if 60 < V.length∨60 < G.length then 2 else if firstE verChk V≠0 then firstE verChk V else if firstE goneChk G≠0 then firstE goneChk G else ptsChk P from rfl)
 have HHB:=jD (show headBad s t=(((decide (s < 0) || decide (5≤s)) || decide (t < 0)) || decide (1000000 < t)) from rfl)
 clear hb hbk hbW
 go_enter Tryz.func135,Tryz.ntmps135
 have k0:=cell_of_block (j:=0) HBK.out rfl
 have k1:=cell_of_block (j:=1) HBK.out rfl
 have k2:=cell_of_block (j:=2) HBK.out rfl
 have k3:=cell_of_block (j:=3) HBK.out rfl
 have hkl:=hlt_of HBK.out
 rw[hW] at k0 k1 k2 k3 hkl
 cases hh:headBad s t
 rotate_left
 ·have hq:=HHB.out.symm.trans hh
  have H1:=jD (show batchChk ⟨s,t,V,G,P⟩=1 by rw[H0.out,if_pos hh])
  have HB2:=HB.out
  rw[hW] at HB2
  clear H0 HHB hh hW
  go_wp2
  all_goals go_ret
  all_goals exact⟨by rw[H1.out];rfl,HB2⟩
 have hq:=HHB.out.symm.trans hh
 rw[Bool.or_eq_false_iff,Bool.or_eq_false_iff,Bool.or_eq_false_iff] at hq
 obtain⟨⟨⟨e1,e2⟩,e3⟩,e4⟩:=hq
 cases hz:(decide (60 < (V.length:Int)) || decide (60 < (G.length:Int)))
 rotate_left
 ·have H1:=jD (show batchChk ⟨s,t,V,G,P⟩=2 by
   rw[H0.out,if_neg (by rw[hh];decide),if_pos]
   simp only[Bool.or_eq_true,decide_eq_true_eq] at hz;omega)
  have HB2:=HB.out
  rw[hW] at HB2
  clear H0 HHB hh hW
  go_wp2
  all_goals go_ret
  all_goals exact⟨by rw[H1.out];rfl,HB2⟩
 have hvl:V.length≤60:=by simp only[Bool.or_eq_false_iff,decide_eq_false_iff_not] at hz;omega
 have hgl:G.length≤60:=by simp only[Bool.or_eq_false_iff,decide_eq_false_iff_not] at hz;omega
 have H1:=jD (show batchChk ⟨s,t,V,G,P⟩=if firstE verChk V≠0 then firstE verChk V else if firstE goneChk G≠0 then firstE goneChk G else ptsChk P by
  rw[H0.out,if_neg (by rw[hh];decide),if_neg (by omega)])
 rw[Bool.or_eq_false_iff] at hz
 obtain⟨e5,e6⟩:=hz
 clear H0 HHB hh
 have hWH:=jD hW
 clear hW
 go_wp2
 rw[←hWH.out]
 obtain⟨BB,hBB⟩: ∃BB,BB=w.heap.size:=⟨_,rfl⟩
 rw[←hBB] at HBK ⊢
 clear hBB hWH k0 k1 k2 k3 hkl e1 e2 e3 e4 e5 e6
 go_loopw [40] (fun i wr=> ∃k:Nat,k≤V.length∧i= .int .i64 k∧firstE verChk V=firstE verChk (V.drop k)∧Below W.heap.size W wr) (fun i _=>V.length - (intOf i).toNat)
 case atStart=>exact ⟨0,Nat.zero_le _,rfl,rfl,Below.refl _ _⟩
 case round=>
  obtain⟨k,hk,rfl,hf,hbl⟩:=hrel
  by_cases hlt:k < V.length
  ·have HVr:=jD (HBV.out.below hbl)
   have HF:=jD (hf.trans (firstE_step verChk hlt))
   have HBr:=jD hbl
   obtain⟨a',cap',ha', -, -, -,hvl2⟩:=HVr.out.open_
   simp only[Value.slice.injEq,true_and] at ha'
   obtain⟨ha',rfl⟩:=ha'
   rcases hvl2 with hnil | ⟨b,off,rfl,hb,hc⟩
   ·rw[hnil] at hlt;simp at hlt
   subst ha'
   obtain⟨c,⟨u,x,rfl,hk2⟩,hcc⟩:=hc k hlt
   obtain⟨ua,uc,rfl⟩:=hk2.vec.shape
   obtain⟨xa,xc,rfl⟩:=hk2.more.shape
   have hcl:=fun (i:Nat) (y:Value) (hy:(verC V[k] (.slice ua V[k].past.vec.length uc) (.slice xa V[k].past.more.length xc)).toList[i]? =some y)=>row8 (b:=b) (off:=off) (i:=k) hcc hy
   have c0:=hcl 0 _ rfl
   have c1:=hcl 1 _ rfl
   have c2:=hcl 2 _ rfl
   have c3:=hcl 3 _ rfl
   have c4:=hcl 4 _ rfl
   have c5:=hcl 5 _ rfl
   have c6:=hcl 6 _ rfl
   have c7:=hcl 7 _ rfl
   rw[Nat.add_zero] at c0
   clear hc hcc hcl hf hbl
   generalize V[k]=v1 at*
   obtain⟨W1,hW1⟩: ∃W1,W1=wr.alloc (.cells #[.string v1.id, .int .i64 v1.ds, .int .i64 v1.dc, .int .i64 v1.tg, .int .i64 v1.nm, .int .i64 v1.bd, .slice ua v1.past.vec.length uc, .slice xa v1.past.more.length xc] 75):=⟨_,rfl⟩
   have hb1:Below wr.heap.size wr W1:=by rw[hW1];exact bal _
   have HB1:=jD (bstep HBr.out hb1)
   have HC:=jD (one_c v1 _ _ W1 (hk2.below hb1))
   unfold verC at HC
   have hltb:decide ((k:Int) < (V.length:Int))=true:=by simp;omega
   clear hk2 hb1
   go_wp2_with fail
   rw[←hW1]
   clear hW1
   (with_reducible refine(HC.out).mono ?_)
   rintro e w2 ⟨rfl,hb2⟩
   have HB2:=jD (bstep HB1.out hb2)
   clear hb2 HC c0 c1 c2 c3 c4 c5 c6 c7 hb HB1
   by_cases hz:verChk v1=0
   ·have HF2:=jD (show firstE verChk V=firstE verChk (V.drop (k+1)) by rw[HF.out,if_neg (by omega)])
    clear HF
    rw[hz]
    go_wp2
    go_roundw
    case rel=>exact ⟨k+1,by omega,by go_num,HF2.out,HB2.out⟩
    case measure=>simp [intOf] <;> omega
   ·have H2:=jD (show batchChk ⟨s,t,V,G,P⟩=verChk v1 by
     rw[H1.out,HF.out,if_pos hz,if_pos hz])
    have hd:decide (verChk v1=0)=false:=by simpa using hz
    have hd2:(verChk v1 != 0)=true:=bne_iff_ne.2 hz
    have hfin:=bstep HB.out HB2.out
    clear HF
    generalize verChk v1=q at*
    go_wp2
    go_ret
    exact⟨by rw[H2.out];rfl,hfin⟩
  ·obtain rfl:k=V.length:=by omega
   rw[List.drop_length] at hf
   have H2:=jD (show batchChk ⟨s,t,V,G,P⟩=if firstE goneChk G≠0 then firstE goneChk G else ptsChk P by rw[H1.out,hf];rfl)
   have hfin0:=bstep HB.out hbl
   obtain⟨w3,hw3⟩: ∃w3,w3=wr:=⟨_,rfl⟩
   rw[←hw3] at hbl hfin0 ⊢
   have HBG3:=jD (HBG.out.below hbl)
   have HBP3:=jD (HBP.out.below hbl)
   have HBK3:=jD (below_keep hbl HBK.out)
   have HB3:=jD hfin0
   clear hw3 hf hbl hfin0 HBV HBG HBP HBK H1
   have k3:=cell_of_block (j:=3) HBK3.out rfl
   go_wp2
   clear k3
   go_loopw [53] (fun i wr=> ∃k:Nat,k≤G.length∧i= .int .i64 k∧firstE goneChk G=firstE goneChk (G.drop k)∧Below w3.heap.size w3 wr) (fun i _=>G.length - (intOf i).toNat)
   case atStart=>exact ⟨0,Nat.zero_le _,rfl,rfl,Below.refl _ _⟩
   case round=>
    obtain⟨k,hk,rfl,hf,hbl⟩:=hrel
    by_cases hlt:k < G.length
    ·have HF:=jD (hf.trans (firstE_step goneChk hlt))
     have HBr:=jD hbl
     obtain⟨a',cap',ha', -, -, -,hvl2⟩:=HBG3.out.open_
     simp only[Value.slice.injEq,true_and] at ha'
     obtain⟨ha',rfl⟩:=ha'
     rcases hvl2 with hnil | ⟨b,off,rfl,hb,hc⟩
     ·rw[hnil] at hlt;simp at hlt
     subst ha'
     obtain⟨c,hE,hcc⟩:=hc k hlt
     obtain⟨u,x,d0,d1,d2,hk2⟩:=gone_cells hb HBr.out hE hcc
     obtain⟨ua,uc,rfl⟩:=hk2.vec.shape
     obtain⟨xa,xc,rfl⟩:=hk2.more.shape
     clear hc hcc hE hf hbl
     generalize G[k]=g1 at*
     obtain⟨BG,hBG⟩: ∃BG,BG=wr.heap.size:=⟨_,rfl⟩
     obtain⟨W1,hW1⟩: ∃W1,W1=wr.alloc (.cells #[.string g1.id, .slice ua g1.past.vec.length uc, .slice xa g1.past.more.length xc] 101):=⟨_,rfl⟩
     have hb1:Below wr.heap.size wr W1:=by rw[hW1];exact bal _
     have HKG:=jD (show W1.heap[BG]? =some (Obj.cells #[.string g1.id, .slice ua g1.past.vec.length uc, .slice xa g1.past.more.length xc] 101 (0,0)) by rw[hW1];exact alloc_new _ _ _ _ hBG)
     have HB1:=jD (bstep HBr.out hb1)
     have HID:=jD (id_c g1.id W1)
     have HC:=jD (knChk_c _ _ g1.past W1 (hk2.below hb1))
     have hltb:decide ((k:Int) < (G.length:Int))=true:=by simp;omega
     clear hk2 hb1
     go_wp2_with fail
     rw[←hBG,←hW1]
     clear hBG hW1 d0 d1 d2 hb
     (with_reducible refine(HID.out).mono ?_)
     rintro e w4 ⟨rfl,rfl⟩
     cases hid:idOk g1.id
     ·have H3:=jD (show batchChk ⟨s,t,V,G,P⟩=3 by
       have h9:firstE goneChk G=3:=(by have h8:goneChk g1=3:=(by unfold goneChk;rw [if_pos hid]);rw [HF.out,h8,if_pos (by decide)])
       rw[H2.out,h9,if_pos (by decide)])
      have hfin:=bstep HB3.out HB1.out
      clear hid HF HC
      go_wp2
      go_ret
      exact⟨by rw[H3.out];rfl,hfin⟩
     have HGC:=jD (show goneChk g1=knChk g1.past by unfold goneChk;rw [if_neg (by rw[hid];decide)])
     have g1c:=cell_of_block (j:=1) HKG.out rfl
     have g2c:=cell_of_block (j:=2) HKG.out rfl
     have hgl2:=hlt_of HKG.out
     clear hid
     go_wp2_with fail
     (with_reducible refine(HC.out).mono ?_)
     rintro e w5 ⟨rfl,hb2⟩
     have HB2:=jD (bstep HB1.out hb2)
     clear hb2 HC g1c g2c hgl2 HB1
     by_cases hz:knChk g1.past=0
     ·have HF2:=jD (show firstE goneChk G=firstE goneChk (G.drop (k+1)) by rw[HF.out,HGC.out,if_neg (by omega)])
      clear HF
      rw[hz]
      go_wp2
      go_roundw
      case rel=>exact ⟨k+1,by omega,by go_num,HF2.out,HB2.out⟩
      case measure=>simp [intOf] <;> omega
     ·have H3:=jD (show batchChk ⟨s,t,V,G,P⟩=knChk g1.past by
       rw[H2.out,HF.out,HGC.out,if_pos hz,if_pos hz])
      have hd:decide (knChk g1.past=0)=false:=by simpa using hz
      have hd2:(knChk g1.past != 0)=true:=bne_iff_ne.2 hz
      have hfin:=bstep HB3.out HB2.out
      clear HF HGC
      generalize knChk g1.past=q at*
      go_wp2
      go_ret
      exact⟨by rw[H3.out];rfl,hfin⟩
    ·obtain rfl:k=G.length:=by omega
     rw[List.drop_length] at hf
     have H3:=jD (show batchChk ⟨s,t,V,G,P⟩=ptsChk P by rw[H2.out,hf];rfl)
     have HC:=jD (ptsChk_c _ P wr (HBP3.out.below hbl))
     have k4:=cell_of_block (j:=4) (below_keep hbl HBK3.out) rfl
     have HB4:=jD (bstep HB3.out hbl)
     clear hf hbl
     go_wp2_with fail
     (with_reducible refine(HC.out).mono ?_)
     rintro e w6 ⟨rfl,hb6⟩
     have hfin:=bstep HB4.out hb6
     clear hb6 HC k4
     go_wp2
     go_ret
     exact⟨by rw[H3.out];rfl,hfin⟩
def verW (v:Ver):List UInt8:=textW v.id++nums [v.ds,v.dc,v.tg,v.nm,v.bd]++knW v.past
def goneW (g:Gn):List UInt8:=textW g.id++knW g.past
def boxW (x:Bx):List UInt8:=nums [x.y,x.n,(x.sp.length:Int)]++nums (dotI x.sp)
def partW (p:Pt):List UInt8:=nums [(p.f.length:Int)]++p.f.flatMap boxW++knW p.k
def bodyW (b:Bt):List UInt8:=nums [b.site,b.stamp,(b.vers.length:Int)]++b.vers.flatMap verW++nums [(b.gone.length:Int)]++b.gone.flatMap goneW++nums [(b.parts.length:Int)]++b.parts.flatMap partW
theorem flat_le {α: Type} {f:α→ List UInt8} {M:Nat} : ∀ {l:List α},(∀x∈l,(f x).length≤M)→(l.flatMap f).length≤l.length*M
 | [],_=>by simp
 | a::l,h=>by
  have ih:=flat_le (l:=l) fun x hx=>h x (List.mem_cons_of_mem _ hx)
  have h1:=h a List.mem_cons_self
  rw[List.flatMap_cons,List.length_append,List.length_cons,Nat.succ_mul];omega
theorem flatw_take {α: Type} (f:α→ List UInt8) {l:List α} {k:Nat} (h:k < l.length):(l.take (k+1)).flatMap f=(l.take k).flatMap f++f l[k]:=by
 rw[List.take_succ_eq_append_getElem h,List.flatMap_append];simp
theorem textW_len (s:ByteArray):(textW s).length=3+s.size:=by
 unfold textW;rw [List.length_append,Array.length_toList];rfl
theorem id_size {s:ByteArray} (h:idOk s=true):s.size≤8:=by
 simp only[idOk,Bool.and_eq_true,decide_eq_true_eq] at h;exact h.1.2
theorem verW_len {v:Ver} (h:VerOk v):(verW v).length≤500:=by
 have h1:=id_size h.id
 have h2:=h.past.len
 have h3:=h.len
 unfold verW
 rw[List.length_append,List.length_append,textW_len,nums_len,knW_len];simp only[List.length_cons,List.length_nil];omega
structure GnOk (g:Gn):Prop where
 id:idOk g.id=true
 past:KnOk g.past
 len:g.past.more.length≤60
theorem goneChk_zero {g:Gn} :goneChk g=0↔GnOk g:=by
 unfold goneChk
 constructor
 ·intro h
  split at h
  ·exact absurd h (by decide)
  ·rename_i h1
   have h2:=knChk_zero.1 h
   exact⟨by simpa using h1,h2.1,h2.2⟩
 ·intro h
  rw[if_neg (by rw[h.id];decide)]
  exact knChk_zero.2 ⟨h.past,h.len⟩
theorem goneW_len {g:Gn} (h:GnOk g):(goneW g).length≤500:=by
 have h1:=id_size h.id
 have h2:=h.past.len
 have h3:=h.len
 unfold goneW
 rw[List.length_append,textW_len,knW_len];omega
theorem boxW_len (x:Bx):(boxW x).length=9+6*x.sp.length:=by
 unfold boxW
 rw[List.length_append,nums_len,nums_len,dotI_len];simp only[List.length_cons,List.length_nil];omega
theorem bx_spans {x:Bx} (h:bxChk x=0):x.sp.length≤16:=by
 have h2:spansChk x.sp=0:=by
  unfold bxChk at h
  split at h
  ·exact h
  ·rename_i h1;exact absurd h h1
 unfold spansChk at h2
 split at h2
 ·exact absurd h2 (by decide)
 ·omega
theorem partW_len {p:Pt} (h:PtOk p):(partW p).length≤5000:=by
 have h1:=fChk_zero.1 h.f
 have h2:=knChk_zero.1 h.k
 have h3:(p.f.flatMap boxW).length≤p.f.length*105:=flat_le fun x hx=>by rw[boxW_len];have:=bx_spans (h1.2 x hx);omega
 have h4:p.f.length*105≤40*105:=Nat.mul_le_mul_right _ h1.1
 have h5:=h2.1.len
 have h6:=h2.2
 unfold partW
 rw[List.length_append,List.length_append,nums_len,knW_len];simp only[List.length_cons,List.length_nil];omega
structure BtOk (b:Bt):Prop where
 site:0≤b.site∧b.site < 5
 stamp:0≤b.stamp∧b.stamp≤1000000
 vlen:b.vers.length≤60
 glen:b.gone.length≤60
 plen:b.parts.length≤30
 vers: ∀v∈b.vers,VerOk v
 gone: ∀g∈b.gone,GnOk g
 parts: ∀p∈b.parts,PtOk p
theorem batchChk_zero {b:Bt} :batchChk b=0↔BtOk b:=by
 unfold batchChk
 constructor
 ·intro h
  split at h
  ·exact absurd h (by decide)
  rename_i h1
  split at h
  ·exact absurd h (by decide)
  rename_i h2
  split at h
  ·rename_i h3;exact absurd h h3
  rename_i h3
  split at h
  ·rename_i h4;exact absurd h h4
  rename_i h4
  have h5:=ptsChk_zero.1 h
  simp only[headBad,Bool.or_eq_true,decide_eq_true_eq] at h1
  exact⟨by omega,by omega,by omega,by omega,h5.1,fun v hv=>verChk_zero.1 ((firstE_zero verChk).1 (by omega) v hv),fun g hg=>goneChk_zero.1 ((firstE_zero goneChk).1 (by omega) g hg),h5.2⟩
 ·intro h
  have h1:=h.site
  have h2:=h.stamp
  rw[if_neg (by simp only[headBad,Bool.or_eq_true,decide_eq_true_eq];omega),if_neg (by have:=h.vlen;have:=h.glen;omega)]
  rw[if_neg (by have:=(firstE_zero verChk).2 fun v hv=>verChk_zero.2 (h.vers v hv);omega),if_neg (by have:=(firstE_zero goneChk).2 fun g hg=>goneChk_zero.2 (h.gone g hg);omega)]
  exact ptsChk_zero.2 ⟨h.plen,h.parts⟩
end Go.Proofs.YtgkgdedhicnohaaGreat
