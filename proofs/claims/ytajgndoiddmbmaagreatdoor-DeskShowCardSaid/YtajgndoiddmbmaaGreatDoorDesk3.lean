/- desk.Run: line by line, whatever answers. -/
import Derived.Test.YtajgndoiddmbmaaGreatDoorDesk2
namespace Go.Proofs.YtajgndoiddmbmaaGreatDoor
open Go.RowKit
theorem toList_inj {a b:ByteArray} (h:a.toList=b.toList):a=b:=by
 rw[Lib.toList_data,Lib.toList_data] at h
 exact ba_ext h
theorem sneq {a b:ByteArray} (h:a≠b):(a.toList==b.toList)=false∧(a.toList != b.toList)=true:=by
 have h1:(a.toList==b.toList)=false:=beq_eq_false_iff_ne.2 fun e=>h (toList_inj e)
 exact⟨h1,by unfold bne;rw [h1];rfl⟩
theorem seq_ {a b:ByteArray} (h:a=b):(a.toList==b.toList)=true∧(a.toList != b.toList)=false:=by
 subst h
 have h1:(a.toList==a.toList)=true:=beq_self_eq_true _
 exact⟨h1,by unfold bne;rw [h1];rfl⟩
def emp:ByteArray:=⟨#[]⟩
theorem eempty {s:ByteArray} (h:s=emp):(s.toList==([]:List UInt8))=true∧(s.toList != ([]:List UInt8))=false∧s.toList.isEmpty=true:=by
 have h1:=seq_ (b:=emp) h
 rw[show emp.toList=[] by rw[Lib.toList_data];rfl] at h1
 refine⟨h1.1,h1.2, ?_⟩
 rw[beq_iff_eq.1 h1.1];rfl
theorem nempty {s:ByteArray} (h:s≠emp):(s.toList==([]:List UInt8))=false∧(s.toList != ([]:List UInt8))=true∧s.toList.isEmpty=false:=by
 have h1:=sneq (b:=emp) h
 rw[show emp.toList=[] by rw[Lib.toList_data];rfl] at h1
 refine⟨h1.1,h1.2, ?_⟩
 have h2:=beq_eq_false_iff_ne.1 h1.1
 cases hs:s.toList with
 | nil=>exact absurd hs h2
 | cons a l=>rfl
def linesB (s:ByteArray):List ByteArray:=if (piecesB 10 s).getLast? =some emp then(piecesB 10 s).dropLast else piecesB 10 s
def wordsB (s:ByteArray):List ByteArray:=(piecesB 32 s).filter fun x=>decide (x≠emp)
def skipB (l:List ByteArray):Bool:=decide (l.length=0) || decide (l[0]? =some ⟨#[47,47]⟩)
def runS {St:Type} (N:St→List ByteArray→St) (s:St) (ls:List ByteArray):St:=ls.foldl (fun s x=>if skipB (wordsB x) then s else N s (wordsB x)) s
def outS {St:Type} (A:St→List ByteArray→ByteArray) (N:St→List ByteArray→St):St→List ByteArray→List UInt8
 | _,[]=>[]
 | s,x::ls=>if skipB (wordsB x) then outS A N s ls else(A s (wordsB x)).data.toList++[10]++outS A N (N s (wordsB x)) ls
theorem runS_snoc {St:Type} (N:St→List ByteArray→St) (s:St) (ls:List ByteArray) (x:ByteArray):runS N s (ls++[x])=if skipB (wordsB x) then runS N s ls else N (runS N s ls) (wordsB x):=by
 unfold runS;rw [List.foldl_append];rfl
theorem outS_snoc {St:Type} (A:St→List ByteArray→ByteArray) (N:St→List ByteArray→St) (x:ByteArray): ∀(ls:List ByteArray) (s:St),outS A N s (ls++[x])=if skipB (wordsB x) then outS A N s ls else outS A N s ls++(A (runS N s ls) (wordsB x)).data.toList++[10]
 | [],s=>by
  show(if skipB (wordsB x) then _ else _)=_
  split <;> simp[outS,runS]
 | y::ls,s=>by
  have ih:=outS_snoc A N x ls
  have e:runS N s (y::ls)=runS N (if skipB (wordsB y) then s else N s (wordsB y)) ls:=rfl
  show(if skipB (wordsB y) then outS A N s (ls++[x]) else(A s (wordsB y)).data.toList++[10]++outS A N (N s (wordsB y)) (ls++[x]))=_
  rw[ih,ih,e]
  show _=if skipB (wordsB x) then(if skipB (wordsB y) then outS A N s ls else _) else _
  by_cases hy:skipB (wordsB y)=true
  ·simp only[hy,if_true,outS]
  ·simp only[hy,outS]
   by_cases hx:skipB (wordsB x)=true
   ·simp[hx]
   ·simp[hx]
def SKt (t:Nat):Bool:=t==9 || t==5 || t==45
structure SK (w w':World):Prop where
 size:w.heap.size≤w'.heap.size
 blk: ∀(k:Nat) (cs:Array Value) (t:TypeId),w.heap[k]? =some (Obj.cells cs t (0,0))→SKt t=true→w'.heap[k]? =some (Obj.cells cs t (0,0))
theorem SK.of_below {w w':World} (h:Below w.heap.size w w'):SK w w':=⟨h.size,fun _ _ _ hk _=>below_keep h hk⟩
theorem Bu.sk {w w':World} {b:Nat} {l:List UInt8} (h:Bu w b l) (hk:SK w w'):Bu w' b l:=Bu.other h fun k cs t h1 h2=>hk.blk k cs t h1 (by
 unfold NB at h2
 unfold SKt
 simp only[Bool.and_eq_false_iff,bne_eq_false_iff_eq] at h2
 rcases h2 with rfl | rfl <;> decide)
structure Ansr (St:Type) (At:Nat→World→St→Prop) (A:St→List ByteArray→ByteArray) (N:St→List ByteArray→St) (s0:St) (w0:World) (P:List ByteArray→Prop):Prop where
 st: ∀d w w' s,At d w s→DKeep w w'→At d w' s
 new: ∀d w,w.heap[d]? =some (.cells #[.pointer none, .slice none 0 0] 41 (0,0))→w0.heap.size≤d→At d w s0
 sz: ∀s l,P l→(A s l).size≤1000000
 ans: ∀d s l (v:Value) (w:World),P l→At d w s→w.ownsRow 0 9 1 v l.length (l.map Value.string)→l.length≤100000→Below w0.heap.size w0 w→
  Calls Tryz.prog 15 #[.pointer (some ⟨d,0,none⟩),v] w fun e w'=>e= .returned (.string (A s l))∧At d w' (N s l)∧SK w w'∧Below w0.heap.size w w'
set_option maxRecDepth 100000 in
theorem StTy.i:(Tryz.prog.info? 9).map (fun i=>(i.zero,i.size,i.bytes))=some (some (.string ByteArray.empty),1,16):=by kernel_rfl
structure StB (w:World) (b:Nat) (l:List ByteArray):Prop where
 blk:w.heap[b]? =some (.cells (l.map Value.string).toArray 9 (0,0))
theorem StB.get {w:World} {b k:Nat} {l:List ByteArray} (h:StB w b l) (hk:k < l.length):w.cell? ⟨b,k,none⟩=some (.string l[k]):=cell_of_block (j:=k) h.blk (by rw[List.getElem?_toArray,List.getElem?_map,List.getElem?_eq_getElem hk];rfl)
theorem StB.below {w w':World} {b:Nat} {l:List ByteArray} (h:StB w b l) (hb:Below w.heap.size w w'):StB w' b l:=⟨below_keep hb h.blk⟩
def errT:ByteArray:=⟨#[101,114,114,111,114,32,50,10]⟩
def bigB (s:ByteArray):Bool:=decide (65536 < s.size) || decide (200 < (linesB s).length)
def RunPost {St:Type} (A:St→List ByteArray→ByteArray) (N:St→List ByteArray→St) (s0:St) (s:ByteArray) (w:World) (e:Ending) (w':World):Prop:=e= .returned (.string (if bigB s then errT else⟨(outS A N s0 (linesB s)).toArray⟩))∧Below w.heap.size w w'
theorem run_big {St:Type} {A:St→List ByteArray→ByteArray} {N:St→List ByteArray→St} {s0:St} {s:ByteArray} {w w':World} (h:bigB s=true) (hb:Below w.heap.size w w'):RunPost A N s0 s w (.returned (.string ⟨#[101,114,114,111,114,32,50,10]⟩)) w':=⟨by rw[h];rfl,hb⟩
theorem outS_len {St:Type} {A:St→List ByteArray→ByteArray} {N:St→List ByteArray→St} {P:List ByteArray→Prop} {K:Nat} (hA: ∀s l,P l→(A s l).size≤K): ∀(ls:List ByteArray) (s:St),(∀x∈ls,skipB (wordsB x)=false→P (wordsB x))→(outS A N s ls).length≤ls.length*(K+1)
 | [],_,_=>by simp[outS]
 | x::ls,s,h=>by
  have ih:=fun s=>outS_len (N:=N) hA ls s fun y hy=>h y (List.mem_cons_of_mem _ hy)
  cases hx:skipB (wordsB x)
  ·simp only[outS,hx]
   have h1:=hA s (wordsB x) (h x (List.mem_cons_self ..) hx)
   have h2:=ih (N s (wordsB x))
   have h3:(A s (wordsB x)).data.toList.length=(A s (wordsB x)).size:=rfl
   simp only[Bool.false_eq_true,if_false,List.length_append,List.length_cons,List.length_nil]
   rw[Nat.add_mul,Nat.one_mul];omega
  ·simp only[outS,hx,if_true]
   have h2:=ih s
   simp only[List.length_cons]
   rw[Nat.add_mul,Nat.one_mul];omega
theorem words_next {x:List ByteArray} {k:Nat} (h:k < x.length):(x.take (k+1)).filter (fun y=>decide (y≠emp))=(x.take k).filter (fun y=>decide (y≠emp))++(if x[k]=emp then [] else [x[k]]):=by
 rw[List.take_succ_eq_append_getElem h,List.filter_append]
 congr 1
 by_cases e:x[k]=emp
 ·rw[if_pos e];simp [e]
 ·rw[if_neg e];simp [e]
theorem splitB_size (sep:ByteArray) (sv:Nat): ∀(k:Nat) (s x:ByteArray),x∈Lib.splitB sep sv k s→x.size≤s.size
 | 0,s,x,h=>by
  rw[Lib.splitB_zero,List.mem_singleton] at h
  rw[h];exact Nat.le_refl _
 | k+1,s,x,h=>by
  by_cases hm:Lib.indexB s sep= -1
  ·rw[Lib.splitB_miss _ _ _ _ hm,List.mem_singleton] at h
   rw[h];exact Nat.le_refl _
  ·unfold Lib.splitB at h
   rw[if_neg (by simpa using hm)] at h
   rcases List.mem_cons.1 h with rfl | h
   ·rw[ByteArray.size_extract];omega
   ·have:=splitB_size sep sv k _ x h
    rw[ByteArray.size_extract] at this;omega
theorem pieces_size {c:UInt8} {s x:ByteArray} (h:x∈piecesB c s):x.size≤s.size:=splitB_size _ _ _ _ _ h
theorem pieces_len (c:UInt8) (s:ByteArray):(piecesB c s).length≤s.size+1:=by
 have h1:=piecesB_len c s
 have h2:=Lib.countB_le ⟨#[c]⟩ (Nat.le_refl 1) s.size s (Nat.le_refl _)
 omega
def wdsK (ps:List ByteArray) (j:Nat):List ByteArray:=(ps.take j).filter fun y=>decide (y≠emp)
theorem wdsK_len (ps:List ByteArray) (j:Nat):(wdsK ps j).length≤j:=by
 unfold wdsK
 have h1:=List.length_filter_le (fun y=>decide (y≠emp)) (ps.take j)
 have h2:(ps.take j).length≤j:=by rw[List.length_take];omega
 omega
theorem wdsK_all (ps:List ByteArray):wdsK ps ps.length=ps.filter fun y=>decide (y≠emp):=by unfold wdsK;rw [List.take_length]
def cmtB:ByteArray:=⟨#[47,47]⟩
theorem cmt_list:cmtB.toList=[47,47]:=by rw[Lib.toList_data];rfl
theorem ceq {s:ByteArray} (h:s=cmtB):(s.toList==[47,47])=true:=by have:=(seq_ (b:=cmtB) h).1;rwa [cmt_list] at this
theorem cne {s:ByteArray} (h:s≠cmtB):(s.toList==[47,47])=false:=by have:=(sneq (b:=cmtB) h).1;rwa [cmt_list] at this
theorem skip_nil {l:List ByteArray} (h:l.length=0):skipB l=true:=by unfold skipB;rw [decide_eq_true h];rfl
theorem skip_cmt {l:List ByteArray} (h0:0 < l.length) (h:l[0]=cmtB):skipB l=true:=by
 unfold skipB
 rw[List.getElem?_eq_getElem h0,h,decide_eq_true (show some cmtB=some ⟨#[47,47]⟩ from rfl),Bool.or_true]
theorem skip_no {l:List ByteArray} (h0:0 < l.length) (h:l[0]≠cmtB):skipB l=false:=by
 unfold skipB
 have e:decide (some l[0]=some (⟨#[47,47]⟩:ByteArray))=false:=decide_eq_false (fun e=>h (Option.some.inj e))
 rw[List.getElem?_eq_getElem h0,decide_eq_false (by omega),e];rfl
theorem StB.dk {w w':World} {b:Nat} {l:List ByteArray} (h:StB w b l) (hk:DKeep w w'):StB w' b l:=⟨hk.blk _ _ _ h.blk (by decide)⟩
theorem StB.sk {w w':World} {b:Nat} {l:List ByteArray} (h:StB w b l) (hk:SK w w'):StB w' b l:=⟨hk.blk _ _ _ h.blk (by decide)⟩
structure RunI {St:Type} (At:Nat→World→St→Prop) (A:St→List ByteArray→ByteArray) (N:St→List ByteArray→St) (s0:St) (w0:World) (BL D:Nat) (ls:List ByteArray) (n k:Nat) (w:World):Prop where
 at_:At D w (runS N s0 (ls.take k))
 bu:Bu w (D+1) (outS A N s0 (ls.take k))
 st:StB w BL ls
 bel:Below w0.heap.size w0 w
 lt:D+1 < w.heap.size
theorem RunI.skip {St:Type} {At:Nat→World→St→Prop} {A:St→List ByteArray→ByteArray} {N:St→List ByteArray→St} {s0:St} {w0 w w':World} {P:List ByteArray→Prop} {BL D n k:Nat} {ls:List ByteArray} {x:ByteArray} (h:RunI At A N s0 w0 BL D ls n k w) (hA:Ansr St At A N s0 w0 P) (hx:ls.take (k+1)=ls.take k++[x]) (hs:skipB (wordsB x)=true) (hb:Below w.heap.size w w'):RunI At A N s0 w0 BL D ls n (k+1) w':=by
 refine⟨?_, ?_,h.st.below hb,h.bel.trans (hb.mono h.bel.size),Nat.lt_of_lt_of_le h.lt hb.size⟩
 ·rw[hx,runS_snoc,if_pos hs];exact hA.st _ _ _ _ h.at_ (DKeep.of_below hb)
 ·rw[hx,outS_snoc,if_pos hs];exact h.bu.below hb
set_option maxRecDepth 100000 in
set_option maxHeartbeats 16000000 in
theorem run_c {St:Type} {At:Nat→World→St→Prop} {A:St→List ByteArray→ByteArray} {N:St→List ByteArray→St} {s0:St} {P:List ByteArray→Prop} (s:ByteArray) (w:World) (hs:s.size < 4294967281) (hA:Ansr St At A N s0 w P) (hP:bigB s=false→ ∀x∈linesB s,skipB (wordsB x)=false→P (wordsB x)):
  Calls Tryz.prog 6 #[.string s] w (RunPost A N s0 s w):=by
 have HSP:=Lib.hid (split_c s 10 w hs)
 have HA:=Lib.hid hA
 have HPP:=Lib.hid hP
 have hlen:=piecesB_len 10 s
 have hcl:=Lib.countB_le ⟨#[10]⟩ (Nat.le_refl 1) s.size s (Nat.le_refl _)
 obtain⟨ls,hls⟩: ∃l,l=piecesB 10 s:=⟨_,rfl⟩
 rw[←hls] at hlen HSP
 obtain⟨m,hm⟩: ∃m,ls.length=m+1:=⟨ls.length - 1,by omega⟩
 have hm2:m≤4294967290:=by omega
 have HLS:=Lib.hid hls
 have HM:=Lib.hid hm
 rw[hm] at HSP
 clear hA hP hls hlen hcl hm
 go_enter Tryz.func6,Tryz.ntmps6
 go_wp2_with fail
 (with_reducible refine(HSP.out).mono ?_)
 rintro e w1 ⟨rfl,hw1⟩
 obtain⟨BL,hBL⟩: ∃B,B=w.heap.size:=⟨_,rfl⟩
 have hb1:Below w.heap.size w w1:=by rw[hw1];exact bal _
 have HSB:=Lib.hid (show StB w1 BL ls from⟨by rw[hw1,hBL];exact alloc_new _ _ _ _ rfl⟩)
 have HB1:=Lib.hid hb1
 rw[←hBL]
 have HBL:=Lib.hid hBL
 clear hw1 hb1 HSP hBL
 have hlast:=HSB.out.get (k:=m) (by have:=HM.out;omega)
 have hll:=hlt_of HSB.out.blk
 by_cases hem:ls[m]'(by have:=HM.out;omega)=emp
 ·obtain⟨q1,q2,q3⟩:=eempty hem
  have HLN:=Lib.hid (show linesB s=ls.take (m) from by
   have hlast2:ls.getLast? =some (ls[m]'(by have:=HM.out;omega)):=by rw[List.getLast?_eq_getElem?,List.getElem?_eq_getElem (by have:=HM.out;omega)];congr 1;simp [HM.out]
   unfold linesB
   rw[←HLS.out,hlast2]
   rw[if_pos (by rw[hem]),List.dropLast_eq_take,HM.out];rfl)
  have HNL:=Lib.hid (show(ls.take (m)).length=m by rw[List.length_take,HM.out];omega)
  generalize ls[m]'(by have:=HM.out;omega)=xl at*
  clear hem
  have HBG:=Lib.hid (show bigB s=(decide (65536 < s.size) || decide (200 < m)) by unfold bigB;rw [HLN.out,HNL.out])
  by_cases h65:65536 < s.size
  ·have HBT:=Lib.hid (show bigB s=true by rw[HBG.out,decide_eq_true h65];rfl)
   have hd:decide ((65536:Int) < (s.size:Int))=true:=by rw[decide_eq_true_eq];omega
   clear HBG HPP
   go_wp2
   go_ret
   exact run_big HBT.out HB1.out
  have hd:decide ((65536:Int) < (s.size:Int))=false:=by rw[decide_eq_false_iff_not];omega
  by_cases h200:200 < m
  ·have HBT:=Lib.hid (show bigB s=true by rw[HBG.out,decide_eq_true h200,Bool.or_true])
   have hd2:decide ((200:Int) < ((m:Nat):Int))=true:=by rw[decide_eq_true_eq];omega
   clear HBG HPP
   go_wp2
   go_ret
   exact run_big HBT.out HB1.out
  have hd2:decide ((200:Int) < ((m:Nat):Int))=false:=by rw[decide_eq_false_iff_not];omega
  have HBT:=Lib.hid (show bigB s=false by rw[HBG.out,decide_eq_false h65,decide_eq_false h200];rfl)
  have HPW:=Lib.hid (show ∀x∈ls.take (m),skipB (wordsB x)=false→P (wordsB x) by rw[←HLN.out];exact HPP.out HBT.out)
  have h65b:s.size≤65536:=by omega
  obtain⟨D,hD⟩: ∃D,D=w1.heap.size:=⟨_,rfl⟩
  obtain⟨w2,hw2⟩: ∃x,x=(w1.alloc (.cells #[.pointer none, .slice none 0 0] 41)).alloc (.cells #[.pointer none, .slice none 0 0] 45):=⟨_,rfl⟩
  have hb2:Below w1.heap.size w1 w2:=by rw[hw2];exact (bal _).alloc (by simp) _
  have HI:=Lib.hid (show RunI At A N s0 w BL D ls (m) 0 w2 from by
   refine⟨HA.out.new D w2 ?_ ?_,Bu.new ?_,HSB.out.below hb2,bstep HB1.out hb2, ?_⟩
   ·rw[hw2,hD];exact alloc_keep _ (alloc_new _ _ _ _ rfl)
   ·rw[hD];exact HB1.out.size
   ·rw[hw2,hD];exact alloc_new _ _ _ _ (by simp)
   ·rw[hw2,hD];simp)
  have HDB:=Lib.hid (show w.heap.size≤D+1 by rw[hD];exact Nat.le_succ_of_le HB1.out.size)
  have hDs:(w1.alloc (.cells #[.pointer none, .slice none 0 0] 41)).heap.size=D+1:=by rw[hD];simp
  go_wp2_with fail
  rw[←hw2,←hD]
  clear hw2 hb2 hD hDs hlast hll hd hd2 q1 q2 q3
  go_loopw [38] (fun i wr=> ∃k:Nat,k≤m∧i= .int .i64 k∧RunI At A N s0 w BL D ls (m) k wr) (fun i _=>m - (intOf i).toNat)
  case atStart=>exact ⟨0,Nat.zero_le _,rfl,HI.out⟩
  case round=>
   obtain⟨k,hk,rfl,hI⟩:=hrel
   clear HI
   by_cases hlt:k < m
   rotate_left
   ·obtain rfl:m=k:=by omega
    have hkb:decide (((m:Nat):Int) < ((m:Nat):Int))=false:=by simp
    have HST:=Lib.hid (bst_c (D+1) _ wr hI.bu (Nat.le_of_lt hI.lt))
    have HBR:=Lib.hid hI.bel
    have HDD:=Lib.hid (show w.heap.size≤D+1 from HDB.out)
    rw[←HLN.out] at HST
    clear hI
    go_wp2_with fail
    (with_reducible refine(HST.out).mono ?_)
    rintro e w3 ⟨rfl,hb⟩
    have HF:=Lib.hid (HBR.out.trans (hb.mono HDD.out))
    clear hb HST HBR
    go_wp2
    go_ret
    exact⟨by rw[HBT.out];rfl,HF.out⟩
   obtain⟨wo,hwo⟩: ∃x,x=wr:=⟨_,rfl⟩
   rw[←hwo] at hI ⊢
   clear hwo
   have hkb:decide ((k:Int) < ((m:Nat):Int))=true:=by simp;omega
   have hkl:k < ls.length:=by have:=HM.out;omega
   have hcell:=hI.st.get hkl
   have hbll:=hlt_of hI.st.blk
   have HI:=Lib.hid hI
   have HTK:=Lib.hid (show ls.take (k+1)=ls.take k++[ls[k]] from List.take_succ_eq_append_getElem hkl)
   have HIN:=Lib.hid (show ls[k]∈ls.take (m) from by rw[List.mem_take_iff_getElem];exact ⟨k,by omega,rfl⟩)
   have hsz:(ls[k]).size≤65536:=Nat.le_trans (pieces_size (c:=10) (by rw[←HLS.out];exact List.getElem_mem hkl)) h65b
   have HSP:=Lib.hid (split_c ls[k] 32 wo (by omega))
   have hpl:=pieces_len 32 ls[k]
   have HWW:=Lib.hid (show wordsB ls[k]=(piecesB 32 ls[k]).filter (fun y=>decide (y≠emp)) from rfl)
   generalize ls[k]=x at*
   generalize piecesB 32 x=ps at*
   have hps:ps.length≤65537:=by omega
   clear hI hpl hsz
   go_wp2_with fail
   (with_reducible refine(HSP.out).mono ?_)
   rintro e w3 ⟨rfl,hw3⟩
   obtain⟨BP,hBP⟩: ∃B,B=wo.heap.size:=⟨_,rfl⟩
   have hb3:Below wo.heap.size wo w3:=by rw[hw3];exact bal _
   have HPS:=Lib.hid (show StB w3 BP ps from⟨by rw[hw3,hBP];exact alloc_new _ _ _ _ rfl⟩)
   have HI3:=Lib.hid (show RunI At A N s0 w BL D ls (m) k w3 from⟨HA.out.st _ _ _ _ HI.out.at_ (DKeep.of_below hb3),HI.out.bu.below hb3,HI.out.st.below hb3,HI.out.bel.trans (hb3.mono HI.out.bel.size),Nat.lt_of_lt_of_le HI.out.lt hb3.size⟩)
   rw[←hBP]
   clear hw3 hb3 HSP hBP HI hcell hbll
   go_wp2
   go_loopw [9,45] (fun av i wy=> ∃j:Nat,j≤ps.length∧i= .int .i64 j∧wy.ownsRow w3.heap.size 9 1 av (wdsK ps j).length ((wdsK ps j).map Value.string)∧Below w3.heap.size w3 wy) (fun _ i _=>ps.length - (intOf i).toNat)
   case atStart=>exact ⟨0,Nat.zero_le _,rfl,World.ownsRow_nil _ _ _ _,Below.refl _ _⟩
   case round=>
    obtain⟨j,hj,rfl,how,hbl⟩:=hrel
    obtain⟨aa,ac,hav⟩:=owns_slice how
    subst hav
    have HOW:=Lib.hid how
    have HBLW:=Lib.hid hbl
    have hwl:=wdsK_len ps j
    by_cases hjl:j < ps.length
    ·have hjb:decide ((j:Int) < (ps.length:Int))=true:=by simp;omega
     have hpc:=(HPS.out.below hbl).get hjl
     have hpl:=hlt_of (HPS.out.below hbl).blk
     have HNX:=Lib.hid (show wdsK ps (j+1)=wdsK ps j++(if ps[j]=emp then [] else [ps[j]]) from words_next hjl)
     generalize ps[j]=y at*
     clear how hbl
     by_cases hy:y=emp
     ·obtain⟨q1,q2,q3⟩:=eempty hy
      have HN2:=Lib.hid (show wdsK ps (j+1)=wdsK ps j by rw[HNX.out,if_pos hy,List.append_nil])
      clear hy HNX
      go_wp2
      go_roundw
      case rel=>exact ⟨j+1,by omega,by go_num,by rw[HN2.out];exact HOW.out,HBLW.out⟩
      case measure=>simp [intOf] <;> omega
     ·obtain⟨q1,q2,q3⟩:=nempty hy
      have HN2:=Lib.hid (show wdsK ps (j+1)=wdsK ps j++[y] by rw[HNX.out,if_neg hy])
      obtain⟨i0,hi,hz0,hz1,hz2⟩:=info_parts StTy.i
      clear hy HNX
      go_wp2_with (at_builtin;refine wpList_append_own _ rfl _ _ 31 rfl w3.heap.size 9 i0 (.string ByteArray.empty) 1 16 Tryz.underlying31 hi hz0 hz1 hz2 rfl (by decide) _ _ _ rfl (HOW.out.alloc _) ⟨wr.heap.size,0,none⟩ 1 1 [.string y] rfl rfl ?c1 ?c2 ?c3 ?c4 ?c5 ?_)
      case c1=>
       intro jj u hj
       match jj,hj with
       | 0,hj=>simp at hj;subst hj;simp [Addr.add]
      case c2=>intro u hu;simp at hu;subst hu;rfl
      case c3=>unfold maxLen;omega
      case c4=>omega
      case c5=>have:=HBLW.out.size;simp;omega
      intro v' w5 hown' hgrow _
      have HB5:=Lib.hid ((HBLW.out.trans ((bal (.cells #[.string y] 9)).mono HBLW.out.size)).grown hgrow (by have:=HBLW.out.size;simp;omega) (fun q hq=>((HOW.out.alloc (.cells #[.string y] 9)).lt q hq).1))
      have HO5:=Lib.hid (show w5.ownsRow w3.heap.size 9 1 v' (wdsK ps (j+1)).length ((wdsK ps (j+1)).map Value.string) by
       rw[HN2.out,List.length_append,List.map_append];exact hown')
      obtain⟨va,vc,hv'⟩:=owns_slice HO5.out
      subst hv'
      clear hown' hgrow HOW HBLW hpc hpl hi hz0 hz1 hz2
      go_wp2
      go_roundw
      case rel=>exact ⟨j+1,by omega,by go_num,HO5.out,HB5.out⟩
      case measure=>simp [intOf] <;> omega
    obtain⟨wi,hwi⟩: ∃x,x=wr:=⟨_,rfl⟩
    rw[←hwi] at how hbl HOW HBLW ⊢
    clear hwi
    obtain rfl:j=ps.length:=by omega
    rw[wdsK_all,←HWW.out] at HOW hwl ⊢
    obtain⟨ws,hws⟩: ∃l,l=wordsB x:=⟨_,rfl⟩
    rw[←hws] at HOW hwl ⊢
    have HWS:=Lib.hid hws
    clear hws how hbl HWW HPS hjl hj
    by_cases h0:ws.length=0
    ·have hd0:decide ((ws.length:Int)=0)=true:=by simp[h0]
     have hd1:((ws.length:Int)==0)=true:=by simp[h0]
     have HN:=Lib.hid (HI3.out.skip HA.out HTK.out (by rw[←HWS.out];exact skip_nil h0) HBLW.out)
     clear HOW HBLW HI3
     go_wp2
     go_roundw
     case rel=>exact ⟨k+1,by omega,by go_num,HN.out⟩
     case measure=>simp [intOf] <;> omega
    have hd0:decide ((ws.length:Int)=0)=false:=by simpa using h0
    have hd1:((ws.length:Int)==0)=false:=by rw[beq_eq_false_iff_ne];omega
    have hw0:0 < ws.length:=by omega
    obtain⟨q9,cap9,hv9,hcap9,hq9, -,hc9⟩:=str_one HOW.out rfl hw0
    simp only[Value.slice.injEq,true_and] at hv9
    obtain⟨rfl,rfl⟩:=hv9
    by_cases hcm:ws[0]=cmtB
    ·have hce:=ceq hcm
     have HN:=Lib.hid (HI3.out.skip HA.out HTK.out (by rw[←HWS.out];exact skip_cmt hw0 hcm) HBLW.out)
     generalize ws[0]=y0 at*
     clear HOW HBLW HI3 hcm
     go_wp2
     go_roundw
     case rel=>exact ⟨k+1,by omega,by go_num,HN.out⟩
     case measure=>simp [intOf] <;> omega
    have hce:=cne hcm
    have HNS:=Lib.hid (skip_no hw0 hcm)
    have HPX:=Lib.hid (show P ws by rw[HWS.out];exact HPW.out x HIN.out (by rw[←HWS.out];exact HNS.out))
    have HAN:=Lib.hid (HA.out.ans D (runS N s0 (ls.take k)) ws _ wi HPX.out (HA.out.st _ _ _ _ HI3.out.at_ (DKeep.of_below HBLW.out)) (owns_mono HOW.out (Nat.zero_le _)) (by omega) (HI3.out.bel.trans (HBLW.out.mono HI3.out.bel.size)))
    have HOL:=Lib.hid (show(outS A N s0 (ls.take k)).length+(A (runS N s0 (ls.take k)) ws).size+1≤140737488355328 by
     have h1:=outS_len (N:=N) (K:=1000000) HA.out.sz (ls.take k) s0 (fun y hy=>HPW.out y ((List.take_subset_take_left ls (by omega)) hy))
     have h2:=HA.out.sz (runS N s0 (ls.take k)) ws HPX.out
     have h3:(ls.take k).length≤200:=by rw[List.length_take];omega
     have h4:=Nat.mul_le_mul_right 1000001 h3
     omega)
    generalize ws[0]=y0 at*
    clear hcm
    go_wp2_with fail
    (with_reducible refine(HAN.out).mono ?_)
    rintro e w6 ⟨rfl,hat6,hsk6,hbe6⟩
    have HAT6:=Lib.hid hat6
    have HBU6:=Lib.hid ((HI3.out.bu.below HBLW.out).sk hsk6)
    have HST6:=Lib.hid ((HI3.out.st.below HBLW.out).sk hsk6)
    have HBE6:=Lib.hid ((HI3.out.bel.trans (HBLW.out.mono HI3.out.bel.size)).trans hbe6)
    have HLT6:=Lib.hid (Nat.lt_of_lt_of_le HI3.out.lt (Nat.le_trans HBLW.out.size hsk6.size))
    have HWR:=Lib.hid (bws_c (D+1) _ (A (runS N s0 (ls.take k)) ws) w6 HBU6.out (by have:=HOL.out;omega))
    clear hat6 hsk6 hbe6 HAN HOW HBLW HI3 hc9 hq9
    go_wp2_with fail
    (with_reducible refine(HWR.out).mono ?_)
    rintro e w7 ⟨rfl,hbu7,hdk7,hbe7⟩
    have HBY:=Lib.hid (show Calls Tryz.prog 16 #[.pointer (some ⟨D+1,0,none⟩), .int .u8 10] w7 _ from bwb_c (D+1) _ 10 w7 hbu7 (by rw[List.length_append];have:=HOL.out;have h3:(A (runS N s0 (ls.take k)) ws).data.toList.length=(A (runS N s0 (ls.take k)) ws).size:=rfl;omega))
    have HDK7:=Lib.hid hdk7
    have HBE7:=Lib.hid (HBE6.out.trans (hbe7.mono HDB.out))
    clear hbu7 hdk7 hbe7 HWR
    go_wp2_with fail
    (with_reducible refine(HBY.out).mono ?_)
    rintro e w8 ⟨rfl,hbu8,hdk8,hbe8⟩
    have HN:=Lib.hid (show RunI At A N s0 w BL D ls (m) (k+1) w8 from by
     have hdk:=HDK7.out.trans hdk8
     have hns: ¬skipB (wordsB x)=true:=by rw[←HWS.out,HNS.out];decide
     refine⟨?_, ?_,HST6.out.dk hdk,HBE7.out.trans (hbe8.mono HDB.out),Nat.lt_of_lt_of_le HLT6.out hdk.size⟩
     ·rw[HTK.out,runS_snoc,if_neg hns,←HWS.out];exact HA.out.st _ _ _ _ HAT6.out hdk
     ·rw[HTK.out,outS_snoc,if_neg hns,←HWS.out];exact hbu8)
    clear hbu8 hdk8 hbe8 HBY HAT6 HBU6 HST6 HBE6 HLT6 HDK7 HBE7
    go_wp2
    go_roundw
    case rel=>exact ⟨k+1,by omega,by go_num,HN.out⟩
    case measure=>simp [intOf] <;> omega
 ·obtain⟨q1,q2,q3⟩:=nempty hem
  have HLN:=Lib.hid (show linesB s=ls.take (m+1) from by
   have hlast2:ls.getLast? =some (ls[m]'(by have:=HM.out;omega)):=by rw[List.getLast?_eq_getElem?,List.getElem?_eq_getElem (by have:=HM.out;omega)];congr 1;simp [HM.out]
   unfold linesB
   rw[←HLS.out,hlast2]
   rw[if_neg (by intro e;exact hem (Option.some.inj e)),←HM.out,List.take_length])
  have HNL:=Lib.hid (show(ls.take (m+1)).length=m+1 by rw[List.length_take,HM.out];omega)
  generalize ls[m]'(by have:=HM.out;omega)=xl at*
  clear hem
  have HBG:=Lib.hid (show bigB s=(decide (65536 < s.size) || decide (200 < m+1)) by unfold bigB;rw [HLN.out,HNL.out])
  by_cases h65:65536 < s.size
  ·have HBT:=Lib.hid (show bigB s=true by rw[HBG.out,decide_eq_true h65];rfl)
   have hd:decide ((65536:Int) < (s.size:Int))=true:=by rw[decide_eq_true_eq];omega
   clear HBG HPP
   go_wp2
   go_ret
   exact run_big HBT.out HB1.out
  have hd:decide ((65536:Int) < (s.size:Int))=false:=by rw[decide_eq_false_iff_not];omega
  by_cases h200:200 < m+1
  ·have HBT:=Lib.hid (show bigB s=true by rw[HBG.out,decide_eq_true h200,Bool.or_true])
   have hd2:decide ((200:Int) < ((m+1:Nat):Int))=true:=by rw[decide_eq_true_eq];omega
   clear HBG HPP
   go_wp2
   go_ret
   exact run_big HBT.out HB1.out
  have hd2:decide ((200:Int) < ((m+1:Nat):Int))=false:=by rw[decide_eq_false_iff_not];omega
  have HBT:=Lib.hid (show bigB s=false by rw[HBG.out,decide_eq_false h65,decide_eq_false h200];rfl)
  have HPW:=Lib.hid (show ∀x∈ls.take (m+1),skipB (wordsB x)=false→P (wordsB x) by rw[←HLN.out];exact HPP.out HBT.out)
  have h65b:s.size≤65536:=by omega
  obtain⟨D,hD⟩: ∃D,D=w1.heap.size:=⟨_,rfl⟩
  obtain⟨w2,hw2⟩: ∃x,x=(w1.alloc (.cells #[.pointer none, .slice none 0 0] 41)).alloc (.cells #[.pointer none, .slice none 0 0] 45):=⟨_,rfl⟩
  have hb2:Below w1.heap.size w1 w2:=by rw[hw2];exact (bal _).alloc (by simp) _
  have HI:=Lib.hid (show RunI At A N s0 w BL D ls (m+1) 0 w2 from by
   refine⟨HA.out.new D w2 ?_ ?_,Bu.new ?_,HSB.out.below hb2,bstep HB1.out hb2, ?_⟩
   ·rw[hw2,hD];exact alloc_keep _ (alloc_new _ _ _ _ rfl)
   ·rw[hD];exact HB1.out.size
   ·rw[hw2,hD];exact alloc_new _ _ _ _ (by simp)
   ·rw[hw2,hD];simp)
  have HDB:=Lib.hid (show w.heap.size≤D+1 by rw[hD];exact Nat.le_succ_of_le HB1.out.size)
  have hDs:(w1.alloc (.cells #[.pointer none, .slice none 0 0] 41)).heap.size=D+1:=by rw[hD];simp
  go_wp2_with fail
  rw[←hw2,←hD]
  clear hw2 hb2 hD hDs hlast hll hd hd2 q1 q2 q3
  go_loopw [38] (fun i wr=> ∃k:Nat,k≤m+1∧i= .int .i64 k∧RunI At A N s0 w BL D ls (m+1) k wr) (fun i _=>m+1 - (intOf i).toNat)
  case atStart=>exact ⟨0,Nat.zero_le _,rfl,HI.out⟩
  case round=>
   obtain⟨k,hk,rfl,hI⟩:=hrel
   clear HI
   by_cases hlt:k < m+1
   rotate_left
   ·obtain rfl:k=m+1:=by omega
    have hkb:decide (((m+1:Nat):Int) < ((m+1:Nat):Int))=false:=by simp
    have HST:=Lib.hid (bst_c (D+1) _ wr hI.bu (Nat.le_of_lt hI.lt))
    have HBR:=Lib.hid hI.bel
    have HDD:=Lib.hid (show w.heap.size≤D+1 from HDB.out)
    rw[←HLN.out] at HST
    clear hI
    go_wp2_with fail
    (with_reducible refine(HST.out).mono ?_)
    rintro e w3 ⟨rfl,hb⟩
    have HF:=Lib.hid (HBR.out.trans (hb.mono HDD.out))
    clear hb HST HBR
    go_wp2
    go_ret
    exact⟨by rw[HBT.out];rfl,HF.out⟩
   obtain⟨wo,hwo⟩: ∃x,x=wr:=⟨_,rfl⟩
   rw[←hwo] at hI ⊢
   clear hwo
   have hkb:decide ((k:Int) < ((m+1:Nat):Int))=true:=by simp;omega
   have hkl:k < ls.length:=by have:=HM.out;omega
   have hcell:=hI.st.get hkl
   have hbll:=hlt_of hI.st.blk
   have HI:=Lib.hid hI
   have HTK:=Lib.hid (show ls.take (k+1)=ls.take k++[ls[k]] from List.take_succ_eq_append_getElem hkl)
   have HIN:=Lib.hid (show ls[k]∈ls.take (m+1) from by rw[List.mem_take_iff_getElem];exact ⟨k,by omega,rfl⟩)
   have hsz:(ls[k]).size≤65536:=Nat.le_trans (pieces_size (c:=10) (by rw[←HLS.out];exact List.getElem_mem hkl)) h65b
   have HSP:=Lib.hid (split_c ls[k] 32 wo (by omega))
   have hpl:=pieces_len 32 ls[k]
   have HWW:=Lib.hid (show wordsB ls[k]=(piecesB 32 ls[k]).filter (fun y=>decide (y≠emp)) from rfl)
   generalize ls[k]=x at*
   generalize piecesB 32 x=ps at*
   have hps:ps.length≤65537:=by omega
   clear hI hpl hsz
   go_wp2_with fail
   (with_reducible refine(HSP.out).mono ?_)
   rintro e w3 ⟨rfl,hw3⟩
   obtain⟨BP,hBP⟩: ∃B,B=wo.heap.size:=⟨_,rfl⟩
   have hb3:Below wo.heap.size wo w3:=by rw[hw3];exact bal _
   have HPS:=Lib.hid (show StB w3 BP ps from⟨by rw[hw3,hBP];exact alloc_new _ _ _ _ rfl⟩)
   have HI3:=Lib.hid (show RunI At A N s0 w BL D ls (m+1) k w3 from⟨HA.out.st _ _ _ _ HI.out.at_ (DKeep.of_below hb3),HI.out.bu.below hb3,HI.out.st.below hb3,HI.out.bel.trans (hb3.mono HI.out.bel.size),Nat.lt_of_lt_of_le HI.out.lt hb3.size⟩)
   rw[←hBP]
   clear hw3 hb3 HSP hBP HI hcell hbll
   go_wp2
   go_loopw [9,45] (fun av i wy=> ∃j:Nat,j≤ps.length∧i= .int .i64 j∧wy.ownsRow w3.heap.size 9 1 av (wdsK ps j).length ((wdsK ps j).map Value.string)∧Below w3.heap.size w3 wy) (fun _ i _=>ps.length - (intOf i).toNat)
   case atStart=>exact ⟨0,Nat.zero_le _,rfl,World.ownsRow_nil _ _ _ _,Below.refl _ _⟩
   case round=>
    obtain⟨j,hj,rfl,how,hbl⟩:=hrel
    obtain⟨aa,ac,hav⟩:=owns_slice how
    subst hav
    have HOW:=Lib.hid how
    have HBLW:=Lib.hid hbl
    have hwl:=wdsK_len ps j
    by_cases hjl:j < ps.length
    ·have hjb:decide ((j:Int) < (ps.length:Int))=true:=by simp;omega
     have hpc:=(HPS.out.below hbl).get hjl
     have hpl:=hlt_of (HPS.out.below hbl).blk
     have HNX:=Lib.hid (show wdsK ps (j+1)=wdsK ps j++(if ps[j]=emp then [] else [ps[j]]) from words_next hjl)
     generalize ps[j]=y at*
     clear how hbl
     by_cases hy:y=emp
     ·obtain⟨q1,q2,q3⟩:=eempty hy
      have HN2:=Lib.hid (show wdsK ps (j+1)=wdsK ps j by rw[HNX.out,if_pos hy,List.append_nil])
      clear hy HNX
      go_wp2
      go_roundw
      case rel=>exact ⟨j+1,by omega,by go_num,by rw[HN2.out];exact HOW.out,HBLW.out⟩
      case measure=>simp [intOf] <;> omega
     ·obtain⟨q1,q2,q3⟩:=nempty hy
      have HN2:=Lib.hid (show wdsK ps (j+1)=wdsK ps j++[y] by rw[HNX.out,if_neg hy])
      obtain⟨i0,hi,hz0,hz1,hz2⟩:=info_parts StTy.i
      clear hy HNX
      go_wp2_with (at_builtin;refine wpList_append_own _ rfl _ _ 31 rfl w3.heap.size 9 i0 (.string ByteArray.empty) 1 16 Tryz.underlying31 hi hz0 hz1 hz2 rfl (by decide) _ _ _ rfl (HOW.out.alloc _) ⟨wr.heap.size,0,none⟩ 1 1 [.string y] rfl rfl ?c1 ?c2 ?c3 ?c4 ?c5 ?_)
      case c1=>
       intro jj u hj
       match jj,hj with
       | 0,hj=>simp at hj;subst hj;simp [Addr.add]
      case c2=>intro u hu;simp at hu;subst hu;rfl
      case c3=>unfold maxLen;omega
      case c4=>omega
      case c5=>have:=HBLW.out.size;simp;omega
      intro v' w5 hown' hgrow _
      have HB5:=Lib.hid ((HBLW.out.trans ((bal (.cells #[.string y] 9)).mono HBLW.out.size)).grown hgrow (by have:=HBLW.out.size;simp;omega) (fun q hq=>((HOW.out.alloc (.cells #[.string y] 9)).lt q hq).1))
      have HO5:=Lib.hid (show w5.ownsRow w3.heap.size 9 1 v' (wdsK ps (j+1)).length ((wdsK ps (j+1)).map Value.string) by
       rw[HN2.out,List.length_append,List.map_append];exact hown')
      obtain⟨va,vc,hv'⟩:=owns_slice HO5.out
      subst hv'
      clear hown' hgrow HOW HBLW hpc hpl hi hz0 hz1 hz2
      go_wp2
      go_roundw
      case rel=>exact ⟨j+1,by omega,by go_num,HO5.out,HB5.out⟩
      case measure=>simp [intOf] <;> omega
    obtain⟨wi,hwi⟩: ∃x,x=wr:=⟨_,rfl⟩
    rw[←hwi] at how hbl HOW HBLW ⊢
    clear hwi
    obtain rfl:j=ps.length:=by omega
    rw[wdsK_all,←HWW.out] at HOW hwl ⊢
    obtain⟨ws,hws⟩: ∃l,l=wordsB x:=⟨_,rfl⟩
    rw[←hws] at HOW hwl ⊢
    have HWS:=Lib.hid hws
    clear hws how hbl HWW HPS hjl hj
    by_cases h0:ws.length=0
    ·have hd0:decide ((ws.length:Int)=0)=true:=by simp[h0]
     have hd1:((ws.length:Int)==0)=true:=by simp[h0]
     have HN:=Lib.hid (HI3.out.skip HA.out HTK.out (by rw[←HWS.out];exact skip_nil h0) HBLW.out)
     clear HOW HBLW HI3
     go_wp2
     go_roundw
     case rel=>exact ⟨k+1,by omega,by go_num,HN.out⟩
     case measure=>simp [intOf] <;> omega
    have hd0:decide ((ws.length:Int)=0)=false:=by simpa using h0
    have hd1:((ws.length:Int)==0)=false:=by rw[beq_eq_false_iff_ne];omega
    have hw0:0 < ws.length:=by omega
    obtain⟨q9,cap9,hv9,hcap9,hq9, -,hc9⟩:=str_one HOW.out rfl hw0
    simp only[Value.slice.injEq,true_and] at hv9
    obtain⟨rfl,rfl⟩:=hv9
    by_cases hcm:ws[0]=cmtB
    ·have hce:=ceq hcm
     have HN:=Lib.hid (HI3.out.skip HA.out HTK.out (by rw[←HWS.out];exact skip_cmt hw0 hcm) HBLW.out)
     generalize ws[0]=y0 at*
     clear HOW HBLW HI3 hcm
     go_wp2
     go_roundw
     case rel=>exact ⟨k+1,by omega,by go_num,HN.out⟩
     case measure=>simp [intOf] <;> omega
    have hce:=cne hcm
    have HNS:=Lib.hid (skip_no hw0 hcm)
    have HPX:=Lib.hid (show P ws by rw[HWS.out];exact HPW.out x HIN.out (by rw[←HWS.out];exact HNS.out))
    have HAN:=Lib.hid (HA.out.ans D (runS N s0 (ls.take k)) ws _ wi HPX.out (HA.out.st _ _ _ _ HI3.out.at_ (DKeep.of_below HBLW.out)) (owns_mono HOW.out (Nat.zero_le _)) (by omega) (HI3.out.bel.trans (HBLW.out.mono HI3.out.bel.size)))
    have HOL:=Lib.hid (show(outS A N s0 (ls.take k)).length+(A (runS N s0 (ls.take k)) ws).size+1≤140737488355328 by
     have h1:=outS_len (N:=N) (K:=1000000) HA.out.sz (ls.take k) s0 (fun y hy=>HPW.out y ((List.take_subset_take_left ls (by omega)) hy))
     have h2:=HA.out.sz (runS N s0 (ls.take k)) ws HPX.out
     have h3:(ls.take k).length≤200:=by rw[List.length_take];omega
     have h4:=Nat.mul_le_mul_right 1000001 h3
     omega)
    generalize ws[0]=y0 at*
    clear hcm
    go_wp2_with fail
    (with_reducible refine(HAN.out).mono ?_)
    rintro e w6 ⟨rfl,hat6,hsk6,hbe6⟩
    have HAT6:=Lib.hid hat6
    have HBU6:=Lib.hid ((HI3.out.bu.below HBLW.out).sk hsk6)
    have HST6:=Lib.hid ((HI3.out.st.below HBLW.out).sk hsk6)
    have HBE6:=Lib.hid ((HI3.out.bel.trans (HBLW.out.mono HI3.out.bel.size)).trans hbe6)
    have HLT6:=Lib.hid (Nat.lt_of_lt_of_le HI3.out.lt (Nat.le_trans HBLW.out.size hsk6.size))
    have HWR:=Lib.hid (bws_c (D+1) _ (A (runS N s0 (ls.take k)) ws) w6 HBU6.out (by have:=HOL.out;omega))
    clear hat6 hsk6 hbe6 HAN HOW HBLW HI3 hc9 hq9
    go_wp2_with fail
    (with_reducible refine(HWR.out).mono ?_)
    rintro e w7 ⟨rfl,hbu7,hdk7,hbe7⟩
    have HBY:=Lib.hid (show Calls Tryz.prog 16 #[.pointer (some ⟨D+1,0,none⟩), .int .u8 10] w7 _ from bwb_c (D+1) _ 10 w7 hbu7 (by rw[List.length_append];have:=HOL.out;have h3:(A (runS N s0 (ls.take k)) ws).data.toList.length=(A (runS N s0 (ls.take k)) ws).size:=rfl;omega))
    have HDK7:=Lib.hid hdk7
    have HBE7:=Lib.hid (HBE6.out.trans (hbe7.mono HDB.out))
    clear hbu7 hdk7 hbe7 HWR
    go_wp2_with fail
    (with_reducible refine(HBY.out).mono ?_)
    rintro e w8 ⟨rfl,hbu8,hdk8,hbe8⟩
    have HN:=Lib.hid (show RunI At A N s0 w BL D ls (m+1) (k+1) w8 from by
     have hdk:=HDK7.out.trans hdk8
     have hns: ¬skipB (wordsB x)=true:=by rw[←HWS.out,HNS.out];decide
     refine⟨?_, ?_,HST6.out.dk hdk,HBE7.out.trans (hbe8.mono HDB.out),Nat.lt_of_lt_of_le HLT6.out hdk.size⟩
     ·rw[HTK.out,runS_snoc,if_neg hns,←HWS.out];exact HA.out.st _ _ _ _ HAT6.out hdk
     ·rw[HTK.out,outS_snoc,if_neg hns,←HWS.out];exact hbu8)
    clear hbu8 hdk8 hbe8 HBY HAT6 HBU6 HST6 HBE6 HLT6 HDK7 HBE7
    go_wp2
    go_roundw
    case rel=>exact ⟨k+1,by omega,by go_num,HN.out⟩
    case measure=>simp [intOf] <;> omega
end Go.Proofs.YtajgndoiddmbmaaGreatDoor
