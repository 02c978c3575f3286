/- 'show' of a sentence, as a script of one line. No walk here. -/
import Derived.Test.YtajgndoiddmbmaaGreatDoorDesk3
namespace Go.Proofs.YtajgndoiddmbmaaGreatDoor
open Go.RowKit
def piecesL (c:UInt8) (l:List UInt8):List (List UInt8):=Lib.splitK [c] 0 (l.count c) l
theorem piecesB_data (c:UInt8) (s:ByteArray):(piecesB c s).map (·.data.toList)=piecesL c s.data.toList:=by
 unfold piecesB piecesL
 rw[Lib.splitB_data]
 congr 1
 show Lib.count s.data.toList [c]=_
 rw[Lib.count_one]
theorem piecesB_of {c:UInt8} {s:ByteArray} {L:List ByteArray} (h:piecesL c s.data.toList=L.map (·.data.toList)):piecesB c s=L:=by
 rw[←piecesB_data] at h
 exact(List.map_inj_right fun x y e=>ba_ext e).1 h
theorem pl_none {c:UInt8} {l:List UInt8} (h:c∉l):piecesL c l=[l]:=by
 unfold piecesL
 rw[List.count_eq_zero.2 h];rfl
theorem ib_app {c:UInt8} {r:List UInt8} : ∀ {a:List UInt8},c∉a→Lib.indexByte (a++c::r) c=a.length
 | [],_=>by simp[Lib.indexByte]
 | b::a,h=>by
  have h1:b≠c:=fun e=>h (by simp[e])
  have h2:c∉a:=fun e=>h (by simp[e])
  have ih:=ib_app (r:=r) h2
  show Lib.indexByte (b::(a++c::r)) c=_
  unfold Lib.indexByte
  rw[if_neg (by simpa using h1),ih,if_neg (by simp)]
  simp
theorem pl_cons {c:UInt8} {a r:List UInt8} (h:c∉a):piecesL c (a++c::r)=a::piecesL c r:=by
 have hi:Lib.index (a++c::r) [c]=a.length:=by rw[Lib.index_one];exact ib_app h
 unfold piecesL
 rw[List.count_append,List.count_eq_zero.2 h,List.count_cons_self,Nat.zero_add]
 have e: ∀(k:Nat) (l:List UInt8),Lib.splitK [c] 0 (k+1) l=if Lib.index l [c]== -1 then [l] else l.take ((Lib.index l [c]).toNat+0)::Lib.splitK [c] 0 k (l.drop ((Lib.index l [c]).toNat+[c].length)):=fun _ _=>rfl
 have h1:(a++c::r).take (((a.length:Nat):Int).toNat+0)=a:=by simp
 have h2:(a++c::r).drop (((a.length:Nat):Int).toNat+[c].length)=r:=by
  show(a++c::r).drop (a.length+1)=r
  rw[List.drop_append];simp
 rw[e,hi,if_neg (by simp),h1,h2]
def okb (b:ByteArray):Prop:= ∀x∈b.data.toList,x≠10∧x≠32
theorem okb_app {a b:ByteArray} (h:okb a) (k:okb b):okb (a++b):=fun x hx=>by
 rw[app_list,List.mem_append] at hx
 exact hx.elim (h x) (k x)
theorem okb_empty:okb ByteArray.empty:=fun x hx=>by
 have h1:ByteArray.empty.data.toList=[]:=rfl
 rw[h1] at hx;simp at hx
theorem okb_dig (n:Nat):okb (itB n):=by
 have key: ∀n,∀x∈Lib.decDigits n,x≠10∧x≠32:=by
  intro n
  induction n using Nat.strongRecOn with
  | _ n ih=>
   have hd: ∀d,d < 10→UInt8.ofNat (48+d)≠10∧UInt8.ofNat (48+d)≠32:=by decide
   intro x hx
   rw[Lib.decDigits] at hx
   split at hx
   ·rename_i h
    rw[List.mem_singleton] at hx
    subst hx;exact hd n h
   ·rename_i h
    rw[List.mem_append,List.mem_singleton] at hx
    rcases hx with hx | rfl
    ·exact ih (n / 10) (by omega) x hx
    ·exact hd (n%10) (by omega)
 intro x hx
 exact key n x (by simpa[itB] using hx)
theorem okb_ext {s:ByteArray} (h:okb s) (i j:Nat):okb (s.extract i j):=fun x hx=>by
 rw[Lib.extract_data] at hx
 exact h x (List.mem_of_mem_drop (List.mem_of_mem_take hx))
theorem okb_cut {s:ByteArray} (h:okb s):okb (cutS s):=by
 unfold cutS
 split
 ·exact okb_ext h _ _
 ·exact h
theorem okb_get {ss:List ByteArray} (h: ∀t∈ss,okb t) (i:Nat):okb (ss.getD i ByteArray.empty):=by
 rw[List.getD_eq_getElem?_getD]
 cases hi:ss[i]? with
 | none=>exact okb_empty
 | some t=>exact h t (List.mem_of_getElem? hi)
theorem okb_raw {ss:List ByteArray} (h: ∀t∈ss,okb t) (n:Nd):okb (rawS ss n):=by
 have l1: ∀c:UInt8,c≠10→c≠32→okb ⟨#[c]⟩:=fun c h1 h2 x hx=>by
  simp at hx;subst hx;exact ⟨h1,h2⟩
 have g:=fun i=>okb_get h i
 unfold rawS
 split
 ·exact l1 _ (by decide) (by decide)
 split
 ·exact okb_app (l1 _ (by decide) (by decide)) (okb_dig _)
 split
 ·exact okb_app (okb_app (okb_app (okb_app (l1 _ (by decide) (by decide)) (okb_dig _)) (l1 _ (by decide) (by decide))) (okb_dig _)) (l1 _ (by decide) (by decide))
 split
 ·exact okb_app (l1 _ (by decide) (by decide)) (g _)
 split
 ·exact okb_app (okb_app (okb_app (okb_app (l1 _ (by decide) (by decide)) (g _)) (l1 _ (by decide) (by decide))) (g _)) (l1 _ (by decide) (by decide))
 ·exact okb_app (okb_app (okb_app (okb_app (l1 _ (by decide) (by decide)) (g _)) (l1 _ (by decide) (by decide))) (g _)) (l1 _ (by decide) (by decide))
theorem okb_txts (l:Nds): ∀k,∀t∈txtsK l k,okb t
 | 0,t,h=>by simp[txtsK] at h
 | k+1,t,h=>by
  have ih:=okb_txts l k
  simp only[txtsK,List.mem_append,List.mem_singleton] at h
  rcases h with h | rfl
  ·exact ih t h
  ·exact okb_cut (okb_raw ih _)
theorem read_bytes {s:ByteArray} (h:readE s=0):okb s:=by
 obtain⟨-,h2⟩:=read_shown h
 rw[←h2]
 exact okb_get (okb_txts _ _) _
def showB (s:ByteArray):ByteArray:=⟨#[115,104,111,119,32]⟩++s
def scrB (s:ByteArray):ByteArray:=showB s++⟨#[10]⟩
theorem read_some {s:ByteArray} (h:readE s=0):s≠emp:=by
 rintro rfl
 exact absurd h (by decide+kernel)
theorem scr_lines {s:ByteArray} (h:readE s=0):linesB (scrB s)=[showB s]:=by
 have hb:=read_bytes h
 have e:(scrB s).data.toList=([115,104,111,119,32]++s.data.toList)++10::[]:=by
  unfold scrB showB;rw [app_list,app_list]
 have hn:(10:UInt8)∉([115,104,111,119,32]++s.data.toList:List UInt8):=by
  rw[List.mem_append]
  rintro(h1 | h1)
  ·exact absurd h1 (by decide)
  ·exact(hb _ h1).1 rfl
 have hp:piecesB 10 (scrB s)=[showB s,emp]:=by
  refine piecesB_of ?_
  rw[e,pl_cons hn,pl_none (by simp)]
  unfold showB
  simp only[List.map_cons,List.map_nil,app_list]
  rfl
 unfold linesB
 rw[hp];rfl
theorem scr_words {s:ByteArray} (h:readE s=0):wordsB (showB s)=showW s:=by
 have hb:=read_bytes h
 have e:(showB s).data.toList=[115,104,111,119]++32::s.data.toList:=by
  unfold showB;rw [app_list];rfl
 have hp:piecesB 32 (showB s)=[⟨#[115,104,111,119]⟩,s]:=by
  refine piecesB_of ?_
  rw[e,pl_cons (by decide),pl_none fun h1=>(hb _ h1).2 rfl]
  rfl
 unfold wordsB
 rw[hp]
 have h1:(⟨#[115,104,111,119]⟩:ByteArray)≠emp:=by decide
 have h2:=read_some h
 simp[h1,h2,showW]
theorem scr_big {s:ByteArray} (h:readE s=0):bigB (scrB s)=false:=by
 have h1:=readE_size h
 have h2:(scrB s).size=s.size+6:=by
  unfold scrB showB
  rw[ByteArray.size_append,ByteArray.size_append]
  show 5+s.size+1=_;omega
 unfold bigB
 rw[scr_lines h,decide_eq_false (by omega),decide_eq_false (by show ¬200 < 1;decide)];rfl
def A1 (_:Unit) (l:List ByteArray):ByteArray:=okS (l.getD 1 emp)
def N1 (_:Unit) (_:List ByteArray):Unit:=()
theorem scr_out {s:ByteArray} (h:readE s=0):(⟨(outS A1 N1 () (linesB (scrB s))).toArray⟩:ByteArray)=okS s++⟨#[10]⟩:=by
 rw[scr_lines h]
 have hs:skipB (wordsB (showB s))=false:=by
  rw[scr_words h]
  exact skip_no (l:=showW s) (by show 0 < 2;decide) (by show(⟨#[115,104,111,119]⟩:ByteArray)≠cmtB;decide)
 refine ba_ext ?_
 simp only[outS,hs,Bool.false_eq_true,if_false,List.append_nil]
 rw[scr_words h,app_list];rfl
theorem show_ansr {w:World} (hG:Gl w w.heap.size):Ansr Unit (fun _ _ _=>True) A1 N1 () w (fun l=> ∃s,readE s=0∧l=showW s) where
 st:=fun _ _ _ _ _ _=>trivial
 new:=fun _ _ _ _=>trivial
 sz:=fun _ l hl=>by
  obtain⟨s,h,rfl⟩:=hl
  have h1:=readE_size h
  show(okS s).size≤1000000
  unfold okS
  rw[ByteArray.size_append]
  show 3+s.size≤_;omega
 ans:=fun d _ l v w' hl _ hrow _ hb=>by
  obtain⟨s,h,rfl⟩:=hl
  refine(danswer_show d v s w' hrow ((hG.below hb).up hb.size) h).mono ?_
  rintro e w2 ⟨h1,h2⟩
  exact⟨h1,trivial,SK.of_below h2,h2.mono hb.size⟩
set_option maxRecDepth 100000 in
theorem show_run (s:ByteArray) (w:World) (hG:Gl w w.heap.size) (h:readE s=0):
  Calls Tryz.prog 6 #[.string (scrB s)] w fun e w'=>e= .returned (.string (okS s++⟨#[10]⟩))∧Below w.heap.size w w':=by
 have h1:=readE_size h
 have h2:(scrB s).size=s.size+6:=by
  unfold scrB showB
  rw[ByteArray.size_append,ByteArray.size_append]
  show 5+s.size+1=_;omega
 refine(run_c (scrB s) w (by omega) (show_ansr hG) (fun _ x hx hs=> ?_)).mono ?_
 ·rw[scr_lines h,List.mem_singleton] at hx
  subst hx
  exact⟨s,h,scr_words h⟩
 ·rintro e w' ⟨he,hb⟩
  rw[scr_big h] at he
  exact⟨by rw[he,if_neg (by decide),scr_out h],hb⟩
end Go.Proofs.YtajgndoiddmbmaaGreatDoor
