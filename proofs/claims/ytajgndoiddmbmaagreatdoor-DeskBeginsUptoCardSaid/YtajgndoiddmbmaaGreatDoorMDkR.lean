/- Towards what desk.Run answers. -/
import Derived.Test.YtajgndoiddmbmaaGreatDoorMDkP
import Derived.Shelf.Strings.Prefix
import Derived.Shelf.Strings.Search2
import Derived.Lib.MakeNoZero
import Derived.Shelf.Strings.Builder2
namespace Go.Proofs.YtajgndoiddmbmaaGreatDoor
set_option maxRecDepth 100000
set_option maxHeartbeats 40000000
open Go.RowKit
def fK (c:UInt8) (s:ByteArray):List ByteArray:=Lib.splitB ⟨#[c]⟩ 1 (Lib.countB s ⟨#[c]⟩) s
theorem DN (c:UInt8) (s:ByteArray):(fK c s).length=Lib.countB s ⟨#[c]⟩+1:=Lib.splitB_all ⟨#[c]⟩ (Nat.le_refl 1) 1 _ s rfl
def kT (c:UInt8) (l:List UInt8):List (List UInt8):=Lib.splitK [c] 1 (l.count c) l
theorem Bj (c:UInt8) (s:ByteArray):(fK c s).map (·.data.toList)=kT c s.data.toList:=by
 unfold fK kT;rw[Lib.splitB_data];congr 1;show Lib.count s.data.toList [c]=_;rw[Lib.count_one]
theorem Ms {c:UInt8} {l:List UInt8} (h:c∉l):kT c l=[l]:=by
 unfold kT;rw[List.count_eq_zero.2 h];rfl
theorem Mt {c:UInt8} {a r:List UInt8} (h:c∉a):kT c (a++c::r)=(a++[c])::kT c r:=by
 have hi:Lib.index (a++c::r) [c]=a.length:=by rw[Lib.index_one];exact Dg h
 unfold kT;rw[List.count_append,List.count_eq_zero.2 h,List.count_cons_self,Nat.zero_add];have e: ∀(k:Nat) (l:List UInt8),Lib.splitK [c] 1 (k+1) l=if Lib.index l [c]== -1 then [l] else l.take ((Lib.index l [c]).toNat+1)::Lib.splitK [c] 1 k (l.drop ((Lib.index l [c]).toNat+[c].length)):=fun _ _=>rfl;have h1:(a++c::r).take (((a.length:Nat):Int).toNat+1)=a++[c]:=by
  show(a++c::r).take (a.length+1)=_;rw[List.take_append,List.take_of_length_le (Nat.le_succ _)];simp
 have h2:(a++c::r).drop (((a.length:Nat):Int).toNat+[c].length)=r:=by
  show(a++c::r).drop (a.length+1)=r;rw[List.drop_append];simp
 rw[e,hi,if_neg (by simp),h1,h2]
theorem EW (c:UInt8): ∀l:List UInt8,c∉l∨ ∃a r,l=a++c::r∧c∉a
 | []=> .inl (by simp)
 | x::l=>by
  by_cases hx:x=c
  ·subst hx;exact .inr ⟨[],l,rfl,by simp⟩
  ·rcases EW c l with h | ⟨a,r,rfl,h⟩
   ·exact .inl (by simp[h,Ne.symm hx])
   ·exact .inr ⟨x::a,r,rfl,by simp[h,Ne.symm hx]⟩
theorem JZ {c:UInt8} {P:List UInt8→Prop} (h0: ∀l,c∉l→P l) (h1: ∀a r,c∉a→P r→P (a++c::r)): ∀l,P l:=by
 intro l;induction hn:l.length using Nat.strongRecOn generalizing l with
 | _ n ih=>
  rcases EW c l with h | ⟨a,r,rfl,h⟩
  ·exact h0 l h
  ·refine h1 a r h (ih r.length ?_ r rfl);rw[←hn,List.length_append,List.length_cons];omega
def jW (l:List UInt8):List (List UInt8):=if (iq 10 l).getLast? =some [] then(iq 10 l).dropLast else iq 10 l
theorem ab2 (c:UInt8) (l:List UInt8):iq c l≠[]:=by
 revert l;refine JZ (c:=c) (fun l h=> ?_) (fun a r h _=> ?_)
 ·rw[AB h];simp
 ·rw[Ez h];simp
theorem oz (s:ByteArray):(bQ s).map (·.data.toList)=jW s.data.toList:=by
 unfold bQ jW;rw[←yZ,List.getLast?_map];by_cases h:(dx 10 s).getLast? =some emp
 ·rw[if_pos h,if_pos (by rw[h];rfl),List.map_dropLast]
 ·rw[if_neg h,if_neg];intro e;rw[Option.map_eq_some_iff] at e;obtain⟨x,hx,hx2⟩:=e;exact h (by rw[hx];congr 1;exact eF hx2)
theorem Dc:jW []=[]:=by
 unfold jW;rw [AB (by simp)];rfl
theorem Xo {l:List UInt8} (h:(10:UInt8)∉l) (hn:l≠[]):jW l=[l]:=by
 unfold jW;rw[AB h,if_neg];simpa using hn
theorem EM {a r:List UInt8} (h:(10:UInt8)∉a):jW (a++10::r)=a::jW r:=by
 unfold jW;have hn:=ab2 10 r;rw[Ez h];obtain⟨x,L,hx⟩: ∃x L,iq 10 r=x::L:=by
  cases hp:iq 10 r with
  | nil=>exact absurd hp hn
  | cons x L=>exact ⟨x,L,rfl⟩
 rw[hx,List.getLast?_cons_cons];by_cases h:(x::L).getLast? =some []
 ·rw[if_pos h,if_pos h];rfl
 ·rw[if_neg h,if_neg h]
theorem NS (k:Nat) (l:List UInt8):jW ((kT 10 l).take k).flatten <+: jW l∧((kT 10 l).take k).flatten.length≤l.length:=by
 revert k;revert l;refine JZ (c:=10) (fun l h k=> ?_) (fun a r h ih k=> ?_)
 ·rw[Ms h];cases k with
  | zero=>rw [List.take_zero,List.flatten_nil,Dc];exact ⟨List.nil_prefix,Nat.zero_le _⟩
  | succ k=>rw [List.take_succ_cons,List.take_nil];simp
 ·rw[Mt h];cases k with
  | zero=>rw [List.take_zero,List.flatten_nil,Dc];exact ⟨List.nil_prefix,Nat.zero_le _⟩
  | succ k=>
   obtain⟨h1,h2⟩:=ih k;rw[List.take_succ_cons,List.flatten_cons,List.append_assoc];show jW (a++10::_) <+: _∧_;rw[EM h,EM h];refine⟨(List.prefix_cons_inj a).2 h1, ?_⟩;simp only[List.length_append,List.length_cons,List.length_nil];omega
theorem EK {L M:List ByteArray} (h:L.map (·.data.toList) <+: M.map (·.data.toList)):L <+: M:=by
 obtain⟨t,ht⟩:=h;have h1:L.map (·.data.toList)=(M.take L.length).map (·.data.toList):=by
  rw[List.map_take,←ht,List.take_left' (by simp)]
 have h2:L=M.take L.length:=(List.map_inj_right fun x y e=>eF e).1 h1;rw[h2];exact List.take_prefix _ _
theorem vZ {St:Type} (A:St→List ByteArray→ByteArray) (N:St→List ByteArray→St) (M:List ByteArray): ∀(L:List ByteArray) (s:St),outS A N s (L++M)=outS A N s L++outS A N (fA N s L) M
 | [],s=>rfl
 | x::L,s=>by
  have e:fA N s (x::L)=fA N (if cu (aS x) then s else N s (aS x)) L:=rfl;have h0: ∀L',outS A N s (x::L')=if cu (aS x) then outS A N s L' else(A s (aS x)).data.toList++[10]++outS A N (N s (aS x)) L':=fun _=>rfl;rw[List.cons_append,e,h0,h0];by_cases hx:cu (aS x)=true
  ·rw[if_pos hx,if_pos hx,if_pos hx];exact vZ A N M L s
  ·rw[if_neg hx,if_neg hx,if_neg hx,vZ A N M L _];simp only[List.append_assoc]
theorem Lm {St:Type} (A:St→List ByteArray→ByteArray) (N:St→List ByteArray→St) (s:St) {L M:List ByteArray} (h:L <+: M):outS A N s L <+: outS A N s M:=by
 obtain⟨t,rfl⟩:=h;rw[vZ];exact List.prefix_append _ _
def dG (l:List ByteArray):ByteArray:=⟨(l.flatMap (·.data.toList)).toArray⟩
theorem nU (l:List ByteArray):(dG l).data.toList=(l.map (·.data.toList)).flatten:=by
 unfold dG;show(l.flatMap (·.data.toList)).toArray.toList=_;rw[List.flatMap_def]
theorem uF (s:ByteArray) (k:Nat):bQ (dG ((fK 10 s).take k)) <+: bQ s∧(dG ((fK 10 s).take k)).size≤s.size:=by
 have h:=NS k s.data.toList;have e:(dG ((fK 10 s).take k)).data.toList=((kT 10 s.data.toList).take k).flatten:=by
  rw[nU,List.map_take,Bj]
 refine⟨EK ?_, ?_⟩
 ·rw[oz,oz,e];exact h.1
 ·have h2:=h.2;rw[←e] at h2;exact h2
theorem OG {s:ByteArray} (k:Nat) (h:eX s=false):eX (dG ((fK 10 s).take k))=false:=by
 obtain⟨h1,h2⟩:=uF s k;have h3:=h1.length_le;unfold eX at h ⊢;simp only[Bool.or_eq_false_iff,decide_eq_false_iff_not] at h ⊢;omega
theorem OJ {l:List ByteArray} (h: ∀a∈l,(10:UInt8)∉a.data.toList):kT 10 (l.flatMap fun a=>a.data.toList++[10])=l.map (fun a=>a.data.toList++[10])++[[]]:=by
 induction l with
 | nil=>exact Ms (by simp)
 | cons a l ih=>
  rw[List.flatMap_cons,List.append_assoc];show kT 10 (a.data.toList++10::(l.flatMap fun a=>a.data.toList++[10]))=_;rw[Mt (h a (List.mem_cons_self ..)),ih fun b hb=>h b (List.mem_cons_of_mem _ hb)];rfl
theorem Q9 {l:List ByteArray} (h: ∀a∈l,(10:UInt8)∉a.data.toList):fK 10 ⟨(l.flatMap fun a=>a.data.toList++[10]).toArray⟩=l.map (fun a=>a++⟨#[10]⟩)++[emp]:=by
 refine(List.map_inj_right fun x y e=>eF e).1 (?_:List.map (fun x:ByteArray=>x.data.toList) _=List.map (fun x:ByteArray=>x.data.toList) _);rw[Bj];show kT 10 (List.flatMap _ _)=_;rw[OJ h,List.map_append,List.map_map];congr 1
theorem K8 (s:ByteArray):(aS s).map (·.data.toList)=(iq 32 s.data.toList).filter (fun l=>decide (l≠[])):=by
 unfold aS;rw[←yZ];have key: ∀L:List ByteArray,(L.filter fun x=>decide (x≠emp)).map (·.data.toList)=(L.map (·.data.toList)).filter (fun l=>decide (l≠[])):=by
  intro L;induction L with
  | nil=>rfl
  | cons x L ih=>
   by_cases hx:x=emp
   ·subst hx;rw[List.filter_cons_of_neg (by simp),List.map_cons,List.filter_cons_of_neg (by simp[emp]),ih]
   ·have h2:x.data.toList≠[]:=fun e=>hx (eF e);rw[List.filter_cons_of_pos (by simpa using hx),List.map_cons,List.map_cons,List.filter_cons_of_pos (by simpa using h2),ih]
 exact key _
def fN (p:List (List UInt8)×List UInt8) (b:UInt8):List (List UInt8)×List UInt8:=if b=32 then(if p.2=[] then p.1 else p.1++[p.2],[]) else(p.1,p.2++[b])
theorem FN {l:List UInt8} (h:(32:UInt8)∉l): ∀(ws:List (List UInt8)) (cur:List UInt8),l.foldl fN (ws,cur)=(ws,cur++l):=by
 induction l with
 | nil=>intro ws cur;simp
 | cons b l ih=>
  intro ws cur;have h1:b≠32:=fun e=>h (by simp[e]);rw[List.foldl_cons];unfold fN;rw[if_neg h1];show List.foldl fN _ _=_;rw[ih (fun e=>h (by simp[e]))];simp
theorem Nr (l:List UInt8): ∀(ws:List (List UInt8)) (cur:List UInt8),(32:UInt8)∉cur→(l.foldl fN (ws,cur)).1++(if (l.foldl fN (ws,cur)).2=[] then [] else [(l.foldl fN (ws,cur)).2])=ws++(iq 32 (cur++l)).filter (fun l=>decide (l≠[])):=by
 revert l;refine JZ (c:=32) (fun l h ws cur hc=> ?_) (fun a r h ih ws cur hc=> ?_)
 ·rw[FN h,AB (by simp[h,hc])];by_cases e:cur++l=[]
  ·rw[if_pos e,List.filter_cons_of_neg (by simpa using e)];simp
  ·rw[if_neg e,List.filter_cons_of_pos (by rw[decide_eq_true_eq];exact e)];simp
 ·have e1:(a++32::r).foldl fN (ws,cur)=r.foldl fN (if cur++a=[] then ws else ws++[cur++a],[]):=by
   rw[List.foldl_append,FN h,List.foldl_cons];congr 1
  rw[e1,ih _ _ (by simp),←List.append_assoc,Ez (by simp[h,hc])];by_cases e:cur++a=[]
  ·rw[if_pos e,List.filter_cons_of_neg (by simpa using e)];simp
  ·rw[if_neg e,List.filter_cons_of_pos (by rw[decide_eq_true_eq];exact e)];simp
def iA (s:ByteArray) (i:Nat):List ByteArray×ByteArray:=((((s.data.toList.take i).foldl fN ([],[])).1).map fun l=>⟨l.toArray⟩,⟨(((s.data.toList.take i).foldl fN ([],[])).2).toArray⟩)
theorem Pn (s:ByteArray):iA s 0=([],emp):=rfl
theorem Ns {s:ByteArray} {i:Nat} (h:i < s.size) (hb:s.data.toList[i]? =some 32):iA s (i+1)=(if (iA s i).2=emp then(iA s i).1 else(iA s i).1++[(iA s i).2],emp):=by
 have hl:i < s.data.toList.length:=h;have e:s.data.toList.take (i+1)=s.data.toList.take i++[32]:=by
  rw[List.take_succ_eq_append_getElem hl];rw[List.getElem?_eq_getElem hl] at hb;rw[Option.some.inj hb]
 unfold iA;rw[e,List.foldl_append];generalize (s.data.toList.take i).foldl fN ([],[])=p;obtain⟨ws,cur⟩:=p;show((fN (ws,cur) 32).1.map _,_)=_;unfold fN;rw[if_pos rfl];by_cases hc:cur=[]
 ·subst hc;simp [emp]
 ·simp[hc,emp]
theorem Po {s:ByteArray} {i:Nat} {b:UInt8} (h:i < s.size) (hb:s.data.toList[i]? =some b) (hn:b≠32):iA s (i+1)=((iA s i).1,(iA s i).2++s.extract i (i+1)):=by
 have hl:i < s.data.toList.length:=h;have nD:s.data.toList[i]=b:=by
  rw[List.getElem?_eq_getElem hl] at hb;exact Option.some.inj hb
 have e:s.data.toList.take (i+1)=s.data.toList.take i++[b]:=by
  rw[List.take_succ_eq_append_getElem hl,nD]
 have e2:(s.extract i (i+1)).data.toList=[b]:=by
  rw[Lib.extract_data];have h3:(s.data.toList.take (i+1)).drop i=[b]:=by
   rw[e,List.drop_append,List.length_take,Nat.min_eq_left (Nat.le_of_lt hl)];simp
  rw[List.drop_take] at h3;exact h3
 unfold iA;rw[e,List.foldl_append];generalize (s.data.toList.take i).foldl fN ([],[])=p;obtain⟨ws,cur⟩:=p;have h5:[b].foldl fN (ws,cur)=(ws,cur++[b]):=by
  show fN (ws,cur) b=_;unfold fN;rw[if_neg hn]
 rw[h5];refine Prod.ext rfl (eF ?_);rw[jG,e2]
theorem SH (s:ByteArray):(if (iA s s.size).2=emp then(iA s s.size).1 else(iA s s.size).1++[(iA s s.size).2])=aS s:=by
 refine(List.map_inj_right fun x y e=>eF e).1 (?_:List.map (fun x:ByteArray=>x.data.toList) _=List.map (fun x:ByteArray=>x.data.toList) _);rw[K8];have h:=Nr s.data.toList [] [] (by simp);rw[List.nil_append,List.nil_append] at h;rw[←h];have ht:s.data.toList.take s.size=s.data.toList:=List.take_of_length_le (Nat.le_refl _);unfold iA;rw[ht];generalize s.data.toList.foldl fN ([],[])=p;obtain⟨ws,cur⟩:=p;have hm: ∀l:List (List UInt8),(l.map fun l=>(⟨l.toArray⟩:ByteArray)).map (fun x=>x.data.toList)=l:=by
  intro l;rw [List.map_map];exact List.map_id' (l:=l)
 by_cases hc:cur=[]
 ·subst hc;rw[if_pos (show(⟨([]:List UInt8).toArray⟩:ByteArray)=emp from rfl),if_pos rfl,List.append_nil];exact hm ws
 ·have h2: ¬((⟨cur.toArray⟩:ByteArray)=emp):=fun e=>hc (by have:=congrArg (fun x:ByteArray=>x.data.toList) e;simpa [emp] using this);rw[if_neg h2,if_neg hc,List.map_append,hm];rfl
theorem YM {l:List UInt8} (h:l≠[]):jW l=(Lib.cut l [10]).1::jW (Lib.cut l [10]).2.1∧(Lib.cut l [10]).2.1.length < l.length:=by
 rcases EW 10 l with h1 | ⟨a,r,rfl,h1⟩
 ·have e:Lib.cut l [10]=(l,[],false):=by
   unfold Lib.cut;rw[if_neg];rw[Lib.index_one];intro h2;obtain⟨o,ho⟩: ∃o:Nat,Lib.indexByte l 10=o:=⟨(Lib.indexByte l 10).toNat,by omega⟩
   exact h1 (List.mem_of_getElem? (Lib.indexByte_some ho).1)
  rw[e,Xo h1 h];refine⟨by rw[Dc], ?_⟩;exact List.length_pos_iff.2 h
 ·have e:Lib.cut (a++10::r) [10]=(a,r,true):=by
   unfold Lib.cut;rw[Lib.index_one,Dg h1,if_pos (by omega)];have h2:(a++10::r).take (((a.length:Nat):Int).toNat)=a:=by simp
   have h3:(a++10::r).drop (((a.length:Nat):Int).toNat+[(10:UInt8)].length)=r:=by
    show(a++10::r).drop (a.length+1)=r;rw[List.drop_append];simp
   rw[h2,h3]
  rw[e,EM h1];refine⟨rfl, ?_⟩;simp only[List.length_append,List.length_cons];omega
def ry (s:ByteArray):ByteArray:=⟨(Lib.cut s.data.toList [10]).1.toArray⟩
def ru (s:ByteArray):ByteArray:=⟨(Lib.cut s.data.toList [10]).2.1.toArray⟩
theorem PT {s:ByteArray} (h:s≠emp):bQ s=ry s::bQ (ru s)∧(ru s).size < s.size∧(ry s).size≤s.size:=by
 have h0:s.data.toList≠[]:=fun e=>h (eF e);obtain⟨h1,h2⟩:=YM h0;refine⟨(List.map_inj_right fun x y e=>eF e).1 (?_:List.map (fun x:ByteArray=>x.data.toList) _=List.map (fun x:ByteArray=>x.data.toList) _),h2, ?_⟩
 ·rw[List.map_cons,oz,oz,h1];rfl
 ·show(Lib.cut s.data.toList [10]).1.length≤s.data.toList.length;unfold Lib.cut;split
  ·rw[List.length_take];omega
  ·exact Nat.le_refl _
theorem PS:bQ emp=[]:=by
 refine(List.map_inj_right fun x y e=>eF e).1 (?_:List.map (fun x:ByteArray=>x.data.toList) _=List.map (fun x:ByteArray=>x.data.toList) _);rw[oz];exact Dc
def P2 (l:List ByteArray):Prop:=0 < l.length∧l.length≤100000∧ ∀x∈l,x.size≤65536
theorem Qu {w:World} (hG:Gd w.heap.size w):UZ bn (fun k d w' s=>eN w.heap.size d w' s∧s.n≤k) A2 N2 yN w P2 Looks where
 st:=fun _ _ _ _ _ h hk=>⟨h.1.dk hk.tk,h.2⟩
 up:=fun _ _ _ _ h=>⟨h.1,Nat.le_succ_of_le h.2⟩
 new:=fun d w' hb hd=>⟨⟨hd,show 0≤5 by decide,⟨_,_,[],hb,trivial,World.ownsRow_nil _ _ _ _,rfl⟩,fun t h=>by cases h⟩,Nat.le_refl _⟩
 sz:=fun _ _ _ s l _ h=>⟨Nat.le_trans (K7 h.1.SC l).1 (by decide),(K7 h.1.SC l).2⟩
 ans:=fun k d s l v w' hk hP h hrow _ hb=>by
  obtain⟨p1,p2,p3⟩:=hP;cases l with
  | nil=>simp at p1
  | cons wd tl=>
   refine(QG w.heap.size d s wd tl v w' p2 p3 hrow h.1 (by unfold mY;have:=h.2;omega) (hG.on hb)).mono ?_;rintro e w2 ⟨h1,h2,h3,h4⟩;refine⟨h1,⟨h2, ?_⟩,h3,h4⟩;show(dX s (wd::tl)).2.n+1≤k+1;rw[Xq];have:=h.2;omega
theorem Sb {s x:ByteArray} (hb:eX s=false) (hx:x∈bQ s) (hs:cu (aS x)=false):P2 (aS x):=by
 have Ba:s.size≤65536:=by
  unfold eX at hb;simp only[Bool.or_eq_false_iff,decide_eq_false_iff_not] at hb;omega
 have hx2:x∈dx 10 s:=by
  unfold bQ at hx;split at hx
  ·exact(List.dropLast_sublist _).subset hx
  ·exact hx
 have hxs:=rJ hx2;have hl:=tJ 32 x;have hf:(aS x).length≤(dx 32 x).length:=List.length_filter_le _ _;refine⟨?_,by omega,fun y hy=> ?_⟩
 ·rcases Nat.eq_zero_or_pos (aS x).length with h0 | h0
  ·rw[xh h0] at hs;cases hs
  ·exact h0
 ·have hy2:y∈dx 32 x:=(List.mem_filter.1 hy).1;have:=rJ hy2;omega
def jg (s:ByteArray):ByteArray:=if eX s then Oh else⟨(outS A2 N2 yN (bQ s)).toArray⟩
theorem zH (s:ByteArray) (w:World) (hs:s.size < 4294967281) (hG:Gd w.heap.size w):
  Calls Tryz.prog 6 #[.string s] w fun e w'=>e= .returned (.string (jg s))∧Below w.heap.size w w'∧(eX s=false→ ∀a∈gK A2 N2 yN (bQ s),a.size≤1000000∧Looks a):=
 abS s w hs (Qu hG) fun hb _ hx hsk=>Sb hb hx hsk
theorem SM {s:ByteArray} (h:eX s=false):jg s=⟨((gK A2 N2 yN (bQ s)).flatMap fun a=>a.data.toList++[10]).toArray⟩:=by
 unfold jg;rw[h,←ue];rfl
theorem Lg {s:ByteArray} (h:eX s=false) (k:Nat):Lib.hasPrefix (jg s).data.toList (jg (dG ((fK 10 s).take k))).data.toList=true:=by
 have h1:=OG k h;unfold jg;rw[h,h1];show List.isPrefixOf _ _=true;rw[List.isPrefixOf_iff_prefix];exact Lm A2 N2 yN (uF s k).1
def b1:ByteArray:=⟨#[35,49]⟩
def b4:ByteArray:=⟨#[35,52]⟩
def bS:ByteArray:=⟨#[33,40,35,49,124,91,50,44,57,41,41]⟩
theorem YP:jw 1=⟨#[49]⟩:=by
 unfold jw Lib.itoa;rw[if_neg (by decide)];show(⟨(Lib.decDigits 1).toArray⟩:ByteArray)=_;rw[Lib.decDigits,dif_pos (by decide)];rfl
theorem Tm:jw 256=⟨#[50,53,54]⟩:=by
 unfold jw Lib.itoa;rw[if_neg (by decide)];show(⟨(Lib.decDigits 256).toArray⟩:ByteArray)=_;rw[Lib.decDigits,dif_neg (by decide),Lib.decDigits,dif_neg (by decide),Lib.decDigits,dif_pos (by decide)];rfl
theorem r1:readE b1=0:=by decide+kernel
theorem r4:readE b4=1:=by decide+kernel
theorem rS:readE bS=0:=by decide+kernel
theorem c1:nI (fun t n=>qV (ey b1) t n)=256:=by decide+kernel
theorem DM {wd:ByteArray} {tl:List ByteArray} (h1:wd≠rD) (h2:wd=jV):jl (wd::tl)=some (iY (wd::tl)):=by
 simp only[jl,show(wd::tl).headD emp=wd from rfl];rw [if_neg h1,if_pos h2]
theorem Q5 {wd:ByteArray} {tl:List ByteArray} (h1:wd=rD):jl (wd::tl)=some (jU (wd::tl)):=by
 simp only[jl,show(wd::tl).headD emp=wd from rfl];rw [if_pos h1]
theorem acN (s:bn):dX s [jV,b1]=(.ok ⟨#[111,107,32,50,53,54]⟩,s):=by
 have h:lineW [jV,b1]= .act (fun s=>(.ok (jf [nI (fun t n=>qV (ey b1) t n)]),s)) 2:=by
  have h1:jl [jV,b1]=some (iY [jV,b1]):=by
   exact DM (by decide) rfl
  unfold lineW;rw[h1];unfold iY pFil kR;simp only[List.getElem?_cons_succ,List.getElem?_cons_zero];rw[if_pos r1]
 unfold dX;rw[h,c1];simp only[List.length_cons,List.length_nil];rw[if_pos (by decide)];congr 2;unfold jf;rw[List.foldl_cons,List.foldl_nil,Tm];rfl
theorem acM (s:bn):dX s [jV,b4]=(.error 1,s):=by
 have h:lineW [jV,b4]= .bad 1:=by
  have h1:jl [jV,b4]=some (iY [jV,b4]):=by
   exact DM (by decide) rfl
  unfold lineW;rw[h1];unfold iY pFil kR filE;simp only[List.getElem?_cons_succ,List.getElem?_cons_zero];rw[if_neg (by rw[r4];decide),r4]
 unfold dX;rw[h]
theorem acL (s:bn):dX s [rD,bS]=(.ok (A6 bS),s):=by
 have h:lineW [rD,bS]= .act (fun st=>(.ok (A6 (jI (ey bS))),st)) 2:=by
  have h1:jl [rD,bS]=some (jU [rD,bS]):=by
   exact Q5 rfl
  unfold lineW;rw[h1];unfold jU pTxt;simp only[List.getElem?_cons_succ,List.getElem?_cons_zero];rw[if_pos rS]
 obtain⟨h1,h2⟩:=pU rS;have e:jI (ey bS)=bS:=by unfold jI;rw [if_pos h1];exact h2
 unfold dX;rw[h];simp only[List.length_cons,List.length_nil];rw[if_pos (by decide),e]
def Nq:ByteArray:=⟨#[47,47,32,120,10,10,99,111,117,110,116,32,35,49,10]⟩
def Np:ByteArray:=⟨#[115,104,111,119,32,33,40,35,49,124,91,50,44,57,41,41,10,99,111,117,110,116,32,35,52,10]⟩
theorem CO:bQ Nq=[⟨#[47,47,32,120]⟩,emp,⟨#[99,111,117,110,116,32,35,49]⟩]:=by decide+kernel
theorem CN:bQ Np=[⟨#[115,104,111,119,32,33,40,35,49,124,91,50,44,57,41,41]⟩,⟨#[99,111,117,110,116,32,35,52]⟩]:=by decide+kernel
theorem abM:aS ⟨#[47,47,32,120]⟩=[⟨#[47,47]⟩,⟨#[120]⟩]:=by decide+kernel
theorem abL:aS emp=[]:=by decide+kernel
theorem aeI:aS ⟨#[99,111,117,110,116,32,35,49]⟩=[jV,b1]:=by decide+kernel
theorem aeH:aS ⟨#[99,111,117,110,116,32,35,52]⟩=[jV,b4]:=by decide+kernel
theorem aeG:aS ⟨#[115,104,111,119,32,33,40,35,49,124,91,50,44,57,41,41]⟩=[rD,bS]:=by decide+kernel
theorem abU:jg Nq=⟨#[111,107,32,50,53,54,10]⟩:=by
 have hb:eX Nq=false:=by unfold eX;rw [CO];rfl
 unfold jg;rw[hb,CO];refine eF ?_;simp only[Bool.false_eq_true,if_false,outS,abM,abL,aeI];rw[if_pos (show cu _=true by decide),if_pos (show cu _=true by decide),if_neg (show ¬cu _=true by decide)];unfold A2;rw[acN];rfl
theorem abT:jg Np=⟨#[111,107,32,33,40,35,49,124,91,50,44,57,41,41,10,101,114,114,111,114,32,49,10]⟩:=by
 have hb:eX Np=false:=by unfold eX;rw [CN];rfl
 unfold jg;rw[hb,CN];refine eF ?_;simp only[Bool.false_eq_true,if_false,outS,aeG,aeH];rw[if_neg (show ¬cu _=true by decide),if_neg (show ¬cu _=true by decide)];unfold A2;rw[acL,acM];show(A6 bS).data.toList++[10]++((qW 1).data.toList++[10]++[])=_;unfold qW;rw[YP];rfl
end Go.Proofs.YtajgndoiddmbmaaGreatDoor
namespace Go.Proofs.YtajgndoiddmbmaaGreatDoor
set_option maxRecDepth 100000
set_option maxHeartbeats 40000000
open Go.Shelf
def P9:Go.Shelf.Ren:=⟨fun | 99=>10 | 206=>23 | n=>n,fun | 9=>9 | 4=>4 | 3=>3 | n=>n,fun | n=>n⟩
theorem ach:Go.Proofs.Lays.n99 Tryz.prog P9:= {
 mixed:=by kernel_rfl
 f99:=Tryz.func10.trans (congrArg some (by kernel_rfl))
 f206:=Tryz.func23.trans (congrArg some (by kernel_rfl))
 t3:=Tryz.underlying3
 a3:=Tryz.isAgg3
 z3:=Tryz.sizeOf3
 v3:=Tryz.zeroValue3
 t4:=Tryz.underlying4
 a4:=Tryz.isAgg4
 z4:=Tryz.sizeOf4
 v4:=Tryz.zeroValue4
 t9:=Tryz.underlying9
 a9:=Tryz.isAgg9
 z9:=Tryz.sizeOf9
 v9:=Tryz.zeroValue9 }
def Ld:Go.Shelf.Ren:=⟨fun | 219=>79 | 217=>105 | 225=>106 | 224=>107 | 267=>108 | 266=>148 | 314=>149 | n=>n,fun | 9=>9 | 3=>3 | 4=>4 | 5=>5 | 46=>167 | 146=>213 | 51=>131 | n=>n,fun | 1=>0 | n=>n⟩
theorem WM:Go.Proofs.Lays.n219 Tryz.prog Ld:= {
 mixed:=by kernel_rfl
 f217:=Tryz.func105.trans (congrArg some (by kernel_rfl))
 f219:=Tryz.func79.trans (congrArg some (by kernel_rfl))
 f224:=Tryz.func107.trans (congrArg some (by kernel_rfl))
 f225:=Tryz.func106.trans (congrArg some (by kernel_rfl))
 f266:=Tryz.func148.trans (congrArg some (by kernel_rfl))
 f267:=Tryz.func108.trans (congrArg some (by kernel_rfl))
 f314:=Tryz.func149.trans (congrArg some (by kernel_rfl))
 t3:=Tryz.underlying3
 a3:=Tryz.isAgg3
 z3:=Tryz.sizeOf3
 v3:=Tryz.zeroValue3
 t4:=Tryz.underlying4
 a4:=Tryz.isAgg4
 z4:=Tryz.sizeOf4
 v4:=Tryz.zeroValue4
 t5:=Tryz.underlying5
 a5:=Tryz.isAgg5
 z5:=Tryz.sizeOf5
 v5:=Tryz.zeroValue5
 t9:=Tryz.underlying9
 a9:=Tryz.isAgg9
 z9:=Tryz.sizeOf9
 v9:=Tryz.zeroValue9
 t46:=Tryz.underlying167
 a46:=Tryz.isAgg167
 z46:=Tryz.sizeOf167
 v46:=Tryz.zeroValue167
 t51:=Tryz.underlying131
 a51:=Tryz.isAgg131
 z51:=Tryz.sizeOf131
 v51:=Tryz.zeroValue131
 t146:=Tryz.underlying213
 a146:=Tryz.isAgg213
 z146:=Tryz.sizeOf213
 v146:=Tryz.zeroValue213
 g1:=by kernel_rfl }
end Go.Proofs.YtajgndoiddmbmaaGreatDoor
namespace Go.Proofs.YtajgndoiddmbmaaGreatDoor
set_option maxRecDepth 100000
set_option maxHeartbeats 40000000
open Go.RowKit Go.Shelf
theorem Mu (s:ByteArray) (c:UInt8) (w:World) (hs:s.size < 4294967281):
  Calls Tryz.prog 9 #[.string s, .string ⟨#[c]⟩] w fun e w'=>e= .returned (.slice (some ⟨w.heap.size,0,none⟩) (fK c s).length (fK c s).length)∧w'=w.alloc (.cells ((fK c s).map Value.string).toArray 9):=by
 have hle:=Lib.countB_le ⟨#[c]⟩ (Nat.le_refl 1) s.size s (Nat.le_refl _);have hc:=Go.Proofs.Any.strings_genSplit_core VF Fm.info s ⟨#[c]⟩ 1 (-1) (Lib.countB s ⟨#[c]⟩+1) w hs (Nat.le_refl 1) (Nat.le_refl 1) (fun x cs _=>L6 x c _) (Mm s c w) (by decide) (by decide) (by rw[if_pos (by decide)];omega);rw[Nat.add_sub_cancel] at hc;have HC:=jD (show Calls Tryz.prog 22 #[.string s, .string ⟨#[c]⟩, .int .i64 1, .int .i64 (-1)] w fun e w'=>e= .returned (.slice (some ⟨w.heap.size,0,none⟩) (fK c s).length (fK c s).length)∧w'=w.alloc (.cells ((fK c s).map Value.string).toArray 9) from hc.mono fun e w' h=>by
  obtain⟨h1,h2⟩:=h;have hl:=DN c s;have e2:Lib.cellsOf (fK c s) (Lib.countB s ⟨#[c]⟩+1)=((fK c s).map Value.string).toArray:=by rw[←hl];exact Lib.cellsOf_full _
  exact⟨by rw[h1,←hl];rfl,by rw[h2];exact congrArg (fun x=>w.alloc (.cells x 9)) e2⟩)
 clear hc hle;have hz:(⟨#[c]⟩:ByteArray).size=1:=rfl;go_enter Tryz.func9,Tryz.ntmps9;go_wp2_with fail
 (with_reducible refine(HC.o).mono ?_);rintro e w1 ⟨rfl,rfl⟩;go_wp2;go_ret;exact⟨rfl,rfl⟩
theorem wj (s p:ByteArray) (w:World):Calls Tryz.prog 10 #[.string s, .string p] w fun e w'=>e= .returned (.bool (Lib.hasPrefix s.data.toList p.data.toList))∧w'=w:=Go.Proofs.Any.strings_HasPrefix ach s p w
theorem Ym (s:ByteArray) (c:UInt8) (w:World):Calls Tryz.prog 79 #[.string s, .string ⟨#[c]⟩] w fun e w'=>e= .returned (.int .i64 (Lib.indexByte s.data.toList c))∧w'=w:=Go.Proofs.Any.stringslite_Index_one WM s c w
theorem Us {s:ByteArray} {i:Nat} (h:Lib.indexByte s.data.toList 10=i):i < s.size∧ry s=s.extract 0 i∧ru s=s.extract (i+1) s.size:=by
 have h1:=(Lib.indexByte_some h).1;have hl:i < s.data.toList.length:=by
  rcases Nat.lt_or_ge i s.data.toList.length with h2 | h2
  ·exact h2
  ·rw[List.getElem?_eq_none h2] at h1;cases h1
 have e:Lib.cut s.data.toList [10]=(s.data.toList.take i,s.data.toList.drop (i+1),true):=by
  unfold Lib.cut;rw[Lib.index_one,h,if_pos (by omega)];rfl
 refine⟨hl,eF ?_,eF ?_⟩
 ·unfold ry;rw[e,Lib.extract_data];rfl
 ·unfold ru;rw[e,Lib.extract_data];exact(List.take_of_length_le (by rw[List.length_drop];exact Nat.le_refl _)).symm
theorem Ut {s:ByteArray} (h: ¬0≤Lib.indexByte s.data.toList 10):ry s=s∧ru s=⟨#[]⟩:=by
 have e:Lib.cut s.data.toList [10]=(s.data.toList,[],false):=by
  unfold Lib.cut;rw[Lib.index_one,if_neg h]
 refine⟨eF ?_,eF ?_⟩
 ·unfold ry;rw [e]
 ·unfold ru;rw [e]
theorem WN (s:ByteArray) (w:World) (hs:s.size < 4294967281):
  Calls Tryz.prog 35 #[.string s, .string ⟨#[10]⟩] w fun e w'=>(∃b,e= .returned (.tuple #[.string (ry s), .string (ru s), .bool b]))∧Below w.heap.size w w':=by
 have HI:=jD (Ym s 10 w);by_cases Qc:0≤Lib.indexByte s.data.toList 10
 ·obtain⟨i,hi⟩: ∃i:Nat,Lib.indexByte s.data.toList 10=i:=⟨(Lib.indexByte s.data.toList 10).toNat,by omega⟩
  obtain⟨hl,h1,h2⟩:=Us hi;rw[hi] at HI;rw[h1,h2];clear h1 h2 Qc hi;have hd:decide ((0:Int)≤(i:Int))=true:=by simp
  have c1:(0:Int)≤ ↑i:=by omega
  have c2:(↑i:Int)≤ ↑s.size:=by omega
  have c3:(0:Int)≤ ↑i+1:=by omega
  have c4:(↑i+1:Int)≤ ↑s.size:=by omega
  have hz:(⟨#[10]⟩:ByteArray).size=1:=rfl;go_enter Tryz.func35,Tryz.ntmps35;go_wp2_with fail
  (with_reducible refine(HI.o).mono ?_);rintro e w1 ⟨rfl,rfl⟩;clear HI;go_wp2;go_region;go_wp2;go_ret3;exact⟨⟨_,rfl⟩,(br).drew⟩
 ·obtain⟨h1,h2⟩:=Ut Qc;rw[h1,h2];obtain⟨x,hx⟩: ∃x,x=Lib.indexByte s.data.toList 10:=⟨_,rfl⟩
  rw[←hx] at HI Qc;clear h1 h2 hx;have hd:decide ((0:Int)≤x)=false:=by simpa using Qc
  go_enter Tryz.func35,Tryz.ntmps35;go_wp2_with fail
  (with_reducible refine(HI.o).mono ?_);rintro e w1 ⟨rfl,rfl⟩;clear HI;go_wp2;go_ret3;exact⟨⟨_,rfl⟩,br⟩
theorem acs (s:ByteArray) (w:World) (hs:s.size < 4294967281):
  Calls Tryz.prog 21 #[.string s, .string ⟨#[10]⟩] w fun e w'=>(∃b,e= .returned (.tuple #[.string (ry s), .string (ru s), .bool b]))∧Below w.heap.size w w':=by
 have HC:=jD (WN s w hs);generalize ry s=x1 at*;generalize ru s=x2 at*;go_enter Tryz.func21,Tryz.ntmps21;go_wp2_with fail
 (with_reducible refine(HC.o).mono ?_);rintro e w1 ⟨⟨b,rfl⟩,hb⟩;have HB:=jD hb;clear hb HC;go_wp2;go_ret3;exact⟨⟨b,rfl⟩,HB.o⟩
theorem X3 (b n:Nat) (w:World) (hbk:w.heap[b]? =some (.cells #[.pointer (some ⟨b,0,none⟩), .slice none 0 0] 45 (0,0))) (hn:n≤281474976710656):
  Calls Tryz.prog 39 #[.pointer (some ⟨b,0,none⟩), .int .i64 n] w fun e w'=>e= .returned (.tuple #[])∧Bu w' b []∧Below b w w':=by
 obtain⟨cs,hrun,hle,hmax⟩:=Lib.run_makeNoZero (P:=Tryz.prog) w.drew #[3] 43 5 Tryz.underlying43 n hn;have hw:IntKind.i64.wrap (IntKind.i64.wrap 0+(n:Int))=n:=by
  rw[IntKind.wrap_i64,IntKind.wrap_i64];omega
 have hcall:(callFunc 83 #[.int .i64 (IntKind.i64.wrap (IntKind.i64.wrap 0+(n:Int)))]).run Tryz.prog w.drew= .ok (.value (.slice (some ⟨w.drew.heap.size,0,none⟩) n cs.size)) (w.drew.drew.drew.alloc (.cells cs 5)):=by
  rw[hw,run_callFunc_extern Tryz.func83 (by kernel_rfl) (by kernel_rfl) (by kernel_rfl) (e:=Extern.BytealgMakeNoZero.makeNoZero #[3] #[43]) (by kernel_rfl),hrun];rfl
 have hlt:=ai hbk;have c1:w.drew.cell? ⟨b,1,none⟩=some (.slice none 0 0):=by
  have:w.drew.heap[b]? =_:=hbk;rw[Lib.cell_of_heap this];rfl
 have c2:(w.alloc (.cells cs 5)).cell? ⟨b,1,none⟩=some (.slice none 0 0):=by
  have:(w.alloc (.cells cs 5)).heap[b]? =_:=(Lib.alloc_old w _ b hlt).trans hbk;rw[Lib.cell_of_heap this];rfl
 have f2:(w.alloc (.cells cs 5)).frozen? ⟨b,1,none⟩=false:=Lib.frozen_of_heap ((Lib.alloc_old w _ b hlt).trans hbk) 1;have hcopy: ∀W:World,(Builtin.copy_ #[43,43] 3 #[.slice (some ⟨w.heap.size,0,none⟩) 0 cs.size, .slice none 0 0]).run Tryz.prog W= .ok (goInt 0) W:=
  fun W=>run_copy_none W 43 43 3 5 _ _ 0 cs.size 0 0 Tryz.underlying43 GL.sizeByte rfl
 clear hw;have hmx:=hmax (by unfold maxLen;omega);go_enter Tryz.func39,Tryz.ntmps39;go_wp2;have hfin:=Lib.grown_fresh (T:=45) (e:=5) (cs:=cs) (Nat.le_refl b) hbk (Nat.le_of_lt hlt) hmx (by decide);rw[World.setCell_alloc_past _ _ _ _ hlt] at hfin;go_region;all_goals (go_wp2;go_end0;exact ⟨rfl, .inr hfin.1,hfin.2⟩)
theorem DB (b:Nat) (w:World) (h:w.heap[b]? =some (.cells #[.pointer none, .slice none 0 0] 45 (0,0))):
  Calls Tryz.prog 25 #[.pointer (some ⟨b,0,none⟩)] w fun e w'=>e= .returned (.tuple #[])∧w'=w.setCell ⟨b,0,none⟩ (.pointer (some ⟨b,0,none⟩)):=by
 obtain⟨j,hj,hjs⟩:=Option.map_eq_some_iff.1 K5.size;have hb:Lib.BuilderAt 45 5 b b (.pointer none) [] w:=⟨Nat.le_refl b,_,h,World.ownsRow_nil _ _ _ _,by simp[Value.ownBlock]⟩
 have h0:=hb.cell0;have hsh:=hb.shape;have hfz:=hb.frozen0;have hlt:=ai h;clear h hb;go_enter Tryz.func25,Tryz.ntmps25;go_wp2;rw[Lib.run_to_unsafe w ⟨b,0,none⟩ Tryz.underlying42 Tryz.underlying84 hj (by rw[hjs];decide) hsh (Nat.zero_lt_succ 1)];simp only[Result.andThen];rw[Oper.upon_value];go_wp2;rw[run_callFunc_extern Tryz.func40 (by kernel_rfl) (by kernel_rfl) (by kernel_rfl) (e:=Extern.AbiNoEscape.same) (by kernel_rfl)];rw[Lib.run_noEscape];simp only[Result.andThen];rw[Oper.upon_value];go_wp2;rw[Lib.run_from_unsafe w ⟨b,0,none⟩ Tryz.underlying84 Tryz.underlying42 hj hsh K5.lies];simp only[Result.andThen];rw[Oper.upon_value];go_wp2;go_end0;exact⟨rfl,rfl⟩
theorem X4 (b n:Nat) (w:World) (hbk:w.heap[b]? =some (.cells #[.pointer none, .slice none 0 0] 45 (0,0))) (hn:n≤281474976710656):
  Calls Tryz.prog 24 #[.pointer (some ⟨b,0,none⟩), .int .i64 n] w fun e w'=>e= .returned (.tuple #[])∧Bu w' b []∧Below b w w':=by
 have Cj:(w.setCell ⟨b,0,none⟩ (.pointer (some ⟨b,0,none⟩))).heap[b]? =some (.cells #[.pointer (some ⟨b,0,none⟩), .slice none 0 0] 45 (0,0)):=by rw[ax hbk];rfl
 have hb1:Below b w (w.setCell ⟨b,0,none⟩ (.pointer (some ⟨b,0,none⟩))):=(Below.refl b w).setCell (p:=⟨b,0,none⟩) (Nat.le_refl b) _;have HU:=jD (show Bu (w.setCell ⟨b,0,none⟩ (.pointer (some ⟨b,0,none⟩))) b [] from .inr ⟨Nat.le_refl b, .slice none 0 0,Cj,World.ownsRow_nil _ _ _ _,by simp[Value.ownBlock]⟩);have MP:=jD (DB b w hbk);have bh:=jD hb1;obtain⟨w1,hw1⟩: ∃x,x=w.setCell ⟨b,0,none⟩ (.pointer (some ⟨b,0,none⟩)):=⟨_,rfl⟩
 rw[←hw1] at HU MP bh Cj;clear hbk hb1 hw1;have c1:w1.cell? ⟨b,1,none⟩=some (.slice none 0 0):=cq 1 Cj rfl;have Vq:=ai Cj;have kY:=jD (fun k=>X3 b n (w1.drewN k) Cj hn);go_enter Tryz.func24,Tryz.ntmps24;go_wp2_with fail
 (with_reducible refine(MP.o).mono ?_);rintro e w2 ⟨rfl,rfl⟩;clear MP;go_wp2_with fail
 go_quiet (fail);go_wp2_with fail
 ·(with_reducible refine(kY.o _).mono ?_);rintro e w3 ⟨rfl,h1,h2⟩;have H1:=jD h1;have H2:=jD h2;clear h1 h2 kY;go_wp2;go_end0;exact⟨rfl,H1.o,(below_drewN bh.o _).trans H2.o⟩
 ·go_wp2;go_end0;exact⟨rfl,HU.o,below_drewN bh.o _⟩
theorem Bu.lt {w:World} {b:Nat} {l:List UInt8} (h:Bu w b l):b < w.heap.size:=by
 rcases h with h | h
 ·obtain⟨-,v,hb, -⟩:=h;exact ai hb
 ·obtain⟨-,v,hb, -⟩:=h;exact ai hb
theorem PZ (x:ByteArray):dG [x]=x:=eF (by rw[nU];simp)
theorem NT (l:List ByteArray) (x:ByteArray):dG (l++[x])=dG l++x:=eF (by rw[nU,jG,nU];simp)
theorem xE {l:List ByteArray} {k:Nat} (h:k < l.length):dG (l.take (k+1))=dG (l.take k)++l[k]:=by rw[List.take_succ_eq_append_getElem h,NT]
theorem Cb (l:List ByteArray) (k:Nat):(dG (l.take k)).size≤(dG l).size:=by
 have h1:(dG (l.take k)).size=(dG (l.take k)).data.toList.length:=rfl;have h2:(dG l).size=(dG l).data.toList.length:=rfl;rw[h1,h2,nU,nU];have h3:((l.take k).map (·.data.toList)).flatten <+: (l.map (·.data.toList)).flatten:=by
  conv=>rhs;rw [←List.take_append_drop k l,List.map_append,List.flatten_append]
  exact List.prefix_append _ _
 exact h3.length_le
theorem WO (bk o c:Nat) (xs:List ByteArray) (w:World) (hcells: ∀(j:Nat) (h:j < xs.length),w.cell? ⟨bk,o+j,none⟩=some (.string xs[j])) (hbk:bk < w.heap.size) (hcap:xs.length≤c) (hl:xs.length≤1000000) (hlen:(dG xs).size≤1000000):
  Calls Tryz.prog 12 #[.slice (some ⟨bk,o,none⟩) xs.length c, .string ⟨#[]⟩] w fun e w'=>e= .returned (.string (dG xs))∧Below w.heap.size w w':=by
 by_cases h0:xs.length=0
 ·have e0:dG xs=⟨#[]⟩:=by rw[List.eq_nil_of_length_eq_zero h0];rfl
  rw[h0,e0];clear hcells;go_enter Tryz.func12,Tryz.ntmps12;go_wp2;go_ret;exact⟨rfl,br⟩
 by_cases h1:xs.length=1
 ·have e0:dG xs=xs[0]:=by
   obtain⟨x,rfl⟩:=List.length_eq_one_iff.1 h1;exact PZ x
  have c0:=hcells 0 (by omega);rw[e0];generalize xs[0]=x at*;rw[h1];rw[Nat.add_zero] at c0;clear hcells;go_enter Tryz.func12,Tryz.ntmps12;go_wp2;go_ret;exact⟨rfl,br⟩
 have HC:=jD hcells;have hne0:((xs.length:Int)==0)=false:=beq_eq_false_iff_ne.2 (by omega);have hne1:((xs.length:Int)==1)=false:=beq_eq_false_iff_ne.2 (by omega);have hde0:decide ((xs.length:Int)=0)=false:=by simpa using h0
 have hde1:decide ((xs.length:Int)=1)=false:=by rw[decide_eq_false_iff_not];omega
 have hz:(⟨#[]⟩:ByteArray).size=0:=rfl;clear hcells;go_enter Tryz.func12,Tryz.ntmps12;go_wp2_with fail
 go_loop [5,41] (fun n i=> ∃k:Nat,k≤xs.length∧i= .int .i64 k∧n= .int .i64 ((dG (xs.take k)).size:Nat)) (fun _ i=>xs.length - (intOf i).toNat)
 case atStart=>exact ⟨0,Nat.zero_le _,rfl,rfl⟩
 case round=>
  obtain⟨k,hk,rfl,rfl⟩:=hrel;by_cases hkn:k < xs.length
  ·have hkb:decide ((k:Int) < (xs.length:Int))=true:=by simp;omega
   have hc:=HC.o k hkn;have hst:=xE hkn;have hb:=Cb xs (k+1);rw[hst] at hb;have HST:=jD hst;rw[ByteArray.size_append] at hb;generalize xs[k]=x at*;generalize dG (xs.take k)=J at*;clear hst;go_wp2;exact⟨⟨k+1,by omega,by go_num,by rw[HST.o,ByteArray.size_append];first | rfl | (refine congrArg _ ?_;omega)⟩,by simp[intOf];omega⟩
  obtain rfl:k=xs.length:=by omega
  rw[List.take_length];have hkb:decide ((xs.length:Int) < (xs.length:Int))=false:=by simp
  obtain⟨N,hN⟩: ∃N,N=(dG xs).size:=⟨_,rfl⟩
  rw[←hN] at hlen ⊢;have sI:=jD hN;clear hN;obtain⟨b,hb⟩: ∃b,b=w.heap.size:=⟨_,rfl⟩
  obtain⟨w0,hw0⟩: ∃x,x=w.alloc (.cells #[.pointer none, .slice none 0 0] 45):=⟨_,rfl⟩
  have kY:=jD (X4 b N w0 (by rw[hw0,hb];exact au _ _ _ _ rfl) (by omega));have gN:=jD (show Below w.heap.size w w0 by rw[hw0];exact aG _);have mq:w.heap.size≤b:=by omega
  have hbw0:b < w0.heap.size:=by rw[hw0,hb];simp
  go_wp2_with fail
  rw[←hw0,←hb];clear hw0 hb;(with_reducible refine(kY.o).mono ?_);rintro e w1 ⟨rfl,qB,nD⟩;have abm:=jD qB;have bh:=jD (gN.o.trans (nD.mono mq));clear qB nD kY;have hx0:0 < xs.length:=by omega
  have c0:w1.cell? ⟨bk,o,none⟩=some (.string xs[0]):=by
   have:=HC.o 0 hx0;rw[Nat.add_zero] at this;exact(bh.o.cell (p:=⟨bk,o,none⟩) hbk).trans this
  have Cj:=Nat.lt_of_lt_of_le hbk bh.o.size;have e1:dG (xs.take 1)=xs[0]:=by rw[xE hx0,List.take_zero];exact eF (by rw[jG];rfl)
  have hs1:=Cb xs 1;rw[←sI.o,e1] at hs1;have oJ:=jD e1;have mC:=jD (DJ b [] xs[0] w1 abm.o (by show 0+_≤_;omega));generalize xs[0]=x0 at*;clear e1;go_wp2_with fail
  (with_reducible refine(mC.o).mono ?_);rintro e w2 ⟨rfl,qB, -,nD⟩;have afU:=jD (show Bu w2 b (dG (xs.take 1)).data.toList by rw[oJ.o];exact qB);have cw:=jD (bh.o.trans (nD.mono mq));clear qB nD mC abm c0 Cj;go_wp2_with fail
  go_loopw [65] (fun i wr=> ∃k:Nat,k≤xs.length - 1∧i= .int .i64 k∧Bu wr b (dG (xs.take (k+1))).data.toList∧Below w.heap.size w wr) (fun i _=>xs.length - 1 - (intOf i).toNat)
  case atStart=>exact ⟨0,Nat.zero_le _,rfl,afU.o,cw.o⟩
  case round=>
   obtain⟨k,hk,rfl,qB,nD⟩:=hrel;have HBU:=jD qB;have HB:=jD nD;by_cases hkr:k < xs.length - 1
   ·have hkl:k+1 < xs.length:=by omega
    have hkb:decide ((k:Int) < ((xs.length - 1:Nat):Int))=true:=by simp;omega
    have hcy:wr.cell? ⟨bk,o+1+k,none⟩=some (.string xs[k+1]):=by
     rw[nD.cell (p:=⟨bk,o+1+k,none⟩) hbk,show o+1+k=o+(k+1) by omega];exact HC.o (k+1) hkl
    have hbk2:=Nat.lt_of_lt_of_le hbk nD.size;have hst:=xE hkl;have hle:=Cb xs (k+1+1);rw[←sI.o,hst,ByteArray.size_append] at hle;have HST:=jD hst;have h8:(dG (xs.take (k+1))).data.toList.length=(dG (xs.take (k+1))).size:=rfl;have HW1:=jD (DJ b _ ⟨#[]⟩ wr qB (by rw[h8];show _+0≤_;omega));generalize xs[k+1]=y at*;generalize dG (xs.take (k+1))=J at*;clear qB nD hst;go_wp2_with fail
    (with_reducible refine(HW1.o).mono ?_);rintro e w3 ⟨rfl,qB, -,nD⟩;have eH:=jD (HB.o.trans (nD.mono mq));have HW2:=jD (DJ b _ y w3 qB (by rw[List.length_append,h8];show _+0+_≤_;omega));clear qB nD HW1 HBU;go_wp2_with fail
    (with_reducible refine(HW2.o).mono ?_);rintro e w4 ⟨rfl,qB, -,nD⟩;have gp:=jD (eH.o.trans (nD.mono mq));have afT:=jD qB;clear qB nD HW2;go_wp2;go_roundw
    case rel=>exact ⟨k+1,by omega,by go_num,by rw[HST.o,jG];have h9:=afT.o;simpa using h9,gp.o⟩
    case measure=>simp [intOf] <;> omega
   ·obtain rfl:k=xs.length - 1:=by omega
    have hkb:decide (((xs.length - 1:Nat):Int) < ((xs.length - 1:Nat):Int))=false:=by simp
    have HS:=jD (OE b _ wr qB (Nat.le_of_lt qB.lt));clear qB nD;go_wp2_with fail
    (with_reducible refine(HS.o).mono ?_);rintro e w5 ⟨rfl,bR⟩;have oo:=jD (HB.o.trans (bR.mono mq));have e5:xs.take (xs.length - 1+1)=xs:=List.take_of_length_le (by omega);have e6:(⟨(dG (xs.take (xs.length - 1+1))).data.toList.toArray⟩:ByteArray)=dG xs:=by rw[e5]
    rw[e6];clear bR HS e6 e5;go_wp2;go_ret;exact⟨rfl,oo.o⟩
end Go.Proofs.YtajgndoiddmbmaaGreatDoor
namespace Go.Proofs.YtajgndoiddmbmaaGreatDoor
set_option maxRecDepth 100000
set_option maxHeartbeats 40000000
open Go.RowKit
def gu (x:ByteArray) (i:Nat):List ByteArray×ByteArray:=if i≤x.size then iA x i else(aS x,emp)
theorem qM {x:ByteArray} {i:Nat} (h:i≤x.size):gu x i=iA x i:=if_pos h
theorem FQ (x:ByteArray):gu x (x.size+1)=(aS x,emp):=if_neg (by omega)
theorem CP (x:ByteArray):gu x 0=([],emp):=by rw[qM (Nat.zero_le _),Pn]
theorem Nu {x:ByteArray} {i:Nat} (h:i < x.size) (hb:x[i]≠32):gu x (i+1)=((gu x i).1,(gu x i).2++x.extract i (i+1)):=by
 rw[qM (by omega),qM (by omega)];exact Po h (by rw[List.getElem?_eq_getElem (show i < x.data.toList.length from h)];rfl) hb
theorem Nt {x:ByteArray} {i:Nat} (h:i≤x.size) (hb: ∀h:i < x.size,x[i]=32):gu x (i+1)=(if (gu x i).2=emp then(gu x i).1 else(gu x i).1++[(gu x i).2],emp):=by
 by_cases hi:i < x.size
 ·rw[qM (by omega),qM (by omega)];exact Ns hi (by rw[List.getElem?_eq_getElem (show i < x.data.toList.length from hi)];exact congrArg some (hb hi))
 ·obtain rfl:i=x.size:=by omega
  rw[FQ,qM (Nat.le_refl _),SH]
theorem Nv (x:ByteArray) (i:Nat):(iA x i).2.size≤i∧(iA x i).1.length≤i:=by
 have key: ∀l:List UInt8,(l.foldl fN ([],[])).2.length+(l.foldl fN ([],[])).1.length≤l.length:=by
  intro l;have: ∀(l:List UInt8) (ws:List (List UInt8)) (cur:List UInt8),(l.foldl fN (ws,cur)).2.length+(l.foldl fN (ws,cur)).1.length≤cur.length+ws.length+l.length:=by
   intro l;induction l with
   | nil=>intro ws cur;exact Nat.le_refl _
   | cons b l ih=>
    intro ws cur;rw[List.foldl_cons];have h1: ∃U3 cur',fN (ws,cur) b=(U3,cur')∧cur'.length+U3.length≤cur.length+ws.length+1:=by
     unfold fN;by_cases hb:b=32
     ·rw[if_pos hb];by_cases hc:cur=[]
      ·exact⟨_,_,rfl,by rw[if_pos hc];show 0+ws.length≤_;omega⟩
      ·exact⟨_,_,rfl,by rw[if_neg hc];show 0+(ws++[cur]).length≤_;rw [List.length_append,List.length_singleton];omega⟩
     ·rw[if_neg hb];exact⟨_,_,rfl,by show(cur++[b]).length+ws.length≤_;rw [List.length_append,List.length_singleton];omega⟩
    obtain⟨U3,cur',e,h2⟩:=h1;rw[e];have:=ih U3 cur';rw[List.length_cons];omega
  have h:=this l [] [];simpa using h
 have h:=key (x.data.toList.take i);rw[List.length_take] at h;constructor
 ·show((x.data.toList.take i).foldl fN ([],[])).2.length≤i;omega
 ·unfold iA;rw[List.length_map];omega
theorem MT (x:ByteArray):(aS x).length≤x.size+1:=by
 have h1:(aS x).length≤(dx 32 x).length:=List.length_filter_le _ _;exact Nat.le_trans h1 (tJ 32 x)
theorem Pp (x:ByteArray) (i:Nat):(gu x i).1.length≤x.size+1∧(gu x i).2.size≤x.size:=by
 unfold gu;split
 ·have:=Nv x i;omega
 ·exact⟨MT x,Nat.zero_le _⟩
def szOf:Value→Nat
 | .string s=>s.size
 | _=>0
def lQ (l:List ByteArray):Nat:=(l.filter fun x=> !cu (aS x)).length
theorem Pe (l:List ByteArray) (x:ByteArray):lQ (l++[x])=if cu (aS x) then lQ l else lQ l+1:=by
 unfold lQ;rw[List.filter_append,List.length_append];by_cases h:cu (aS x)=true
 ·rw[if_pos h,List.filter_cons_of_neg (by simp[h])];rfl
 ·rw[if_neg h,List.filter_cons_of_pos (by simp[h])];rfl
theorem Et (l:List ByteArray):lQ l≤l.length:=List.length_filter_le _ _
structure VV (w:World) (s:ByteArray) (t:ByteArray) (D:List ByteArray) (ov:Value) (wr:World):Prop where
 ln:bQ s=D++bQ t
 sz:t.size+D.length≤s.size
 row: ∃xs,wr.ownsRow w.heap.size 31 1 ov (lQ D) xs
 aW:Below w.heap.size w wr
theorem afA.i:(Tryz.prog.info? 31).map (fun i=>(i.zero,i.size,i.bytes))=some (some (.slice none 0 0),1,24):=by kernel_rfl
theorem Xp (s:ByteArray) (w:World) (hs:s.size≤1000000):
  Calls Tryz.prog 8 #[.string s] w fun e w'=>(∃a c,e= .returned (.tuple #[.slice a (lQ (bQ s)) c, .bool (decide (((bQ s).length:Int)≤200))]))∧Below w.heap.size w w':=by
 go_enter Tryz.func8,Tryz.ntmps8;go_wp2_with fail
 go_loopw [0,4,5] (fun tv ov nv wr=> ∃(t:ByteArray) (D:List ByteArray),tv= .string t∧nv= .int .i64 D.length∧VV w s t D ov wr) (fun tv _ _ _=>szOf tv)
 case atStart=>exact ⟨s,[],rfl,rfl,rfl,by simp,⟨[],World.ownsRow_nil _ _ _ _⟩,br⟩
 case round=>
  obtain⟨t,D,rfl,rfl,hI⟩:=hrel;obtain⟨xs,hxs⟩:=hI.row;obtain⟨oa,oc,hov⟩:=ay hxs;subst hov;have HI:=jD hI;have HX:=jD hxs;have hud:=Et D;by_cases ht:t=emp
  ·obtain⟨q1,q2,q3⟩:=zG ht;have iU:=jD (show bQ s=D by rw[hI.ln,ht,PS,List.append_nil]);have Bw:=jD hI.aW;clear hI hxs ht;go_wp2;go_ret2;exact⟨⟨_,_,by rw[iU.o];rfl⟩,Bw.o⟩
  obtain⟨q1,q2,q3⟩:=zi ht;obtain⟨h1,h2,h3⟩:=PT ht;have hts:=hI.sz;have iU:=jD (show bQ s=(D++[ry t])++bQ (ru t) by rw[hI.ln,h1];simp);have hsz1:(ru t).size+(D.length+1)≤s.size:=by omega
  have pM:=jD (acs t wr (by omega));have Rj:=jD (Pe D (ry t));have hxl:(ry t).size≤1000000:=by omega
  have Jt:(ru t).size < t.size:=h2;generalize ry t=x at*;generalize ru t=t2 at*;clear hI hxs h1 h2 h3 ht;go_wp2_with fail
  (with_reducible refine(pM.o).mono ?_);rintro e w1 ⟨⟨bq,rfl⟩,hb1⟩;have bh:=jD (aj HI.o.aW hb1);have cr:=jD (aI HX.o hb1);clear hb1 pM HX q1 q2 q3;go_wp2_with fail
  go_loopw [9,10,11] (fun av cv iv wy=> ∃i:Nat,i≤x.size+1∧iv= .int .i64 i∧cv= .string (gu x i).2∧wy.ownsRow w1.heap.size 9 1 av (gu x i).1.length ((gu x i).1.map Value.string)∧Below w1.heap.size w1 wy) (fun _ _ iv _=>x.size+1 - (intOf iv).toNat)
  case atStart=>exact ⟨0,Nat.zero_le _,rfl,by rw[CP];rfl,by rw[CP];exact World.ownsRow_nil _ _ _ _,br⟩
  case round=>
   obtain⟨i,hi,rfl,rfl,how,hbl⟩:=hrel;obtain⟨aa,ac,Qf⟩:=ay how;subst Qf;have HOW:=jD how;have aP:=jD hbl;have hsl:=Pp x i;by_cases hle:i≤x.size
   ·have hd:decide ((i:Int)≤(x.size:Int))=true:=by simp;omega
    by_cases hbyte: ∃h:i < x.size,x[i]≠32
    ·obtain⟨hlt,hb⟩:=hbyte;have hd2:decide ((i:Int) < (x.size:Int))=true:=by simp;omega
     have hn:x[i].toNat≠32:=fun e=>hb (by rw[←UInt8.toNat_inj];exact e);have hb2:((x[i].toNat:Int) != 32)=true:=by rw[bne_iff_ne];omega
     have hb3:decide ((x[i].toNat:Int)=32)=false:=by rw[decide_eq_false_iff_not];omega
     have HN:=jD (Nu hlt hb);have he1:(x.extract i (i+1)).size=1:=by rw[ByteArray.size_extract];omega
     generalize gu x i=pp at*;obtain⟨ws,cur⟩:=pp;simp only at*;clear how hbl hb hn;go_wp2;go_roundw
     case rel=>exact ⟨i+1,by omega,by go_num,by rw[HN.o],by rw[HN.o];exact HOW.o,aP.o⟩
     case measure=>simp [intOf] <;> omega
    ·have HN:=jD (Nt hle fun h=>Classical.byContradiction fun e=>hbyte ⟨h,e⟩);have key: ∀(Q:Prop),(i < x.size→(∀h:i < x.size,x[i]=32)→Q)→(i=x.size→Q)→Q:=fun Q h1 h2=>by
      by_cases h:i < x.size
      ·exact h1 h fun h=>Classical.byContradiction fun e=>hbyte ⟨h,e⟩
      ·exact h2 (by omega)
     have HK:=jD key;clear key hbyte;generalize gu x i=pp at*;obtain⟨ws,cur⟩:=pp;simp only at*;obtain⟨i0,hii,hz0,hz1,hz2⟩:=info_parts Fm.i;by_cases hc:cur=emp
     ·obtain⟨p1,p2,p3⟩:=zG hc;have uN:=jD (show gu x (i+1)=(ws,emp) by rw[HN.o,if_pos hc]);clear how hbl hc HN;refine HK.o _ (fun hlt hsp=> ?_) (fun hend=> ?_)
      ·have hd2:decide ((i:Int) < (x.size:Int))=true:=by simp;omega
       have hn:x[i].toNat=32:=by rw[hsp hlt];rfl
       have hb2:((x[i].toNat:Int) != 32)=false:=by rw[bne_eq_false_iff_eq];omega
       have hb3:decide ((x[i].toNat:Int)=32)=true:=by rw[decide_eq_true_eq];omega
       clear hn hsp HK;go_wp2;go_roundw
       case rel=>exact ⟨i+1,by omega,by go_num,by rw[uN.o];rfl,by rw[uN.o];exact HOW.o,aP.o⟩
       case measure=>simp [intOf] <;> omega
      ·subst hend;have hd2:decide ((x.size:Int) < (x.size:Int))=false:=by simp
       clear HK;go_wp2;go_roundw
       case rel=>exact ⟨x.size+1,by omega,by go_num,by rw[uN.o];rfl,by rw[uN.o];exact HOW.o,aP.o⟩
       case measure=>simp [intOf] <;> omega
     ·obtain⟨p1,p2,p3⟩:=zi hc;have uN:=jD (show gu x (i+1)=(ws++[cur],emp) by rw[HN.o,if_neg hc]);have fin: ∀(v':Value) (w5:World),w5.ownsRow w1.heap.size 9 1 v' (ws.length+1) (ws.map Value.string++[.string cur])→(wr.alloc (.cells #[.string cur] 9)).grownBy w5 (Value.slice aa ws.length ac).ownBlock→(∃i':Nat,i'≤x.size+1∧Value.int .i64 ((i:Int)+1)= .int .i64 i'∧Value.string ⟨#[]⟩= .string (gu x i').2∧w5.ownsRow w1.heap.size 9 1 v' (gu x i').1.length ((gu x i').1.map Value.string)∧Below w1.heap.size w1 w5):=fun v' w5 h1 h2=>
       ⟨i+1,by omega,by go_num,by rw[uN.o];rfl,by rw[uN.o,List.length_append,List.map_append];exact h1,(aP.o.trans ((aG (.cells #[.string cur] 9)).mono aP.o.size)).grown h2 (by have:=aP.o.size;simp;omega) (fun q hq=>((HOW.o.alloc (.cells #[.string cur] 9)).lt q hq).1)⟩
      have Wj:=jD fin;clear how hbl hc HN fin;refine HK.o _ (fun hlt hsp=> ?_) (fun hend=> ?_)
      ·have hd2:decide ((i:Int) < (x.size:Int))=true:=by simp;omega
       have hn:x[i].toNat=32:=by rw[hsp hlt];rfl
       have hb2:((x[i].toNat:Int) != 32)=false:=by rw[bne_eq_false_iff_eq];omega
       have hb3:decide ((x[i].toNat:Int)=32)=true:=by rw[decide_eq_true_eq];omega
       clear hn hsp HK;go_wp2_with (at_builtin;refine wpList_append_own _ rfl _ _ 31 rfl w1.heap.size 9 i0 (.string ByteArray.empty) 1 16 Tryz.underlying31 hii hz0 hz1 hz2 rfl (by decide) _ _ _ rfl (HOW.o.alloc _) ⟨wr.heap.size,0,none⟩ 1 1 [.string cur] rfl rfl ?c1 ?c2 ?c3 ?c4 ?c5 ?_)
       case c1=>
        intro jj u hj;match jj,hj with
        | 0,hj=>simp at hj;subst hj;simp [Addr.add]
       case c2=>intro u hu;simp at hu;subst hu;rfl
       case c3=>unfold maxLen;omega
       case c4=>omega
       case c5=>have:=aP.o.size;simp;omega
       intro v' w5 hown' hgrow _;obtain⟨va,vc,hv'⟩:=ay hown';subst hv';have HF5:=jD (Wj.o _ w5 hown' hgrow);clear hown' hgrow Wj HOW aP;go_wp2;go_roundw
       case rel=>exact HF5.o
       case measure=>simp [intOf] <;> omega
      ·subst hend;have hd2:decide ((x.size:Int) < (x.size:Int))=false:=by simp
       clear HK;go_wp2_with (at_builtin;refine wpList_append_own _ rfl _ _ 31 rfl w1.heap.size 9 i0 (.string ByteArray.empty) 1 16 Tryz.underlying31 hii hz0 hz1 hz2 rfl (by decide) _ _ _ rfl (HOW.o.alloc _) ⟨wr.heap.size,0,none⟩ 1 1 [.string cur] rfl rfl ?c1 ?c2 ?c3 ?c4 ?c5 ?_)
       case c1=>
        intro jj u hj;match jj,hj with
        | 0,hj=>simp at hj;subst hj;simp [Addr.add]
       case c2=>intro u hu;simp at hu;subst hu;rfl
       case c3=>unfold maxLen;omega
       case c4=>omega
       case c5=>have:=aP.o.size;simp;omega
       intro v' w5 hown' hgrow _;obtain⟨va,vc,hv'⟩:=ay hown';subst hv';have HF5:=jD (Wj.o _ w5 hown' hgrow);clear hown' hgrow Wj HOW aP;go_wp2;go_roundw
       case rel=>exact HF5.o
       case measure=>simp [intOf] <;> omega
   obtain rfl:i=x.size+1:=by omega
   rw[FQ] at HOW hsl ⊢;obtain⟨wi,hwi⟩: ∃z,z=wr:=⟨_,rfl⟩
   rw[←hwi] at HOW aP ⊢;have hd:decide (((x.size+1:Nat):Int)≤(x.size:Int))=false:=by rw[decide_eq_false_iff_not];omega
   have Re:=jD (aI cr.o aP.o);have Ap:=jD (aj bh.o aP.o);obtain⟨ws,hws⟩: ∃l,l=aS x:=⟨_,rfl⟩
   simp only[←hws] at HOW hsl Rj ⊢;clear how hbl hwi hle hws cr bh;by_cases h0:ws.length=0
   ·have hd0:decide ((0:Int) < (ws.length:Int))=false:=by rw[decide_eq_false_iff_not];omega
    have HN:=jD (show VV w s t2 (D++[x]) (.slice oa (lQ D) oc) wi from⟨iU.o,by rw[List.length_append,List.length_singleton];exact hsz1,⟨xs,by rw[Rj.o,if_pos (xh h0)];exact Re.o⟩,Ap.o⟩);clear HOW aP;go_wp2;go_roundw
    case rel=>exact ⟨t2,D++[x],rfl,by rw[List.length_append,List.length_singleton];go_num,HN.o⟩
    case measure=>simp [szOf] <;> omega
   have hw0:0 < ws.length:=by omega
   have hd0:decide ((0:Int) < (ws.length:Int))=true:=by rw[decide_eq_true_eq];omega
   obtain⟨q9,Z6,vp,Vw,Js, -,Vx⟩:=tV HOW.o rfl hw0;simp only[Value.slice.injEq,true_and] at vp;obtain⟨rfl,rfl⟩:=vp;by_cases hcm:ws[0]=uE
   ·have TJ:=Z5 hcm;have hce:(ws[0].toList != [47,47])=false:=by unfold bne;rw [TJ];rfl
    have HN:=jD (show VV w s t2 (D++[x]) (.slice oa (lQ D) oc) wi from⟨iU.o,by rw[List.length_append,List.length_singleton];exact hsz1,⟨xs,by rw[Rj.o,if_pos (BM hw0 hcm)];exact Re.o⟩,Ap.o⟩);generalize ws[0]=y0 at*;clear HOW aP hcm;go_wp2;go_roundw
    case rel=>exact ⟨t2,D++[x],rfl,by rw[List.length_append,List.length_singleton];go_num,HN.o⟩
    case measure=>simp [szOf] <;> omega
   have TJ:=Z1 hcm;have hce:(ws[0].toList != [47,47])=true:=by unfold bne;rw [TJ];rfl
   have afE:=jD (show lQ (D++[x])=lQ D+1 by rw[Rj.o,if_neg (by rw[Ev hw0 hcm];decide)]);obtain⟨i0,hii,hz0,hz1,hz2⟩:=info_parts afA.i;generalize ws[0]=y0 at*;clear hcm Rj;go_wp2_with (at_builtin;refine wpList_append_own _ rfl _ _ 28 rfl w.heap.size 31 i0 (.slice none 0 0) 1 24 Tryz.underlying28 hii hz0 hz1 hz2 rfl (by decide) _ _ _ rfl (Re.o.alloc _) ⟨wi.heap.size,0,none⟩ 1 1 [.slice (some ⟨q9,0,none⟩) ws.length ac] rfl rfl ?c1 ?c2 ?c3 ?c4 ?c5 ?_)
   case c1=>
    intro jj u hj;match jj,hj with
    | 0,hj=>simp at hj;subst hj;simp [Addr.add]
   case c2=>intro u hu;simp at hu;subst hu;rfl
   case c3=>unfold maxLen;omega
   case c4=>omega
   case c5=>have:=Ap.o.size;simp;omega
   intro v' w5 hown' hgrow _;obtain⟨va,vc,hv'⟩:=ay hown';subst hv';have HN:=jD (show VV w s t2 (D++[x]) (.slice va (lQ D+1) vc) w5 from⟨iU.o,by rw[List.length_append,List.length_singleton];exact hsz1,⟨_,by rw[afE.o];exact hown'⟩,(Ap.o.trans ((aG (.cells #[.slice (some ⟨q9,0,none⟩) ws.length ac] 31)).mono Ap.o.size)).grown hgrow (by have:=Ap.o.size;simp;omega) (fun q hq=>((Re.o.alloc (.cells #[.slice (some ⟨q9,0,none⟩) ws.length ac] 31)).lt q hq).1)⟩);clear hown' hgrow HOW aP Re Ap;go_wp2;go_roundw
   case rel=>exact ⟨t2,D++[x],rfl,by rw[List.length_append,List.length_singleton];go_num,HN.o⟩
   case measure=>simp [szOf] <;> omega
theorem Gd.fresh {B:Nat} {w:World} (h:Gd B w):Gd w.heap.size w:=⟨h.gl.up h.le,Lib.tabBelow_of_tabIs h.tab.here,Nat.le_refl _⟩
theorem Gd.next {w w':World} (h:Gd w.heap.size w) (hb:Below w.heap.size w w'):Gd w'.heap.size w':=(h.on hb).fresh
theorem Yp (w:World) (hG:Gd w.heap.size w):Calls Tryz.prog 6 #[.string ⟨#[47,47,32,120,10,10,99,111,117,110,116,32,35,49,10]⟩] w fun e w'=>e= .returned (.string ⟨#[111,107,32,50,53,54,10]⟩)∧Below w.heap.size w w':=by
 refine(zH Nq w (by decide) hG).mono ?_;rintro e w' ⟨h1,h2, -⟩;exact⟨by rw[h1,abU],h2⟩
structure aaw (s:ByteArray) (L:List ByteArray):Prop where
 len:L.length=lQ (bQ s)+1
 last: ∀h:lQ (bQ s) < L.length,L[lQ (bQ s)]=emp
 each: ∀i (h:i < L.length),i < lQ (bQ s)→Lib.hasPrefix L[i].data.toList [111,107]=true∨Lib.hasPrefix L[i].data.toList [101,114,114,111,114,32]=true
theorem Ph {s:ByteArray} (hb:eX s=false) (hg: ∀a∈gK A2 N2 yN (bQ s),a.size≤1000000∧Looks a):aaw s (fK 10 (jg s))∧(jg s).size≤4000000000:=by
 have e:=SM hb;have hl:(gK A2 N2 yN (bQ s)).length=lQ (bQ s):=uG _ _ _ _;have ES:(bQ s).length≤200:=by
  unfold eX at hb;simp only[Bool.or_eq_false_iff,decide_eq_false_iff_not] at hb;omega
 have hu:=Et (bQ s);have ha:=Q9 (l:=gK A2 N2 yN (bQ s)) fun a h=>(hg a h).2.1;rw[←e] at ha;have hf:=Cn (l:=gK A2 N2 yN (bQ s)) (K:=1000000) fun a h=>(hg a h).1;refine⟨⟨?_,fun h=> ?_,fun i h hi=> ?_⟩, ?_⟩
 ·rw[ha,List.length_append,List.length_map,hl];rfl
 ·simp only[ha];rw[List.getElem_append_right (by rw[List.length_map,hl];exact Nat.le_refl _)];simp[hl]
 ·have hia:i < (gK A2 N2 yN (bQ s)).length:=by omega
  have e2:(fK 10 (jg s))[i]=(gK A2 N2 yN (bQ s))[i]++⟨#[10]⟩:=by
   simp only[ha];rw[List.getElem_append_left (by rw[List.length_map];exact hia),List.getElem_map]
  rw[e2,jG];have hk:=(hg _ (List.getElem_mem hia)).2.2;rcases hk with hk | hk
  ·exact .inl (List.isPrefixOf_iff_prefix.2 (hk.trans (List.prefix_append _ _)))
  ·exact .inr (List.isPrefixOf_iff_prefix.2 (hk.trans (List.prefix_append _ _)))
 ·rw[e];show(List.flatMap _ _).length≤_;rw[hl] at hf;have h4:lQ (bQ s)*(1000000+1)≤200*1000001:=Nat.mul_le_mul_right 1000001 (by omega);omega
theorem Vn (x:ByteArray) (w:World):Calls Tryz.prog 10 #[.string x, .string ⟨#[111,107]⟩] w fun e w'=>e= .returned (.bool (Lib.hasPrefix x.data.toList [111,107]))∧w'=w:=wj x ⟨#[111,107]⟩ w
theorem acg (x:ByteArray) (w:World):Calls Tryz.prog 10 #[.string x, .string ⟨#[101,114,114,111,114,32]⟩] w fun e w'=>e= .returned (.bool (Lib.hasPrefix x.data.toList [101,114,114,111,114,32]))∧w'=w:=wj x ⟨#[101,114,114,111,114,32]⟩ w
theorem Fq (s:ByteArray) (w:World) (hG:Gd w.heap.size w) (hs:s.size≤1048576):
  Calls Tryz.prog 4 #[.string s] w fun e w'=>e= .returned (.bool true)∧Below w.heap.size w w':=by
 have HG:=jD hG;have gN:=jD (Yp w hG);clear hG;go_enter Tryz.func4,Tryz.ntmps4;go_wp2_with fail
 (with_reducible refine(gN.o).mono ?_);rintro e w1 ⟨rfl,hb1⟩;have bh:=jD hb1;have Rq:=jD (zH s w1 (by omega) (HG.o.next hb1));clear hb1 gN;go_wp2_with fail
 (with_reducible refine(Rq.o).mono ?_);rintro e w2 ⟨rfl,hb2,hgd⟩;have cw:=jD (aj bh.o hb2);have pL:=jD hgd;clear hb2 hgd Rq bh;by_cases he:jg s=Oh
 ·have q1:=Ya (L:=[101,114,114,111,114,32,50,10]) he;clear he pL;generalize jg s=rs at*;go_wp2;go_ret;exact⟨rfl,cw.o⟩
 have q1:=qz (L:=[101,114,114,111,114,32,50,10]) he;have hbig:eX s=false:=by
  cases hb:eX s with
  | false=>rfl
  | true=>exact absurd (by unfold jg;rw [hb];rfl) he
 have Ba:s.size≤65536∧(bQ s).length≤200:=by
  unfold eX at hbig;simp only[Bool.or_eq_false_iff,decide_eq_false_iff_not] at hbig;omega
 obtain⟨hsp,hsz⟩:=Ph hbig (pL.o hbig);have tC:=jD hsp;have iU:=jD (Xp s w2 (by omega));rw[decide_eq_true (show(((bQ s).length:Nat):Int)≤200 by omega)] at iU;clear he hbig hsp pL;obtain⟨m,hm⟩: ∃m,m=lQ (bQ s):=⟨_,rfl⟩
 have hm200:m≤200:=by rw[hm];exact Nat.le_trans (Et _) Ba.2
 rw[←hm] at iU;have HM:=jD hm;obtain⟨rs,hrs⟩: ∃x,x=jg s:=⟨_,rfl⟩
 rw[←hrs] at tC hsz q1 ⊢;clear hm hrs Ba;go_wp2_with fail
 (with_reducible refine(iU.o).mono ?_);rintro e w3 ⟨⟨la,lc,rfl⟩,hb3⟩;have eH:=jD (aj cw.o hb3);have Eh:=jD (Mu rs 10 w3 (by omega));clear hb3 iU cw;obtain⟨L,hL⟩: ∃L,L=fK 10 rs:=⟨_,rfl⟩
 rw[←hL] at tC Eh;have hlen:L.length=m+1:=by rw[tC.o.len,HM.o]
 rw[hlen] at Eh;clear hL;go_wp2_with fail
 (with_reducible refine(Eh.o).mono ?_);rintro e w4 ⟨rfl,hw4⟩;obtain⟨BL,hBL⟩: ∃B,B=w3.heap.size:=⟨_,rfl⟩
 have HST:=jD (show sB w4 BL L from⟨by rw[hw4,hBL];exact au _ _ _ _ rfl⟩);have gp:=jD (show Below w.heap.size w w4 from aj eH.o (by rw[hw4];exact aG _));rw[←hBL];clear hw4 hBL Eh eH;have hc:=HST.o.get (k:=m) (by omega);have hcl:=ai HST.o.blk;have hemp:L[m]'(by omega)=emp:=by
  have:=tC.o.last (by rw[←HM.o];omega);simp only[←HM.o] at this;exact this
 rw[hemp] at hc;clear hemp;have hc2:w4.cell? ⟨BL,m,none⟩=some (.string ⟨#[]⟩):=hc;have hne:((m:Int)+1 != (m:Int)+1)=false:=by simp
 clear hc q1;go_wp2;go_loopw [45] (fun i wr=> ∃k:Nat,k≤m∧i= .int .i64 k∧wr=w4) (fun i _=>m - (intOf i).toNat)
 case atStart=>exact ⟨0,Nat.zero_le _,rfl,rfl⟩
 case round=>
  obtain⟨k,hk,rfl,rfl⟩:=hrel;by_cases hlt:k < m;rotate_left
  ·obtain rfl:k=m:=by omega
   have hkb:decide ((k:Int) < (k:Int))=false:=by simp
   go_wp2;go_ret;exact⟨rfl,gp.o⟩
  have hkb:decide ((k:Int) < (m:Int))=true:=by simp;omega
  have hkl:k < L.length:=by omega
  have d0:=HST.o.get hkl;have HEA:=jD (tC.o.each k hkl (by rw[←HM.o];exact hlt));generalize L[k]=x at*;cases hok:Lib.hasPrefix x.data.toList [111,107] with
  | true=>
   have HP:=jD (Vn x wr);rw[hok] at HP;clear HEA hok;go_wp2_with fail
   (with_reducible refine(HP.o).mono ?_);rintro e w5 ⟨rfl,rfl⟩;go_wp2;go_roundw
   case rel=>exact ⟨k+1,by omega,by go_num,by first | trivial | rfl⟩
   case measure=>simp [intOf] <;> omega
  | false=>
   have hz:Lib.hasPrefix x.data.toList [101,114,114,111,114,32]=true:=by
    rcases HEA.o with h | h
    ·rw[hok] at h;cases h
    ·exact h
   have HP:=jD (Vn x wr);have HQ:=jD (acg x wr);rw[hok] at HP;rw[hz] at HQ;clear HEA hok hz;go_wp2_with fail
   (with_reducible refine(HP.o).mono ?_);rintro e w5 ⟨rfl,rfl⟩;go_wp2_with fail
   (with_reducible refine(HQ.o).mono ?_);rintro e w6 ⟨rfl,rfl⟩;go_wp2;go_roundw
   case rel=>exact ⟨k+1,by omega,by go_num,by first | trivial | rfl⟩
   case measure=>simp [intOf] <;> omega
end Go.Proofs.YtajgndoiddmbmaaGreatDoor
