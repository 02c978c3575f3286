/- strings.Builder and strings.Split, at this program. -/
import Derived.Test.YtajgndoiddmbmaaGreatDoorText12
import Derived.Test.YtajgndoiddmbmaaGreatDoorText5
import Derived.Test.YtajgndoiddmbmaaGreatDoorDeskLay
import Derived.Lib.AppendStr
namespace Go.Proofs.YtajgndoiddmbmaaGreatDoor
open Go.RowKit Go.Shelf
set_option maxRecDepth 100000 in
theorem BuTy.size:(Tryz.prog.info? 45).map (·.size)=some 2:=by kernel_rfl
set_option maxRecDepth 100000 in
theorem BuTy.lies:liesAt Tryz.prog Tryz.prog.depth 45 (2 / Tryz.prog.cellsOf 45) 0 45 1=true:=by kernel_rfl
set_option maxRecDepth 100000 in
theorem ByTy.info:(Tryz.prog.info? 5).map (fun i=>(i.zero,i.size,i.bytes))=some (some (.int .u8 0),1,1):=by kernel_rfl
set_option maxRecDepth 100000 in
theorem bst_extra:Builder.Extra Tryz.prog bstLay_ren where
 sizeBuilder:=by kernel_rfl
 liesBuilder:=by kernel_rfl
 t5:=Tryz.underlying5
 a5:=Tryz.isAgg5
 z5:=Tryz.sizeOf5
 v5:=Tryz.zeroValue5
 infoByte:=by kernel_rfl
 cellsByte:=by kernel_rfl
 sizeByte:=by kernel_rfl
 neB5:=by decide
def Bu (w:World) (b:Nat) (l:List UInt8):Prop:=Lib.IsBuilder 45 5 b b (Lib.byteCells l) w
def NB (t:Nat):Bool:=t != 45&&t != 5
structure DKeep (w w':World):Prop where
 size:w.heap.size≤w'.heap.size
 blk: ∀(k:Nat) (cs:Array Value) (t:TypeId),w.heap[k]? =some (Obj.cells cs t (0,0))→NB t=true→w'.heap[k]? =some (Obj.cells cs t (0,0))
theorem DKeep.refl (w:World):DKeep w w:=⟨Nat.le_refl _,fun _ _ _ h _=>h⟩
theorem DKeep.trans {a b c:World} (h:DKeep a b) (k:DKeep b c):DKeep a c:=⟨Nat.le_trans h.size k.size,fun j cs t h1 h2=>k.blk j cs t (h.blk j cs t h1 h2) h2⟩
theorem DKeep.of_below {w w':World} (h:Below w.heap.size w w'):DKeep w w':=⟨h.size,fun _ _ _ hk _=>below_keep h hk⟩
theorem DKeep.of_set {w:World} {g j:Nat} {v:Value} {cs:Array Value} {t:TypeId} (hg:w.heap[g]? =some (Obj.cells cs t (0,0))) (ht:NB t=false):DKeep w (w.setCell ⟨g,j,none⟩ v):=by
 refine⟨by simp,fun k cs' t' hk hT=> ?_⟩
 rw[heap_set_other]
 ·exact hk
 ·rintro rfl
  rw[hg] at hk
  simp only[Option.some.injEq,Obj.cells.injEq] at hk
  rw[←hk.2.1,ht] at hT
  exact absurd hT (by decide)
theorem DKeep.of_app {base e size n:Nat} {w w':World} {v:Value} {xs:List Value} (h:w.ownsRow base e size v n xs) (hg:w.grownBy w' v.ownBlock) (ht:NB e=false):DKeep w w':=by
 refine⟨hg.size,fun k ds u hk hu=> ?_⟩
 refine grown_keep h hg hk ?_
 intro e0;subst e0
 rw[hu] at ht;exact absurd ht (by decide)
set_option maxRecDepth 100000 in
theorem copyCheck_c (b:Nat) (bs:List Value) (w:World) (h:Lib.IsBuilder 45 5 b b bs w):
  Calls Tryz.prog 25 #[.pointer (some ⟨b,0,none⟩)] w fun e w'=>e= .returned (.tuple #[])∧Lib.BuilderAt 45 5 b b (.pointer (some ⟨b,0,none⟩)) bs w'∧DKeep w w'∧Below b w w':=by
 obtain⟨j,hj,hjs⟩:=Option.map_eq_some_iff.1 BuTy.size
 rcases h with h | h
 ·have h0:=h.cell0
  have hsh:=h.shape
  have hfz:=h.frozen0
  have hlt:b < w.heap.size:=by
   obtain⟨-,v,hb, -⟩:=h
   exact hlt_of hb
  have HF:=Lib.hid (show Lib.BuilderAt 45 5 b b (.pointer (some ⟨b,0,none⟩)) bs (w.setCell ⟨b,0,none⟩ (.pointer (some ⟨b,0,none⟩)))∧DKeep w (w.setCell ⟨b,0,none⟩ (.pointer (some ⟨b,0,none⟩)))∧Below b w (w.setCell ⟨b,0,none⟩ (.pointer (some ⟨b,0,none⟩))) from by
   refine⟨h.used _, ?_,(Below.refl b w).setCell (p:=⟨b,0,none⟩) h.1 _⟩
   obtain⟨-,v,hb, -⟩:=h
   exact DKeep.of_set hb (by decide))
  clear h
  go_enter Tryz.func25,Tryz.ntmps25
  go_wp2
  rw[Lib.run_to_unsafe w ⟨b,0,none⟩ Tryz.underlying42 Tryz.underlying84 hj (by rw[hjs];decide) hsh (Nat.zero_lt_succ 1)]
  simp only[Result.andThen]
  rw[Oper.upon_value]
  go_wp2
  rw[run_callFunc_extern Tryz.func40 (by kernel_rfl) (by kernel_rfl) (by kernel_rfl) (e:=Extern.AbiNoEscape.same) (by kernel_rfl)]
  rw[Lib.run_noEscape]
  simp only[Result.andThen]
  rw[Oper.upon_value]
  go_wp2
  rw[Lib.run_from_unsafe w ⟨b,0,none⟩ Tryz.underlying84 Tryz.underlying42 hj hsh BuTy.lies]
  simp only[Result.andThen]
  rw[Oper.upon_value]
  go_wp2
  go_end0
  exact⟨rfl,HF.out⟩
 ·have h0:=h.cell0
  have HF:=Lib.hid h
  clear h
  go_enter Tryz.func25,Tryz.ntmps25
  go_wp2
  rw[Lib.run_neq_ptr_same w _ Tryz.underlying42 hj]
  go_wp2
  go_end0
  exact⟨rfl,HF.out,DKeep.refl _,Below.refl _ _⟩
theorem bu_put {b:Nat} {w w2:World} {v v':Value} {bs bs':List Value} (hbk:w.heap[b]? =some (.cells #[.pointer (some ⟨b,0,none⟩),v] 45 (0,0))) (hown:w.ownsRow b 5 1 v bs.length bs) (hg:w.grownBy w2 v.ownBlock) (hb2:w2.heap[b]? =some (.cells #[.pointer (some ⟨b,0,none⟩),v] 45 (0,0))) (hown':w2.ownsRow b 5 1 v' bs'.length bs'):
  Lib.IsBuilder 45 5 b b bs' (w2.setCell ⟨b,1,none⟩ v')∧DKeep w (w2.setCell ⟨b,1,none⟩ v')∧Below b w (w2.setCell ⟨b,1,none⟩ v'):=by
 refine⟨.inr (Lib.BuilderAt.put (T:=45) (e:=5) (Nat.le_refl b) hb2 hown' (by decide)), ?_, ?_⟩
 ·exact(DKeep.of_app hown hg (by decide)).trans (DKeep.of_set hb2 (by decide))
 ·exact((Below.refl b w).grown hg (Nat.le_of_lt (hlt_of hbk)) (fun k hk=>(hown.lt k hk).1)).setCell (p:=⟨b,1,none⟩) (Nat.le_refl b) _
set_option maxRecDepth 100000 in
set_option maxHeartbeats 2000000 in
theorem bws_c (b:Nat) (l:List UInt8) (s:ByteArray) (w:World) (h:Bu w b l) (hlen:l.length+s.size≤140737488355328):
  Calls Tryz.prog 14 #[.pointer (some ⟨b,0,none⟩), .string s] w fun e w'=>e= .returned (.tuple #[.int .i64 s.size, .nilIface])∧Bu w' b (l++s.data.toList)∧DKeep w w'∧Below b w w':=by
 obtain⟨i0,hi,hz0,hz1,hz2⟩:=info_parts ByTy.info
 have HC:=Lib.hid (copyCheck_c b (Lib.byteCells l) w h)
 have hl9:(Lib.byteCells l).length=l.length:=Lib.byteCells_length l
 clear h
 go_enter Tryz.func14,Tryz.ntmps14
 go_wp2_with fail
 (with_reducible refine(HC.out).mono ?_)
 rintro e w1 ⟨rfl,⟨hB,v,hbk,hown,hne⟩,ht1,hb1⟩
 have HT1:=Lib.hid ht1
 have HB1:=Lib.hid hb1
 have hlt:=hlt_of hbk
 clear ht1 hb1 HC
 have c0:w1.cell? ⟨b,0,none⟩=some (.pointer (some ⟨b,0,none⟩)):=cell_of_block (j:=0) hbk rfl
 have c1:w1.cell? ⟨b,1,none⟩=some v:=cell_of_block (j:=1) hbk rfl
 go_wp2_with (at_builtin;refine Lib.wpList_append_own_string _ rfl _ _ 43 9 rfl b 5 i0 Tryz.underlying43 Tryz.underlying9 hi hz0 hz1 hz2 _ _ _ rfl hown s rfl ?c3 ?c4 ?c5 ?_)
 case c3=>rw [hl9];unfold maxLen;omega
 case c4=>rw [hl9];omega
 case c5=>omega
 intro v' w2 hown' hgrow _
 have hb2:w2.heap[b]? =some (.cells #[.pointer (some ⟨b,0,none⟩),v] 45 (0,0)):=by
  rw[hgrow.block b hlt (fun e=>hne e.symm)]
  exact hbk
 have HF:=Lib.hid (bu_put (bs':=Lib.byteCells l++Lib.strCells s) hbk hown hgrow hb2 (by rw[List.length_append,Lib.strCells_length,hl9];exact hown'))
 have d0:w2.cell? ⟨b,0,none⟩=some (.pointer (some ⟨b,0,none⟩)):=cell_of_block (j:=0) hb2 rfl
 have d1:w2.cell? ⟨b,1,none⟩=some v:=cell_of_block (j:=1) hb2 rfl
 have f1:w2.frozen? ⟨b,1,none⟩=false:=free_of_block (j:=1) hb2
 obtain⟨ao,n',cap,rfl⟩: ∃ao n' cap,v'= .slice ao n' cap:=by
  rcases hown'.2 with⟨hv,_⟩ | ⟨g,cap,cur,hv,_⟩
  ·exact⟨_,_,_,hv⟩
  ·exact⟨_,_,_,hv⟩
 go_wp2
 go_ret2
 refine⟨rfl, ?_,HT1.out.trans HF.out.2.1,HB1.out.trans HF.out.2.2⟩
 have e:Lib.byteCells (l++s.data.toList)=Lib.byteCells l++Lib.strCells s:=by simp[Lib.byteCells,Lib.strCells]
 unfold Bu;rw [e];exact HF.out.1
set_option maxRecDepth 100000 in
set_option maxHeartbeats 2000000 in
theorem bwb_c (b:Nat) (l:List UInt8) (c:UInt8) (w:World) (h:Bu w b l) (hlen:l.length+1≤140737488355328):
  Calls Tryz.prog 16 #[.pointer (some ⟨b,0,none⟩), .int .u8 (c.toNat:Int)] w fun e w'=>e= .returned .nilIface∧Bu w' b (l++[c])∧DKeep w w'∧Below b w w':=by
 obtain⟨i0,hi,hz0,hz1,hz2⟩:=info_parts ByTy.info
 have HC:=Lib.hid (copyCheck_c b (Lib.byteCells l) w h)
 have hl9:(Lib.byteCells l).length=l.length:=Lib.byteCells_length l
 clear h
 go_enter Tryz.func16,Tryz.ntmps16
 go_wp2_with fail
 (with_reducible refine(HC.out).mono ?_)
 rintro e w1 ⟨rfl,⟨hB,v,hbk,hown,hne⟩,ht1,hb1⟩
 have HT1:=Lib.hid ht1
 have HB1:=Lib.hid hb1
 have hlt:=hlt_of hbk
 clear ht1 hb1 HC
 have c0:w1.cell? ⟨b,0,none⟩=some (.pointer (some ⟨b,0,none⟩)):=cell_of_block (j:=0) hbk rfl
 have c1:w1.cell? ⟨b,1,none⟩=some v:=cell_of_block (j:=1) hbk rfl
 go_wp2_with (at_builtin;refine wpList_append_own _ rfl _ _ 43 rfl b 5 i0 (.int .u8 0) 1 1 Tryz.underlying43 hi hz0 hz1 hz2 rfl (by decide) _ _ _ rfl (hown.alloc _) ⟨w1.heap.size,0,none⟩ 1 1 [.int .u8 (c.toNat:Int)] rfl rfl ?c1 ?c2 ?c3 ?c4 ?c5 ?_)
 case c1=>
  intro j u hj
  match j,hj with
  | 0,hj=>simp at hj;subst hj;simp [Addr.add]
 case c2=>intro u hu;simp at hu;subst hu;rfl
 case c3=>rw [hl9];unfold maxLen;omega
 case c4=>rw [hl9];omega
 case c5=>simp;omega
 intro v' w2 hown' hgrow _
 have hbA:=Lib.hid (show Below w1.heap.size w1 (w1.alloc (.cells #[.int .u8 (c.toNat:Int)] 5)) from bal _)
 have hb2:w2.heap[b]? =some (.cells #[.pointer (some ⟨b,0,none⟩),v] 45 (0,0)):=by
  rw[hgrow.block b (by simp;omega) (fun e=>hne e.symm)]
  exact below_keep hbA.out hbk
 have HF:=Lib.hid (bu_put (bs':=Lib.byteCells l++[.int .u8 (c.toNat:Int)]) (below_keep hbA.out hbk) (owns_below hown hbA.out) hgrow hb2 (by rw[List.length_append,hl9];exact hown'))
 have HT2:=Lib.hid (HT1.out.trans (DKeep.of_below hbA.out))
 have HB2:=Lib.hid (HB1.out.trans (hbA.out.mono (Nat.le_of_lt hlt)))
 have d0:w2.cell? ⟨b,0,none⟩=some (.pointer (some ⟨b,0,none⟩)):=cell_of_block (j:=0) hb2 rfl
 have d1:w2.cell? ⟨b,1,none⟩=some v:=cell_of_block (j:=1) hb2 rfl
 have f1:w2.frozen? ⟨b,1,none⟩=false:=free_of_block (j:=1) hb2
 obtain⟨g,cap,rfl⟩: ∃g cap,v'= .slice (some ⟨g,0,none⟩) (l.length+1) cap:=by
  rcases hown'.2 with⟨_,h0⟩ | ⟨g,cap,cur,hv,_⟩
  ·omega
  ·exact⟨g,cap,hv⟩
 go_wp2
 go_ret
 refine⟨rfl, ?_,HT2.out.trans HF.out.2.1,HB2.out.trans HF.out.2.2⟩
 have e:Lib.byteCells (l++[c])=Lib.byteCells l++[.int .u8 (c.toNat:Int)]:=by simp[Lib.byteCells]
 unfold Bu;rw [e];exact HF.out.1
set_option maxRecDepth 100000 in
theorem bst_c (b:Nat) (l:List UInt8) (w:World) (h:Bu w b l) (hb:b≤w.heap.size):
  Calls Tryz.prog 17 #[.pointer (some ⟨b,0,none⟩)] w fun e w'=>e= .returned (.string ⟨l.toArray⟩)∧Below b w w':=
 Go.Proofs.Any.Builder_String_any bstLay bst_extra b b l w h hb
theorem Bu.new {w:World} {b:Nat} (h:w.heap[b]? =some (.cells #[.pointer none, .slice none 0 0] 45 (0,0))):Bu w b []:=
 .inl ⟨Nat.le_refl b,_,h,World.ownsRow_nil _ _ _ _,by simp[Value.ownBlock]⟩
theorem Bu.other {w w':World} {b:Nat} {l:List UInt8} (h:Bu w b l) (hk: ∀(k:Nat) (cs:Array Value) (t:TypeId),w.heap[k]? =some (Obj.cells cs t (0,0))→NB t=false→w'.heap[k]? =some (Obj.cells cs t (0,0))):Bu w' b l:=by
 have key: ∀p,Lib.BuilderAt 45 5 b b p (Lib.byteCells l) w→Lib.BuilderAt 45 5 b b p (Lib.byteCells l) w':=by
  rintro p ⟨hB,v,hbk,hown,hne⟩
  refine⟨hB,v,hk _ _ _ hbk (by decide),⟨hown.1, ?_⟩,hne⟩
  rcases hown.2 with h0 | ⟨g,cap,cur,h1,h2,h3,h4⟩
  ·exact .inl h0
  ·exact .inr ⟨g,cap,cur,h1,h2,hk _ _ _ h3 (by decide),h4⟩
 exact h.elim (fun h=> .inl (key _ h)) fun h=> .inr (key _ h)
theorem Bu.below {w w':World} {b:Nat} {l:List UInt8} (h:Bu w b l) (hb:Below w.heap.size w w'):Bu w' b l:=Bu.other h fun _ _ _ hk _=>below_keep hb hk
set_option maxRecDepth 100000 in
theorem StTy.info:(Tryz.prog.info? (gsLay_ren.t 9)).map (fun i=>(i.zero,i.size,i.bytes))=some (some (.string ByteArray.empty),1,16):=by kernel_rfl
def piecesB (c:UInt8) (s:ByteArray):List ByteArray:=Lib.splitB ⟨#[c]⟩ 0 (Lib.countB s ⟨#[c]⟩) s
theorem piecesB_len (c:UInt8) (s:ByteArray):(piecesB c s).length=Lib.countB s ⟨#[c]⟩+1:=Lib.splitB_all ⟨#[c]⟩ (Nat.le_refl 1) 0 _ s rfl
set_option maxRecDepth 100000 in
theorem index_c (x:ByteArray) (c:UInt8) (w:World):Calls Tryz.prog 38 #[.string x, .string ⟨#[c]⟩] w fun e w'=>e= .returned (.int .i64 (Lib.indexB x ⟨#[c]⟩))∧w'=w:=by
 refine(Go.Proofs.Any.strings_Index_one ixLay x c w).mono ?_
 rintro e w' ⟨h1,h2⟩
 exact⟨by rw[h1,←Lib.index_one],h2⟩
set_option maxRecDepth 100000 in
theorem count_c (x:ByteArray) (c:UInt8) (w:World):Calls Tryz.prog 37 #[.string x, .string ⟨#[c]⟩] w fun e w'=>e= .returned (.int .i64 (Lib.countB x ⟨#[c]⟩))∧w'=w:=by
 refine(Go.Proofs.Any.strings_Count_one cnLay x c w).mono ?_
 rintro e w' ⟨h1,h2⟩
 refine⟨?_,h2⟩
 rw[h1]
 show _=Ending.returned (Value.int .i64 ((Lib.count x.data.toList [c]:Nat):Int))
 rw[Lib.count_one];rfl
set_option maxRecDepth 100000 in
set_option maxHeartbeats 2000000 in
theorem split_c (s:ByteArray) (c:UInt8) (w:World) (hs:s.size < 4294967281):
  Calls Tryz.prog 13 #[.string s, .string ⟨#[c]⟩] w fun e w'=>e= .returned (.slice (some ⟨w.heap.size,0,none⟩) (piecesB c s).length (piecesB c s).length)∧w'=w.alloc (.cells ((piecesB c s).map Value.string).toArray 9):=by
 have hle:=Lib.countB_le ⟨#[c]⟩ (Nat.le_refl 1) s.size s (Nat.le_refl _)
 have hc:=Go.Proofs.Any.strings_genSplit_core gsLay StTy.info s ⟨#[c]⟩ 0 (-1) (Lib.countB s ⟨#[c]⟩+1) w hs (Nat.le_refl 1) (Nat.zero_le _) (fun x cs _=>index_c x c _) (count_c s c w) (by decide) (by decide) (by rw[if_pos (by decide)];omega)
 rw[Nat.add_sub_cancel] at hc
 have HC:=Lib.hid (show Calls Tryz.prog 22 #[.string s, .string ⟨#[c]⟩, .int .i64 0, .int .i64 (-1)] w fun e w'=>e= .returned (.slice (some ⟨w.heap.size,0,none⟩) (piecesB c s).length (piecesB c s).length)∧w'=w.alloc (.cells ((piecesB c s).map Value.string).toArray 9) from hc.mono fun e w' h=>by
  obtain⟨h1,h2⟩:=h
  have hl:=piecesB_len c s
  have e2:Lib.cellsOf (piecesB c s) (Lib.countB s ⟨#[c]⟩+1)=((piecesB c s).map Value.string).toArray:=by rw[←hl];exact Lib.cellsOf_full _
  exact⟨by rw[h1,←hl];rfl,by rw[h2];exact congrArg (fun x=>w.alloc (.cells x 9)) e2⟩)
 clear hc hle
 go_enter Tryz.func13,Tryz.ntmps13
 go_wp2_with fail
 (with_reducible refine(HC.out).mono ?_)
 rintro e w1 ⟨rfl,rfl⟩
 go_wp2
 go_ret
 exact⟨rfl,rfl⟩
end Go.Proofs.YtajgndoiddmbmaaGreatDoor
