/- Towards what desk.Run answers. -/
import Derived.Shelf.Strings.Split
import Derived.Shelf.Strings.Builder1
import Derived.Test.YtajgndoiddmbmaaGreatDoorMTxB
import Derived.Lib.AppendStr
namespace Go.Proofs.YtajgndoiddmbmaaGreatDoor
set_option maxRecDepth 100000
set_option maxHeartbeats 40000000
open Go.Shelf
def Gr:Go.Shelf.Ren:=⟨fun | 221=>22 | 268=>36 | 138=>37 | 143=>38 | 195=>80 | 197=>81 | 218=>82 | 219=>79 | 260=>109 | 217=>105 | 225=>106 | 224=>107 | 267=>108 | 266=>148 | 314=>149 | n=>n,fun | 9=>9 | 3=>3 | 31=>31 | 4=>4 | 0=>0 | 105=>123 | 21=>21 | 5=>5 | 46=>167 | 119=>215 | 139=>218 | 138=>217 | 146=>213 | 51=>131 | n=>n,fun | 1=>0 | 3=>1 | 4=>2 | n=>n⟩
theorem VF:Go.Proofs.Lays.n221 Tryz.prog Gr:= {
 mixed:=by kernel_rfl
 f138:=Tryz.func37.trans (congrArg some (by kernel_rfl))
 f143:=Tryz.func38.trans (congrArg some (by kernel_rfl))
 f195:=Tryz.func80.trans (congrArg some (by kernel_rfl))
 f197:=Tryz.func81.trans (congrArg some (by kernel_rfl))
 f217:=Tryz.func105.trans (congrArg some (by kernel_rfl))
 f218:=Tryz.func82.trans (congrArg some (by kernel_rfl))
 f219:=Tryz.func79.trans (congrArg some (by kernel_rfl))
 f221:=Tryz.func22.trans (congrArg some (by kernel_rfl))
 f224:=Tryz.func107.trans (congrArg some (by kernel_rfl))
 f225:=Tryz.func106.trans (congrArg some (by kernel_rfl))
 f260:=Tryz.func109.trans (congrArg some (by kernel_rfl))
 f266:=Tryz.func148.trans (congrArg some (by kernel_rfl))
 f267:=Tryz.func108.trans (congrArg some (by kernel_rfl))
 f268:=Tryz.func36.trans (congrArg some (by kernel_rfl))
 f314:=Tryz.func149.trans (congrArg some (by kernel_rfl))
 t0:=Tryz.underlying0
 a0:=Tryz.isAgg0
 z0:=Tryz.sizeOf0
 v0:=Tryz.zeroValue0
 t3:=Tryz.underlying3
 a3:=Tryz.isAgg3
 z3:=Tryz.sizeOf3
 v3:=Tryz.zeroValue3
 t4:=Tryz.underlying4
 a4:=Tryz.isAgg4
 z4:=Tryz.sizeOf4
 v4:=Tryz.zeroValue4
 t5:=Tryz.underlying5
 a5:=Tryz.isAgg5
 z5:=Tryz.sizeOf5
 v5:=Tryz.zeroValue5
 t9:=Tryz.underlying9
 a9:=Tryz.isAgg9
 z9:=Tryz.sizeOf9
 v9:=Tryz.zeroValue9
 t21:=Tryz.underlying21
 a21:=Tryz.isAgg21
 z21:=Tryz.sizeOf21
 v21:=Tryz.zeroValue21
 t31:=Tryz.underlying31
 a31:=Tryz.isAgg31
 z31:=Tryz.sizeOf31
 v31:=Tryz.zeroValue31
 t46:=Tryz.underlying167
 a46:=Tryz.isAgg167
 z46:=Tryz.sizeOf167
 v46:=Tryz.zeroValue167
 t51:=Tryz.underlying131
 a51:=Tryz.isAgg131
 z51:=Tryz.sizeOf131
 v51:=Tryz.zeroValue131
 t105:=Tryz.underlying123
 a105:=Tryz.isAgg123
 z105:=Tryz.sizeOf123
 v105:=Tryz.zeroValue123
 t119:=Tryz.underlying215
 a119:=Tryz.isAgg215
 z119:=Tryz.sizeOf215
 t138:=Tryz.underlying217
 a138:=Tryz.isAgg217
 z138:=Tryz.sizeOf217
 v138:=Tryz.zeroValue217
 t139:=Tryz.underlying218
 a139:=Tryz.isAgg218
 z139:=Tryz.sizeOf218
 v139:=Tryz.zeroValue218
 t146:=Tryz.underlying213
 a146:=Tryz.isAgg213
 z146:=Tryz.sizeOf213
 v146:=Tryz.zeroValue213
 g1:=by kernel_rfl
 g3:=by kernel_rfl
 g4:=by kernel_rfl }
def P4:Go.Shelf.Ren:=⟨fun | 143=>38 | 219=>79 | 217=>105 | 225=>106 | 224=>107 | 267=>108 | 266=>148 | 314=>149 | n=>n,fun | 9=>9 | 3=>3 | 4=>4 | 5=>5 | 46=>167 | 146=>213 | 51=>131 | n=>n,fun | 1=>0 | n=>n⟩
theorem acd:Go.Proofs.Lays.n143 Tryz.prog P4:= {
 mixed:=by kernel_rfl
 f143:=Tryz.func38.trans (congrArg some (by kernel_rfl))
 f217:=Tryz.func105.trans (congrArg some (by kernel_rfl))
 f219:=Tryz.func79.trans (congrArg some (by kernel_rfl))
 f224:=Tryz.func107.trans (congrArg some (by kernel_rfl))
 f225:=Tryz.func106.trans (congrArg some (by kernel_rfl))
 f266:=Tryz.func148.trans (congrArg some (by kernel_rfl))
 f267:=Tryz.func108.trans (congrArg some (by kernel_rfl))
 f314:=Tryz.func149.trans (congrArg some (by kernel_rfl))
 t3:=Tryz.underlying3
 a3:=Tryz.isAgg3
 z3:=Tryz.sizeOf3
 v3:=Tryz.zeroValue3
 t4:=Tryz.underlying4
 a4:=Tryz.isAgg4
 z4:=Tryz.sizeOf4
 v4:=Tryz.zeroValue4
 t5:=Tryz.underlying5
 a5:=Tryz.isAgg5
 z5:=Tryz.sizeOf5
 v5:=Tryz.zeroValue5
 t9:=Tryz.underlying9
 a9:=Tryz.isAgg9
 z9:=Tryz.sizeOf9
 v9:=Tryz.zeroValue9
 t46:=Tryz.underlying167
 a46:=Tryz.isAgg167
 z46:=Tryz.sizeOf167
 v46:=Tryz.zeroValue167
 t51:=Tryz.underlying131
 a51:=Tryz.isAgg131
 z51:=Tryz.sizeOf131
 v51:=Tryz.zeroValue131
 t146:=Tryz.underlying213
 a146:=Tryz.isAgg213
 z146:=Tryz.sizeOf213
 v146:=Tryz.zeroValue213
 g1:=by kernel_rfl }
def QN:Go.Shelf.Ren:=⟨fun | 138=>37 | 195=>80 | 218=>82 | 143=>38 | 219=>79 | 217=>105 | 225=>106 | 224=>107 | 267=>108 | 266=>148 | 314=>149 | n=>n,fun | 9=>9 | 3=>3 | 4=>4 | 5=>5 | 0=>0 | 46=>167 | 146=>213 | 51=>131 | n=>n,fun | 1=>0 | n=>n⟩
theorem acu:Go.Proofs.Lays.n138 Tryz.prog QN:= {
 mixed:=by kernel_rfl
 f138:=Tryz.func37.trans (congrArg some (by kernel_rfl))
 f143:=Tryz.func38.trans (congrArg some (by kernel_rfl))
 f195:=Tryz.func80.trans (congrArg some (by kernel_rfl))
 f217:=Tryz.func105.trans (congrArg some (by kernel_rfl))
 f218:=Tryz.func82.trans (congrArg some (by kernel_rfl))
 f219:=Tryz.func79.trans (congrArg some (by kernel_rfl))
 f224:=Tryz.func107.trans (congrArg some (by kernel_rfl))
 f225:=Tryz.func106.trans (congrArg some (by kernel_rfl))
 f266:=Tryz.func148.trans (congrArg some (by kernel_rfl))
 f267:=Tryz.func108.trans (congrArg some (by kernel_rfl))
 f314:=Tryz.func149.trans (congrArg some (by kernel_rfl))
 t0:=Tryz.underlying0
 a0:=Tryz.isAgg0
 z0:=Tryz.sizeOf0
 v0:=Tryz.zeroValue0
 t3:=Tryz.underlying3
 a3:=Tryz.isAgg3
 z3:=Tryz.sizeOf3
 v3:=Tryz.zeroValue3
 t4:=Tryz.underlying4
 a4:=Tryz.isAgg4
 z4:=Tryz.sizeOf4
 v4:=Tryz.zeroValue4
 t5:=Tryz.underlying5
 a5:=Tryz.isAgg5
 z5:=Tryz.sizeOf5
 v5:=Tryz.zeroValue5
 t9:=Tryz.underlying9
 a9:=Tryz.isAgg9
 z9:=Tryz.sizeOf9
 v9:=Tryz.zeroValue9
 t46:=Tryz.underlying167
 a46:=Tryz.isAgg167
 z46:=Tryz.sizeOf167
 v46:=Tryz.zeroValue167
 t51:=Tryz.underlying131
 a51:=Tryz.isAgg131
 z51:=Tryz.sizeOf131
 v51:=Tryz.zeroValue131
 t146:=Tryz.underlying213
 a146:=Tryz.isAgg213
 z146:=Tryz.sizeOf213
 v146:=Tryz.zeroValue213
 g1:=by kernel_rfl }
def DK:Go.Shelf.Ren:=⟨fun | 169=>17 | n=>n,fun | 70=>42 | 9=>9 | 0=>0 | 72=>45 | 37=>43 | 127=>76 | 3=>3 | 5=>5 | n=>n,fun | n=>n⟩
theorem aaq:Go.Proofs.Lays.n169 Tryz.prog DK:= {
 mixed:=by kernel_rfl
 f169:=Tryz.func17.trans (congrArg some (by kernel_rfl))
 t0:=Tryz.underlying0
 a0:=Tryz.isAgg0
 z0:=Tryz.sizeOf0
 v0:=Tryz.zeroValue0
 t3:=Tryz.underlying3
 a3:=Tryz.isAgg3
 z3:=Tryz.sizeOf3
 v3:=Tryz.zeroValue3
 t9:=Tryz.underlying9
 a9:=Tryz.isAgg9
 z9:=Tryz.sizeOf9
 v9:=Tryz.zeroValue9
 t37:=Tryz.underlying43
 a37:=Tryz.isAgg43
 z37:=Tryz.sizeOf43
 v37:=Tryz.zeroValue43
 t70:=Tryz.underlying42
 a70:=Tryz.isAgg42
 z70:=Tryz.sizeOf42
 v70:=Tryz.zeroValue42
 t72:=Tryz.underlying45
 a72:=Tryz.isAgg45
 z72:=Tryz.sizeOf45
 v72:=Tryz.zeroValue45
 t127:=Tryz.underlying76
 a127:=Tryz.isAgg76
 z127:=Tryz.sizeOf76
 v127:=Tryz.zeroValue76 }
end Go.Proofs.YtajgndoiddmbmaaGreatDoor
namespace Go.Proofs.YtajgndoiddmbmaaGreatDoor
set_option maxRecDepth 100000
set_option maxHeartbeats 40000000
open Go.RowKit Go.Shelf
theorem K5.size:(Tryz.prog.info? 45).map (·.size)=some 2:=by kernel_rfl
theorem K5.lies:liesAt Tryz.prog Tryz.prog.depth 45 (2 / Tryz.prog.cellsOf 45) 0 45 1=true:=by kernel_rfl
theorem abD.info:(Tryz.prog.info? 5).map (fun i=>(i.zero,i.size,i.bytes))=some (some (.int .u8 0),1,1):=by kernel_rfl
theorem GL:Builder.Extra Tryz.prog DK where
 sizeBuilder:=by kernel_rfl
 liesBuilder:=by kernel_rfl
 t5:=Tryz.underlying5
 a5:=Tryz.isAgg5
 z5:=Tryz.sizeOf5
 v5:=Tryz.zeroValue5
 infoByte:=by kernel_rfl
 cellsByte:=by kernel_rfl
 sizeByte:=by kernel_rfl
 neB5:=by decide
def Bu (w:World) (b:Nat) (l:List UInt8):Prop:=Lib.IsBuilder 45 5 b b (Lib.byteCells l) w
def NB (t:Nat):Bool:=t != 45&&t != 5
structure eA (w w':World):Prop where
 size:w.heap.size≤w'.heap.size
 blk: ∀(k:Nat) (cs:Array Value) (t:TypeId),w.heap[k]? =some (Obj.cells cs t (0,0))→NB t=true→w'.heap[k]? =some (Obj.cells cs t (0,0))
theorem eA.refl (w:World):eA w w:=⟨Nat.le_refl _,fun _ _ _ h _=>h⟩
theorem eA.trans {a b c:World} (h:eA a b) (k:eA b c):eA a c:=⟨Nat.le_trans h.size k.size,fun j cs t h1 h2=>k.blk j cs t (h.blk j cs t h1 h2) h2⟩
theorem eA.of_below {w w':World} (h:Below w.heap.size w w'):eA w w':=⟨h.size,fun _ _ _ hk _=>ag h hk⟩
theorem eA.iG {w:World} {g j:Nat} {v:Value} {cs:Array Value} {t:TypeId} (hg:w.heap[g]? =some (Obj.cells cs t (0,0))) (ht:NB t=false):eA w (w.setCell ⟨g,j,none⟩ v):=by
 refine⟨by simp,fun k cs' t' hk hT=> ?_⟩;rw[aC]
 ·exact hk
 ·rintro rfl;rw[hg] at hk;simp only[Option.some.injEq,Obj.cells.injEq] at hk;rw[←hk.2.1,ht] at hT;exact absurd hT (by decide)
theorem eA.ze {base e size n:Nat} {w w':World} {v:Value} {xs:List Value} (h:w.ownsRow base e size v n xs) (hg:w.grownBy w' v.ownBlock) (ht:NB e=false):eA w w':=by
 refine⟨hg.size,fun k ds u hk hu=> ?_⟩;refine fB h hg hk ?_;intro e0;subst e0;rw[hu] at ht;exact absurd ht (by decide)
theorem Bg (b:Nat) (bs:List Value) (w:World) (h:Lib.IsBuilder 45 5 b b bs w):
  Calls Tryz.prog 25 #[.pointer (some ⟨b,0,none⟩)] w fun e w'=>e= .returned (.tuple #[])∧Lib.BuilderAt 45 5 b b (.pointer (some ⟨b,0,none⟩)) bs w'∧eA w w'∧Below b w w':=by
 obtain⟨j,hj,hjs⟩:=Option.map_eq_some_iff.1 K5.size;rcases h with h | h
 ·have h0:=h.cell0;have hsh:=h.shape;have hfz:=h.frozen0;have hlt:b < w.heap.size:=by
   obtain⟨-,v,hb, -⟩:=h;exact ai hb
  have HF:=jD (show Lib.BuilderAt 45 5 b b (.pointer (some ⟨b,0,none⟩)) bs (w.setCell ⟨b,0,none⟩ (.pointer (some ⟨b,0,none⟩)))∧eA w (w.setCell ⟨b,0,none⟩ (.pointer (some ⟨b,0,none⟩)))∧Below b w (w.setCell ⟨b,0,none⟩ (.pointer (some ⟨b,0,none⟩))) from by
   refine⟨h.used _, ?_,(Below.refl b w).setCell (p:=⟨b,0,none⟩) h.1 _⟩;obtain⟨-,v,hb, -⟩:=h;exact eA.iG hb (by decide))
  clear h;go_enter Tryz.func25,Tryz.ntmps25;go_wp2;rw[Lib.run_to_unsafe w ⟨b,0,none⟩ Tryz.underlying42 Tryz.underlying84 hj (by rw[hjs];decide) hsh (Nat.zero_lt_succ 1)];simp only[Result.andThen];rw[Oper.upon_value];go_wp2;rw[run_callFunc_extern Tryz.func40 (by kernel_rfl) (by kernel_rfl) (by kernel_rfl) (e:=Extern.AbiNoEscape.same) (by kernel_rfl)];rw[Lib.run_noEscape];simp only[Result.andThen];rw[Oper.upon_value];go_wp2;rw[Lib.run_from_unsafe w ⟨b,0,none⟩ Tryz.underlying84 Tryz.underlying42 hj hsh K5.lies];simp only[Result.andThen];rw[Oper.upon_value];go_wp2;go_end0;exact⟨rfl,HF.o⟩
 ·have h0:=h.cell0;have HF:=jD h;clear h;go_enter Tryz.func25,Tryz.ntmps25;go_wp2;rw[Lib.run_neq_ptr_same w _ Tryz.underlying42 hj];go_wp2;go_end0;exact⟨rfl,HF.o,eA.refl _,br⟩
theorem QX {b:Nat} {w w2:World} {v v':Value} {bs bs':List Value} (hbk:w.heap[b]? =some (.cells #[.pointer (some ⟨b,0,none⟩),v] 45 (0,0))) (hown:w.ownsRow b 5 1 v bs.length bs) (hg:w.grownBy w2 v.ownBlock) (hb2:w2.heap[b]? =some (.cells #[.pointer (some ⟨b,0,none⟩),v] 45 (0,0))) (hown':w2.ownsRow b 5 1 v' bs'.length bs'):
  Lib.IsBuilder 45 5 b b bs' (w2.setCell ⟨b,1,none⟩ v')∧eA w (w2.setCell ⟨b,1,none⟩ v')∧Below b w (w2.setCell ⟨b,1,none⟩ v'):=by
 refine⟨.inr (Lib.BuilderAt.put (T:=45) (e:=5) (Nat.le_refl b) hb2 hown' (by decide)), ?_, ?_⟩
 ·exact(eA.ze hown hg (by decide)).trans (eA.iG hb2 (by decide))
 ·exact((Below.refl b w).grown hg (Nat.le_of_lt (ai hbk)) (fun k hk=>(hown.lt k hk).1)).setCell (p:=⟨b,1,none⟩) (Nat.le_refl b) _
theorem DJ (b:Nat) (l:List UInt8) (s:ByteArray) (w:World) (h:Bu w b l) (hlen:l.length+s.size≤140737488355328):
  Calls Tryz.prog 14 #[.pointer (some ⟨b,0,none⟩), .string s] w fun e w'=>e= .returned (.tuple #[.int .i64 s.size, .nilIface])∧Bu w' b (l++s.data.toList)∧eA w w'∧Below b w w':=by
 obtain⟨i0,hi,hz0,hz1,hz2⟩:=info_parts abD.info;have HC:=jD (Bg b (Lib.byteCells l) w h);have Dj:(Lib.byteCells l).length=l.length:=Lib.byteCells_length l;clear h;go_enter Tryz.func14,Tryz.ntmps14;go_wp2_with fail
 (with_reducible refine(HC.o).mono ?_);rintro e w1 ⟨rfl,⟨hB,v,hbk,hown,hne⟩,ht1,hb1⟩;have Kr:=jD ht1;have bh:=jD hb1;have hlt:=ai hbk;clear ht1 hb1 HC;have c0:w1.cell? ⟨b,0,none⟩=some (.pointer (some ⟨b,0,none⟩)):=cq 0 hbk rfl;have c1:w1.cell? ⟨b,1,none⟩=some v:=cq 1 hbk rfl;go_wp2_with (at_builtin;refine Lib.wpList_append_own_string _ rfl _ _ 43 9 rfl b 5 i0 Tryz.underlying43 Tryz.underlying9 hi hz0 hz1 hz2 _ _ _ rfl hown s rfl ?c3 ?c4 ?c5 ?_)
 case c3=>rw [Dj];unfold maxLen;omega
 case c4=>rw [Dj];omega
 case c5=>omega
 intro v' w2 hown' hgrow _;have hb2:w2.heap[b]? =some (.cells #[.pointer (some ⟨b,0,none⟩),v] 45 (0,0)):=by
  rw[hgrow.block b hlt (fun e=>hne e.symm)];exact hbk
 have HF:=jD (QX (bs':=Lib.byteCells l++Lib.strCells s) hbk hown hgrow hb2 (by rw[List.length_append,Lib.strCells_length,Dj];exact hown'));have d0:w2.cell? ⟨b,0,none⟩=some (.pointer (some ⟨b,0,none⟩)):=cq 0 hb2 rfl;have d1:w2.cell? ⟨b,1,none⟩=some v:=cq 1 hb2 rfl;have f1:w2.frozen? ⟨b,1,none⟩=false:=fq 1 hb2;obtain⟨ao,n',cap,rfl⟩: ∃ao n' cap,v'= .slice ao n' cap:=by
  rcases hown'.2 with⟨hv,_⟩ | ⟨g,cap,cur,hv,_⟩
  ·exact⟨_,_,_,hv⟩
  ·exact⟨_,_,_,hv⟩
 go_wp2;go_ret2;refine⟨rfl, ?_,Kr.o.trans HF.o.2.1,bh.o.trans HF.o.2.2⟩;have e:Lib.byteCells (l++s.data.toList)=Lib.byteCells l++Lib.strCells s:=by simp[Lib.byteCells,Lib.strCells]
 unfold Bu;rw [e];exact HF.o.1
theorem VP (b:Nat) (l:List UInt8) (c:UInt8) (w:World) (h:Bu w b l) (hlen:l.length+1≤140737488355328):
  Calls Tryz.prog 16 #[.pointer (some ⟨b,0,none⟩), .int .u8 (c.toNat:Int)] w fun e w'=>e= .returned .nilIface∧Bu w' b (l++[c])∧eA w w'∧Below b w w':=by
 obtain⟨i0,hi,hz0,hz1,hz2⟩:=info_parts abD.info;have HC:=jD (Bg b (Lib.byteCells l) w h);have Dj:(Lib.byteCells l).length=l.length:=Lib.byteCells_length l;clear h;go_enter Tryz.func16,Tryz.ntmps16;go_wp2_with fail
 (with_reducible refine(HC.o).mono ?_);rintro e w1 ⟨rfl,⟨hB,v,hbk,hown,hne⟩,ht1,hb1⟩;have Kr:=jD ht1;have bh:=jD hb1;have hlt:=ai hbk;clear ht1 hb1 HC;have c0:w1.cell? ⟨b,0,none⟩=some (.pointer (some ⟨b,0,none⟩)):=cq 0 hbk rfl;have c1:w1.cell? ⟨b,1,none⟩=some v:=cq 1 hbk rfl;go_wp2_with (at_builtin;refine wpList_append_own _ rfl _ _ 43 rfl b 5 i0 (.int .u8 0) 1 1 Tryz.underlying43 hi hz0 hz1 hz2 rfl (by decide) _ _ _ rfl (hown.alloc _) ⟨w1.heap.size,0,none⟩ 1 1 [.int .u8 (c.toNat:Int)] rfl rfl ?c1 ?c2 ?c3 ?c4 ?c5 ?_)
 case c1=>
  intro j u hj;match j,hj with
  | 0,hj=>simp at hj;subst hj;simp [Addr.add]
 case c2=>intro u hu;simp at hu;subst hu;rfl
 case c3=>rw [Dj];unfold maxLen;omega
 case c4=>rw [Dj];omega
 case c5=>simp;omega
 intro v' w2 hown' hgrow _;have yu:=jD (show Below w1.heap.size w1 (w1.alloc (.cells #[.int .u8 (c.toNat:Int)] 5)) from aG _);have hb2:w2.heap[b]? =some (.cells #[.pointer (some ⟨b,0,none⟩),v] 45 (0,0)):=by
  rw[hgrow.block b (by simp;omega) (fun e=>hne e.symm)];exact ag yu.o hbk
 have HF:=jD (QX (bs':=Lib.byteCells l++[.int .u8 (c.toNat:Int)]) (ag yu.o hbk) (aI hown yu.o) hgrow hb2 (by rw[List.length_append,Dj];exact hown'));have DX:=jD (Kr.o.trans (eA.of_below yu.o));have cw:=jD (bh.o.trans (yu.o.mono (Nat.le_of_lt hlt)));have d0:w2.cell? ⟨b,0,none⟩=some (.pointer (some ⟨b,0,none⟩)):=cq 0 hb2 rfl;have d1:w2.cell? ⟨b,1,none⟩=some v:=cq 1 hb2 rfl;have f1:w2.frozen? ⟨b,1,none⟩=false:=fq 1 hb2;obtain⟨g,cap,rfl⟩: ∃g cap,v'= .slice (some ⟨g,0,none⟩) (l.length+1) cap:=by
  rcases hown'.2 with⟨_,h0⟩ | ⟨g,cap,cur,hv,_⟩
  ·omega
  ·exact⟨g,cap,hv⟩
 go_wp2;go_ret;refine⟨rfl, ?_,DX.o.trans HF.o.2.1,cw.o.trans HF.o.2.2⟩;have e:Lib.byteCells (l++[c])=Lib.byteCells l++[.int .u8 (c.toNat:Int)]:=by simp[Lib.byteCells]
 unfold Bu;rw [e];exact HF.o.1
theorem OE (b:Nat) (l:List UInt8) (w:World) (h:Bu w b l) (hb:b≤w.heap.size):
  Calls Tryz.prog 17 #[.pointer (some ⟨b,0,none⟩)] w fun e w'=>e= .returned (.string ⟨l.toArray⟩)∧Below b w w':=
 Go.Proofs.Any.Builder_String_any aaq GL b b l w h hb
theorem Bu.new {w:World} {b:Nat} (h:w.heap[b]? =some (.cells #[.pointer none, .slice none 0 0] 45 (0,0))):Bu w b []:=
 .inl ⟨Nat.le_refl b,_,h,World.ownsRow_nil _ _ _ _,by simp[Value.ownBlock]⟩
theorem Bu.other {w w':World} {b:Nat} {l:List UInt8} (h:Bu w b l) (hk: ∀(k:Nat) (cs:Array Value) (t:TypeId),w.heap[k]? =some (Obj.cells cs t (0,0))→NB t=false→w'.heap[k]? =some (Obj.cells cs t (0,0))):Bu w' b l:=by
 have key: ∀p,Lib.BuilderAt 45 5 b b p (Lib.byteCells l) w→Lib.BuilderAt 45 5 b b p (Lib.byteCells l) w':=by
  rintro p ⟨hB,v,hbk,hown,hne⟩;refine⟨hB,v,hk _ _ _ hbk (by decide),⟨hown.1, ?_⟩,hne⟩;rcases hown.2 with h0 | ⟨g,cap,cur,h1,h2,h3,h4⟩
  ·exact .inl h0
  ·exact .inr ⟨g,cap,cur,h1,h2,hk _ _ _ h3 (by decide),h4⟩
 exact h.elim (fun h=> .inl (key _ h)) fun h=> .inr (key _ h)
theorem Bu.below {w w':World} {b:Nat} {l:List UInt8} (h:Bu w b l) (hb:Below w.heap.size w w'):Bu w' b l:=Bu.other h fun _ _ _ hk _=>ag hb hk
theorem Fm.info:(Tryz.prog.info? (Gr.t 9)).map (fun i=>(i.zero,i.size,i.bytes))=some (some (.string ByteArray.empty),1,16):=by kernel_rfl
def dx (c:UInt8) (s:ByteArray):List ByteArray:=Lib.splitB ⟨#[c]⟩ 0 (Lib.countB s ⟨#[c]⟩) s
theorem vY (c:UInt8) (s:ByteArray):(dx c s).length=Lib.countB s ⟨#[c]⟩+1:=Lib.splitB_all ⟨#[c]⟩ (Nat.le_refl 1) 0 _ s rfl
theorem L6 (x:ByteArray) (c:UInt8) (w:World):Calls Tryz.prog 38 #[.string x, .string ⟨#[c]⟩] w fun e w'=>e= .returned (.int .i64 (Lib.indexB x ⟨#[c]⟩))∧w'=w:=by
 refine(Go.Proofs.Any.strings_Index_one acd x c w).mono ?_;rintro e w' ⟨h1,h2⟩;exact⟨by rw[h1,←Lib.index_one],h2⟩
theorem Mm (x:ByteArray) (c:UInt8) (w:World):Calls Tryz.prog 37 #[.string x, .string ⟨#[c]⟩] w fun e w'=>e= .returned (.int .i64 (Lib.countB x ⟨#[c]⟩))∧w'=w:=by
 refine(Go.Proofs.Any.strings_Count_one acu x c w).mono ?_;rintro e w' ⟨h1,h2⟩;refine⟨?_,h2⟩;rw[h1];show _=Ending.returned (Value.int .i64 ((Lib.count x.data.toList [c]:Nat):Int));rw[Lib.count_one];rfl
theorem Eu (s:ByteArray) (c:UInt8) (w:World) (hs:s.size < 4294967281):
  Calls Tryz.prog 13 #[.string s, .string ⟨#[c]⟩] w fun e w'=>e= .returned (.slice (some ⟨w.heap.size,0,none⟩) (dx c s).length (dx c s).length)∧w'=w.alloc (.cells ((dx c s).map Value.string).toArray 9):=by
 have hle:=Lib.countB_le ⟨#[c]⟩ (Nat.le_refl 1) s.size s (Nat.le_refl _);have hc:=Go.Proofs.Any.strings_genSplit_core VF Fm.info s ⟨#[c]⟩ 0 (-1) (Lib.countB s ⟨#[c]⟩+1) w hs (Nat.le_refl 1) (Nat.zero_le _) (fun x cs _=>L6 x c _) (Mm s c w) (by decide) (by decide) (by rw[if_pos (by decide)];omega);rw[Nat.add_sub_cancel] at hc;have HC:=jD (show Calls Tryz.prog 22 #[.string s, .string ⟨#[c]⟩, .int .i64 0, .int .i64 (-1)] w fun e w'=>e= .returned (.slice (some ⟨w.heap.size,0,none⟩) (dx c s).length (dx c s).length)∧w'=w.alloc (.cells ((dx c s).map Value.string).toArray 9) from hc.mono fun e w' h=>by
  obtain⟨h1,h2⟩:=h;have hl:=vY c s;have e2:Lib.cellsOf (dx c s) (Lib.countB s ⟨#[c]⟩+1)=((dx c s).map Value.string).toArray:=by rw[←hl];exact Lib.cellsOf_full _
  exact⟨by rw[h1,←hl];rfl,by rw[h2];exact congrArg (fun x=>w.alloc (.cells x 9)) e2⟩)
 clear hc hle;go_enter Tryz.func13,Tryz.ntmps13;go_wp2_with fail
 (with_reducible refine(HC.o).mono ?_);rintro e w1 ⟨rfl,rfl⟩;go_wp2;go_ret;exact⟨rfl,rfl⟩
end Go.Proofs.YtajgndoiddmbmaaGreatDoor
namespace Go.Proofs.YtajgndoiddmbmaaGreatDoor
set_option maxRecDepth 100000
set_option maxHeartbeats 40000000
open Go.RowKit
abbrev bL:Value:= .slice none 0 0
structure Wd (w:World) (g:Nat) (v:Value) (all:List ByteArray) (k:Nat):Prop where
 blk:w.heap[g]? =some (.cells #[v, .int .i64 (k:Nat)] 72 (0,0))
 row:w.ownsRow 0 9 1 v all.length (all.map Value.string)
 len:all.length≤1000000
theorem tV {w:World} {base n k:Nat} {v:Value} {all:List ByteArray} (h:w.ownsRow base 9 1 v n (all.map Value.string)) (hn:n=all.length) (hk:k < all.length): ∃q cap,v= .slice (some ⟨q,0,none⟩) n cap∧n≤cap∧q < w.heap.size∧(∃cs,w.heap[q]? =some (.cells cs 9 (0,0)))∧w.cell? ⟨q,k,none⟩=some (.string all[k]):=by
 rcases h.2 with⟨rfl,h0⟩ | ⟨g,cap,cur,rfl,h2,h3,h4,h5,h6,h7⟩
 ·omega
 ·refine⟨g,cap,rfl,h4,ai h3,⟨_,h3⟩, ?_⟩;have:=h.cells (g:=g) rfl k (.string all[k]) (by rw[List.getElem?_map,List.getElem?_eq_getElem hk];rfl);rw[Addr.add_lit,Nat.zero_add] at this;exact this
theorem Xb {w w':World} {g base e size n:Nat} {v:Value} {xs:List Value} {cs:Array Value} {t:TypeId} (h:w.ownsRow base e size v n xs) (hg:w.heap[g]? =some (.cells cs t (0,0))) (hne:t≠e) (hk:Kp g bL bL w w'):w'.ownsRow base e size v n xs:=by
 refine⟨h.1, ?_⟩;rcases h.2 with h0 | ⟨q,cap,cur,h1,h2,h3,h4⟩
 ·exact .inl h0
 ·refine .inr ⟨q,cap,cur,h1,h2, ?_,h4⟩;rw[hk.keep q (ai h3) ?_ (by simp[Value.ownBlock])]
  ·exact h3
  ·rintro rfl;rw[hg] at h3;simp only[Option.some.injEq,Obj.cells.injEq] at h3;exact hne h3.2.1
theorem Wd.below {w w':World} {g:Nat} {v:Value} {all:List ByteArray} {k:Nat} (h:Wd w g v all k) (hb:Below w.heap.size w w'):Wd w' g v all k:=⟨ag hb h.blk,aI h.row hb,h.len⟩
theorem wQ (g:Nat) (v:Value) (all:List ByteArray) (k:Nat) (w:World) (h:Wd w g v all k) (hk:k < all.length):
  Calls Tryz.prog 42 #[.pointer (some ⟨g,0,none⟩)] w fun e w'=>e= .returned (.string all[k])∧Wd w' g v all (k+1)∧Kp g bL bL w w':=by
 obtain⟨q,cap,rfl,hcap,hq,⟨cqx,vt⟩,hc⟩:=tV h.row rfl hk;have hl:=h.len;have c0:w.cell? ⟨g,0,none⟩=some (.slice (some ⟨q,0,none⟩) all.length cap):=cq 0 h.blk rfl;have c1:w.cell? ⟨g,1,none⟩=some (.int .i64 (k:Nat)):=cq 1 h.blk rfl;have z1:w.frozen? ⟨g,1,none⟩=false:=fq 1 h.blk;have hgl:=ai h.blk;have hne:q≠g:=by
  rintro rfl;rw[h.blk] at vt;simp only[Option.some.injEq,Obj.cells.injEq] at vt;exact absurd vt.2.1 (by decide)
 have hd:((k:Int)==(all.length:Int))=false:=by rw[beq_eq_false_iff_ne];omega
 have H:=jD h;clear h vt;go_enter Tryz.func42,Tryz.ntmps42;go_wp2_with fail
 go_quiet (fail);go_wp2_with fail
 obtain⟨w2,hw2⟩: ∃x,x=(w.drewN nq).setCell ⟨g,1,none⟩ (.int .i64 ((k:Int)+1)):=⟨_,rfl⟩
 rw[←hw2];have HK:=jD (show Kp g bL bL w w2 by rw[hw2];exact (Kp.drewN _ _ _ _).trans (Kp.step _ _ _ _ _));have hb2:w2.heap[g]? =some (.cells #[.slice (some ⟨q,0,none⟩) all.length cap, .int .i64 ((k:Int)+1)] 72 (0,0)):=by
  rw[hw2];exact ax (ag (below_drewN (br) nq) H.o.blk)
 have HW:=jD (show Wd w2 g (.slice (some ⟨q,0,none⟩) all.length cap) all (k+1) from⟨by rw[hb2];rfl,Xb H.o.row H.o.blk (by decide) HK.o,hl⟩);obtain⟨q',cap',hv', -,hq2, -,hc2⟩:=tV HW.o.row rfl hk;simp only[Value.slice.injEq,Option.some.injEq,Addr.mk.injEq,and_true,true_and] at hv';obtain⟨rfl,rfl⟩:=hv';have e0:w2.cell? ⟨g,0,none⟩=some (.slice (some ⟨q,0,none⟩) all.length cap):=cq 0 hb2 rfl;have e1:w2.cell? ⟨g,1,none⟩=some (.int .i64 ((k:Int)+1)):=cq 1 hb2 rfl;have Zo:=ai hb2;clear hw2 hb2 c0 c1 z1 hgl hc hq;go_quiet (fail);go_wp2;go_ret;exact⟨rfl,⟨by have:=HW.o.blk;exact ag (below_drewN (br) _) this,aI HW.o.row (below_drewN (br) _),hl⟩,HK.o.trans (Kp.drewN _ _ _ _)⟩
theorem Qv (g:Nat) (v:Value) (all:List ByteArray) (w:World) (h:Wd w g v all all.length):
  Calls Tryz.prog 30 #[.pointer (some ⟨g,0,none⟩)] w fun e w'=>e= .returned (.tuple #[])∧Below w.heap.size w w':=by
 obtain⟨a,cap,rfl⟩: ∃a cap,v= .slice a all.length cap:=by
  obtain⟨a,c,hv⟩:=ay h.row;exact ⟨a,c,hv⟩
 have hl:=h.len;have c0:w.cell? ⟨g,0,none⟩=some (.slice a all.length cap):=cq 0 h.blk rfl;have c1:w.cell? ⟨g,1,none⟩=some (.int .i64 (all.length:Nat)):=cq 1 h.blk rfl;have hgl:=ai h.blk;have hd:((all.length:Int) != (all.length:Int))=false:=by simp
 clear h;go_enter Tryz.func30,Tryz.ntmps30;go_wp2_with fail
 go_quiet (fail);go_wp2;go_end0;exact⟨rfl,below_drewN (br) _⟩
theorem kS (w:World):Calls Tryz.prog 43 #[.int .i64 0] w fun e w'=>e= .returned (.tuple #[])∧w'=w:=by
 go_enter Tryz.func43,Tryz.ntmps43;go_wp2;go_end0;exact⟨rfl,rfl⟩
theorem Nn {l:cH} (h:nQ l=0):(jI l).size≤400:=by
 unfold jI;rw[if_pos h];unfold nQ at h;split at h
 ·split at h
  ·exact absurd h (by decide)
  ·omega
 ·rename_i h1;exact absurd h h1
def A6 (s:ByteArray):ByteArray:=⟨#[111,107,32]⟩++s
theorem XE (g:Nat) (l:cH) (u:Value) (w:World) (hg:w.heap[g]? =some (.cells #[u] 23 (0,0))) (hu:jm w u l) (hz:nQ l=0):
  Calls Tryz.prog 44 #[.pointer (some ⟨g,0,none⟩)] w fun e w'=>e= .returned (.string (A6 (jI l)))∧Below w.heap.size w w':=by
 have HS:=jD (show_c u l w hu);have hsz:=Nn hz;rw[hz] at HS;have c0:w.cell? ⟨g,0,none⟩=some u:=cq 0 hg rfl;have hgl:=ai hg;obtain⟨a,n,c,Jp⟩: ∃a n c,u= .slice a n c:=by obtain⟨a,c,h⟩:=aF.shape hu;exact ⟨a,_,c,h⟩
 subst Jp;clear hg hu;go_enter Tryz.func44,Tryz.ntmps44;go_wp2_with fail
 (with_reducible refine(HS.o).mono ?_);rintro e w1 ⟨rfl,hb⟩;have HB:=jD hb;clear hb HS;go_wp2_with fail
 (with_reducible refine(kS w1).mono ?_);rintro e w2 ⟨rfl,rfl⟩;go_wp2;go_ret;exact⟨rfl,HB.o⟩
theorem Gl.kpD {w w':World} {g:Nat} (h:Gl w g) (hk:Kp g bL bL w w') (hg:g < w.heap.size):Gl w' g:=by
 obtain⟨e1,h1,k1⟩:=h.syn;obtain⟨e2,h2,k2⟩:=h.ran;have a:=h.Je;have b:=h.Jf;exact⟨⟨e1,(World.cell?_of_block (hk.keep _ (by show iD.g 15 < _;omega) (by show iD.g 15≠_;omega) (by simp[Value.ownBlock]))).trans h1,k1⟩,⟨e2,(World.cell?_of_block (hk.keep _ (by show iD.g 16 < _;omega) (by show iD.g 16≠_;omega) (by simp[Value.ownBlock]))).trans h2,k2⟩,a,b⟩
theorem CV {s:ByteArray} (h:readE s=0):s.size≤400:=by
 unfold readE at h;split at h
 ·exact absurd h (by decide)
 ·omega
theorem QD (d g:Nat) (v:Value) (all:List ByteArray) (k:Nat) (w:World) (h:Wd w g v all k) (hk:k < all.length) (hg0:Gl w g) (hr:readE all[k]=0):
  Calls Tryz.prog 28 #[.pointer (some ⟨d,0,none⟩), .string ⟨#[115,104,111,119]⟩, .pointer (some ⟨g,0,none⟩)] w fun e w'=> ∃B u,e= .returned (.tuple #[.func (.func 44) #[] #[.pointer (some ⟨B,0,none⟩)], .bool true])∧w'.heap[B]? =some (.cells #[u] 23 (0,0))∧jm w' u (ey all[k])∧Wd w' g v all (k+1)∧Kp g bL bL w w'∧w.heap.size≤B:=by
 have pz: ∀(fn:Fn) (first cap:Array Value) (w:World),(Instr.makeFunc fn first cap).run Tryz.prog w= .ok (.func fn first cap) w:=fun _ _ _ _=>rfl;have hgl:=ai h.blk;obtain⟨W,hW⟩: ∃W,W=(w.alloc (.cells #[.pointer (some ⟨d,0,none⟩)] 37)).alloc (.cells #[.string ⟨#[115,104,111,119]⟩] 9):=⟨_,rfl⟩
 have hbW:Below w.heap.size w W:=by rw[hW];exact (aG _).alloc (by simp) _
 have HN:=jD (wQ g v all k W (h.below hbW) hk);have HB:=jD hbW;have c4:W.cell? ⟨w.heap.size+1,0,none⟩=some (.string ⟨#[115,104,111,119]⟩):=by rw[hW];exact aD (au _ _ _ _ (by simp)) rfl
 have hl4:w.heap.size+1 < W.heap.size:=by rw[hW];simp
 have RQ:=jD hg0;have HR:=jD hr;rw[hW] at c4 hl4;clear h hbW hg0 hr;go_enter Tryz.func28,Tryz.ntmps28;go_wp2_with fail
 rw[←hW];clear c4 hl4 hW;(with_reducible refine(HN.o).mono ?_);rintro e w1 ⟨rfl,hwd,hkp⟩;have dQ:=jD ((Kp.of_below (R:=g) (v:=bL) HB.o).trans hkp);have aH:=jD hwd;have A9:=Gl.kpD RQ.o dQ.o hgl;have Rs:=jD (IY all[k] w1 (A9.up (Nat.le_of_lt (ai hwd.blk))) (by have:=CV HR.o;omega));have oI:=jD hkp.size;clear hwd hkp HN A9 RQ;go_wp2_with fail
 (with_reducible refine(Rs.o).mono ?_);rintro e w2 ⟨u,rfl,hnd,hb2⟩;rw[HR.o];obtain⟨ua,uc,Jp⟩:=aF.shape hnd;subst Jp;obtain⟨BN,hBN⟩: ∃B,B=w2.heap.size:=⟨_,rfl⟩
 obtain⟨w3,hw3⟩: ∃x,x=w2.alloc (.cells #[.slice ua (ey all[k]).length uc] 23):=⟨_,rfl⟩
 have hb3:Below w2.heap.size w2 w3:=by rw[hw3];exact aG _
 have Wo:=jD (show w3.heap[BN]? =some (.cells #[.slice ua (ey all[k]).length uc] 23 (0,0)) by rw[hw3];exact au _ _ _ _ hBN);have HND:=jD (aF.below hnd hb3);have sW:=jD (aH.o.below (aj hb2 hb3));have kX:=jD (dQ.o.trans (Kp.of_below (R:=g) (v:=bL) (aj hb2 hb3)));have HLE:=jD (show w.heap.size≤BN by rw[hBN];exact Nat.le_trans HB.o.size (Nat.le_trans oI.o hb2.size));clear hnd hb2 hb3 Rs aH dQ;go_wp2_with fail
 rw[←hw3,←hBN];clear hw3 hBN;(with_reducible refine(kS w3).mono ?_);rintro e w4 ⟨rfl,rfl⟩;go_wp2;go_ret2;exact⟨BN,_,rfl,Wo.o,HND.o,sW.o,kX.o,HLE.o⟩
theorem JY (B:Nat) (w:World):
  CallsD Tryz.prog 26 #[.pointer (some ⟨B,0,none⟩)] .returning w fun e u' w'=>e= .returned (.tuple #[])∧u'= .returning∧w'=w:=by
 refine callsD_of_wpS Tryz.func26 rfl fun c₀ cs hu=> ?_;apply wpS_seq;apply wpS_region;simp[wpOpsS,go_sem,recoverD,hu,Tryz.ntmps26,Exit.thenS];apply wpS_seq;apply wpS_region;simp[wpOpsS,go_sem,Exit.thenS,Array.replicate];refine wpS_cond (t:=false) (by simp[Act.eval]) ?_;simp only[Bool.false_eq_true,if_false];refine wpS_of_wp (wp_skip ?_);cases c₀
 simp_all only[bodyPostS];exact⟨trivial,_,rfl,_,results_none rfl _ _ _,rfl,rfl,trivial⟩
theorem toList_inj {a b:ByteArray} (h:a.toList=b.toList):a=b:=by
 rw[Lib.toList_data,Lib.toList_data] at h;exact eF h
theorem SE {a b:ByteArray} (h:a≠b):(a.toList==b.toList)=false∧(a.toList != b.toList)=true:=by
 have h1:(a.toList==b.toList)=false:=beq_eq_false_iff_ne.2 fun e=>h (toList_inj e);exact⟨h1,by unfold bne;rw [h1];rfl⟩
theorem SG {a b:ByteArray} (h:a=b):(a.toList==b.toList)=true∧(a.toList != b.toList)=false:=by
 subst h;have h1:(a.toList==a.toList)=true:=beq_self_eq_true _;exact⟨h1,by unfold bne;rw [h1];rfl⟩
def emp:ByteArray:=⟨#[]⟩
theorem zG {s:ByteArray} (h:s=emp):(s.toList==([]:List UInt8))=true∧(s.toList != ([]:List UInt8))=false∧s.toList.isEmpty=true:=by
 have h1:=SG (b:=emp) h;rw[show emp.toList=[] by rw[Lib.toList_data];rfl] at h1;refine⟨h1.1,h1.2, ?_⟩;rw[beq_iff_eq.1 h1.1];rfl
theorem zi {s:ByteArray} (h:s≠emp):(s.toList==([]:List UInt8))=false∧(s.toList != ([]:List UInt8))=true∧s.toList.isEmpty=false:=by
 have h1:=SE (b:=emp) h;rw[show emp.toList=[] by rw[Lib.toList_data];rfl] at h1;refine⟨h1.1,h1.2, ?_⟩;have h2:=beq_eq_false_iff_ne.1 h1.1;cases hs:s.toList with
 | nil=>exact absurd hs h2
 | cons a l=>rfl
def bQ (s:ByteArray):List ByteArray:=if (dx 10 s).getLast? =some emp then(dx 10 s).dropLast else dx 10 s
def aS (s:ByteArray):List ByteArray:=(dx 32 s).filter fun x=>decide (x≠emp)
def cu (l:List ByteArray):Bool:=decide (l.length=0) || decide (l[0]? =some ⟨#[47,47]⟩)
def fA {St:Type} (N:St→List ByteArray→St) (s:St) (ls:List ByteArray):St:=ls.foldl (fun s x=>if cu (aS x) then s else N s (aS x)) s
def outS {St:Type} (A:St→List ByteArray→ByteArray) (N:St→List ByteArray→St):St→List ByteArray→List UInt8
 | _,[]=>[]
 | s,x::ls=>if cu (aS x) then outS A N s ls else(A s (aS x)).data.toList++[10]++outS A N (N s (aS x)) ls
theorem yO {St:Type} (N:St→List ByteArray→St) (s:St) (ls:List ByteArray) (x:ByteArray):fA N s (ls++[x])=if cu (aS x) then fA N s ls else N (fA N s ls) (aS x):=by
 unfold fA;rw [List.foldl_append];rfl
theorem ve {St:Type} (A:St→List ByteArray→ByteArray) (N:St→List ByteArray→St) (x:ByteArray): ∀(ls:List ByteArray) (s:St),outS A N s (ls++[x])=if cu (aS x) then outS A N s ls else outS A N s ls++(A (fA N s ls) (aS x)).data.toList++[10]
 | [],s=>by
  show(if cu (aS x) then _ else _)=_;split <;> simp[outS,fA]
 | y::ls,s=>by
  have ih:=ve A N x ls;have e:fA N s (y::ls)=fA N (if cu (aS y) then s else N s (aS y)) ls:=rfl;show(if cu (aS y) then outS A N s (ls++[x]) else(A s (aS y)).data.toList++[10]++outS A N (N s (aS y)) (ls++[x]))=_;rw[ih,ih,e];show _=if cu (aS x) then(if cu (aS y) then outS A N s ls else _) else _;by_cases hy:cu (aS y)=true
  ·simp only[hy,if_true,outS]
  ·simp only[hy,outS];by_cases hx:cu (aS x)=true
   ·simp[hx]
   ·simp[hx]
def VU (t:Nat):Bool:=t==9 || t==5 || t==45
structure SK (w w':World):Prop where
 size:w.heap.size≤w'.heap.size
 blk: ∀(k:Nat) (cs:Array Value) (t:TypeId),w.heap[k]? =some (Obj.cells cs t (0,0))→VU t=true→w'.heap[k]? =some (Obj.cells cs t (0,0))
theorem Bu.sk {w w':World} {b:Nat} {l:List UInt8} (h:Bu w b l) (hk:SK w w'):Bu w' b l:=Bu.other h fun k cs t h1 h2=>hk.blk k cs t h1 (by
 unfold NB at h2;unfold VU;simp only[Bool.and_eq_false_iff,bne_eq_false_iff_eq] at h2;rcases h2 with rfl | rfl <;> decide)
def gK {St:Type} (A:St→List ByteArray→ByteArray) (N:St→List ByteArray→St):St→List ByteArray→List ByteArray
 | _,[]=>[]
 | s,x::ls=>if cu (aS x) then gK A N s ls else A s (aS x)::gK A N (N s (aS x)) ls
theorem vK {St:Type} (A:St→List ByteArray→ByteArray) (N:St→List ByteArray→St) (x:ByteArray): ∀(ls:List ByteArray) (s:St),gK A N s (ls++[x])=if cu (aS x) then gK A N s ls else gK A N s ls++[A (fA N s ls) (aS x)]
 | [],s=>by
  show(if cu (aS x) then _ else _)=_;split <;> simp[gK,fA]
 | y::ls,s=>by
  have ih:=vK A N x ls;have e:fA N s (y::ls)=fA N (if cu (aS y) then s else N s (aS y)) ls:=rfl;show(if cu (aS y) then gK A N s (ls++[x]) else A s (aS y)::gK A N (N s (aS y)) (ls++[x]))=_;rw[ih,ih,e];show _=if cu (aS x) then(if cu (aS y) then gK A N s ls else _) else _;by_cases hy:cu (aS y)=true
  ·simp only[hy,if_true,gK]
  ·simp only[hy,gK];by_cases hx:cu (aS x)=true
   ·simp[hx]
   ·simp[hx]
theorem ue {St:Type} (A:St→List ByteArray→ByteArray) (N:St→List ByteArray→St): ∀(ls:List ByteArray) (s:St),outS A N s ls=(gK A N s ls).flatMap fun a=>a.data.toList++[10]
 | [],_=>rfl
 | x::ls,s=>by
  unfold outS gK;by_cases hx:cu (aS x)=true
  ·rw[if_pos hx,if_pos hx];exact ue A N ls s
  ·rw[if_neg hx,if_neg hx,List.flatMap_cons,ue A N ls (N s (aS x))]
theorem uG {St:Type} (A:St→List ByteArray→ByteArray) (N:St→List ByteArray→St): ∀(ls:List ByteArray) (s:St),(gK A N s ls).length=(ls.filter fun x=> !cu (aS x)).length
 | [],_=>rfl
 | x::ls,s=>by
  unfold gK;by_cases hx:cu (aS x)=true
  ·rw[if_pos hx,uG A N ls s,List.filter_cons_of_neg (by simp[hx])]
  ·rw[if_neg hx,List.length_cons,uG A N ls (N s (aS x)),List.filter_cons_of_pos (by simp[hx]),List.length_cons]
theorem Cn {l:List ByteArray} {K:Nat} (h: ∀a∈l,a.size≤K):(l.flatMap fun a=>a.data.toList++[10]).length≤l.length*(K+1):=by
 induction l with
 | nil=>simp
 | cons a l ih=>
  have h1:=h a (List.mem_cons_self ..);have h2:=ih fun b hb=>h b (List.mem_cons_of_mem _ hb);have h3:a.data.toList.length=a.size:=rfl;have h4:(a::l).length*(K+1)=l.length*(K+1)+(K+1):=by rw[List.length_cons,Nat.succ_mul]
  rw[List.flatMap_cons,List.length_append,List.length_append,h4];show _+1+_≤_;omega
structure UZ (St:Type) (At:Nat→Nat→World→St→Prop) (A:St→List ByteArray→ByteArray) (N:St→List ByteArray→St) (s0:St) (w0:World) (P:List ByteArray→Prop) (G:ByteArray→Prop):Prop where
 st: ∀k d w w' s,At k d w s→eA w w'→At k d w' s
 up: ∀k d w s,At k d w s→At (k+1) d w s
 new: ∀d w,w.heap[d]? =some (.cells #[.pointer none, .slice none 0 0] 41 (0,0))→w0.heap.size≤d→At 0 d w s0
 sz: ∀k d w s l,P l→At k d w s→(A s l).size≤1000000∧G (A s l)
 ans: ∀k d s l (v:Value) (w:World),k≤200→P l→At k d w s→w.ownsRow 0 9 1 v l.length (l.map Value.string)→l.length≤100000→Below w0.heap.size w0 w→
  Calls Tryz.prog 15 #[.pointer (some ⟨d,0,none⟩),v] w fun e w'=>e= .returned (.string (A s l))∧At (k+1) d w' (N s l)∧SK w w'∧Below w0.heap.size w w'
theorem Fm.i:(Tryz.prog.info? 9).map (fun i=>(i.zero,i.size,i.bytes))=some (some (.string ByteArray.empty),1,16):=by kernel_rfl
structure sB (w:World) (b:Nat) (l:List ByteArray):Prop where
 blk:w.heap[b]? =some (.cells (l.map Value.string).toArray 9 (0,0))
theorem sB.get {w:World} {b k:Nat} {l:List ByteArray} (h:sB w b l) (hk:k < l.length):w.cell? ⟨b,k,none⟩=some (.string l[k]):=aD (j:=k) h.blk (by rw[List.getElem?_toArray,List.getElem?_map,List.getElem?_eq_getElem hk];rfl)
theorem sB.below {w w':World} {b:Nat} {l:List ByteArray} (h:sB w b l) (hb:Below w.heap.size w w'):sB w' b l:=⟨ag hb h.blk⟩
def Oh:ByteArray:=⟨#[101,114,114,111,114,32,50,10]⟩
def eX (s:ByteArray):Bool:=decide (65536 < s.size) || decide (200 < (bQ s).length)
def Mw {St:Type} (A:St→List ByteArray→ByteArray) (N:St→List ByteArray→St) (s0:St) (G:ByteArray→Prop) (s:ByteArray) (w:World) (e:Ending) (w':World):Prop:=e= .returned (.string (if eX s then Oh else⟨(outS A N s0 (bQ s)).toArray⟩))∧Below w.heap.size w w'∧(eX s=false→ ∀a∈gK A N s0 (bQ s),a.size≤1000000∧G a)
theorem Ay {St:Type} {A:St→List ByteArray→ByteArray} {N:St→List ByteArray→St} {s0:St} {G:ByteArray→Prop} {s:ByteArray} {w w':World} (h:eX s=true) (hb:Below w.heap.size w w'):Mw A N s0 G s w (.returned (.string ⟨#[101,114,114,111,114,32,50,10]⟩)) w':=⟨by rw[h];rfl,hb,fun h2=>by rw[h] at h2;exact absurd h2 (by decide)⟩
theorem CD {x:List ByteArray} {k:Nat} (h:k < x.length):(x.take (k+1)).filter (fun y=>decide (y≠emp))=(x.take k).filter (fun y=>decide (y≠emp))++(if x[k]=emp then [] else [x[k]]):=by
 rw[List.take_succ_eq_append_getElem h,List.filter_append];congr 1;by_cases e:x[k]=emp
 ·rw[if_pos e];simp [e]
 ·rw[if_neg e];simp [e]
theorem A0 (sep:ByteArray) (sv:Nat): ∀(k:Nat) (s x:ByteArray),x∈Lib.splitB sep sv k s→x.size≤s.size
 | 0,s,x,h=>by
  rw[Lib.splitB_zero,List.mem_singleton] at h;rw[h];exact Nat.le_refl _
 | k+1,s,x,h=>by
  by_cases hm:Lib.indexB s sep= -1
  ·rw[Lib.splitB_miss _ _ _ _ hm,List.mem_singleton] at h;rw[h];exact Nat.le_refl _
  ·unfold Lib.splitB at h;rw[if_neg (by simpa using hm)] at h;rcases List.mem_cons.1 h with rfl | h
   ·rw[ByteArray.size_extract];omega
   ·have:=A0 sep sv k _ x h;rw[ByteArray.size_extract] at this;omega
theorem rJ {c:UInt8} {s x:ByteArray} (h:x∈dx c s):x.size≤s.size:=A0 _ _ _ _ _ h
theorem tJ (c:UInt8) (s:ByteArray):(dx c s).length≤s.size+1:=by
 have h1:=vY c s;have h2:=Lib.countB_le ⟨#[c]⟩ (Nat.le_refl 1) s.size s (Nat.le_refl _);omega
def je (ps:List ByteArray) (j:Nat):List ByteArray:=(ps.take j).filter fun y=>decide (y≠emp)
theorem Iw (ps:List ByteArray) (j:Nat):(je ps j).length≤j:=by
 unfold je;have h1:=List.length_filter_le (fun y=>decide (y≠emp)) (ps.take j);have h2:(ps.take j).length≤j:=by rw[List.length_take];omega
 omega
theorem Ix (ps:List ByteArray):je ps ps.length=ps.filter fun y=>decide (y≠emp):=by unfold je;rw [List.take_length]
def uE:ByteArray:=⟨#[47,47]⟩
theorem J8:uE.toList=[47,47]:=by rw[Lib.toList_data];rfl
theorem Z5 {s:ByteArray} (h:s=uE):(s.toList==[47,47])=true:=by have:=(SG (b:=uE) h).1;rwa [J8] at this
theorem Z1 {s:ByteArray} (h:s≠uE):(s.toList==[47,47])=false:=by have:=(SE (b:=uE) h).1;rwa [J8] at this
theorem xh {l:List ByteArray} (h:l.length=0):cu l=true:=by unfold cu;rw [decide_eq_true h];rfl
theorem BM {l:List ByteArray} (h0:0 < l.length) (h:l[0]=uE):cu l=true:=by
 unfold cu;rw[List.getElem?_eq_getElem h0,h,decide_eq_true (show some uE=some ⟨#[47,47]⟩ from rfl),Bool.or_true]
theorem Ev {l:List ByteArray} (h0:0 < l.length) (h:l[0]≠uE):cu l=false:=by
 unfold cu;have e:decide (some l[0]=some (⟨#[47,47]⟩:ByteArray))=false:=decide_eq_false (fun e=>h (Option.some.inj e));rw[List.getElem?_eq_getElem h0,decide_eq_false (by omega),e];rfl
theorem sB.dk {w w':World} {b:Nat} {l:List ByteArray} (h:sB w b l) (hk:eA w w'):sB w' b l:=⟨hk.blk _ _ _ h.blk (by decide)⟩
theorem sB.sk {w w':World} {b:Nat} {l:List ByteArray} (h:sB w b l) (hk:SK w w'):sB w' b l:=⟨hk.blk _ _ _ h.blk (by decide)⟩
structure uH {St:Type} (At:Nat→Nat→World→St→Prop) (G:ByteArray→Prop) (A:St→List ByteArray→ByteArray) (N:St→List ByteArray→St) (s0:St) (w0:World) (BL D:Nat) (ls:List ByteArray) (n k:Nat) (w:World):Prop where
 at_:At k D w (fA N s0 (ls.take k))
 gd: ∀a∈gK A N s0 (ls.take k),a.size≤1000000∧G a
 bu:Bu w (D+1) (outS A N s0 (ls.take k))
 st:sB w BL ls
 aW:Below w0.heap.size w0 w
 lt:D+1 < w.heap.size
theorem uH.skip {St:Type} {At:Nat→Nat→World→St→Prop} {G:ByteArray→Prop} {A:St→List ByteArray→ByteArray} {N:St→List ByteArray→St} {s0:St} {w0 w w':World} {P:List ByteArray→Prop} {BL D n k:Nat} {ls:List ByteArray} {x:ByteArray} (h:uH At G A N s0 w0 BL D ls n k w) (hA:UZ St At A N s0 w0 P G) (hx:ls.take (k+1)=ls.take k++[x]) (hs:cu (aS x)=true) (hb:Below w.heap.size w w'):uH At G A N s0 w0 BL D ls n (k+1) w':=by
 refine⟨?_, ?_, ?_,h.st.below hb,h.aW.trans (hb.mono h.aW.size),Nat.lt_of_lt_of_le h.lt hb.size⟩
 ·rw[hx,yO,if_pos hs];exact hA.up _ _ _ _ (hA.st _ _ _ _ _ h.at_ (eA.of_below hb))
 ·rw[hx,vK,if_pos hs];exact h.gd
 ·rw[hx,ve,if_pos hs];exact h.bu.below hb
theorem abS {St:Type} {At:Nat→Nat→World→St→Prop} {G:ByteArray→Prop} {A:St→List ByteArray→ByteArray} {N:St→List ByteArray→St} {s0:St} {P:List ByteArray→Prop} (s:ByteArray) (w:World) (hs:s.size < 4294967281) (hA:UZ St At A N s0 w P G) (hP:eX s=false→ ∀x∈bQ s,cu (aS x)=false→P (aS x)):
  Calls Tryz.prog 6 #[.string s] w (Mw A N s0 G s w):=by
 have tC:=jD (Eu s 10 w hs);have HA:=jD hA;have Kz:=jD hP;have hlen:=vY 10 s;have hcl:=Lib.countB_le ⟨#[10]⟩ (Nat.le_refl 1) s.size s (Nat.le_refl _);obtain⟨ls,hls⟩: ∃l,l=dx 10 s:=⟨_,rfl⟩
 rw[←hls] at hlen tC;obtain⟨m,hm⟩: ∃m,ls.length=m+1:=⟨ls.length - 1,by omega⟩
 have hm2:m≤4294967290:=by omega
 have MK:=jD hls;have HM:=jD hm;rw[hm] at tC;clear hA hP hls hlen hcl hm;go_enter Tryz.func6,Tryz.ntmps6;go_wp2_with fail
 (with_reducible refine(tC.o).mono ?_);rintro e w1 ⟨rfl,hw1⟩;obtain⟨BL,hBL⟩: ∃B,B=w.heap.size:=⟨_,rfl⟩
 have hb1:Below w.heap.size w w1:=by rw[hw1];exact aG _
 have Bl:=jD (show sB w1 BL ls from⟨by rw[hw1,hBL];exact au _ _ _ _ rfl⟩);have bh:=jD hb1;rw[←hBL];have aP:=jD hBL;clear hw1 hb1 tC hBL;have hlast:=Bl.o.get (k:=m) (by have:=HM.o;omega);have hll:=ai Bl.o.blk;by_cases hem:ls[m]'(by have:=HM.o;omega)=emp
 ·obtain⟨q1,q2,q3⟩:=zG hem;have iU:=jD (show bQ s=ls.take (m) from by
   have Ju:ls.getLast? =some (ls[m]'(by have:=HM.o;omega)):=by rw[List.getLast?_eq_getElem?,List.getElem?_eq_getElem (by have:=HM.o;omega)];congr 1;simp [HM.o]
   unfold bQ;rw[←MK.o,Ju];rw[if_pos (by rw[hem]),List.dropLast_eq_take,HM.o];rfl)
  have HNL:=jD (show(ls.take (m)).length=m by rw[List.length_take,HM.o];omega);generalize ls[m]'(by have:=HM.o;omega)=xl at*;clear hem;have qJ:=jD (show eX s=(decide (65536 < s.size) || decide (200 < m)) by unfold eX;rw [iU.o,HNL.o]);by_cases Ba:65536 < s.size
  ·have lN:=jD (show eX s=true by rw[qJ.o,decide_eq_true Ba];rfl);have hd:decide ((65536:Int) < (s.size:Int))=true:=by rw[decide_eq_true_eq];omega
   clear qJ Kz;go_wp2;go_ret;exact Ay lN.o bh.o
  have hd:decide ((65536:Int) < (s.size:Int))=false:=by rw[decide_eq_false_iff_not];omega
  by_cases ES:200 < m
  ·have lN:=jD (show eX s=true by rw[qJ.o,decide_eq_true ES,Bool.or_true]);have hd2:decide ((200:Int) < ((m:Nat):Int))=true:=by rw[decide_eq_true_eq];omega
   clear qJ Kz;go_wp2;go_ret;exact Ay lN.o bh.o
  have hd2:decide ((200:Int) < ((m:Nat):Int))=false:=by rw[decide_eq_false_iff_not];omega
  have lN:=jD (show eX s=false by rw[qJ.o,decide_eq_false Ba,decide_eq_false ES];rfl);have HPW:=jD (show ∀x∈ls.take (m),cu (aS x)=false→P (aS x) by rw[←iU.o];exact Kz.o lN.o);have TR:s.size≤65536:=by omega
  obtain⟨D,hD⟩: ∃D,D=w1.heap.size:=⟨_,rfl⟩
  obtain⟨w2,hw2⟩: ∃x,x=(w1.alloc (.cells #[.pointer none, .slice none 0 0] 41)).alloc (.cells #[.pointer none, .slice none 0 0] 45):=⟨_,rfl⟩
  have hb2:Below w1.heap.size w1 w2:=by rw[hw2];exact (aG _).alloc (by simp) _
  have HI:=jD (show uH At G A N s0 w BL D ls (m) 0 w2 from by
   refine⟨HA.o.new D w2 ?_ ?_,by simp[gK],Bu.new ?_,Bl.o.below hb2,aj bh.o hb2, ?_⟩
   ·rw[hw2,hD];exact aO _ (au _ _ _ _ rfl)
   ·rw[hD];exact bh.o.size
   ·rw[hw2,hD];exact au _ _ _ _ (by simp)
   ·rw[hw2,hD];simp)
  have lq:=jD (show w.heap.size≤D+1 by rw[hD];exact Nat.le_succ_of_le bh.o.size);have ZH:(w1.alloc (.cells #[.pointer none, .slice none 0 0] 41)).heap.size=D+1:=by rw[hD];simp
  go_wp2_with fail
  rw[←hw2,←hD];clear hw2 hb2 hD ZH hlast hll hd hd2 q1 q2 q3;go_loopw [38] (fun i wr=> ∃k:Nat,k≤m∧i= .int .i64 k∧uH At G A N s0 w BL D ls (m) k wr) (fun i _=>m - (intOf i).toNat)
  case atStart=>exact ⟨0,Nat.zero_le _,rfl,HI.o⟩
  case round=>
   obtain⟨k,hk,rfl,hI⟩:=hrel;clear HI;by_cases hlt:k < m;rotate_left
   ·obtain rfl:m=k:=by omega
    have hkb:decide (((m:Nat):Int) < ((m:Nat):Int))=false:=by simp
    have HST:=jD (OE (D+1) _ wr hI.bu (Nat.le_of_lt hI.lt));have KQ:=jD hI.aW;have RO:=jD hI.gd;have HDD:=jD (show w.heap.size≤D+1 from lq.o);rw[←iU.o] at HST;clear hI;go_wp2_with fail
    (with_reducible refine(HST.o).mono ?_);rintro e w3 ⟨rfl,hb⟩;have HF:=jD (KQ.o.trans (hb.mono HDD.o));clear hb HST KQ;go_wp2;go_ret;exact⟨by rw[lN.o];rfl,HF.o,fun _=>by rw[iU.o];exact RO.o⟩
   obtain⟨wo,hwo⟩: ∃x,x=wr:=⟨_,rfl⟩
   rw[←hwo] at hI ⊢;clear hwo;have hkb:decide ((k:Int) < ((m:Nat):Int))=true:=by simp;omega
   have hkl:k < ls.length:=by have:=HM.o;omega
   have hcell:=hI.st.get hkl;have TM:=ai hI.st.blk;have HI:=jD hI;have kG:=jD (show ls.take (k+1)=ls.take k++[ls[k]] from List.take_succ_eq_append_getElem hkl);have RL:=jD (show ls[k]∈ls.take (m) from by rw[List.mem_take_iff_getElem];exact ⟨k,by omega,rfl⟩);have hsz:(ls[k]).size≤65536:=Nat.le_trans (rJ (c:=10) (by rw[←MK.o];exact List.getElem_mem hkl)) TR;have tC:=jD (Eu ls[k] 32 wo (by omega));have hpl:=tJ 32 ls[k];have Rf:=jD (show aS ls[k]=(dx 32 ls[k]).filter (fun y=>decide (y≠emp)) from rfl);generalize ls[k]=x at*;generalize dx 32 x=ps at*;have hps:ps.length≤65537:=by omega
   clear hI hpl hsz;go_wp2_with fail
   (with_reducible refine(tC.o).mono ?_);rintro e w3 ⟨rfl,hw3⟩;obtain⟨BP,qD⟩: ∃B,B=wo.heap.size:=⟨_,rfl⟩
   have hb3:Below wo.heap.size wo w3:=by rw[hw3];exact aG _
   have Ky:=jD (show sB w3 BP ps from⟨by rw[hw3,qD];exact au _ _ _ _ rfl⟩);have gD:=jD (show uH At G A N s0 w BL D ls (m) k w3 from⟨HA.o.st _ _ _ _ _ HI.o.at_ (eA.of_below hb3),HI.o.gd,HI.o.bu.below hb3,HI.o.st.below hb3,HI.o.aW.trans (hb3.mono HI.o.aW.size),Nat.lt_of_lt_of_le HI.o.lt hb3.size⟩);rw[←qD];clear hw3 hb3 tC qD HI hcell TM;go_wp2;go_loopw [9,45] (fun av i wy=> ∃j:Nat,j≤ps.length∧i= .int .i64 j∧wy.ownsRow w3.heap.size 9 1 av (je ps j).length ((je ps j).map Value.string)∧Below w3.heap.size w3 wy) (fun _ i _=>ps.length - (intOf i).toNat)
   case atStart=>exact ⟨0,Nat.zero_le _,rfl,World.ownsRow_nil _ _ _ _,br⟩
   case round=>
    obtain⟨j,hj,rfl,how,hbl⟩:=hrel;obtain⟨aa,ac,Qf⟩:=ay how;subst Qf;have HOW:=jD how;have eO:=jD hbl;have Jn:=Iw ps j;by_cases hjl:j < ps.length
    ·have hjb:decide ((j:Int) < (ps.length:Int))=true:=by simp;omega
     have hpc:=(Ky.o.below hbl).get hjl;have hpl:=ai (Ky.o.below hbl).blk;have qu:=jD (show je ps (j+1)=je ps j++(if ps[j]=emp then [] else [ps[j]]) from CD hjl);generalize ps[j]=y at*;clear how hbl;by_cases hy:y=emp
     ·obtain⟨q1,q2,q3⟩:=zG hy;have uN:=jD (show je ps (j+1)=je ps j by rw[qu.o,if_pos hy,List.append_nil]);clear hy qu;go_wp2;go_roundw
      case rel=>exact ⟨j+1,by omega,by go_num,by rw[uN.o];exact HOW.o,eO.o⟩
      case measure=>simp [intOf] <;> omega
     ·obtain⟨q1,q2,q3⟩:=zi hy;have uN:=jD (show je ps (j+1)=je ps j++[y] by rw[qu.o,if_neg hy]);obtain⟨i0,hi,hz0,hz1,hz2⟩:=info_parts Fm.i;clear hy qu;go_wp2_with (at_builtin;refine wpList_append_own _ rfl _ _ 31 rfl w3.heap.size 9 i0 (.string ByteArray.empty) 1 16 Tryz.underlying31 hi hz0 hz1 hz2 rfl (by decide) _ _ _ rfl (HOW.o.alloc _) ⟨wr.heap.size,0,none⟩ 1 1 [.string y] rfl rfl ?c1 ?c2 ?c3 ?c4 ?c5 ?_)
      case c1=>
       intro jj u hj;match jj,hj with
       | 0,hj=>simp at hj;subst hj;simp [Addr.add]
      case c2=>intro u hu;simp at hu;subst hu;rfl
      case c3=>unfold maxLen;omega
      case c4=>omega
      case c5=>have:=eO.o.size;simp;omega
      intro v' w5 hown' hgrow _;have oo:=jD ((eO.o.trans ((aG (.cells #[.string y] 9)).mono eO.o.size)).grown hgrow (by have:=eO.o.size;simp;omega) (fun q hq=>((HOW.o.alloc (.cells #[.string y] 9)).lt q hq).1));have vS:=jD (show w5.ownsRow w3.heap.size 9 1 v' (je ps (j+1)).length ((je ps (j+1)).map Value.string) by
       rw[uN.o,List.length_append,List.map_append];exact hown')
      obtain⟨va,vc,hv'⟩:=ay vS.o;subst hv';clear hown' hgrow HOW eO hpc hpl hi hz0 hz1 hz2;go_wp2;go_roundw
      case rel=>exact ⟨j+1,by omega,by go_num,vS.o,oo.o⟩
      case measure=>simp [intOf] <;> omega
    obtain⟨wi,hwi⟩: ∃x,x=wr:=⟨_,rfl⟩
    rw[←hwi] at how hbl HOW eO ⊢;clear hwi;obtain rfl:j=ps.length:=by omega
    rw[Ix,←Rf.o] at HOW Jn ⊢;obtain⟨ws,hws⟩: ∃l,l=aS x:=⟨_,rfl⟩
    rw[←hws] at HOW Jn ⊢;have mC:=jD hws;clear hws how hbl Rf Ky hjl hj;by_cases h0:ws.length=0
    ·have hd0:decide ((ws.length:Int)=0)=true:=by simp[h0]
     have hd1:((ws.length:Int)==0)=true:=by simp[h0]
     have HN:=jD (gD.o.skip HA.o kG.o (by rw[←mC.o];exact xh h0) eO.o);clear HOW eO gD;go_wp2;go_roundw
     case rel=>exact ⟨k+1,by omega,by go_num,HN.o⟩
     case measure=>simp [intOf] <;> omega
    have hd0:decide ((ws.length:Int)=0)=false:=by simpa using h0
    have hd1:((ws.length:Int)==0)=false:=by rw[beq_eq_false_iff_ne];omega
    have hw0:0 < ws.length:=by omega
    obtain⟨q9,Z6,vp,Vw,Js, -,Vx⟩:=tV HOW.o rfl hw0;simp only[Value.slice.injEq,true_and] at vp;obtain⟨rfl,rfl⟩:=vp;by_cases hcm:ws[0]=uE
    ·have hce:=Z5 hcm;have HN:=jD (gD.o.skip HA.o kG.o (by rw[←mC.o];exact BM hw0 hcm) eO.o);generalize ws[0]=y0 at*;clear HOW eO gD hcm;go_wp2;go_roundw
     case rel=>exact ⟨k+1,by omega,by go_num,HN.o⟩
     case measure=>simp [intOf] <;> omega
    have hce:=Z1 hcm;have Rz:=jD (Ev hw0 hcm);have Kw:=jD (show P ws by rw[mC.o];exact HPW.o x RL.o (by rw[←mC.o];exact Rz.o));have pL:=jD (show(∀a∈gK A N s0 (ls.take k),a.size≤1000000∧G a)∧((A (fA N s0 (ls.take k)) ws).size≤1000000∧G (A (fA N s0 (ls.take k)) ws)) from⟨gD.o.gd,HA.o.sz k D w3 (fA N s0 (ls.take k)) ws Kw.o gD.o.at_⟩);have RZ:=jD (HA.o.ans k D (fA N s0 (ls.take k)) ws _ wi (by omega) Kw.o (HA.o.st _ _ _ _ _ gD.o.at_ (eA.of_below eO.o)) (bV HOW.o (Nat.zero_le _)) (by omega) (gD.o.aW.trans (eO.o.mono gD.o.aW.size)));have Rx:=jD (show(outS A N s0 (ls.take k)).length+(A (fA N s0 (ls.take k)) ws).size+1≤140737488355328 by
     have h1:=Cn (K:=1000000) fun a ha=>(gD.o.gd a ha).1;rw[←ue,uG] at h1;have h2:=(HA.o.sz k D w3 (fA N s0 (ls.take k)) ws Kw.o gD.o.at_).1;have h5:=List.length_filter_le (fun x=> !cu (aS x)) (ls.take k);have h3:(ls.take k).length≤200:=by rw[List.length_take];omega
     have h4:=Nat.mul_le_mul_right 1000001 (Nat.le_trans h5 h3);omega)
    generalize ws[0]=y0 at*;clear hcm;go_wp2_with fail
    (with_reducible refine(RZ.o).mono ?_);rintro e w6 ⟨rfl,JF,xI,JE⟩;have KY:=jD JF;have KP:=jD ((gD.o.bu.below eO.o).sk xI);have Ks:=jD ((gD.o.st.below eO.o).sk xI);have KU:=jD ((gD.o.aW.trans (eO.o.mono gD.o.aW.size)).trans JE);have KC:=jD (Nat.lt_of_lt_of_le gD.o.lt (Nat.le_trans eO.o.size xI.size));have Rh:=jD (DJ (D+1) _ (A (fA N s0 (ls.take k)) ws) w6 KP.o (by have:=Rx.o;omega));clear JF xI JE RZ HOW eO gD Vx Js;go_wp2_with fail
    (with_reducible refine(Rh.o).mono ?_);rintro e w7 ⟨rfl,JB,Jy,JD⟩;have RX:=jD (show Calls Tryz.prog 16 #[.pointer (some ⟨D+1,0,none⟩), .int .u8 10] w7 _ from VP (D+1) _ 10 w7 JB (by rw[List.length_append];have:=Rx.o;have h3:(A (fA N s0 (ls.take k)) ws).data.toList.length=(A (fA N s0 (ls.take k)) ws).size:=rfl;omega));have KL:=jD Jy;have KS:=jD (KU.o.trans (JD.mono lq.o));clear JB Jy JD Rh;go_wp2_with fail
    (with_reducible refine(RX.o).mono ?_);rintro e w8 ⟨rfl,JA,Jx,JC⟩;have HN:=jD (show uH At G A N s0 w BL D ls (m) (k+1) w8 from by
     have hdk:=KL.o.trans Jx;have hns: ¬cu (aS x)=true:=by rw[←mC.o,Rz.o];decide
     refine⟨?_, ?_, ?_,Ks.o.dk hdk,KS.o.trans (JC.mono lq.o),Nat.lt_of_lt_of_le KC.o hdk.size⟩
     ·rw[kG.o,yO,if_neg hns,←mC.o];exact HA.o.st _ _ _ _ _ KY.o hdk
     ·rw[kG.o,vK,if_neg hns,←mC.o];intro a ha;rcases List.mem_append.1 ha with ha | ha
      ·exact pL.o.1 a ha
      ·rw[List.mem_singleton] at ha;subst ha;exact pL.o.2
     ·rw[kG.o,ve,if_neg hns,←mC.o];exact JA)
    clear JA Jx JC RX KY KP Ks KU KC KL KS;go_wp2;go_roundw
    case rel=>exact ⟨k+1,by omega,by go_num,HN.o⟩
    case measure=>simp [intOf] <;> omega
 ·obtain⟨q1,q2,q3⟩:=zi hem;have iU:=jD (show bQ s=ls.take (m+1) from by
   have Ju:ls.getLast? =some (ls[m]'(by have:=HM.o;omega)):=by rw[List.getLast?_eq_getElem?,List.getElem?_eq_getElem (by have:=HM.o;omega)];congr 1;simp [HM.o]
   unfold bQ;rw[←MK.o,Ju];rw[if_neg (by intro e;exact hem (Option.some.inj e)),←HM.o,List.take_length])
  have HNL:=jD (show(ls.take (m+1)).length=m+1 by rw[List.length_take,HM.o];omega);generalize ls[m]'(by have:=HM.o;omega)=xl at*;clear hem;have qJ:=jD (show eX s=(decide (65536 < s.size) || decide (200 < m+1)) by unfold eX;rw [iU.o,HNL.o]);by_cases Ba:65536 < s.size
  ·have lN:=jD (show eX s=true by rw[qJ.o,decide_eq_true Ba];rfl);have hd:decide ((65536:Int) < (s.size:Int))=true:=by rw[decide_eq_true_eq];omega
   clear qJ Kz;go_wp2;go_ret;exact Ay lN.o bh.o
  have hd:decide ((65536:Int) < (s.size:Int))=false:=by rw[decide_eq_false_iff_not];omega
  by_cases ES:200 < m+1
  ·have lN:=jD (show eX s=true by rw[qJ.o,decide_eq_true ES,Bool.or_true]);have hd2:decide ((200:Int) < ((m+1:Nat):Int))=true:=by rw[decide_eq_true_eq];omega
   clear qJ Kz;go_wp2;go_ret;exact Ay lN.o bh.o
  have hd2:decide ((200:Int) < ((m+1:Nat):Int))=false:=by rw[decide_eq_false_iff_not];omega
  have lN:=jD (show eX s=false by rw[qJ.o,decide_eq_false Ba,decide_eq_false ES];rfl);have HPW:=jD (show ∀x∈ls.take (m+1),cu (aS x)=false→P (aS x) by rw[←iU.o];exact Kz.o lN.o);have TR:s.size≤65536:=by omega
  obtain⟨D,hD⟩: ∃D,D=w1.heap.size:=⟨_,rfl⟩
  obtain⟨w2,hw2⟩: ∃x,x=(w1.alloc (.cells #[.pointer none, .slice none 0 0] 41)).alloc (.cells #[.pointer none, .slice none 0 0] 45):=⟨_,rfl⟩
  have hb2:Below w1.heap.size w1 w2:=by rw[hw2];exact (aG _).alloc (by simp) _
  have HI:=jD (show uH At G A N s0 w BL D ls (m+1) 0 w2 from by
   refine⟨HA.o.new D w2 ?_ ?_,by simp[gK],Bu.new ?_,Bl.o.below hb2,aj bh.o hb2, ?_⟩
   ·rw[hw2,hD];exact aO _ (au _ _ _ _ rfl)
   ·rw[hD];exact bh.o.size
   ·rw[hw2,hD];exact au _ _ _ _ (by simp)
   ·rw[hw2,hD];simp)
  have lq:=jD (show w.heap.size≤D+1 by rw[hD];exact Nat.le_succ_of_le bh.o.size);have ZH:(w1.alloc (.cells #[.pointer none, .slice none 0 0] 41)).heap.size=D+1:=by rw[hD];simp
  go_wp2_with fail
  rw[←hw2,←hD];clear hw2 hb2 hD ZH hlast hll hd hd2 q1 q2 q3;go_loopw [38] (fun i wr=> ∃k:Nat,k≤m+1∧i= .int .i64 k∧uH At G A N s0 w BL D ls (m+1) k wr) (fun i _=>m+1 - (intOf i).toNat)
  case atStart=>exact ⟨0,Nat.zero_le _,rfl,HI.o⟩
  case round=>
   obtain⟨k,hk,rfl,hI⟩:=hrel;clear HI;by_cases hlt:k < m+1;rotate_left
   ·obtain rfl:k=m+1:=by omega
    have hkb:decide (((m+1:Nat):Int) < ((m+1:Nat):Int))=false:=by simp
    have HST:=jD (OE (D+1) _ wr hI.bu (Nat.le_of_lt hI.lt));have KQ:=jD hI.aW;have RO:=jD hI.gd;have HDD:=jD (show w.heap.size≤D+1 from lq.o);rw[←iU.o] at HST;clear hI;go_wp2_with fail
    (with_reducible refine(HST.o).mono ?_);rintro e w3 ⟨rfl,hb⟩;have HF:=jD (KQ.o.trans (hb.mono HDD.o));clear hb HST KQ;go_wp2;go_ret;exact⟨by rw[lN.o];rfl,HF.o,fun _=>by rw[iU.o];exact RO.o⟩
   obtain⟨wo,hwo⟩: ∃x,x=wr:=⟨_,rfl⟩
   rw[←hwo] at hI ⊢;clear hwo;have hkb:decide ((k:Int) < ((m+1:Nat):Int))=true:=by simp;omega
   have hkl:k < ls.length:=by have:=HM.o;omega
   have hcell:=hI.st.get hkl;have TM:=ai hI.st.blk;have HI:=jD hI;have kG:=jD (show ls.take (k+1)=ls.take k++[ls[k]] from List.take_succ_eq_append_getElem hkl);have RL:=jD (show ls[k]∈ls.take (m+1) from by rw[List.mem_take_iff_getElem];exact ⟨k,by omega,rfl⟩);have hsz:(ls[k]).size≤65536:=Nat.le_trans (rJ (c:=10) (by rw[←MK.o];exact List.getElem_mem hkl)) TR;have tC:=jD (Eu ls[k] 32 wo (by omega));have hpl:=tJ 32 ls[k];have Rf:=jD (show aS ls[k]=(dx 32 ls[k]).filter (fun y=>decide (y≠emp)) from rfl);generalize ls[k]=x at*;generalize dx 32 x=ps at*;have hps:ps.length≤65537:=by omega
   clear hI hpl hsz;go_wp2_with fail
   (with_reducible refine(tC.o).mono ?_);rintro e w3 ⟨rfl,hw3⟩;obtain⟨BP,qD⟩: ∃B,B=wo.heap.size:=⟨_,rfl⟩
   have hb3:Below wo.heap.size wo w3:=by rw[hw3];exact aG _
   have Ky:=jD (show sB w3 BP ps from⟨by rw[hw3,qD];exact au _ _ _ _ rfl⟩);have gD:=jD (show uH At G A N s0 w BL D ls (m+1) k w3 from⟨HA.o.st _ _ _ _ _ HI.o.at_ (eA.of_below hb3),HI.o.gd,HI.o.bu.below hb3,HI.o.st.below hb3,HI.o.aW.trans (hb3.mono HI.o.aW.size),Nat.lt_of_lt_of_le HI.o.lt hb3.size⟩);rw[←qD];clear hw3 hb3 tC qD HI hcell TM;go_wp2;go_loopw [9,45] (fun av i wy=> ∃j:Nat,j≤ps.length∧i= .int .i64 j∧wy.ownsRow w3.heap.size 9 1 av (je ps j).length ((je ps j).map Value.string)∧Below w3.heap.size w3 wy) (fun _ i _=>ps.length - (intOf i).toNat)
   case atStart=>exact ⟨0,Nat.zero_le _,rfl,World.ownsRow_nil _ _ _ _,br⟩
   case round=>
    obtain⟨j,hj,rfl,how,hbl⟩:=hrel;obtain⟨aa,ac,Qf⟩:=ay how;subst Qf;have HOW:=jD how;have eO:=jD hbl;have Jn:=Iw ps j;by_cases hjl:j < ps.length
    ·have hjb:decide ((j:Int) < (ps.length:Int))=true:=by simp;omega
     have hpc:=(Ky.o.below hbl).get hjl;have hpl:=ai (Ky.o.below hbl).blk;have qu:=jD (show je ps (j+1)=je ps j++(if ps[j]=emp then [] else [ps[j]]) from CD hjl);generalize ps[j]=y at*;clear how hbl;by_cases hy:y=emp
     ·obtain⟨q1,q2,q3⟩:=zG hy;have uN:=jD (show je ps (j+1)=je ps j by rw[qu.o,if_pos hy,List.append_nil]);clear hy qu;go_wp2;go_roundw
      case rel=>exact ⟨j+1,by omega,by go_num,by rw[uN.o];exact HOW.o,eO.o⟩
      case measure=>simp [intOf] <;> omega
     ·obtain⟨q1,q2,q3⟩:=zi hy;have uN:=jD (show je ps (j+1)=je ps j++[y] by rw[qu.o,if_neg hy]);obtain⟨i0,hi,hz0,hz1,hz2⟩:=info_parts Fm.i;clear hy qu;go_wp2_with (at_builtin;refine wpList_append_own _ rfl _ _ 31 rfl w3.heap.size 9 i0 (.string ByteArray.empty) 1 16 Tryz.underlying31 hi hz0 hz1 hz2 rfl (by decide) _ _ _ rfl (HOW.o.alloc _) ⟨wr.heap.size,0,none⟩ 1 1 [.string y] rfl rfl ?c1 ?c2 ?c3 ?c4 ?c5 ?_)
      case c1=>
       intro jj u hj;match jj,hj with
       | 0,hj=>simp at hj;subst hj;simp [Addr.add]
      case c2=>intro u hu;simp at hu;subst hu;rfl
      case c3=>unfold maxLen;omega
      case c4=>omega
      case c5=>have:=eO.o.size;simp;omega
      intro v' w5 hown' hgrow _;have oo:=jD ((eO.o.trans ((aG (.cells #[.string y] 9)).mono eO.o.size)).grown hgrow (by have:=eO.o.size;simp;omega) (fun q hq=>((HOW.o.alloc (.cells #[.string y] 9)).lt q hq).1));have vS:=jD (show w5.ownsRow w3.heap.size 9 1 v' (je ps (j+1)).length ((je ps (j+1)).map Value.string) by
       rw[uN.o,List.length_append,List.map_append];exact hown')
      obtain⟨va,vc,hv'⟩:=ay vS.o;subst hv';clear hown' hgrow HOW eO hpc hpl hi hz0 hz1 hz2;go_wp2;go_roundw
      case rel=>exact ⟨j+1,by omega,by go_num,vS.o,oo.o⟩
      case measure=>simp [intOf] <;> omega
    obtain⟨wi,hwi⟩: ∃x,x=wr:=⟨_,rfl⟩
    rw[←hwi] at how hbl HOW eO ⊢;clear hwi;obtain rfl:j=ps.length:=by omega
    rw[Ix,←Rf.o] at HOW Jn ⊢;obtain⟨ws,hws⟩: ∃l,l=aS x:=⟨_,rfl⟩
    rw[←hws] at HOW Jn ⊢;have mC:=jD hws;clear hws how hbl Rf Ky hjl hj;by_cases h0:ws.length=0
    ·have hd0:decide ((ws.length:Int)=0)=true:=by simp[h0]
     have hd1:((ws.length:Int)==0)=true:=by simp[h0]
     have HN:=jD (gD.o.skip HA.o kG.o (by rw[←mC.o];exact xh h0) eO.o);clear HOW eO gD;go_wp2;go_roundw
     case rel=>exact ⟨k+1,by omega,by go_num,HN.o⟩
     case measure=>simp [intOf] <;> omega
    have hd0:decide ((ws.length:Int)=0)=false:=by simpa using h0
    have hd1:((ws.length:Int)==0)=false:=by rw[beq_eq_false_iff_ne];omega
    have hw0:0 < ws.length:=by omega
    obtain⟨q9,Z6,vp,Vw,Js, -,Vx⟩:=tV HOW.o rfl hw0;simp only[Value.slice.injEq,true_and] at vp;obtain⟨rfl,rfl⟩:=vp;by_cases hcm:ws[0]=uE
    ·have hce:=Z5 hcm;have HN:=jD (gD.o.skip HA.o kG.o (by rw[←mC.o];exact BM hw0 hcm) eO.o);generalize ws[0]=y0 at*;clear HOW eO gD hcm;go_wp2;go_roundw
     case rel=>exact ⟨k+1,by omega,by go_num,HN.o⟩
     case measure=>simp [intOf] <;> omega
    have hce:=Z1 hcm;have Rz:=jD (Ev hw0 hcm);have Kw:=jD (show P ws by rw[mC.o];exact HPW.o x RL.o (by rw[←mC.o];exact Rz.o));have pL:=jD (show(∀a∈gK A N s0 (ls.take k),a.size≤1000000∧G a)∧((A (fA N s0 (ls.take k)) ws).size≤1000000∧G (A (fA N s0 (ls.take k)) ws)) from⟨gD.o.gd,HA.o.sz k D w3 (fA N s0 (ls.take k)) ws Kw.o gD.o.at_⟩);have RZ:=jD (HA.o.ans k D (fA N s0 (ls.take k)) ws _ wi (by omega) Kw.o (HA.o.st _ _ _ _ _ gD.o.at_ (eA.of_below eO.o)) (bV HOW.o (Nat.zero_le _)) (by omega) (gD.o.aW.trans (eO.o.mono gD.o.aW.size)));have Rx:=jD (show(outS A N s0 (ls.take k)).length+(A (fA N s0 (ls.take k)) ws).size+1≤140737488355328 by
     have h1:=Cn (K:=1000000) fun a ha=>(gD.o.gd a ha).1;rw[←ue,uG] at h1;have h2:=(HA.o.sz k D w3 (fA N s0 (ls.take k)) ws Kw.o gD.o.at_).1;have h5:=List.length_filter_le (fun x=> !cu (aS x)) (ls.take k);have h3:(ls.take k).length≤200:=by rw[List.length_take];omega
     have h4:=Nat.mul_le_mul_right 1000001 (Nat.le_trans h5 h3);omega)
    generalize ws[0]=y0 at*;clear hcm;go_wp2_with fail
    (with_reducible refine(RZ.o).mono ?_);rintro e w6 ⟨rfl,JF,xI,JE⟩;have KY:=jD JF;have KP:=jD ((gD.o.bu.below eO.o).sk xI);have Ks:=jD ((gD.o.st.below eO.o).sk xI);have KU:=jD ((gD.o.aW.trans (eO.o.mono gD.o.aW.size)).trans JE);have KC:=jD (Nat.lt_of_lt_of_le gD.o.lt (Nat.le_trans eO.o.size xI.size));have Rh:=jD (DJ (D+1) _ (A (fA N s0 (ls.take k)) ws) w6 KP.o (by have:=Rx.o;omega));clear JF xI JE RZ HOW eO gD Vx Js;go_wp2_with fail
    (with_reducible refine(Rh.o).mono ?_);rintro e w7 ⟨rfl,JB,Jy,JD⟩;have RX:=jD (show Calls Tryz.prog 16 #[.pointer (some ⟨D+1,0,none⟩), .int .u8 10] w7 _ from VP (D+1) _ 10 w7 JB (by rw[List.length_append];have:=Rx.o;have h3:(A (fA N s0 (ls.take k)) ws).data.toList.length=(A (fA N s0 (ls.take k)) ws).size:=rfl;omega));have KL:=jD Jy;have KS:=jD (KU.o.trans (JD.mono lq.o));clear JB Jy JD Rh;go_wp2_with fail
    (with_reducible refine(RX.o).mono ?_);rintro e w8 ⟨rfl,JA,Jx,JC⟩;have HN:=jD (show uH At G A N s0 w BL D ls (m+1) (k+1) w8 from by
     have hdk:=KL.o.trans Jx;have hns: ¬cu (aS x)=true:=by rw[←mC.o,Rz.o];decide
     refine⟨?_, ?_, ?_,Ks.o.dk hdk,KS.o.trans (JC.mono lq.o),Nat.lt_of_lt_of_le KC.o hdk.size⟩
     ·rw[kG.o,yO,if_neg hns,←mC.o];exact HA.o.st _ _ _ _ _ KY.o hdk
     ·rw[kG.o,vK,if_neg hns,←mC.o];intro a ha;rcases List.mem_append.1 ha with ha | ha
      ·exact pL.o.1 a ha
      ·rw[List.mem_singleton] at ha;subst ha;exact pL.o.2
     ·rw[kG.o,ve,if_neg hns,←mC.o];exact JA)
    clear JA Jx JC RX KY KP Ks KU KC KL KS;go_wp2;go_roundw
    case rel=>exact ⟨k+1,by omega,by go_num,HN.o⟩
    case measure=>simp [intOf] <;> omega
def iq (c:UInt8) (l:List UInt8):List (List UInt8):=Lib.splitK [c] 0 (l.count c) l
theorem yZ (c:UInt8) (s:ByteArray):(dx c s).map (·.data.toList)=iq c s.data.toList:=by
 unfold dx iq;rw[Lib.splitB_data];congr 1;show Lib.count s.data.toList [c]=_;rw[Lib.count_one]
theorem AB {c:UInt8} {l:List UInt8} (h:c∉l):iq c l=[l]:=by
 unfold iq;rw[List.count_eq_zero.2 h];rfl
theorem Dg {c:UInt8} {r:List UInt8} : ∀ {a:List UInt8},c∉a→Lib.indexByte (a++c::r) c=a.length
 | [],_=>by simp[Lib.indexByte]
 | b::a,h=>by
  have h1:b≠c:=fun e=>h (by simp[e]);have h2:c∉a:=fun e=>h (by simp[e]);have ih:=Dg (r:=r) h2;show Lib.indexByte (b::(a++c::r)) c=_;unfold Lib.indexByte;rw[if_neg (by simpa using h1),ih,if_neg (by simp)];simp
theorem Ez {c:UInt8} {a r:List UInt8} (h:c∉a):iq c (a++c::r)=a::iq c r:=by
 have hi:Lib.index (a++c::r) [c]=a.length:=by rw[Lib.index_one];exact Dg h
 unfold iq;rw[List.count_append,List.count_eq_zero.2 h,List.count_cons_self,Nat.zero_add];have e: ∀(k:Nat) (l:List UInt8),Lib.splitK [c] 0 (k+1) l=if Lib.index l [c]== -1 then [l] else l.take ((Lib.index l [c]).toNat+0)::Lib.splitK [c] 0 k (l.drop ((Lib.index l [c]).toNat+[c].length)):=fun _ _=>rfl;have h1:(a++c::r).take (((a.length:Nat):Int).toNat+0)=a:=by simp
 have h2:(a++c::r).drop (((a.length:Nat):Int).toNat+[c].length)=r:=by
  show(a++c::r).drop (a.length+1)=r;rw[List.drop_append];simp
 rw[e,hi,if_neg (by simp),h1,h2]
def pW (b:ByteArray):Prop:= ∀x∈b.data.toList,x≠10∧x≠32
theorem iO {a b:ByteArray} (h:pW a) (k:pW b):pW (a++b):=fun x hx=>by
 rw[jG,List.mem_append] at hx;exact hx.elim (h x) (k x)
theorem PJ:pW ByteArray.empty:=fun x hx=>by
 have h1:ByteArray.empty.data.toList=[]:=rfl;rw[h1] at hx;simp at hx
theorem AG (n:Nat):pW (ia n):=by
 have key: ∀n,∀x∈Lib.decDigits n,x≠10∧x≠32:=by
  intro n;induction n using Nat.strongRecOn with
  | _ n ih=>
   have hd: ∀d,d < 10→UInt8.ofNat (48+d)≠10∧UInt8.ofNat (48+d)≠32:=by decide
   intro x hx;rw[Lib.decDigits] at hx;split at hx
   ·rename_i h;rw[List.mem_singleton] at hx;subst hx;exact hd n h
   ·rename_i h;rw[List.mem_append,List.mem_singleton] at hx;rcases hx with hx | rfl
    ·exact ih (n / 10) (by omega) x hx
    ·exact hd (n%10) (by omega)
 intro x hx;exact key n x (by simpa[ia] using hx)
theorem Xe {s:ByteArray} (h:pW s) (i j:Nat):pW (s.extract i j):=fun x hx=>by
 rw[Lib.extract_data] at hx;exact h x (List.mem_of_mem_drop (List.mem_of_mem_take hx))
theorem Xf {s:ByteArray} (h:pW s):pW (iw s):=by
 unfold iw;split
 ·exact Xe h _ _
 ·exact h
theorem LZ {ss:List ByteArray} (h: ∀t∈ss,pW t) (i:Nat):pW (ss.getD i ByteArray.empty):=by
 rw[List.getD_eq_getElem?_getD];cases hi:ss[i]? with
 | none=>exact PJ
 | some t=>exact h t (List.mem_of_getElem? hi)
theorem Xd {ss:List ByteArray} (h: ∀t∈ss,pW t) (n:Nd):pW (oq ss n):=by
 have l1: ∀c:UInt8,c≠10→c≠32→pW ⟨#[c]⟩:=fun c h1 h2 x hx=>by
  simp at hx;subst hx;exact ⟨h1,h2⟩
 have g:=fun i=>LZ h i;unfold oq;split
 ·exact l1 _ (by decide) (by decide)
 split
 ·exact iO (l1 _ (by decide) (by decide)) (AG _)
 split
 ·exact iO (iO (iO (iO (l1 _ (by decide) (by decide)) (AG _)) (l1 _ (by decide) (by decide))) (AG _)) (l1 _ (by decide) (by decide))
 split
 ·exact iO (l1 _ (by decide) (by decide)) (g _)
 split
 ·exact iO (iO (iO (iO (l1 _ (by decide) (by decide)) (g _)) (l1 _ (by decide) (by decide))) (g _)) (l1 _ (by decide) (by decide))
 ·exact iO (iO (iO (iO (l1 _ (by decide) (by decide)) (g _)) (l1 _ (by decide) (by decide))) (g _)) (l1 _ (by decide) (by decide))
theorem I5 (l:cH): ∀k,∀t∈txtsK l k,pW t
 | 0,t,h=>by simp[txtsK] at h
 | k+1,t,h=>by
  have ih:=I5 l k;simp only[txtsK,List.mem_append,List.mem_singleton] at h;rcases h with h | rfl
  ·exact ih t h
  ·exact Xf (Xd ih _)
theorem Nw {s:ByteArray} (h:readE s=0):pW s:=by
 obtain⟨-,h2⟩:=pU h;rw[←h2];exact LZ (I5 _ _) _
def A1 (_:Unit) (l:List ByteArray):ByteArray:=A6 (l.getD 1 emp)
def N1 (_:Unit) (_:List ByteArray):Unit:=()
end Go.Proofs.YtajgndoiddmbmaaGreatDoor
