/- What the reference's Mean says. No walk here. -/
import Derived.Test.YtgkgdedhicnohaaGreatRef6
import Derived.Test.YtgkgdedhicnohaaGreatMSiteA
import Derived.Great.BuildSlice
namespace Go.Proofs.YtgkgdedhicnohaaGreat
set_option maxRecDepth 100000
set_option maxHeartbeats 40000000
open Go.RowKit
theorem fold_set (off:Nat): ∀(xs:List Value) (k:Nat) (cs:Array Value),((xs.zipIdx k).foldl (fun cs (c,j)=>cs.setIfInBounds (off+j) c) cs).size=cs.size∧ ∀i,((xs.zipIdx k).foldl (fun cs (c,j)=>cs.setIfInBounds (off+j) c) cs)[i]? =if off+k≤i∧i < off+k+xs.length∧i < cs.size then xs[i - (off+k)]? else cs[i]?
 | [],k,cs=>⟨rfl,fun i=>by rw[if_neg (by simp;omega)];rfl⟩
 | x::xs,k,cs=>by
  obtain⟨h1,h2⟩:=fold_set off xs (k+1) (cs.setIfInBounds (off+k) x)
  rw[List.zipIdx_cons,List.foldl_cons]
  refine⟨h1.trans (by simp),fun i=> ?_⟩
  rw[h2 i]
  simp only[Array.size_setIfInBounds,List.length_cons]
  by_cases e:i=off+k
  ·subst e
   rw[if_neg (by omega),Array.getElem?_setIfInBounds,if_pos rfl]
   by_cases hs:off+k < cs.size
   ·rw[if_pos hs,if_pos (by omega),Nat.sub_self];rfl
   ·rw[if_neg hs,if_neg (by omega),Array.getElem?_eq_none (by omega)]
  ·by_cases hin:off+k≤i∧i < off+k+(xs.length+1)∧i < cs.size
   ·rw[if_pos (by omega),if_pos hin]
    obtain⟨d,rfl⟩: ∃d,i=off+k+1+d:=⟨i - (off+k+1),by omega⟩
    rw[show off+k+1+d - (off+(k+1))=d by omega,show off+k+1+d - (off+k)=d+1 by omega]
    rfl
   ·rw[if_neg (by omega),if_neg hin,Array.getElem?_setIfInBounds,if_neg (by omega)]
def layAt (cs:Array Value) (off:Nat) (xs:Array Value):Array Value:=xs.zipIdx.foldl (fun cs (c,j)=>cs.setIfInBounds (off+j) c) cs
theorem layAt_list (cs:Array Value) (off:Nat) (xs:Array Value):layAt cs off xs=(xs.toList.zipIdx 0).foldl (fun cs (c,j)=>cs.setIfInBounds (off+j) c) cs:=by
 unfold layAt
 rw[←Array.foldl_toList,Array.toList_zipIdx]
theorem layAt_size (cs:Array Value) (off:Nat) (xs:Array Value):(layAt cs off xs).size=cs.size:=by
 rw[layAt_list];exact (fold_set off xs.toList 0 cs).1
theorem layAt_get (cs:Array Value) (off:Nat) (xs:Array Value) (i:Nat):(layAt cs off xs)[i]? =if off≤i∧i < off+xs.size∧i < cs.size then xs[i - off]? else cs[i]? :=by
 rw[layAt_list,(fold_set off xs.toList 0 cs).2 i]
 simp
theorem fill_nil (place:Nat→Option (Nat×Nat)) (cs:Array Value):Instr.fill place cs []=some cs:=by rw[Instr.fill]
theorem fill_one (place:Nat→Option (Nat×Nat)) (i:Nat) (xs:Array Value) (off:Nat) (cs:Array Value) (rest:List (Nat×Value)) (hp:place i=some (off,xs.size)) (hle:off+xs.size≤cs.size):
  Instr.fill place cs ((i, .agg xs)::rest)=Instr.fill place (layAt cs off xs) rest:=by
 rw[Instr.fill,hp]
 have h1:((Value.agg xs).cells.size≠xs.size || off+(Value.agg xs).cells.size > cs.size)=false:=by
  show(xs.size≠xs.size || off+xs.size > cs.size)=false
  simp;omega
 simp only[h1]
 rfl
theorem fill_mn (place:Nat→Option (Nat×Nat)) (p:Nat→Bool) (m:Nat→Nat) (z:Array Value) (hz:z.size=592) (h0:place 0=some (0,512)) (h1:place 1=some (512,80)):
  Instr.fill place z [(0, .agg (boolC 512 p)),(1, .agg (dotC m))]=some (mnC ⟨p,m⟩):=by
 rw[fill_one place 0 _ 0 z _ (by rw[h0,boolC_size]) (by rw[boolC_size];omega),fill_one place 1 _ 512 _ _ (by rw[h1,dotC_size]) (by rw[layAt_size,dotC_size];omega)]
 rw[fill_nil,Option.some.injEq]
 apply Array.ext_getElem?
 intro i
 unfold mnC
 rw[layAt_get,layAt_get,layAt_size,dotC_size,boolC_size,hz,Array.getElem?_append,boolC_size]
 by_cases h5:i < 512
 ·rw[if_neg (by omega),if_pos (by omega),if_pos h5,Nat.sub_zero]
 ·rw[if_neg h5]
  by_cases h6:i < 592
  ·rw[if_pos (by omega)]
  ·rw[if_neg (by omega),if_neg (by omega),Array.getElem?_eq_none (by omega),Array.getElem?_eq_none (by rw[dotC_size];omega)]
theorem fill_whole (place:Nat→Option (Nat×Nat)) (a:Mn) (z:Array Value) (hz:z.size=592) (h0:place 0=some (0,592)):
  Instr.fill place z [(0, .agg (mnC a))]=some (mnC a):=by
 rw[fill_one place 0 _ 0 z _ (by rw[h0,mnC_size]) (by rw[mnC_size];omega)]
 rw[fill_nil,Option.some.injEq]
 apply Array.ext_getElem?
 intro i
 rw[layAt_get,mnC_size,hz]
 by_cases h5:i < 592
 ·rw[if_pos (by omega),Nat.sub_zero]
 ·rw[if_neg (by omega),Array.getElem?_eq_none (by omega),Array.getElem?_eq_none (by rw[mnC_size];omega)]
theorem info_part: ∃it z,Tryz.prog.info? 165=some it∧it.zero=some z∧z.cells.size=592∧it.size=592:=by
 have h:(Tryz.prog.info? 165).map (fun i=>(i.zero.map fun z=>z.cells.size,i.size))=some (some 592,592):=by kernel_rfl
 cases hi:Tryz.prog.info? 165 with
 | none=>rw [hi] at h;exact absurd h (by simp)
 | some it=>
  rw[hi] at h
  simp only[Option.map_some,Option.some.injEq,Prod.mk.injEq] at h
  cases hz:it.zero with
  | none=>rw [hz] at h;exact absurd h.1 (by simp)
  | some z=>
   rw[hz] at h
   exact⟨it,z,rfl,hz,by simpa using h.1,h.2⟩
theorem places_part: ∃fs,Tryz.prog.underlying 165=some (.struct fs)∧fs.toList.mapM (fun f=>(Tryz.prog.info? f.type).map fun i=>(f.offset,i.size))=some [(0,512),(512,80)]:=
 ⟨_,Tryz.underlying165,by kernel_rfl⟩
theorem built_mn (p:Nat→Bool) (m:Nat→Nat):Tryz.prog.built 165 [(0, .agg (boolC 512 p)),(1, .agg (dotC m))]=some (mnC ⟨p,m⟩):=by
 obtain⟨it,z,h1,h3,h4, -⟩:=info_part
 obtain⟨fs,h2,h5⟩:=places_part
 unfold Program.built
 simp only[h1,h2,h3,h5]
 exact fill_mn _ p m z.cells h4 rfl rfl
theorem wpList_build {P:Program} {ops:Array Oper} {rest:List Oper} {op:Oper} {a:Act} {w:World} {Q:Exit→Act→World→Prop} (hgd:op.guard=none) (t:TypeId) (parts:Array (Nat×Operand)) (ho:op.op= .build t parts) (cells:Array Value)
  (hf:P.built t (parts.map fun (i,x)=>(i,a.eval x)).toList=some cells) (h:wpList P ops Q rest (a.put op.dst (.agg cells)) w):wpList P ops Q (op::rest) a w:=
 wpList_plain hgd fun _ hK=>wp_build t parts ho (by rw[hf];rfl) (by rw[hf];exact hK _ _ h)
theorem wpList_buildMn {ops:Array Oper} {rest:List Oper} {op:Oper} {a:Act} {w:World} {Q:Exit→Act→World→Prop} (hgd:op.guard=none) (x y:Operand) (ho:op.op= .build 165 #[(0,x),(1,y)]) (p:Nat→Bool) (m:Nat→Nat) (hx:a.eval x= .agg (boolC 512 p)) (hy:a.eval y= .agg (dotC m))
  (h:wpList Tryz.prog ops Q rest (a.put op.dst (.agg (mnC ⟨p,m⟩))) w):wpList Tryz.prog ops Q (op::rest) a w:=by
 refine wpList_build hgd _ _ ho (mnC ⟨p,m⟩) ?_ h
 have e1:(#[((0:Nat),x),(1,y)].map fun (i,x)=>(i,a.eval x)).toList=[(0, .agg (boolC 512 p)),(1, .agg (dotC m))]:=by simp[hx,hy]
 rw[e1]
 exact built_mn _ _
theorem wpList_rowMn {ops:Array Oper} {rest:List Oper} {op:Oper} {a:Act} {w:World} {Q:Exit→Act→World→Prop} (hgd:op.guard=none) (x:Operand) (ho:op.op= .buildSlice 90 1 #[(0,x)]) (b:Mn) (hx:a.eval x= .agg (mnC b))
  (h:wpList Tryz.prog ops Q rest (a.put op.dst (.slice (some ⟨w.heap.size,0,none⟩) 1 1)) (w.alloc (.cells (mnC b) 165))):wpList Tryz.prog ops Q (op::rest) a w:=by
 obtain⟨it,z,h1,h3,h4,h5⟩:=info_part
 refine wpList_plain hgd fun _ hK=>wp_buildSlice 90 165 1 _ ho (mnC b) it z Tryz.underlying90 h1 h3 (by rw[h5];decide) (by rw[h5];decide) ?_ (hK _ _ h)
 have e1:(#[((0:Nat),x)].map fun (i,x)=>(i,a.eval x)).toList=[(0, .agg (mnC b))]:=by simp[hx]
 rw[e1]
 exact fill_whole _ b _ (by simp[h5]) (by simp[h5])
end Go.Proofs.YtgkgdedhicnohaaGreat
