/- Towards what desk.Run answers. -/
import Derived.Test.YtajgndoiddmbmaaGreatDoorMDots
namespace Go.Proofs.YtajgndoiddmbmaaGreatDoor
open Go.RowKit
theorem Sj (ks:List Kn) {s c:Int} (hc:1≤c):decide (c≤jA (ks.map Kn.vec) s)=ks.any fun k=>decide (c≤aQ k.vec s):=by
 refine lT (p:=fun ks=>decide (c≤jA (ks.map Kn.vec) s)=ks.any fun k=>decide (c≤aQ k.vec s)) ?_ ?_ ks
 ·simp[jA];omega
 ·intro l k ih;rw[List.map_append,List.map_cons,List.map_nil,AZ,List.any_append,←ih,Bool.eq_iff_iff];simp only[List.any_cons,List.any_nil,Bool.or_false,Bool.or_eq_true,decide_eq_true_eq];omega
theorem TS {ks:List Kn} (h: ∀k∈ks,gz k): ∀l∈ks.map Kn.vec,Ia l:=by
 intro l hl;obtain⟨k,hk,rfl⟩:=List.mem_map.1 hl;exact⟨(h k hk).len,(h k hk).bd⟩
def wC (base e size:Nat) (v:Value) (w w':World):Prop:= ∃n xs,w.ownsRow base e size v n xs∧w.grownBy w' v.ownBlock
theorem wC.other {base e size b2 e2 s2 n:Nat} {v u:Value} {w w':World} {ys:List Value} (h:wC base e size v w w') (hu:w.ownsRow b2 e2 s2 u n ys) (hne:e2≠e):w'.ownsRow b2 e2 s2 u n ys:=by
 obtain⟨m,xs,h1,h2⟩:=h;exact fE hu h1 hne h2
theorem wC.keep {base e size g:Nat} {v:Value} {w w':World} {cs:Array Value} {t:TypeId} {r:Nat×Nat} (h:wC base e size v w w') (hg:w.heap[g]? =some (Obj.cells cs t r)) (hne:t≠e):w'.heap[g]? =some (Obj.cells cs t r):=by
 obtain⟨n,xs,h1,h2⟩:=h;exact fB h1 h2 hg hne
theorem wC.apart {base e size g:Nat} {v:Value} {w w':World} {o:Obj} (h:wC base e size v w w') (hg:w.heap[g]? =some o) (hne:v.ownBlock≠some g):w'.heap[g]? =some o:=by
 obtain⟨n,xs, -,h2⟩:=h;rw [h2.block g (Array.getElem?_eq_some_iff.1 hg).1 (fun e=>hne e.symm)];exact hg
theorem Fu.other {base e size b2 e2 s2 n:Nat} {u:Value} {w w':World} {ys:List Value} (h:Fu base e size w w') (hu:w.ownsRow b2 e2 s2 u n ys) (hne:e2≠e):w'.ownsRow b2 e2 s2 u n ys:=by
 obtain⟨v,m,xs,h1,h2⟩:=h;exact fE hu h1 hne h2
def af4 (EX:List (Nat×Array Value×TypeId)) (w:World):Prop:= ∀b∈EX,w.heap[b.1]? =some (Obj.cells b.2.1 b.2.2 (0,0))∧b.2.2≠115∧b.2.2≠103
structure uQ (B:Nat) (w0:World) (EX:List (Nat×Array Value×TypeId)) (dv:Value) (w:World):Prop where
 aW:Below B w0 w
 ex:af4 EX w
 low: ∀k,dv.ownBlock=some k→k < w.heap.size
theorem uQ.drew {B:Nat} {w0:World} {EX:List (Nat×Array Value×TypeId)} {dv:Value} {w:World} (h:uQ B w0 EX dv w):uQ B w0 EX dv w.drew:=⟨h.aW.drew,h.ex,h.low⟩
theorem uQ.blk {B:Nat} {w0:World} {EX:List (Nat×Array Value×TypeId)} {dv:Value} {w:World} {b:Nat} {c:Array Value} {t:TypeId} (h:uQ B w0 ((b,c,t)::EX) dv w):w.heap[b]? =some (Obj.cells c t (0,0)):=(h.ex (b,c,t) List.mem_cons_self).1
theorem uQ.alloc {B:Nat} {w0:World} {EX:List (Nat×Array Value×TypeId)} {dv:Value} {w:World} (h:uQ B w0 EX dv w) (hB:B≤w0.heap.size) (o:Obj):uQ B w0 EX dv (w.alloc o):=
 ⟨h.aW.alloc (Nat.le_trans hB h.aW.size) _,fun b hb=>⟨aO _ (h.ex b hb).1,(h.ex b hb).2⟩,fun k hk=>by have:=h.low k hk;simp only[World.size_alloc];omega⟩
theorem uQ.app {B e size n:Nat} {w0:World} {EX:List (Nat×Array Value×TypeId)} {dv v:Value} {w w':World} {xs:List Value} (h:uQ B w0 EX dv w) (hB:B≤w0.heap.size) (he:e=115∨e=103) (h1:w.ownsRow B e size v n xs) (h2:w.grownBy w' v.ownBlock):uQ B w0 EX dv w':=
 ⟨h.aW.grown h2 (Nat.le_trans hB h.aW.size) fun k hk=>(h1.lt k hk).1,fun b hb=>⟨fB h1 h2 (h.ex b hb).1 (by rcases he with rfl | rfl;exact (h.ex b hb).2.1;exact (h.ex b hb).2.2),(h.ex b hb).2⟩,fun k hk=>by have:=h.low k hk;have:=h2.size;omega⟩
end Go.Proofs.YtajgndoiddmbmaaGreatDoor
