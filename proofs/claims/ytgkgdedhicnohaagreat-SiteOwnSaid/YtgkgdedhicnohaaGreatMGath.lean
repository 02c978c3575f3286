/- Sets of dots put together: what vectors and dots of several sets say. No program in sight. Two rows of the call's own that are appended to in whatever order: what each append leaves of the other. No program in sight. -/
import Derived.Test.YtgkgdedhicnohaaGreatMCl3
namespace Go.Proofs.YtgkgdedhicnohaaGreat
open Go.RowKit
theorem vmax_any (ks:List Kn) {s c:Int} (hc:1≤c):decide (c≤vmaxAt (ks.map Kn.vec) s)=ks.any fun k=>decide (c≤vecAt k.vec s):=by
 refine snoc_ind (p:=fun ks=>decide (c≤vmaxAt (ks.map Kn.vec) s)=ks.any fun k=>decide (c≤vecAt k.vec s)) ?_ ?_ ks
 ·simp[vmaxAt];omega
 ·intro l k ih
  rw[List.map_append,List.map_cons,List.map_nil,vmaxAt_snoc,List.any_append,←ih,Bool.eq_iff_iff]
  simp only[List.any_cons,List.any_nil,Bool.or_false,Bool.or_eq_true,decide_eq_true_eq]
  omega
theorem gather (ks:List Kn) {s c:Int} (hc:1≤c):(decide (c≤vmaxAt (ks.map Kn.vec) s) || decide ((s,c)∈ks.flatMap Kn.more))=ks.any fun k=>knIn k s c:=by
 rw[vmax_any ks hc,Bool.eq_iff_iff]
 simp only[Bool.or_eq_true,List.any_eq_true,decide_eq_true_eq,List.mem_flatMap,knIn]
 constructor
 ·rintro(⟨k,hk,h⟩ | ⟨k,hk,h⟩)
  ·exact⟨k,hk, .inl h⟩
  ·exact⟨k,hk, .inr h⟩
 ·rintro⟨k,hk,h | h⟩
  ·exact .inl ⟨k,hk,h⟩
  ·exact .inr ⟨k,hk,h⟩
theorem gvecs_ok {ks:List Kn} (h: ∀k∈ks,KnOk k): ∀l∈ks.map Kn.vec,vecOk l:=by
 intro l hl
 obtain⟨k,hk,rfl⟩:=List.mem_map.1 hl
 exact⟨(h k hk).len,(h k hk).bd⟩
theorem gdots_ok {ks:List Kn} (h: ∀k∈ks,KnOk k): ∀d∈ks.flatMap Kn.more,dotOk d=true:=by
 intro d hd
 obtain⟨k,hk,hd⟩:=List.mem_flatMap.1 hd
 exact((h k hk).dots d hd).1
theorem gdots_len {ks:List Kn} {m:Nat} (h: ∀k∈ks,k.more.length≤m):(ks.flatMap Kn.more).length≤ks.length*m:=by
 induction ks with
 | nil=>simp
 | cons k ks ih=>
  have h1:=h k (by simp)
  have h2:=ih fun x hx=>h x (by simp[hx])
  rw[List.flatMap_cons,List.length_append,List.length_cons,Nat.succ_mul];omega
theorem AppR.other {base e size b2 e2 s2 n:Nat} {u:Value} {w w':World} {ys:List Value} (h:AppR base e size w w') (hu:w.ownsRow b2 e2 s2 u n ys) (hne:e2≠e):w'.ownsRow b2 e2 s2 u n ys:=by
 obtain⟨v,m,xs,h1,h2⟩:=h;exact own_kept2 hu h1 hne h2
def Blks (EX:List (Nat×Array Value×TypeId)) (w:World):Prop:= ∀b∈EX,w.heap[b.1]? =some (Obj.cells b.2.1 b.2.2 (0,0))∧b.2.2≠35∧b.2.2≠41
structure GSt (B:Nat) (w0:World) (EX:List (Nat×Array Value×TypeId)) (dv:Value) (w:World):Prop where
 bel:Below B w0 w
 ex:Blks EX w
 low: ∀k,dv.ownBlock=some k→k < w.heap.size
theorem GSt.drew {B:Nat} {w0:World} {EX:List (Nat×Array Value×TypeId)} {dv:Value} {w:World} (h:GSt B w0 EX dv w):GSt B w0 EX dv w.drew:=⟨h.bel.drew,h.ex,h.low⟩
theorem GSt.blk {B:Nat} {w0:World} {EX:List (Nat×Array Value×TypeId)} {dv:Value} {w:World} {b:Nat} {c:Array Value} {t:TypeId} (h:GSt B w0 ((b,c,t)::EX) dv w):w.heap[b]? =some (Obj.cells c t (0,0)):=(h.ex (b,c,t) List.mem_cons_self).1
theorem GSt.alloc {B:Nat} {w0:World} {EX:List (Nat×Array Value×TypeId)} {dv:Value} {w:World} (h:GSt B w0 EX dv w) (hB:B≤w0.heap.size) (o:Obj):GSt B w0 EX dv (w.alloc o):=
 ⟨h.bel.alloc (Nat.le_trans hB h.bel.size) _,fun b hb=>⟨alloc_keep _ (h.ex b hb).1,(h.ex b hb).2⟩,fun k hk=>by have:=h.low k hk;simp only[World.size_alloc];omega⟩
theorem GSt.app {B e size n:Nat} {w0:World} {EX:List (Nat×Array Value×TypeId)} {dv v:Value} {w w':World} {xs:List Value} (h:GSt B w0 EX dv w) (hB:B≤w0.heap.size) (he:e=35∨e=41) (h1:w.ownsRow B e size v n xs) (h2:w.grownBy w' v.ownBlock):GSt B w0 EX dv w':=
 ⟨h.bel.grown h2 (Nat.le_trans hB h.bel.size) fun k hk=>(h1.lt k hk).1,fun b hb=>⟨grown_keep h1 h2 (h.ex b hb).1 (by rcases he with rfl | rfl;exact (h.ex b hb).2.1;exact (h.ex b hb).2.2),(h.ex b hb).2⟩,fun k hk=>by have:=h.low k hk;have:=h2.size;omega⟩
end Go.Proofs.YtgkgdedhicnohaaGreat
