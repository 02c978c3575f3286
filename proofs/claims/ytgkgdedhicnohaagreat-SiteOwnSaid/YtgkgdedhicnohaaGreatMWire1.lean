/- Batches: what wire.Check does. What a writer of bytes does: numbers as three bytes each. -/
import Derived.Test.YtgkgdedhicnohaaGreatMPart1
import Derived.Lib.AppendStr
namespace Go.Proofs.YtgkgdedhicnohaaGreat
open Go.RowKit
structure Gn where
 id:ByteArray
 past:Kn
def goneE:Elt Gn where
 size:=3
 El w g cs:= ∃u x,cs=[.string g.id,u,x]∧KnAt w u x g.past
 len:=by rintro w g cs ⟨u,x,rfl, -⟩;rfl
 one:=by
  rintro w g cs ⟨u,x,rfl,h⟩ z hz
  obtain⟨a,c,rfl⟩:=h.vec.shape
  obtain⟨b,d,rfl⟩:=h.more.shape
  simp only[List.mem_cons,List.not_mem_nil,or_false] at hz
  rcases hz with rfl | rfl | rfl <;> rfl
 sub:=by rintro w w' g cs ⟨u,x,rfl,h⟩ hs;exact ⟨u,x,rfl,h.sub hs⟩
 pos:=by decide
theorem gone_cells {w wr:World} {b off i:Nat} {g:Gn} {c:List Value} (hb:b < w.heap.size) (hbl:Below w.heap.size w wr) (hE:goneE.El w g c) (hc: ∀j x,c[j]? =some x→w.cell? ⟨b,off+(i*goneE.size+j),none⟩=some x):
  ∃u x,wr.cell? ⟨b,off+i*3,none⟩=some (.string g.id)∧wr.cell? ⟨b,off+i*3+1,none⟩=some u∧wr.cell? ⟨b,off+i*3+2,none⟩=some x∧KnAt wr u x g.past:=by
 obtain⟨u,x,rfl,h1⟩:=hE
 have hk:=fun (j:Nat) (y:Value) (hy:[.string g.id,u,x][j]? =some y)=>row3 (w:=wr) (b:=b) (off:=off) (i:=i) (fun j y hy=>(hbl.cell (p:=⟨b,off+(i*3+j),none⟩) hb).trans (hc j y hy)) hy
 exact⟨u,x,by simpa using hk 0 _ rfl,hk 1 _ rfl,hk 2 _ rfl,h1.below hbl⟩
structure Bt where
 site:Int
 stamp:Int
 vers:List Ver
 gone:List Gn
 parts:List Pt
structure BtAt (w:World) (vv gv pv:Value) (b:Bt):Prop where
 vers:RowAt verE w vv b.vers
 gone:RowAt goneE w gv b.gone
 parts:RowAt partE w pv b.parts
theorem BtAt.below {w w':World} {vv gv pv:Value} {b:Bt} (h:BtAt w vv gv pv b) (hb:Below w.heap.size w w'):BtAt w' vv gv pv b:=⟨h.vers.below hb,h.gone.below hb,h.parts.below hb⟩
def firstE {α: Type} (f:α→ Int):List α→ Int
 | []=>0
 | a::l=>if f a≠0 then f a else firstE f l
theorem firstE_step {α: Type} (f:α→ Int) {l:List α} {k:Nat} (h:k < l.length):firstE f (l.drop k)=if f l[k]≠0 then f l[k] else firstE f (l.drop (k+1)):=by
 rw[List.drop_eq_getElem_cons h];rfl
theorem firstE_zero {α: Type} (f:α→ Int): ∀ {l:List α},firstE f l=0↔ ∀x∈l,f x=0
 | []=>by simp[firstE]
 | a::l=>by
  unfold firstE
  by_cases h:f a≠0
  ·rw[if_pos h];exact ⟨fun e=>absurd e h,fun k=>k a (by simp)⟩
  ·rw[if_neg h,firstE_zero f]
   have h0:f a=0:=by simpa using h
   simp[h0]
def goneChk (g:Gn):Int:=if idOk g.id=false then 3 else knChk g.past
def b3 (n:Int):List UInt8:=[UInt8.ofNat (n / 65536%256).toNat,UInt8.ofNat (n / 256%256).toNat,UInt8.ofNat (n%256).toNat]
end Go.Proofs.YtgkgdedhicnohaaGreat
