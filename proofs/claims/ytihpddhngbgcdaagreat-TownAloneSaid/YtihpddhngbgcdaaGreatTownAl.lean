/- A town of which one site alone makes: its shelf and a map of the last dots. No walk here. -/
import Derived.Test.YtihpddhngbgcdaaGreatMTownB
import Derived.Test.YtihpddhngbgcdaaGreatMSiteD
import Derived.Test.YtihpddhngbgcdaaGreatMShelf1
import Derived.Deep.CutBlock
import Derived.Test.YtihpddhngbgcdaaGreatTownB
import Derived.Test.YtihpddhngbgcdaaGreatMPartO
import Derived.Test.YtihpddhngbgcdaaGreatMTown0
import Derived.Test.YtihpddhngbgcdaaGreatMKnow5
import Derived.Test.YtihpddhngbgcdaaGreatMElt
import Derived.Test.YtihpddhngbgcdaaGreatMPure
import Derived.Test.YtihpddhngbgcdaaGreatMKnow1
import Derived.Test.YtihpddhngbgcdaaGreatChecked
import Derived.Test.YtihpddhngbgcdaaGreatMClone
import Derived.Laws.Bits64b
import Derived.Test.YtihpddhngbgcdaaGreatMClaims
import Derived.Deep.QuietTactic
import Derived.BigQuiet
import Derived.Test.YtihpddhngbgcdaaGreatMShelf4
import Derived.Maps.OwnSet
import Derived.Maps.OwnOps
namespace Go.Proofs.YtihpddhngbgcdaaGreat
open Go.RowKit Go.Maps
abbrev DV:=DataW Value
def kid (id:ByteArray):Lit:= .string id.data.toList
def dotV (v:Ver):Value:= .agg #[.int .i64 v.ds, .int .i64 v.dc]
def heldR (v:Value):Option (DV×List MemPlace):=some (.held v,[])
theorem kid_inj {a b:ByteArray} (h:kid a=kid b):a=b:=by
 unfold kid at h
 have h1:a.data.toList=b.data.toList:=by simpa using h
 cases a;cases b
 simp only at h1
 congr 1
 exact Array.toList_inj.1 h1
theorem kid_key (id:ByteArray):WideAt.IsKeyLit (kid id):=trivial
structure AlI (D:DV) (L:List Ver):Prop where
 tidy:Tidy D
 one: ∀x∈L,∀y∈L,x.id=y.id→x=y
 at_: ∀v∈L,∀z,D.atKey (kid v.id) z= .held (dotV v)
 has: ∀v∈L,Maps.has D (kid v.id)=true
 src: ∀es,D= .map es→ ∀p∈es,∃v∈L,p.1=kid v.id
theorem AlI.nil:AlI (.map []) []:=⟨tidy_empty,by simp,by simp,by simp,fun es h p hp=>by simp only[DataW.map.injEq] at h;subst h;simp at hp⟩
theorem AlI.put {D:DV} {L L':List Ver} {v:Ver} (h:AlI D L) (hm: ∀x,x∈L'↔x=v∨x∈L∧x.id≠v.id):AlI (D.put (kid v.id) (.held (dotV v))) L':=by
 refine⟨h.tidy.put (kid_key _) _,fun x hx y hy e=> ?_,fun x hx z=> ?_,fun x hx=> ?_,fun k hk p hp=> ?_⟩
 ·rcases(hm x).1 hx with rfl | ⟨h1,h2⟩ <;> rcases(hm y).1 hy with rfl | ⟨h3,h4⟩
  ·rfl
  ·exact absurd e.symm h4
  ·exact absurd e h2
  ·exact h.one x h1 y h3 e
 ·rcases(hm x).1 hx with rfl | ⟨h1,h2⟩
  ·exact atKey_put_same h.tidy.isMap (kid_key _) _ _
  ·rw[atKey_put_other (fun e=>h2 (kid_inj e))];exact h.at_ x h1 z
 ·rcases(hm x).1 hx with rfl | ⟨h1,h2⟩
  ·exact has_put_same h.tidy.isMap (kid_key _) _
  ·rw[has_put_other (fun e=>h2 (kid_inj e))];exact h.has x h1
 ·obtain⟨es0,rfl, -⟩:=h.tidy
  have hk:DataW.map (DataW.insert (kid v.id, .held (dotV v)) (es0.filter fun p=> !p.1.sameKey (kid v.id)))=DataW.map k:=hk
  simp only[DataW.map.injEq] at hk
  subst hk
  rcases List.mem_cons.1 ((WideShapes.insert_perm _ _).mem_iff.1 hp) with rfl | h1
  ·exact⟨v,(hm v).2 (.inl rfl),rfl⟩
  ·obtain⟨h2,h3⟩:=List.mem_filter.1 h1
   obtain⟨x,h4,h5⟩:=h.src es0 rfl p h2
   refine⟨x,(hm x).2 (.inr ⟨h4,fun e=> ?_⟩),h5⟩
   rw[h5,e,WideAt.sameKey_self (kid_key _)] at h3
   exact absurd h3 (by decide)
theorem nodup_le {α: Type} [DecidableEq α]: ∀ {a b:List α},a.Nodup→(∀x∈a,x∈b)→a.length≤b.length
 | [],_,_,_=>Nat.zero_le _
 | x::a,b,hn,hs=>by
  have hx:=hs x (by simp)
  have h1:=nodup_le (a:=a) (b:=b.erase x) (List.nodup_cons.1 hn).2 fun y hy=>(List.mem_erase_of_ne (fun e=>(List.nodup_cons.1 hn).1 (by rw[←e];exact hy))).2 (hs y (by simp[hy]))
  rw[List.length_erase_of_mem hx] at h1
  have:=List.length_pos_of_mem hx
  simp only[List.length_cons];omega
theorem AlI.size {D:DV} {L:List Ver} (h:AlI D L) (hn:L.Nodup):Maps.size D=L.length:=by
 obtain⟨es,rfl,hp⟩:=h.tidy
 have n1:(es.map Prod.fst).Nodup:=List.pairwise_map.2 hp
 have n2:(L.map fun v=>kid v.id).Nodup:=by
  refine List.pairwise_map.2 (hn.imp_of_mem fun {a b} ha hb hab e=>hab (h.one a ha b hb (kid_inj e)))
 have s1: ∀x∈es.map Prod.fst,x∈L.map fun v=>kid v.id:=fun x hx=>by
  obtain⟨p,hp1,rfl⟩:=List.mem_map.1 hx
  obtain⟨v,hv,e⟩:=h.src es rfl p hp1
  exact List.mem_map.2 ⟨v,hv,e.symm⟩
 have s2: ∀x∈L.map (fun v=>kid v.id),x∈es.map Prod.fst:=fun x hx=>by
  obtain⟨v,hv,rfl⟩:=List.mem_map.1 hx
  have:=h.has v hv
  rw[Maps.has_eq] at this
  obtain⟨p,h1,h2⟩:=List.any_eq_true.1 this
  exact List.mem_map.2 ⟨p,h1,WideAt.sameKey_eq h2⟩
 haveI:DecidableEq Lit:=fun a b=>Classical.propDecidable (a=b)
 have a1:=nodup_le n1 s1
 have a2:=nodup_le n2 s2
 simp only[List.length_map] at a1 a2
 show es.length=_
 omega
structure AlS (k:Nat) (D:DV) (s:SiteS):Prop where
 al:AlI D s.L
 inv: ∃H,SiteI H s∧Hx H∧H.length≤k
 made:s.made≤k
theorem AlS.up {k k':Nat} {D:DV} {s:SiteS} (h:AlS k D s) (hk:k≤k'):AlS k' D s:=by
 obtain⟨h1,⟨H,h2,h3,h4⟩,h5⟩:=h
 exact⟨h1,⟨H,h2,h3,by omega⟩,by omega⟩
theorem AlS.make {k:Nat} {D:DV} {s:SiteS} (h:AlS k D s) (hk:k≤20) {id:ByteArray} (hid:idOk id=true) {t n bd:Int} (hb:madeB t n bd=false):
  madeE s id t n bd=0∧AlS (k+1) (D.put (kid id) (.held (.agg #[.int .i64 s.me, .int .i64 (s.made+1)]))) (madeS s id t n bd):=by
 obtain⟨h1,⟨H,h2,h3,h4⟩,h5⟩:=h
 have he:=madeE_ok (h2.made h3) h2.ok (by omega) (by omega) hid hb
 obtain⟨a1,a2, -, -⟩:=h2.makes h3 (by omega) he
 refine⟨he,⟨?_,⟨_,a2,a1,by rw[List.length_append,List.length_singleton];omega⟩,by rw[made_eq he];show s.made+1≤_;omega⟩⟩
 have hm:=made_mem (h2.made h3) h2.ok (by omega) (by omega) hid hb
 have:=AlI.put (v:=madeV s id t n bd) h1 (L':=putL s.L (madeV s id t n bd)) hm
 rw[made_eq he]
 exact this
theorem AlS.new (me:Int) (hm:0≤me∧me < 5) (p:Nat→Nat→Bool):AlS 0 (.map []) (newS me p):=⟨AlI.nil,⟨[],siteI_new me hm p,Hx.nil,Nat.le_refl _⟩,Int.le_refl _⟩
theorem AlS.size {k:Nat} {D:DV} {s:SiteS} (h:AlS k D s):Maps.size D=s.L.length:=by
 obtain⟨h1,⟨H,h2, -, -⟩, -⟩:=h
 exact h1.size (h2.ok.L.ord.imp fun {a b} hab e=>by subst e;unfold vlt at hab;rw [(vcmp_zero a a).2 ⟨rfl,rfl,rfl⟩] at hab;exact absurd hab (by decide))
end Go.Proofs.YtihpddhngbgcdaaGreat
