/- A town: what it holds, and where it lies in memory. No walk here. -/
import Derived.Test.YtgkgdedhicnohaaGreatMSiteD
namespace Go.Proofs.YtgkgdedhicnohaaGreat
open Go.RowKit
structure AskS where
 site:Int
 stamp:Int
 P:Nat→Nat→Bool
 S:List SP
structure AskSOk (a:AskS):Prop where
 site:0≤a.site∧a.site < 5
 stamp:0≤a.stamp∧a.stamp≤1000000
 S: ∀x∈a.S,SPOk x
 ls:a.S.length≤30
def askS (s:SiteS):AskS:=⟨s.me,s.stamp,s.P,knownS s⟩
theorem askS_ok {s:SiteS} (h:SiteOk s):AskSOk (askS s):=⟨h.me,h.stamp,h.known,h.klen⟩
inductive LetS where
 | ask (to:Nat) (a:AskS)
 | bat (to:Nat) (b:BtS)
structure TownS where
 sites:List SiteS
 way:List LetS
theorem owns_stp {G:Nat→Prop} {w w':World} {base e size n:Nat} {v:Value} {xs:List Value} (h:w.ownsRow base e size v n xs) (hs:Stp G w w') (hG: ∀q cs,G q→w.heap[q]? =some (Obj.cells cs e (0,0))→False):w'.ownsRow base e size v n xs:=by
 refine⟨h.1, ?_⟩
 rcases h.2 with h0 | ⟨g,cap,cur,h1,h2,h3,h4⟩
 ·exact .inl h0
 ·exact .inr ⟨g,cap,cur,h1,h2,hs.block h3 fun hg=>hG g cur hg h3,h4⟩
theorem heap_ty {w:World} {q:Nat} {c d:Array Value} {t u:TypeId} {x y:Nat×Nat} (h1:w.heap[q]? =some (Obj.cells c t x)) (h2:w.heap[q]? =some (Obj.cells d u y)):t=u:=by
 rw[h1] at h2;injection h2 with h2;injection h2
theorem SiteAt.ty {w:World} {b g:Nat} {s:SiteS} (h:SiteAt w b g s): ∃cs,w.heap[g]? =some (Obj.cells cs 128 (0,0)):=by
 obtain⟨f,l,p,h1, -⟩:=h.cells;exact ⟨_,h1⟩
end Go.Proofs.YtgkgdedhicnohaaGreat
