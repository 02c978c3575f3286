/- What the meaning of parts says; what is known after one asked another. No walk here. Written by a small program (gen/siteknows.py). -/
import Derived.Test.YtgkgdedhicnohaaGreatRef8
import Derived.Test.YtgkgdedhicnohaaGreatMSiteD
namespace Go.Proofs.YtgkgdedhicnohaaGreat
open Go.RowKit
theorem any_pw {α β: Type} {f:α→ Bool} {g:β→ Bool} : ∀ {l:List α} {m:List β},l.length=m.length→(∀i (h:i < l.length) (h2:i < m.length),f l[i]=g m[i])→l.any f=m.any g
 | [],[],_,_=>rfl
 | [],_::_,h,_=>absurd h (by simp)
 | _::_,[],h,_=>absurd h (by simp)
 | x::l,y::m,h,hp=>by
  rw[List.any_cons,List.any_cons,hp 0 (by simp) (by simp) |> (fun h:f x=g y=>h),any_pw (l:=l) (m:=m) (by simpa using h) fun i h1 h2=>by
   have:=hp (i+1) (by simp;omega) (by simp;omega)
   simpa using this]
theorem mean_knows {A:List Pt} {L:List Mn} (hl:L.length=A.length) (hm: ∀i (h:i < L.length) (h2:i < A.length),MeanOf A[i] L[i]) {t n s c:Nat} (ht:t < 16) (hn:n < 32) (hs:s < 5) (h1:1≤c) (hc:c < 1024):
  mnK L t n s c=knowsS (A.map sem) t n s c:=by
 unfold mnK knowsS
 rw[List.any_map]
 refine any_pw hl fun i h h2=> ?_
 obtain⟨e1,e2,e3⟩:=hm i h h2
 have e4:=e3 s c hs h1 hc
 show(L[i].p (32*t+n)&&memD L[i].m s c)=(ptsOf A[i].f t n&&knIn A[i].k s c)
 rw[e4,e1,ptsOf_in ht hn]
 unfold pF
 rw[show(32*t+n) / 32=t by omega,show(32*t+n)%32=n by omega]
 rfl
theorem mean_word {A:List Pt} {L:List Mn} (hl:L.length=A.length) (hm: ∀i (h:i < L.length) (h2:i < A.length),MeanOf A[i] L[i]): ∀a∈L,DWord a.m:=fun a ha=>by
 obtain⟨i,hi,rfl⟩:=List.getElem_of_mem ha
 exact(hm i hi (by omega)).2.1
theorem hasB_pts9 {M:Bxs} {t n:Nat} (hc:fChk M=0) (h:ptOk t n=true):hasB M t n=ptsOf M t n∧hasEr M t n=0:=by
 obtain⟨h1,h2,h3,h4⟩:=pt_rng h
 unfold hasB hasEr
 rw[if_pos hc,if_pos hc,if_pos h,if_pos h,ptsOf_in (by omega) (by omega)]
 exact⟨rfl,rfl⟩
structure KnowsOk (a b a1:SiteS):Prop where
 e:tookE a (syncB a b)=0
 made:a1.made=a.made
 len:(knownS a1).length≤30
 own: ∀t n i:Nat,t < 16→n < 32→1≤i→(i:Int)≤a.made→knowsS (knownS a1) t n ((0:Nat):Int) i=true
 oth: ∀t n i:Nat,t < 16→n < 32→1≤i→(i:Int)≤b.made+1→knowsS (knownS a1) t n ((1:Nat):Int) i=(decide ((i:Int)≤b.made)&&a.P t n)
theorem knows_ok {U:List Ver} {a b:SiteS} (hU:Uni U) (ha:SiteOk a) (hb:SiteOk b) (haU: ∀x∈a.L,x∈U) (hbU: ∀x∈b.L,x∈U) (hla:a.S=[]) (hlb:b.S=[]) (hma:a.me=0) (hmb:b.me=1) (ha12:a.made≤12) (hb12:b.made≤12):
  KnowsOk a b (tookS a (syncB a b)):=by
 have h:=sync_took hU ha hb haU hbU (by rw[hla,hlb];decide)
 have ok1:SiteOk (tookS a (syncB a b)):=tookS_ok ha (syncB_ok ha hb)
 have e1:=h.made
 have e2:=h.me
 refine⟨h.e,e1,ok1.klen,fun t n i ht hn h1 h2=> ?_,fun t n i ht hn h1 h2=> ?_⟩
 ·rw[knows_known ok1 ht hn (by decide) (by decide) (by omega) (by omega),e1,e2,hma,decide_eq_true (show((0:Nat):Int)=0 from rfl),decide_eq_true h2]
  rfl
 ·rw[knows_known ok1 ht hn (by decide) (by decide) (by omega) (by omega),h.knows ha hb ht hn (by decide) (by decide) (by omega) (by omega),e2,hma,hla,knows_known hb ht hn (by decide) (by decide) (by omega) (by omega),hmb,hlb,
   decide_eq_false (show ¬((1:Nat):Int)=0 by decide),decide_eq_true (show((1:Nat):Int)=1 from rfl)]
  simp[knowsS]
end Go.Proofs.YtgkgdedhicnohaaGreat
