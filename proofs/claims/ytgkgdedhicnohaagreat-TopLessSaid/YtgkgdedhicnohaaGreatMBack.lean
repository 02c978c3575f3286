/- What was written is read again: whole batches. No program in sight. A packed batch is unpacked as it was. No program in sight. -/
import Derived.Test.YtgkgdedhicnohaaGreatMTold2
namespace Go.Proofs.YtgkgdedhicnohaaGreat
open Go.RowKit
theorem many_back {α: Type} {f:ByteArray→Bool→α× ByteArray×Bool} {W:α→ List UInt8} {l:List α} (hf: ∀x∈l,∀(s:ByteArray) (b:Bool) (r:List UInt8),s.data.toList=W x++r→(f s b).1=x∧(f s b).2.1.data.toList=r∧(f s b).2.2=b)
  {s:ByteArray} {bad:Bool} {r:List UInt8} (h:s.data.toList=l.flatMap W++r): ∀k,k≤l.length→(manyR f s bad k).1=l.take k∧(manyR f s bad k).2.1.data.toList=(l.drop k).flatMap W++r∧(manyR f s bad k).2.2=bad
 | 0,_=>⟨rfl,h,rfl⟩
 | k+1,hk=>by
  obtain⟨h1,h2,h3⟩:=many_back hf h k (by omega)
  have hlt:k < l.length:=by omega
  rw[List.drop_eq_getElem_cons hlt,List.flatMap_cons,List.append_assoc] at h2
  obtain⟨h4,h5,h6⟩:=hf l[k] (List.getElem_mem hlt) _ (manyR f s bad k).2.2 _ h2
  refine⟨?_,h5, ?_⟩
  ·show(manyR f s bad k).1++[(f (manyR f s bad k).2.1 (manyR f s bad k).2.2).1]=_
   rw[h1,h4,List.take_succ_eq_append_getElem hlt]
  ·exact h6.trans h3
theorem many_whole {α: Type} {f:ByteArray→Bool→α× ByteArray×Bool} {W:α→ List UInt8} {l:List α} (hf: ∀x∈l,∀(s:ByteArray) (b:Bool) (r:List UInt8),s.data.toList=W x++r→(f s b).1=x∧(f s b).2.1.data.toList=r∧(f s b).2.2=b)
  {s:ByteArray} {bad:Bool} {r:List UInt8} (h:s.data.toList=l.flatMap W++r):(manyR f s bad l.length).1=l∧(manyR f s bad l.length).2.1.data.toList=r∧(manyR f s bad l.length).2.2=bad:=by
 obtain⟨h1,h2,h3⟩:=many_back hf h l.length (Nat.le_refl _)
 rw[List.take_length] at h1
 rw[List.drop_length] at h2
 exact⟨h1,h2,h3⟩
def num1 (most:Int) (s:ByteArray) (b:Bool):Int×ByteArray×Bool:=(numV s most,numR s,numB s b most)
def pair1 (m1 m2:Int) (s:ByteArray) (b:Bool):(Int×Int)×ByteArray×Bool:=((numV s m1,numV (numR s) m2),numR (numR s),numB (numR s) (numB s b m1) m2)
theorem numsR_many (most:Int) (s:ByteArray) (bad:Bool): ∀k,numsR most s bad k=manyR (num1 most) s bad k
 | 0=>rfl
 | k+1=>by
  have ih:=numsR_many most s bad k
  rw[numsR,manyR,ih,num1]
theorem pairsR_many (m1 m2:Int) (s:ByteArray) (bad:Bool): ∀k,pairsR m1 m2 s bad k=manyR (pair1 m1 m2) s bad k
 | 0=>rfl
 | k+1=>by
  have ih:=pairsR_many m1 m2 s bad k
  rw[pairsR,manyR,ih,pair1]
theorem nums_back {l:List Int} {most:Int} (hm:most < 16777216) (hl: ∀n∈l,0≤n∧n≤most) {s:ByteArray} {bad:Bool} {r:List UInt8} (h:s.data.toList=nums l++r):(numsR most s bad l.length).1=l∧(numsR most s bad l.length).2.1.data.toList=r∧(numsR most s bad l.length).2.2=bad:=by
 rw[numsR_many]
 refine many_whole (f:=num1 most) (W:=b3) (fun n hn s b r hs=> ?_) h
 obtain⟨h1,h2,h3⟩:=numV_back hs (hl n hn).1 (by have:=(hl n hn).2;omega) (hl n hn).2 b
 unfold num1
 exact⟨h1,h2,h3⟩
theorem dotI_flat (l:List (Int×Int)):nums (dotI l)=l.flatMap fun d=>b3 d.1++b3 d.2:=by
 induction l with
 | nil=>rfl
 | cons d l ih=>
  unfold dotI nums at*
  simp only[List.flatMap_cons,List.flatMap_append,List.flatMap_nil,List.append_nil] at*
  rw[ih]
theorem pairs_back {l:List (Int×Int)} {m1 m2:Int} (hm1:m1 < 16777216) (hm2:m2 < 16777216) (hl: ∀d∈l,(0≤d.1∧d.1≤m1)∧0≤d.2∧d.2≤m2) {s:ByteArray} {bad:Bool} {r:List UInt8} (h:s.data.toList=nums (dotI l)++r):(pairsR m1 m2 s bad l.length).1=l∧(pairsR m1 m2 s bad l.length).2.1.data.toList=r∧(pairsR m1 m2 s bad l.length).2.2=bad:=by
 rw[pairsR_many]
 rw[dotI_flat] at h
 refine many_whole (f:=pair1 m1 m2) (W:=fun d=>b3 d.1++b3 d.2) (fun d hd s b r hs=> ?_) h
 rw[List.append_assoc] at hs
 obtain⟨⟨a1,a2⟩,a3,a4⟩:=hl d hd
 obtain⟨h1,h2,h3⟩:=numV_back hs a1 (by omega) a2 b
 obtain⟨h4,h5,h6⟩:=numV_back h2 a3 (by omega) a4 (numB s b m1)
 unfold pair1
 refine⟨?_,h5,h6.trans h3⟩
 dsimp only
 rw[h1,h4]
theorem kn_back {k:Kn} (hk:KnOk k) (hl:k.more.length≤60) {s:ByteArray} {r:List UInt8} (bad:Bool) (h:s.data.toList=knW k++r):knRd s bad=k∧(dotRd s bad).2.1.data.toList=r∧(dotRd s bad).2.2=bad:=by
 unfold knW at h
 rw[nums_append,nums_append,nums_append,nums_one,nums_one] at h
 simp only[List.append_assoc] at h
 have h5:=hk.len
 obtain⟨a1,a2,a3⟩:=numV_back h (by omega) (by omega) (show((k.vec.length:Nat):Int)≤5 by omega) bad
 obtain⟨b1,b2,b3'⟩:=nums_back (most:=1000) (bad:=numB s bad 5) (by decide) hk.bd a2
 have hv:vecRd s bad=numsR 1000 (numR s) (numB s bad 5) k.vec.length:=by unfold vecRd;rw [a1];simp
 rw[←hv] at b1 b2 b3'
 obtain⟨c1,c2,c3⟩:=numV_back b2 (by omega) (by omega) (show((k.more.length:Nat):Int)≤60 by omega) (vecRd s bad).2.2
 obtain⟨d1,d2,d3⟩:=pairs_back (m1:=5) (m2:=1000) (bad:=numB (vecRd s bad).2.1 (vecRd s bad).2.2 60) (by decide) (by decide) (fun d hd=>by
  have h9:=(hk.dots d hd).1
  simp only[dotOk,Bool.and_eq_true,decide_eq_true_eq] at h9
  omega) c2
 have hd:dotRd s bad=pairsR 5 1000 (numR (vecRd s bad).2.1) (numB (vecRd s bad).2.1 (vecRd s bad).2.2 60) k.more.length:=by unfold dotRd;rw [c1];simp
 rw[←hd] at d1 d2 d3
 refine⟨?_,d2,d3.trans (c3.trans (b3'.trans a3))⟩
 unfold knRd
 rw[b1,d1]
theorem cube_bd {y n:Int} (h:cubeChk y n=0):(0≤y∧y≤15)∧0≤n∧n≤15:=by
 unfold cubeChk at h
 split at h
 ·rename_i h1
  simp only[tagsB,Bool.and_eq_true,decide_eq_true_eq] at h1
  omega
 ·exact absurd h (by decide)
theorem bx_back {x:Bx} (hx:bxChk x=0) {s:ByteArray} {r:List UInt8} (bad:Bool) (h:s.data.toList=boxW x++r):(bx1 s bad).1=x∧(bx1 s bad).2.1.data.toList=r∧(bx1 s bad).2.2=bad:=by
 obtain⟨hc,hs⟩:=bxChk_zero.1 hx
 obtain⟨⟨y0,y1⟩,n0,n1⟩:=cube_bd hc
 obtain⟨hl,hb⟩:=spansChk_bounds hs
 unfold boxW at h
 rw[show([x.y,x.n,(x.sp.length:Int)]:List Int)=[x.y]++[x.n]++[(x.sp.length:Int)] from rfl,nums_append,nums_append,nums_one,nums_one,nums_one] at h
 simp only[List.append_assoc] at h
 obtain⟨a1,a2,a3⟩:=numV_back h y0 (by omega) y1 bad
 obtain⟨b1,b2,b3'⟩:=numV_back a2 n0 (by omega) n1 (numB s bad 15)
 obtain⟨c1,c2,c3⟩:=numV_back b2 (by omega) (by omega) (show((x.sp.length:Nat):Int)≤16 by omega) (numB (numR s) (numB s bad 15) 15)
 obtain⟨d1,d2,d3⟩:=pairs_back (m1:=32) (m2:=32) (bad:=numB (numR (numR s)) (numB (numR s) (numB s bad 15) 15) 16) (by decide) (by decide) (fun d hd=>by have:=hb d hd;omega) c2
 have hsp:spRd s bad=pairsR 32 32 (numR (numR (numR s))) (numB (numR (numR s)) (numB (numR s) (numB s bad 15) 15) 16) x.sp.length:=by unfold spRd;rw [c1];simp
 rw[←hsp] at d1 d2 d3
 unfold bx1 bxRd
 refine⟨?_,d2,d3.trans (c3.trans (b3'.trans a3))⟩
 dsimp only
 rw[a1,b1,d1]
theorem fil_back {l:Bxs} (hl:fChk l=0) {s:ByteArray} {r:List UInt8} (bad:Bool) (h:s.data.toList=nums [(l.length:Int)]++l.flatMap boxW++r):(filRd s bad).1=l∧(filRd s bad).2.1.data.toList=r∧(filRd s bad).2.2=bad:=by
 obtain⟨h1,h2⟩:=fChk_zero.1 hl
 rw[nums_one,List.append_assoc] at h
 obtain⟨a1,a2,a3⟩:=numV_back h (by omega) (by omega) (show((l.length:Nat):Int)≤40 by omega) bad
 have hf:filRd s bad=manyR bx1 (numR s) (numB s bad 40) l.length:=by unfold filRd;rw [a1];simp
 rw[hf]
 obtain⟨b1,b2,b3'⟩:=many_whole (f:=bx1) (W:=boxW) (bad:=numB s bad 40) (fun x hx s b r hs=>bx_back (h2 x hx) b hs) a2
 exact⟨b1,b2,b3'.trans a3⟩
theorem gone_back {g:Gn} (hg:GnOk g) {s:ByteArray} {r:List UInt8} (bad:Bool) (h:s.data.toList=goneW g++r):(gone1 s bad).1=g∧(gone1 s bad).2.1.data.toList=r∧(gone1 s bad).2.2=bad:=by
 unfold goneW at h
 rw[List.append_assoc] at h
 obtain⟨a1,a2,a3⟩:=text_back h (id_size hg.id) bad
 obtain⟨b1,b2,b3'⟩:=kn_back hg.past hg.len (textB s bad) a2
 unfold gone1
 refine⟨?_,b2,b3'.trans a3⟩
 dsimp only
 rw[a1,b1]
theorem part_back {p:Pt} (hp:PtOk p) {s:ByteArray} {r:List UInt8} (bad:Bool) (h:s.data.toList=partW p++r):(part1 s bad).1=p∧(part1 s bad).2.1.data.toList=r∧(part1 s bad).2.2=bad:=by
 unfold partW at h
 rw[List.append_assoc] at h
 obtain⟨a1,a2,a3⟩:=fil_back hp.f bad h
 obtain⟨k1,k2⟩:=knChk_zero.1 hp.k
 obtain⟨b1,b2,b3'⟩:=kn_back k1 k2 (filRd s bad).2.2 a2
 unfold part1
 refine⟨?_,b2,b3'.trans a3⟩
 dsimp only
 rw[a1,b1]
theorem ver_back {v:Ver} (hv:VerOk v) {s:ByteArray} {r:List UInt8} (bad:Bool) (h:s.data.toList=verW v++r):(ver1 s bad).1=v∧(ver1 s bad).2.1.data.toList=r∧(ver1 s bad).2.2=bad:=by
 have hd:=hv.dot
 have hp:=hv.pt
 have hb:=hv.bd
 simp only[dotOk,Bool.and_eq_true,decide_eq_true_eq] at hd
 simp only[ptOk,tagsB,Bool.and_eq_true,decide_eq_true_eq] at hp
 unfold verW at h
 rw[show([v.ds,v.dc,v.tg,v.nm,v.bd]:List Int)=[v.ds]++[v.dc]++[v.tg]++[v.nm]++[v.bd] from rfl,nums_append,nums_append,nums_append,nums_append,nums_one,nums_one,nums_one,nums_one,nums_one] at h
 simp only[List.append_assoc] at h
 obtain⟨a1,a2,a3⟩:=text_back h (id_size hv.id) bad
 obtain⟨c1,c2,c3⟩:=numV_back a2 (by omega) (by omega) (show v.ds≤5 by omega) (textB s bad)
 obtain⟨d1,d2,d3⟩:=numV_back c2 (by omega) (by omega) (show v.dc≤1000 by omega) (numB (textR s) (textB s bad) 5)
 obtain⟨e1,e2,e3⟩:=numV_back d2 (by omega) (by omega) (show v.tg≤15 by omega) (numB (numR (textR s)) (numB (textR s) (textB s bad) 5) 1000)
 obtain⟨f1,f2,f3⟩:=numV_back e2 (by omega) (by omega) (show v.nm≤32 by omega) (numB (numR (numR (textR s))) (numB (numR (textR s)) (numB (textR s) (textB s bad) 5) 1000) 15)
 obtain⟨g1,g2,g3⟩:=numV_back f2 (by omega) (by omega) (show v.bd≤1000000 by omega) (numB (numR (numR (numR (textR s)))) (numB (numR (numR (textR s))) (numB (numR (textR s)) (numB (textR s) (textB s bad) 5) 1000) 15) 32)
 have hh:(verHead s bad).1.data.toList=knW v.past++r:=by unfold verHead;dsimp only;exact g2
 have hhb:(verHead s bad).2=bad:=by unfold verHead;dsimp only;exact g3.trans (f3.trans (e3.trans (d3.trans (c3.trans a3))))
 obtain⟨k1,k2,k3⟩:=kn_back hv.past hv.len (verHead s bad).2 hh
 unfold ver1
 dsimp only
 refine⟨?_,k2,k3.trans hhb⟩
 rw[a1,c1,d1,e1,f1,g1,k1]
theorem bt_back {b:Bt} (hb:BtOk b) {s:ByteArray} (h:s.data.toList=bodyW b):btRd s=b∧(partsRd s).2.1=⟨#[]⟩∧(partsRd s).2.2=false:=by
 have hvl:=hb.vlen
 have hgl:=hb.glen
 have hpl:=hb.plen
 have hst:=hb.site
 have hsm:=hb.stamp
 unfold bodyW at h
 rw[show([b.site,b.stamp,(b.vers.length:Int)]:List Int)=[b.site]++[b.stamp]++[(b.vers.length:Int)] from rfl,nums_append,nums_append,nums_one,nums_one,nums_one,nums_one,nums_one] at h
 simp only[List.append_assoc] at h
 obtain⟨a1,a2,a3⟩:=numV_back h (by omega) (by omega) (show b.site≤5 by omega) false
 obtain⟨c1,c2,c3⟩:=numV_back a2 (by omega) (by omega) (show b.stamp≤1000000 by omega) (numB s false 5)
 have k0:(stampS s).data.toList=b3 (b.vers.length:Nat)++(b.vers.flatMap verW++(b3 (b.gone.length:Nat)++(b.gone.flatMap goneW++(b3 (b.parts.length:Nat)++b.parts.flatMap partW)))):=by unfold stampS;exact c2
 have k1:stampB s=false:=by unfold stampB;exact c3.trans a3
 obtain⟨d1,d2,d3⟩:=numV_back k0 (by omega) (by omega) (show((b.vers.length:Nat):Int)≤60 by omega) (stampB s)
 obtain⟨e1,e2,e3⟩:=many_whole (f:=ver1) (W:=verW) (bad:=numB (stampS s) (stampB s) 60) (fun x hx s b r hs=>ver_back (hb.vers x hx) b hs) d2
 have hv:versRd s=manyR ver1 (numR (stampS s)) (numB (stampS s) (stampB s) 60) b.vers.length:=by unfold versRd;rw [d1];simp
 rw[←hv] at e1 e2 e3
 obtain⟨f1,f2,f3⟩:=numV_back e2 (by omega) (by omega) (show((b.gone.length:Nat):Int)≤60 by omega) (versRd s).2.2
 obtain⟨g1,g2,g3⟩:=many_whole (f:=gone1) (W:=goneW) (bad:=numB (versRd s).2.1 (versRd s).2.2 60) (fun x hx s b r hs=>gone_back (hb.gone x hx) b hs) f2
 have hg:gonesRd s=manyR gone1 (numR (versRd s).2.1) (numB (versRd s).2.1 (versRd s).2.2 60) b.gone.length:=by unfold gonesRd;rw [f1];simp
 rw[←hg] at g1 g2 g3
 obtain⟨i1,i2,i3⟩:=numV_back g2 (by omega) (by omega) (show((b.parts.length:Nat):Int)≤30 by omega) (gonesRd s).2.2
 obtain⟨j1,j2,j3⟩:=many_whole (f:=part1) (W:=partW) (bad:=numB (gonesRd s).2.1 (gonesRd s).2.2 30) (r:=[]) (fun x hx s b r hs=>part_back (hb.parts x hx) b hs) (by rw[List.append_nil];exact i2)
 have hp:partsRd s=manyR part1 (numR (gonesRd s).2.1) (numB (gonesRd s).2.1 (gonesRd s).2.2 30) b.parts.length:=by unfold partsRd;rw [i1];simp
 rw[←hp] at j1 j2 j3
 refine⟨?_, ?_,j3.trans (i3.trans (g3.trans (f3.trans (e3.trans (d3.trans k1)))))⟩
 ·unfold btRd
  rw[a1,c1,e1,g1,j1]
 ·have:=bytes_list (partsRd s).2.1
  rw[j2] at this
  exact this.symm
theorem pack_ok {b:Bt} (h:packE b=0):BtOk b:=by
 unfold packE at h
 split at h
 ·rename_i h1;exact absurd h h1
 ·rename_i h1;exact batchChk_zero.1 (by omega)
theorem pack_back {b:Bt} (h:packE b=0):upE (packS b)=0∧upB (packS b)=b:=by
 have hb:=pack_ok h
 obtain⟨h1,h2,h3⟩:=pack_size h
 have hg:=pack_good h
 have h4:=split3 (s:=packS b) (by omega)
 have hl:(packS b).data.toList=bodyW b++b3 (sumOf ⟨(bodyW b).toArray⟩):=by rw[h3];unfold fullW;rw [nums_one]
 have h5:(upT (packS b)).data.toList=bodyW b:=by
  have h6:(upT (packS b)).data.toList.length=(bodyW b).length:=by
   have h7:=congrArg List.length h4
   rw[hl] at h7
   simp only[List.length_append] at h7
   have h8: ∀n,(b3 n).length=3:=fun _=>rfl
   rw[h8,h8] at h7
   omega
  rw[hl] at h4
  exact(List.append_inj h4.symm h6).1
 obtain⟨k1,k2,k3⟩:=bt_back hb h5
 have hbad:upBad (upT (packS b))=false:=by
  unfold upBad
  rw[k1,k2,k3,batchChk_zero.2 hb];simp
 have hE:upE (packS b)=0:=by
  unfold upE
  rw[if_neg (by omega),if_neg (by omega),if_neg (by rw[hg];simp),if_neg (by rw[hbad];decide)]
 exact⟨hE,by unfold upB;rw [if_pos hE,k1]⟩
end Go.Proofs.YtgkgdedhicnohaaGreat
