/- What WireCut does: it returns true. One byte of a batch's bytes is another one: the sum tells. No program in sight. -/
import Derived.Test.YtgkgdedhicnohaaGreatMWireQ
import Derived.Test.YtgkgdedhicnohaaGreatMShelf7
import Derived.Test.YtgkgdedhicnohaaGreatWire8
namespace Go.Proofs.YtgkgdedhicnohaaGreat
open Go.RowKit
theorem pack_size {b:Bt} (h:packE b=0):18≤(packS b).size∧(packS b).size≤20000∧packS b=⟨(fullW b).toArray⟩:=by
 have e:packS b=⟨(fullW b).toArray⟩:=by unfold packS;rw [if_pos h]
 have hs:(packS b).size=(fullW b).length:=by rw[e,size_list]
 unfold packE at h
 split at h
 ·rename_i h1;exact absurd h h1
 split at h
 ·exact absurd h (by decide)
 rename_i h2
 refine⟨?_,by omega,e⟩
 rw[hs]
 unfold fullW bodyW
 simp only[List.length_append,nums_len,List.length_cons,List.length_nil]
 omega
theorem b3_inj {a b:Int} (ha:0≤a) (ha2:a < 16777216) (hb:0≤b) (hb2:b < 16777216) (h:b3 a=b3 b):a=b:=by
 have h1:=num_back (s:=⟨(b3 a).toArray⟩) (n:=a) (r:=[]) (by simp) ha ha2
 have h2:=num_back (s:=⟨(b3 b).toArray⟩) (n:=b) (r:=[]) (by simp) hb hb2
 rw[←h1.2.1,←h2.2.1,h]
theorem upSum_bd (s:ByteArray):0≤upSum s∧upSum s < 16777216:=by
 refine⟨headN_pos _, ?_⟩
 unfold upSum headN num3
 generalize (s.extract (s.size - 3) s.size).data.toList[0]?.getD 0=a
 generalize (s.extract (s.size - 3) s.size).data.toList[1]?.getD 0=b
 generalize (s.extract (s.size - 3) s.size).data.toList[2]?.getD 0=c
 have:=a.toNat_lt
 have:=b.toNat_lt
 have:=c.toNat_lt
 omega
theorem pack_good {b:Bt} (h:packE b=0):sumOf (upT (packS b))=upSum (packS b):=by
 obtain⟨h1,h2,h3⟩:=pack_size h
 have hl:(packS b).data.toList=bodyW b++b3 (sumOf ⟨(bodyW b).toArray⟩):=by rw[h3];unfold fullW;rw [nums_one]
 have h4:=split3 (s:=packS b) (by omega)
 have h5:(upT (packS b)).data.toList.length=(bodyW b).length:=by
  have h6:=congrArg List.length h4
  have h7:=congrArg List.length hl
  rw[h6] at h7
  simp only[List.length_append] at h7
  have h8: ∀n,(b3 n).length=3:=fun _=>rfl
  rw[h8,h8] at h7
  omega
 rw[h4] at hl
 obtain⟨h9,h10⟩:=List.append_inj hl h5
 have h11:=sumOf_bd ⟨(bodyW b).toArray⟩
 have h12:=upSum_bd (packS b)
 have h13:upT (packS b)=⟨(bodyW b).toArray⟩:=by rw[←h9,bytes_list]
 rw[h13]
 exact b3_inj h11.1 (by omega) h12.1 h12.2 h10.symm
end Go.Proofs.YtgkgdedhicnohaaGreat
