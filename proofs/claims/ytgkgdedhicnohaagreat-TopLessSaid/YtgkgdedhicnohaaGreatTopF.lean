/- What reedtop begins with: begun, filters. Written by a small program (gen/topf.py). -/
import Derived.Test.YtgkgdedhicnohaaGreatMSiteD
namespace Go.Proofs.YtgkgdedhicnohaaGreat
set_option maxRecDepth 100000
set_option maxHeartbeats 40000000
open Go.RowKit
theorem every_cnt:cntE everyB=512:=by decide+kernel
theorem topBegun_c (w:World):Calls Tryz.prog 10 #[] w fun e w'=>e= .returned (.bool true)∧Below w.heap.size w w':=by
 go_enter Tryz.func10,Tryz.ntmps10
 go_wp2_with fail
 (with_reducible refine(everyS w).mono ?_)
 rintro e w1 ⟨ev,rfl,hev,hb⟩
 have HEV:=jD (hev.at_ok every_chk)
 have HB1:=jD hb
 obtain⟨ea,ec,hevs⟩:=HEV.out.shape
 subst hevs
 have HC:=jD (countf_c _ everyB w1 HEV.out)
 rw[every_cnt,every_chk] at HC
 clear hev hb
 go_wp2_with fail
 (with_reducible refine(HC.out).mono ?_)
 rintro e w2 ⟨rfl,hb⟩
 have HB2:=jD (bstep HB1.out hb)
 clear hb HC
 go_wp2
 go_ret
 exact⟨rfl,HB2.out⟩
end Go.Proofs.YtgkgdedhicnohaaGreat
