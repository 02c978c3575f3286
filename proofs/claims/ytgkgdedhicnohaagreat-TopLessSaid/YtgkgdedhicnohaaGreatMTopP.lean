/- A town and sites of one's own in the same states. No walk here. What reedtop.asked does: one site asks, the other gives, the batch goes through the wire's form, the first takes it. -/
import Derived.Test.YtgkgdedhicnohaaGreatTopF
import Derived.Test.YtgkgdedhicnohaaGreatChecked
import Derived.Test.YtgkgdedhicnohaaGreatTownQ
import Derived.Deep.CutBlock
import Derived.Deep.QuietTactic
import Derived.BigQuiet
import Derived.Maps.OwnSet
import Derived.Maps.OwnOps
import Derived.Test.YtgkgdedhicnohaaGreatMBack
namespace Go.Proofs.YtgkgdedhicnohaaGreat
set_option maxRecDepth 100000
set_option maxHeartbeats 40000000
open Go.RowKit
section
variable {B:Nat} {w w':World} {b g:Nat} {sv:Value} {gs:List Nat} {t:TownS}
end
def AkV (w:World) (b:Nat) (ak:AskS) (v:Value):Prop:= ∃(fa:Option Addr) (fn fc:Nat) (pa:Option Addr) (pc:Nat),v= .agg #[.int .i64 ak.site, .int .i64 ak.stamp, .slice fa fn fc, .slice pa ak.S.length pc]∧FO w b (.slice fa fn fc) ak.P∧PtsOwnA w b (.slice pa ak.S.length pc) ak.S
theorem askV_c (g b:Nat) (s:SiteS) (w:World) (h:SiteAt w b g s):
  Calls Tryz.prog 22 #[.pointer (some ⟨g,0,none⟩)] w fun e w'=> ∃v,e= .returned v∧AkV w' 0 (askS s) v∧Below w.heap.size w w':=
 (ask_c g b s w h).mono fun e w' hh=>by
  obtain⟨f,pv,e1,hf,hp,hb⟩:=hh
  obtain⟨fa,fn,fc,rfl⟩:=hf.shape
  obtain⟨pa,pc,rfl⟩:=hp.shape
  exact⟨_,e1,⟨fa,fn,fc,pa,pc,rfl,hf.mono (Nat.zero_le _),hp.mono (Nat.zero_le _)⟩,hb⟩
theorem giveV_c (g b:Nat) (r:SiteS) (ak:AskS) (v:Value) (w:World) (h:SiteAt w b g r) (hk:AskSOk ak) (hv:AkV w 0 ak v):
  Calls Tryz.prog 21 #[.pointer (some ⟨g,0,none⟩),v] w fun e w'=> ∃u,e= .returned u∧GvT w' 0 (giveB r ak.site ak.stamp ak.P ak.S) u∧Below w.heap.size w w':=by
 obtain⟨fa,fn,fc,pa,pc,rfl,⟨FF,hF1,hF2,hF3⟩,AP,hA1,hA2,hA3⟩:=hv
 have hl:=hk.ls
 have hA30:AP.length≤30:=by rw[←hA3,List.length_map] at hl;exact hl
 refine(sgive_c g b r ak.site ak.stamp _ _ FF AP w h hk.site hk.stamp.1 (FOwn.at_ok hF1 hF2) hF2 (hA1.at_ (fun z hz=>(hA2 z hz).1) (by omega)) (ptsChk_zero.2 ⟨hA30,fun z hz=>(hA2 z hz).1⟩)).mono ?_
 rintro e w' ⟨vv,gv,pv,rfl,ho,hb2⟩
 have e2:giveB r ak.site ak.stamp (ptsOf FF) (AP.map sem)=giveB r ak.site ak.stamp ak.P ak.S:=by
  rw[hA3]
  exact giveB_congr h.ok fun t n ht hn=>by rw[ptsOf_in ht hn];exact hF3 t n ht hn
 rw[e2] at ho
 obtain⟨a1,c1,rfl⟩:=ho.vers.shape
 obtain⟨a2,c2,rfl⟩:=GOwn.shape ho.gone
 obtain⟨a3,c3,rfl⟩:=ho.parts.shape
 exact⟨_,rfl,⟨a1,c1,a2,c2,a3,c3,rfl,ho.mono (Nat.zero_le _)⟩,hb2⟩
section
variable {B:Nat} {w w' w1:World} {b g:Nat} {sv:Value} {gs:List Nat} {t t':TownS}
end
section
variable {B g gi:Nat} {T:Nat→Prop} {t3 t4 t5:TownS} {W ww ww':World} {jq u:Nat}
end
theorem pack_two {b:Bt} (h:BtOk b):packE b=0∨packE b=2:=by
 unfold packE
 rw[if_neg (by rw[batchChk_zero.2 h];decide)]
 split
 ·exact .inr rfl
 ·exact .inl rfl
theorem btOk_of {bt:BtS} {PP:List Pt} (h:BtSOk bt) (hP: ∀p∈PP,PtOk p) (hS:PP.map sem=bt.S):BtOk ⟨bt.site,bt.stamp,bt.V,bt.G,PP⟩:=
 ⟨h.site,h.stamp,h.lv,h.lg,by have:=h.ls;rw [←hS,List.length_map] at this;exact this,h.V,fun g hg=>goneChk_zero.1 (h.G g hg),hP⟩
theorem asked_c (ga gb b:Nat) (sa sr:SiteS) (bt:BtS) (w:World) (ha:SiteAt w b ga sa) (hb:SiteAt w b gb sr) (hbt:bt=giveB sr sa.me sa.stamp sa.P (knownS sa)):
  Calls Tryz.prog 31 #[.pointer (some ⟨ga,0,none⟩), .pointer (some ⟨gb,0,none⟩)] w fun e w'=>e= .returned (.tuple #[.bool (decide (tookE sa bt=0)), .bool (decide (tookE sa bt=2))])∧SiteAt w' b ga (tookS sa bt)∧Stp (fun q=>q=ga) w w':=by
 have HKO:=jD (askS_ok ha.ok)
 have HOK:=jD (show BtSOk bt by rw[hbt];exact giveB_ok hb.ok HKO.out.site HKO.out.stamp _ _)
 have HBT:=jD hbt
 have HA:=jD ha
 have HB:=jD hb
 clear ha hb hbt
 go_enter Tryz.func31,Tryz.ntmps31
 go_wp2_with fail
 (with_reducible refine(askV_c ga b sa w HA.out).mono ?_)
 rintro e w1 ⟨v1,rfl,hk,hb1⟩
 have HK:=jD hk
 have HB1:=jD hb1
 clear hk hb1
 go_wp2_with fail
 (with_reducible refine(giveV_c gb b sr (askS sa) v1 w1 (HB.out.below HB1.out) HKO.out HK.out).mono ?_)
 rintro e w2 ⟨u,rfl,hu,hb2⟩
 replace hu:GvT w2 0 bt u:=by rw[HBT.out];exact hu
 obtain⟨a1,c1,a2,c2,a3,c3,rfl,ho⟩:=hu
 obtain⟨PP,hP1,hP2,hP3⟩:=ho.parts
 have hPl:PP.length≤30:=by have:=HOK.out.ls;rw [←hP3,List.length_map] at this;exact this
 have HB2:=jD (bstep HB1.out hb2)
 have HPP:=jD (show ∀p∈PP,PtOk p from fun p hp=>(hP2 p hp).1)
 have HP3:=jD hP3
 have HBO:=jD (btOk_of HOK.out HPP.out hP3)
 have hrows:BtAt w2 (.slice a1 bt.V.length c1) (.slice a2 bt.G.length c2) (.slice a3 bt.S.length c3) ⟨bt.site,bt.stamp,bt.V,bt.G,PP⟩:=
  ⟨ho.vers.at_ (shok_bd HOK.out.V) (by have:=HOK.out.lv;omega),GOwn.at_ ho.gone (fun z hz=>gone_bd (HOK.out.G z hz)) (show bt.G.length≤1000 from by have:=HOK.out.lg;omega),hP1.at_ HPP.out (by omega)⟩
 have e0:(w2.alloc (.cells #[.int .i64 bt.site, .int .i64 bt.stamp, .slice a1 bt.V.length c1, .slice a2 bt.G.length c2, .slice a3 bt.S.length c3] 52)).heap[w2.heap.size]? =_:=alloc_new _ _ _ _ rfl
 have d0:=cell_of_block (j:=0) e0 rfl
 have d1:=cell_of_block (j:=1) e0 rfl
 have d2:=cell_of_block (j:=2) e0 rfl
 have d3:=cell_of_block (j:=3) e0 rfl
 have d4:=cell_of_block (j:=4) e0 rfl
 have HRW:=jD hrows
 clear ho hP1 hP2 hP3 hPl hrows hb2 e0
 go_wp2_with fail
 obtain⟨W3,hW3⟩: ∃W3,W3=w2.alloc (.cells #[.int .i64 bt.site, .int .i64 bt.stamp, .slice a1 bt.V.length c1, .slice a2 bt.G.length c2, .slice a3 bt.S.length c3] 52):=⟨_,rfl⟩
 have hb3:Below w2.heap.size w2 W3:=by rw[hW3];exact bal _
 have HBK:=jD (show W3.heap[w2.heap.size]? =some (Obj.cells #[.int .i64 bt.site, .int .i64 bt.stamp, .slice a1 bt.V.length c1, .slice a2 bt.G.length c2, .slice a3 bt.S.length c3] 52 (0,0)) by rw[hW3];exact alloc_new _ _ _ _ rfl)
 rw[←hW3]
 have HB3:=jD (bstep HB2.out hb3)
 have HR3:=jD (HRW.out.below hb3)
 have HPK:=jD (show Calls Tryz.prog 84 #[.agg #[.int .i64 bt.site, .int .i64 bt.stamp, .slice a1 bt.V.length c1, .slice a2 bt.G.length c2, .slice a3 bt.S.length c3]] W3 fun e w'=>e= .returned (.tuple #[.string (packS ⟨bt.site,bt.stamp,bt.V,bt.G,PP⟩), .int .i64 (packE ⟨bt.site,bt.stamp,bt.V,bt.G,PP⟩)])∧Below W3.heap.size W3 w' from pack_c _ _ _ ⟨bt.site,bt.stamp,bt.V,bt.G,PP⟩ W3 HR3.out)
 obtain⟨E9,hE9⟩: ∃E9,E9=tookE sa bt:=⟨_,rfl⟩
 have HTK:=jD (fun (wx:World) (vv gv pv:Value) (hs:SiteAt wx b ga sa) (hr:BtAt wx vv gv pv ⟨bt.site,bt.stamp,bt.V,bt.G,PP⟩)=>show Calls Tryz.prog 23 #[.pointer (some ⟨ga,0,none⟩), .agg #[.int .i64 bt.site, .int .i64 bt.stamp,vv,gv,pv]] wx fun e w'=>e= .returned (.int .i64 E9)∧SiteAt w' b ga (tookS sa bt)∧Stp (fun q=>q=ga) wx w' from by
  rw[hE9];exact stake_c ga b sa bt PP vv gv pv wx hs HOK.out hr.vers hr.gone hr.parts HPP.out HP3.out)
 have HE9:=jD hE9
 clear hE9 hW3 hb3 d0 d1 d2 d3 d4
 (with_reducible refine(HPK.out).mono ?_)
 rintro e w4 ⟨rfl,hb4⟩
 have HB4:=jD (bstep HB3.out hb4)
 have HBK4:=jD (below_keep hb4 HBK.out)
 have HR4:=jD (HR3.out.below hb4)
 clear hb4 HPK
 rcases pack_two HBO.out with h0 | h2
 rotate_left
 ·rw[h2]
  have k0:=cell_of_block (j:=0) HBK4.out rfl
  have k1:=cell_of_block (j:=1) HBK4.out rfl
  have k2:=cell_of_block (j:=2) HBK4.out rfl
  have k3:=cell_of_block (j:=3) HBK4.out rfl
  have k4:=cell_of_block (j:=4) HBK4.out rfl
  clear h2
  go_wp2_with fail
  (with_reducible refine(HTK.out w4 _ _ _ (HA.out.below HB4.out) HR4.out).mono ?_)
  rintro e w5 ⟨rfl,h1,h2⟩
  have H1:=jD h1
  have H2:=jD h2
  clear h1 h2
  go_wp2
  go_ret2
  exact⟨by rw[←HE9.out];rfl,H1.out,(Stp.of_below HB4.out).trans H2.out⟩
 obtain⟨h18,h20, -⟩:=pack_size h0
 obtain⟨hu1,hu2⟩:=pack_back h0
 have HU:=jD (unpack_c (packS ⟨bt.site,bt.stamp,bt.V,bt.G,PP⟩) w4 (by omega))
 unfold UpOut at HU
 rw[hu1,hu2] at HU
 rw[h0]
 clear h0 hu1 hu2 h18 h20
 generalize packS ⟨bt.site,bt.stamp,bt.V,bt.G,PP⟩=sb at*
 go_wp2_with fail
 (with_reducible refine(HU.out).mono ?_)
 rintro e w5 ⟨uv,ug,up,rfl,hr,hb5⟩
 have hbt5:=BtOk.rows hr HBO.out
 obtain⟨ua,uc,rfl⟩:=hbt5.vers.shape
 obtain⟨uga,ugc,rfl⟩:=hbt5.gone.shape
 obtain⟨upa,upc,rfl⟩:=hbt5.parts.shape
 have hq5:=below_keep hb5 HBK4.out
 have HQ5:=jD hq5
 have HR5:=jD hr
 have HB5:=jD (bstep HB4.out hb5)
 have r0:=cell_of_block (j:=0) hq5 rfl
 have r1:=cell_of_block (j:=1) hq5 rfl
 have r2:=cell_of_block (j:=2) hq5 rfl
 have r3:=cell_of_block (j:=3) hq5 rfl
 have r4:=cell_of_block (j:=4) hq5 rfl
 have f0:=free_of_block (j:=0) hq5
 have f1:=free_of_block (j:=1) hq5
 have f2:=free_of_block (j:=2) hq5
 have f3:=free_of_block (j:=3) hq5
 have f4:=free_of_block (j:=4) hq5
 have hRl:=hlt_of hq5
 clear hbt5 hr hb5 hq5 HU
 go_wp2_with fail
 obtain⟨W6,hW6⟩: ∃W6,W6=(((((w5.setCell ⟨w2.heap.size,0,none⟩ (.int .i64 bt.site)).setCell ⟨w2.heap.size,1,none⟩ (.int .i64 bt.stamp)).setCell ⟨w2.heap.size,2,none⟩ (.slice ua bt.V.length uc)).setCell ⟨w2.heap.size,3,none⟩ (.slice uga bt.G.length ugc)).setCell ⟨w2.heap.size,4,none⟩ (.slice upa PP.length upc)):=⟨_,rfl⟩
 have hs6:Stp (fun k=>k=w2.heap.size) w5 W6:=by rw[hW6];exact (set5 HQ5.out (by decide)).2
 have hr6:BtAt W6 (.slice ua bt.V.length uc) (.slice uga bt.G.length ugc) (.slice upa PP.length upc) ⟨bt.site,bt.stamp,bt.V,bt.G,PP⟩:=
  BtOk.rows (base:=w4.heap.size) ⟨HR5.out.v.stp hs6,HR5.out.g.stp hs6,HR5.out.p.tk hs6.tk dataT_int dataT_dot dataT_box dataT_span dataT_part⟩ HBO.out
 have hne: ¬ga=w2.heap.size:=by have:=HA.out.lt;have:=HB2.out.size;omega
 have hsa:SiteAt W6 b ga sa:=(HA.out.below HB5.out).stp hs6 hne
 have HS6:=jD hs6
 have HQL:=jD HB2.out.size
 have HR6:=jD hr6
 have HSA:=jD hsa
 rw[←hW6]
 clear hW6 hs6 hr6 hne hsa r0 r1 r2 r3 r4 f0 f1 f2 f3 f4 hRl
 (with_reducible refine(HTK.out W6 _ _ _ HSA.out HR6.out).mono ?_)
 rintro e w7 ⟨rfl,h1,h2⟩
 have H1:=jD h1
 have H2:=jD h2
 clear h1 h2
 go_wp2
 go_ret2
 exact⟨by rw[←HE9.out];rfl,H1.out,(((Stp.of_below (G:=fun k=>k=ga∨k=w2.heap.size) HB5.out).trans (HS6.out.mono fun k hk=> .inr hk)).trans (H2.out.mono fun k hk=> .inl hk)).only fun k hk he=>he.elim id fun e=>by have:=HQL.out;omega⟩
end Go.Proofs.YtgkgdedhicnohaaGreat
