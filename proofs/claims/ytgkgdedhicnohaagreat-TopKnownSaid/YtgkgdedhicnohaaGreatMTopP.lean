/- What stays true of sites of one's own, by what stays true of a town with nothing on its way. No walk here. A town and sites of one's own in the same states. No walk here. What reedtop.asked does: one site asks, the other gives, the batch goes through the wire's form, the first takes it. Sites of one's own while they play: what stays true of them. No walk here. -/
import Derived.Test.YtgkgdedhicnohaaGreatMTopF
import Derived.Maps.OwnSet
import Derived.Maps.OwnOps
import Derived.Test.YtgkgdedhicnohaaGreatMBack
namespace Go.Proofs.YtgkgdedhicnohaaGreat
set_option maxRecDepth 100000
set_option maxHeartbeats 40000000
open Go.RowKit
theorem TownI.asked {H:List Ver} {t:TownS} {k:Nat} (h:TownI H t k) (hk:k≤60) (h0:t.way=[]) {i j:Nat} (hi:i < t.sites.length) (hj:j < t.sites.length):
  TownI H ⟨t.sites.set i (tookS t.sites[i] (giveB t.sites[j] t.sites[i].me t.sites[i].stamp t.sites[i].P (knownS t.sites[i]))),[]⟩ k:=by
 obtain⟨ak,hak⟩: ∃ak,ak=askS t.sites[i]:=⟨_,rfl⟩
 have hme:ak.site=(i:Int):=by rw[hak];exact h.ok.me i hi
 have h1:TownI H (sendT t i hi j) k:=h.send hi hj (by rw[h0];exact Nat.zero_lt_succ _)
 have w1:(sendT t i hi j).way=[.ask j ak]:=by unfold sendT;rw [h0,hak];rfl
 have h2:=h1.ask («to» :=j) (a:=ak) (show j < (sendT t i hi j).sites.length from hj) (by rw[w1];exact List.mem_singleton.2 rfl) (by rw[w1];exact Nat.succ_lt_succ (Nat.zero_lt_succ _))
 obtain⟨bt,hbt⟩: ∃bt,bt=giveB t.sites[j] ak.site ak.stamp ak.P ak.S:=⟨_,rfl⟩
 have e2:ansT ((sendT t i hi j).sites[j]'hj) ak= .bat i bt:=by
  unfold ansT
  rw[hbt,hme]
  rfl
 have h3:=h2.bat hk («to» :=i) (b:=bt) (show i < (sendT t i hi j).sites.length from hi) (by
  show LetS.bat i bt∈(sendT t i hi j).way++[_]
  rw[←e2];exact List.mem_append_right _ (List.mem_singleton.2 rfl))
 have h5:=(h3.lose 0).lose 0
 have e5:loseT (loseT (takeT { sendT t i hi j with way:=(sendT t i hi j).way++[ansT ((sendT t i hi j).sites[j]'hj) ak] } i hi bt) 0) 0=⟨t.sites.set i (tookS t.sites[i] bt),[]⟩:=by
  unfold loseT takeT
  simp only[w1]
  rfl
 have h6:TownI H ⟨t.sites.set i (tookS t.sites[i] bt),[]⟩ k:=by rw[←e5];exact h5
 rw[hbt,hak] at h6
 exact h6
theorem putE_two {L:List Ver} {v:Ver} (hL:ShOk L) (hv:VerOk v):putE L v=0∨putE L v=2:=by
 unfold putE
 rw[if_neg (by rw[shelfChk_zero.2 hL];decide),if_neg (by rw[verChk_zero.2 hv];decide)]
 split
 ·exact .inr rfl
 ·exact .inl rfl
theorem putsE_two: ∀ {V L:List Ver},ShOk L→(∀v∈V,VerOk v)→putsE L V=0∨putsE L V=2
 | [],L,_,_=> .inl rfl
 | v::V,L,hL,hV=>by
  have hv:=hV v (by simp)
  unfold putsE
  rcases putE_two hL hv with h | h
  ·rw[if_neg (by rw[h];decide)]
   exact putsE_two (put_ok hL hv (putE_zero.1 h).2.2) fun x hx=>hV x (by simp[hx])
  ·rw[if_pos (by rw[h];decide)]
   exact .inr h
theorem tookE_two {s:SiteS} {b:BtS} (hs:SiteOk s) (hb:BtSOk b) (h1:b.site=s.me) (h2:b.stamp=s.stamp):tookE s b=0∨tookE s b=2:=by
 unfold tookE
 rw[if_neg (fun e=>e h1),if_neg (fun e=>e h2)]
 rcases putsE_two (V:=b.V) hs.L hb.V with h | h
 ·rw[if_neg (fun e=>e h)]
  split
  ·exact .inr rfl
  ·exact .inl rfl
 ·rw[if_pos (by rw[h];decide)]
  exact .inr h
structure DirAt (w:World) (b:Nat) (sv:Value) (gs:List Nat) (l:List SiteS):Prop where
 row:w.ownsRow b 43 1 sv gs.length (ptrs gs)
 sites:SitesAt w b gs l
theorem DirAt.stp {G:Nat→Prop} {w w':World} {b:Nat} {sv:Value} {gs:List Nat} {l:List SiteS} (h:DirAt w b sv gs l) (hs:Stp G w w') (hG: ∀q∈gs,¬G q) (hr: ∀q,sv.ownBlock=some q→ ¬G q):DirAt w' b sv gs l:=
 ⟨owns_sp h.row hs.sp hr,h.sites.stp hs hG⟩
theorem DirAt.below {w w':World} {b:Nat} {sv:Value} {gs:List Nat} {l:List SiteS} (h:DirAt w b sv gs l) (hb:Below w.heap.size w w'):DirAt w' b sv gs l:=h.stp (G:=fun _=>False) (Stp.of_below hb) (fun _ _ h=>h) fun _ _ h=>h
theorem DirAt.off {w:World} {b:Nat} {sv:Value} {gs:List Nat} {l:List SiteS} (h:DirAt w b sv gs l) {q:Nat} (hq:sv.ownBlock=some q):q∉gs:=fun hm=>by
 obtain⟨i,hi,rfl⟩:=List.getElem_of_mem hm
 obtain⟨cs,hc⟩:=(h.sites.each i hi (by have:=h.sites.len;omega)).ty
 obtain⟨ds,hd⟩:=owns_type h.row hq
 exact absurd (heap_ty hc hd) (by decide)
theorem DirAt.set {w w':World} {b i:Nat} {sv:Value} {gs:List Nat} {l:List SiteS} {s:SiteS} (h:DirAt w b sv gs l) (hi:i < gs.length) (hs:Stp (fun q=>q=gs[i]) w w') (hn:SiteAt w' b gs[i] s):DirAt w' b sv gs (l.set i s):=
 ⟨owns_sp h.row hs.sp fun q hq e=>h.off hq (by rw[e];exact List.getElem_mem hi),h.sites.set hi hs hn⟩
section
variable {B:Nat} {w w':World} {b g:Nat} {sv:Value} {gs:List Nat} {t:TownS}
end
def AkV (w:World) (b:Nat) (ak:AskS) (v:Value):Prop:= ∃(fa:Option Addr) (fn fc:Nat) (pa:Option Addr) (pc:Nat),v= .agg #[.int .i64 ak.site, .int .i64 ak.stamp, .slice fa fn fc, .slice pa ak.S.length pc]∧FO w b (.slice fa fn fc) ak.P∧PtsOwnA w b (.slice pa ak.S.length pc) ak.S
theorem askV_c (g b:Nat) (s:SiteS) (w:World) (h:SiteAt w b g s):
  Calls Tryz.prog 22 #[.pointer (some ⟨g,0,none⟩)] w fun e w'=> ∃v,e= .returned v∧AkV w' 0 (askS s) v∧Below w.heap.size w w':=
 (ask_c g b s w h).mono fun e w' hh=>by
  obtain⟨f,pv,e1,hf,hp,hb⟩:=hh
  obtain⟨fa,fn,fc,rfl⟩:=hf.shape
  obtain⟨pa,pc,rfl⟩:=hp.shape
  exact⟨_,e1,⟨fa,fn,fc,pa,pc,rfl,hf.mono (Nat.zero_le _),hp.mono (Nat.zero_le _)⟩,hb⟩
theorem giveV_c (g b:Nat) (r:SiteS) (ak:AskS) (v:Value) (w:World) (h:SiteAt w b g r) (hk:AskSOk ak) (hv:AkV w 0 ak v):
  Calls Tryz.prog 21 #[.pointer (some ⟨g,0,none⟩),v] w fun e w'=> ∃u,e= .returned u∧GvT w' 0 (giveB r ak.site ak.stamp ak.P ak.S) u∧Below w.heap.size w w':=by
 obtain⟨fa,fn,fc,pa,pc,rfl,⟨FF,hF1,hF2,hF3⟩,AP,hA1,hA2,hA3⟩:=hv
 have hl:=hk.ls
 have hA30:AP.length≤30:=by rw[←hA3,List.length_map] at hl;exact hl
 refine(sgive_c g b r ak.site ak.stamp _ _ FF AP w h hk.site hk.stamp.1 (FOwn.at_ok hF1 hF2) hF2 (hA1.at_ (fun z hz=>(hA2 z hz).1) (by omega)) (ptsChk_zero.2 ⟨hA30,fun z hz=>(hA2 z hz).1⟩)).mono ?_
 rintro e w' ⟨vv,gv,pv,rfl,ho,hb2⟩
 have e2:giveB r ak.site ak.stamp (ptsOf FF) (AP.map sem)=giveB r ak.site ak.stamp ak.P ak.S:=by
  rw[hA3]
  exact giveB_congr h.ok fun t n ht hn=>by rw[ptsOf_in ht hn];exact hF3 t n ht hn
 rw[e2] at ho
 obtain⟨a1,c1,rfl⟩:=ho.vers.shape
 obtain⟨a2,c2,rfl⟩:=GOwn.shape ho.gone
 obtain⟨a3,c3,rfl⟩:=ho.parts.shape
 exact⟨_,rfl,⟨a1,c1,a2,c2,a3,c3,rfl,ho.mono (Nat.zero_le _)⟩,hb2⟩
section
variable {B:Nat} {w w' w1:World} {b g:Nat} {sv:Value} {gs:List Nat} {t t':TownS}
end
section
variable {B g gi:Nat} {T:Nat→Prop} {t3 t4 t5:TownS} {W ww ww':World} {jq u:Nat}
end
theorem pack_two {b:Bt} (h:BtOk b):packE b=0∨packE b=2:=by
 unfold packE
 rw[if_neg (by rw[batchChk_zero.2 h];decide)]
 split
 ·exact .inr rfl
 ·exact .inl rfl
theorem btOk_of {bt:BtS} {PP:List Pt} (h:BtSOk bt) (hP: ∀p∈PP,PtOk p) (hS:PP.map sem=bt.S):BtOk ⟨bt.site,bt.stamp,bt.V,bt.G,PP⟩:=
 ⟨h.site,h.stamp,h.lv,h.lg,by have:=h.ls;rw [←hS,List.length_map] at this;exact this,h.V,fun g hg=>goneChk_zero.1 (h.G g hg),hP⟩
theorem asked_c (ga gb b:Nat) (sa sr:SiteS) (bt:BtS) (w:World) (ha:SiteAt w b ga sa) (hb:SiteAt w b gb sr) (hbt:bt=giveB sr sa.me sa.stamp sa.P (knownS sa)):
  Calls Tryz.prog 31 #[.pointer (some ⟨ga,0,none⟩), .pointer (some ⟨gb,0,none⟩)] w fun e w'=>e= .returned (.tuple #[.bool (decide (tookE sa bt=0)), .bool (decide (tookE sa bt=2))])∧SiteAt w' b ga (tookS sa bt)∧Stp (fun q=>q=ga) w w':=by
 have HKO:=jD (askS_ok ha.ok)
 have HOK:=jD (show BtSOk bt by rw[hbt];exact giveB_ok hb.ok HKO.out.site HKO.out.stamp _ _)
 have HBT:=jD hbt
 have HA:=jD ha
 have HB:=jD hb
 clear ha hb hbt
 go_enter Tryz.func31,Tryz.ntmps31
 go_wp2_with fail
 (with_reducible refine(askV_c ga b sa w HA.out).mono ?_)
 rintro e w1 ⟨v1,rfl,hk,hb1⟩
 have HK:=jD hk
 have HB1:=jD hb1
 clear hk hb1
 go_wp2_with fail
 (with_reducible refine(giveV_c gb b sr (askS sa) v1 w1 (HB.out.below HB1.out) HKO.out HK.out).mono ?_)
 rintro e w2 ⟨u,rfl,hu,hb2⟩
 replace hu:GvT w2 0 bt u:=by rw[HBT.out];exact hu
 obtain⟨a1,c1,a2,c2,a3,c3,rfl,ho⟩:=hu
 obtain⟨PP,hP1,hP2,hP3⟩:=ho.parts
 have hPl:PP.length≤30:=by have:=HOK.out.ls;rw [←hP3,List.length_map] at this;exact this
 have HB2:=jD (bstep HB1.out hb2)
 have HPP:=jD (show ∀p∈PP,PtOk p from fun p hp=>(hP2 p hp).1)
 have HP3:=jD hP3
 have HBO:=jD (btOk_of HOK.out HPP.out hP3)
 have hrows:BtAt w2 (.slice a1 bt.V.length c1) (.slice a2 bt.G.length c2) (.slice a3 bt.S.length c3) ⟨bt.site,bt.stamp,bt.V,bt.G,PP⟩:=
  ⟨ho.vers.at_ (shok_bd HOK.out.V) (by have:=HOK.out.lv;omega),GOwn.at_ ho.gone (fun z hz=>gone_bd (HOK.out.G z hz)) (show bt.G.length≤1000 from by have:=HOK.out.lg;omega),hP1.at_ HPP.out (by omega)⟩
 have e0:(w2.alloc (.cells #[.int .i64 bt.site, .int .i64 bt.stamp, .slice a1 bt.V.length c1, .slice a2 bt.G.length c2, .slice a3 bt.S.length c3] 52)).heap[w2.heap.size]? =_:=alloc_new _ _ _ _ rfl
 have d0:=cell_of_block (j:=0) e0 rfl
 have d1:=cell_of_block (j:=1) e0 rfl
 have d2:=cell_of_block (j:=2) e0 rfl
 have d3:=cell_of_block (j:=3) e0 rfl
 have d4:=cell_of_block (j:=4) e0 rfl
 have HRW:=jD hrows
 clear ho hP1 hP2 hP3 hPl hrows hb2 e0
 go_wp2_with fail
 obtain⟨W3,hW3⟩: ∃W3,W3=w2.alloc (.cells #[.int .i64 bt.site, .int .i64 bt.stamp, .slice a1 bt.V.length c1, .slice a2 bt.G.length c2, .slice a3 bt.S.length c3] 52):=⟨_,rfl⟩
 have hb3:Below w2.heap.size w2 W3:=by rw[hW3];exact bal _
 have HBK:=jD (show W3.heap[w2.heap.size]? =some (Obj.cells #[.int .i64 bt.site, .int .i64 bt.stamp, .slice a1 bt.V.length c1, .slice a2 bt.G.length c2, .slice a3 bt.S.length c3] 52 (0,0)) by rw[hW3];exact alloc_new _ _ _ _ rfl)
 rw[←hW3]
 have HB3:=jD (bstep HB2.out hb3)
 have HR3:=jD (HRW.out.below hb3)
 have HPK:=jD (show Calls Tryz.prog 84 #[.agg #[.int .i64 bt.site, .int .i64 bt.stamp, .slice a1 bt.V.length c1, .slice a2 bt.G.length c2, .slice a3 bt.S.length c3]] W3 fun e w'=>e= .returned (.tuple #[.string (packS ⟨bt.site,bt.stamp,bt.V,bt.G,PP⟩), .int .i64 (packE ⟨bt.site,bt.stamp,bt.V,bt.G,PP⟩)])∧Below W3.heap.size W3 w' from pack_c _ _ _ ⟨bt.site,bt.stamp,bt.V,bt.G,PP⟩ W3 HR3.out)
 obtain⟨E9,hE9⟩: ∃E9,E9=tookE sa bt:=⟨_,rfl⟩
 have HTK:=jD (fun (wx:World) (vv gv pv:Value) (hs:SiteAt wx b ga sa) (hr:BtAt wx vv gv pv ⟨bt.site,bt.stamp,bt.V,bt.G,PP⟩)=>show Calls Tryz.prog 23 #[.pointer (some ⟨ga,0,none⟩), .agg #[.int .i64 bt.site, .int .i64 bt.stamp,vv,gv,pv]] wx fun e w'=>e= .returned (.int .i64 E9)∧SiteAt w' b ga (tookS sa bt)∧Stp (fun q=>q=ga) wx w' from by
  rw[hE9];exact stake_c ga b sa bt PP vv gv pv wx hs HOK.out hr.vers hr.gone hr.parts HPP.out HP3.out)
 have HE9:=jD hE9
 clear hE9 hW3 hb3 d0 d1 d2 d3 d4
 (with_reducible refine(HPK.out).mono ?_)
 rintro e w4 ⟨rfl,hb4⟩
 have HB4:=jD (bstep HB3.out hb4)
 have HBK4:=jD (below_keep hb4 HBK.out)
 have HR4:=jD (HR3.out.below hb4)
 clear hb4 HPK
 rcases pack_two HBO.out with h0 | h2
 rotate_left
 ·rw[h2]
  have k0:=cell_of_block (j:=0) HBK4.out rfl
  have k1:=cell_of_block (j:=1) HBK4.out rfl
  have k2:=cell_of_block (j:=2) HBK4.out rfl
  have k3:=cell_of_block (j:=3) HBK4.out rfl
  have k4:=cell_of_block (j:=4) HBK4.out rfl
  clear h2
  go_wp2_with fail
  (with_reducible refine(HTK.out w4 _ _ _ (HA.out.below HB4.out) HR4.out).mono ?_)
  rintro e w5 ⟨rfl,h1,h2⟩
  have H1:=jD h1
  have H2:=jD h2
  clear h1 h2
  go_wp2
  go_ret2
  exact⟨by rw[←HE9.out];rfl,H1.out,(Stp.of_below HB4.out).trans H2.out⟩
 obtain⟨h18,h20, -⟩:=pack_size h0
 obtain⟨hu1,hu2⟩:=pack_back h0
 have HU:=jD (unpack_c (packS ⟨bt.site,bt.stamp,bt.V,bt.G,PP⟩) w4 (by omega))
 unfold UpOut at HU
 rw[hu1,hu2] at HU
 rw[h0]
 clear h0 hu1 hu2 h18 h20
 generalize packS ⟨bt.site,bt.stamp,bt.V,bt.G,PP⟩=sb at*
 go_wp2_with fail
 (with_reducible refine(HU.out).mono ?_)
 rintro e w5 ⟨uv,ug,up,rfl,hr,hb5⟩
 have hbt5:=BtOk.rows hr HBO.out
 obtain⟨ua,uc,rfl⟩:=hbt5.vers.shape
 obtain⟨uga,ugc,rfl⟩:=hbt5.gone.shape
 obtain⟨upa,upc,rfl⟩:=hbt5.parts.shape
 have hq5:=below_keep hb5 HBK4.out
 have HQ5:=jD hq5
 have HR5:=jD hr
 have HB5:=jD (bstep HB4.out hb5)
 have r0:=cell_of_block (j:=0) hq5 rfl
 have r1:=cell_of_block (j:=1) hq5 rfl
 have r2:=cell_of_block (j:=2) hq5 rfl
 have r3:=cell_of_block (j:=3) hq5 rfl
 have r4:=cell_of_block (j:=4) hq5 rfl
 have f0:=free_of_block (j:=0) hq5
 have f1:=free_of_block (j:=1) hq5
 have f2:=free_of_block (j:=2) hq5
 have f3:=free_of_block (j:=3) hq5
 have f4:=free_of_block (j:=4) hq5
 have hRl:=hlt_of hq5
 clear hbt5 hr hb5 hq5 HU
 go_wp2_with fail
 obtain⟨W6,hW6⟩: ∃W6,W6=(((((w5.setCell ⟨w2.heap.size,0,none⟩ (.int .i64 bt.site)).setCell ⟨w2.heap.size,1,none⟩ (.int .i64 bt.stamp)).setCell ⟨w2.heap.size,2,none⟩ (.slice ua bt.V.length uc)).setCell ⟨w2.heap.size,3,none⟩ (.slice uga bt.G.length ugc)).setCell ⟨w2.heap.size,4,none⟩ (.slice upa PP.length upc)):=⟨_,rfl⟩
 have hs6:Stp (fun k=>k=w2.heap.size) w5 W6:=by rw[hW6];exact (set5 HQ5.out (by decide)).2
 have hr6:BtAt W6 (.slice ua bt.V.length uc) (.slice uga bt.G.length ugc) (.slice upa PP.length upc) ⟨bt.site,bt.stamp,bt.V,bt.G,PP⟩:=
  BtOk.rows (base:=w4.heap.size) ⟨HR5.out.v.stp hs6,HR5.out.g.stp hs6,HR5.out.p.tk hs6.tk dataT_int dataT_dot dataT_box dataT_span dataT_part⟩ HBO.out
 have hne: ¬ga=w2.heap.size:=by have:=HA.out.lt;have:=HB2.out.size;omega
 have hsa:SiteAt W6 b ga sa:=(HA.out.below HB5.out).stp hs6 hne
 have HS6:=jD hs6
 have HQL:=jD HB2.out.size
 have HR6:=jD hr6
 have HSA:=jD hsa
 rw[←hW6]
 clear hW6 hs6 hr6 hne hsa r0 r1 r2 r3 r4 f0 f1 f2 f3 f4 hRl
 (with_reducible refine(HTK.out W6 _ _ _ HSA.out HR6.out).mono ?_)
 rintro e w7 ⟨rfl,h1,h2⟩
 have H1:=jD h1
 have H2:=jD h2
 clear h1 h2
 go_wp2
 go_ret2
 exact⟨by rw[←HE9.out];rfl,H1.out,(((Stp.of_below (G:=fun k=>k=ga∨k=w2.heap.size) HB5.out).trans (HS6.out.mono fun k hk=> .inr hk)).trans (H2.out.mono fun k hk=> .inl hk)).only fun k hk he=>he.elim id fun e=>by have:=HQL.out;omega⟩
def Kg (s s':SiteS):Prop:= ∀(t n:Nat) (a c:Int),t < 16→n < 32→0≤a→a < 5→1≤c→c≤1000→knowsS (knownS s) t n a c=true→knowsS (knownS s') t n a c=true
theorem Kg.refl (s:SiteS):Kg s s:=fun _ _ _ _ _ _ _ _ _ _ h=>h
theorem Kg.trans {a b c:SiteS} (h:Kg a b) (k:Kg b c):Kg a c:=fun t n x y h1 h2 h3 h4 h5 h6 h7=>k t n x y h1 h2 h3 h4 h5 h6 (h t n x y h1 h2 h3 h4 h5 h6 h7)
theorem Kg.made {s:SiteS} (h:SiteOk s) (id:ByteArray) (t n bd:Int):Kg s (madeS s id t n bd):=by
 by_cases he:madeE s id t n bd=0
 ·intro t' n' a c h1 h2 h3 h4 h5 h6 h7
  rw[knows_known h h1 h2 h3 h4 h5 h6,Bool.or_eq_true,Bool.and_eq_true,decide_eq_true_eq,decide_eq_true_eq] at h7
  rw[knows_known (madeS_ok h id t n bd) h1 h2 h3 h4 h5 h6,made_eq he,Bool.or_eq_true,Bool.and_eq_true,decide_eq_true_eq,decide_eq_true_eq]
  show(a=s.me∧c≤s.made+1)∨_
  rcases h7 with⟨h8,h9⟩ | h7
  ·exact .inl ⟨h8,by omega⟩
  ·exact .inr h7
 ·have e:madeS s id t n bd=s:=by unfold madeS;rw [if_neg he]
  rw[e];exact Kg.refl s
theorem Kg.took {s:SiteS} {b:BtS} (h:SiteOk s) (hb:BtSOk b):Kg s (tookS s b):=by
 by_cases he:tookE s b=0
 ·intro t' n' a c h1 h2 h3 h4 h5 h6 h7
  rw[knows_known h h1 h2 h3 h4 h5 h6,Bool.or_eq_true] at h7
  rw[knows_known (tookS_ok h hb) h1 h2 h3 h4 h5 h6,took_eq he,Bool.or_eq_true]
  show _∨knowsS (fewS (s.S++b.S)) t' n' a c=true
  rw[few_knows _ t' n' a c h1 h2 h3 h4 h5 h6 (fun x hx=>(List.mem_append.1 hx).elim (h.S x) (hb.S x)),knowsS_append,Bool.or_eq_true]
  rcases h7 with h7 | h7
  ·exact .inl h7
  ·exact .inr (.inl h7)
 ·have e:tookS s b=s:=by unfold tookS;rw [if_neg he]
  rw[e];exact Kg.refl s
theorem Kg.within {s s':SiteS} (h:Kg s s'):withinS (knownS s) (knownS s')=true:=withinS_iff.2 fun t n ht hn a c h0 h5 h1 h2 hk=>h t n a c ht hn h0 h5 h1 h2 hk
theorem madeE_two {H:List Ver} {s:SiteS} (hx:Hx H) (h:SiteI H s) (hl:H.length < 60) {id:ByteArray} (hid:idOk id=true) {t n bd:Int} (hb:madeB t n bd=false):madeE s id t n bd=0∨madeE s id t n bd=2:=by
 by_cases hm:s.made=1000
 ·right
  unfold madeE
  rw[if_neg (by rw[hid];decide),if_neg (by rw[hb];decide),if_pos hm]
 ·left
  exact madeE_ok (h.made hx) h.ok hl (by have:=h.ok.made.2;omega) hid hb
structure PldSt (w0:World) (b:Nat) (sv:Value) (gs:List Nat) (l0:List SiteS) (no:Prop) (k:Nat) (l:List SiteS) (wr:World):Prop where
 dir:DirAt wr b sv gs l
 inv: ∃H,TownI H ⟨l,[]⟩ k
 n4:l.length=4
 hub:(l[3]?).map SiteS.P=(l0[3]?).map SiteS.P
 kg:no→ ∀i (h:i < l.length) (h':i < l0.length),Kg l0[i] l[i]
 stp:Stp (fun q=>q∈gs) w0 wr
section
variable {w0 wr w':World} {b:Nat} {sv:Value} {gs:List Nat} {l0 l:List SiteS} {no:Prop} {k k' i gi:Nat}
theorem PldSt.start {H:List Ver} (hd:DirAt w0 b sv gs l0) (hI:TownI H ⟨l0,[]⟩ k) (h4:l0.length=4):PldSt w0 b sv gs l0 no k l0 w0:=
 ⟨hd,⟨H,hI⟩,h4,rfl,fun _ i _ _=>Kg.refl _,Stp.refl _ _⟩
theorem PldSt.up (h:PldSt w0 b sv gs l0 no k l wr) (hk:k≤k'):PldSt w0 b sv gs l0 no k' l wr:=⟨h.dir,h.inv.imp fun _ h=>h.up hk,h.n4,h.hub,h.kg,h.stp⟩
theorem PldSt.below (h:PldSt w0 b sv gs l0 no k l wr) (hb:Below wr.heap.size wr w'):PldSt w0 b sv gs l0 no k l w':=⟨h.dir.below hb,h.inv,h.n4,h.hub,h.kg,h.stp.below hb⟩
theorem PldSt.gl (h:PldSt w0 b sv gs l0 no k l wr):gs.length=4:=by rw[h.dir.sites.len];exact h.n4
theorem PldSt.lt (h:PldSt w0 b sv gs l0 no k l wr) (hi:i < 4):i < l.length:=by rw[h.n4];exact hi
theorem PldSt.cell (h:PldSt w0 b sv gs l0 no k l wr) (hi:i < 4): ∃qs gi c,sv= .slice (some ⟨qs,0,none⟩) 4 c∧gs[i]? =some gi∧wr.cell? ⟨qs,i,none⟩=some (.pointer (some ⟨gi,0,none⟩))∧SiteAt wr b gi (l[i]'(h.lt hi)):=by
 have hg:=h.gl
 have hig:i < gs.length:=by omega
 obtain⟨qs,cap,e,hq,hqc⟩:=row_one (i:=i) h.dir.row (x:= .pointer (some ⟨gs[i],0,none⟩)) (by unfold ptrs;rw [List.getElem?_map,List.getElem?_eq_getElem hig];rfl)
 rw[hg] at e
 exact⟨qs,gs[i],cap,e,List.getElem?_eq_getElem hig,hqc,h.dir.sites.each i hig (h.lt hi)⟩
theorem hub_set {s':SiteS} (hi:i < l.length) (hp:i=3→s'.P=l[i].P):((l.set i s')[3]?).map SiteS.P=(l[3]?).map SiteS.P:=by
 rw[List.getElem?_set]
 split
 ·rename_i e
  subst e
  rw[List.getElem?_eq_getElem hi]
  show some _=some _
  rw[hp rfl]
 ·rfl
theorem PldSt.set {H':List Ver} {s':SiteS} (h:PldSt w0 b sv gs l0 no k l wr) (hgi:gs[i]? =some gi) (hil:i < l.length) (hs:Stp (fun q=>q=gi) wr w') (hn:SiteAt w' b gi s') (hI:TownI H' ⟨l.set i s',[]⟩ k') (hp:i=3→s'.P=l[i].P) (hk:no→Kg l[i] s'):PldSt w0 b sv gs l0 no k' (l.set i s') w':=by
 obtain⟨hig,e⟩:=List.getElem?_eq_some_iff.1 hgi
 subst e
 refine⟨h.dir.set hig hs hn,⟨H',hI⟩,by rw[List.length_set];exact h.n4,(hub_set hil hp).trans h.hub,fun hno j hj hj'=> ?_,h.stp.trans (hs.mono fun q hq=>by rw[hq];exact List.getElem_mem hig)⟩
 by_cases hji:i=j
 ·subst hji
  rw[List.getElem_set_self]
  exact(h.kg hno i hil hj').trans (hk hno)
 ·rw[List.getElem_set_ne hji]
  exact h.kg hno j (by rw[List.length_set] at hj;exact hj) hj'
theorem PldSt.make {id:ByteArray} {a n bd:Int} (h:PldSt w0 b sv gs l0 no k l wr) (hk:k≤60) (hgi:gs[i]? =some gi) (hil:i < l.length) (hs:Stp (fun q=>q=gi) wr w') (hn:SiteAt w' b gi (madeS l[i] id a n bd)):PldSt w0 b sv gs l0 no (k+1) (l.set i (madeS l[i] id a n bd)) w':=by
 obtain⟨H,hI⟩:=h.inv
 obtain⟨H',h1, -, -⟩:=hI.make (i:=i) hk hil id a n bd
 exact h.set hgi hil hs hn h1 (fun _=>(madeS_me _ _ _ _ _).2.2) fun _=>Kg.made (hI.sites i hil).ok _ _ _ _
theorem PldSt.want {p:Nat→Nat→Bool} (h:PldSt w0 b sv gs l0 no k l wr) (hno: ¬no) (hk:k≤60) (hgi:gs[i]? =some gi) (hil:i < l.length) (hi3:i < 3) (hs:Stp (fun q=>q=gi) wr w') (hn:SiteAt w' b gi (wantS l[i] p)):PldSt w0 b sv gs l0 no (k+1) (l.set i (wantS l[i] p)) w':=by
 obtain⟨H,hI⟩:=h.inv
 exact h.set hgi hil hs hn (hI.want (i:=i) hk hil p) (fun e=>by omega) fun h1=>absurd h1 hno
theorem PldSt.asked {j:Nat} {bt:BtS} (h:PldSt w0 b sv gs l0 no k l wr) (hk:k≤60) (hgi:gs[i]? =some gi) (hil:i < l.length) (hjl:j < l.length) (hbt:bt=giveB l[j] l[i].me l[i].stamp l[i].P (knownS l[i])) (hs:Stp (fun q=>q=gi) wr w') (hn:SiteAt w' b gi (tookS l[i] bt)):PldSt w0 b sv gs l0 no k (l.set i (tookS l[i] bt)) w':=by
 obtain⟨H,hI⟩:=h.inv
 have h1:=hI.asked hk rfl (i:=i) (j:=j) hil hjl
 have hb:BtSOk bt:=by
  have h2:=(hI.sites i hil).ok
  rw[hbt];exact giveB_ok (hI.sites j hjl).ok h2.me h2.stamp _ _
 subst hbt
 exact h.set hgi hil hs hn h1 (fun _=>(tookS_me _ _).2.2) fun _=>Kg.took (hI.sites i hil).ok hb
theorem PldSt.two {j:Nat} (h:PldSt w0 b sv gs l0 no k l wr) (hil:i < l.length) (hjl:j < l.length):tookE l[i] (giveB l[j] l[i].me l[i].stamp l[i].P (knownS l[i]))=0∨tookE l[i] (giveB l[j] l[i].me l[i].stamp l[i].P (knownS l[i]))=2:=by
 obtain⟨H,hI⟩:=h.inv
 have h2:=(hI.sites i hil).ok
 exact tookE_two h2 (giveB_ok (hI.sites j hjl).ok h2.me h2.stamp _ _) rfl rfl
theorem PldSt.stamp (h:PldSt w0 b sv gs l0 no k l wr) (hil:i < l.length):l[i].stamp≤k:=by
 obtain⟨H,hI⟩:=h.inv;exact hI.st i hil
theorem PldSt.madeTwo (h:PldSt w0 b sv gs l0 no k l wr) (hk:k < 60) (hil:i < l.length) {id:ByteArray} (hid:idOk id=true) {t n bd:Int} (hb:madeB t n bd=false):madeE l[i] id t n bd=0∨madeE l[i] id t n bd=2:=by
 obtain⟨H,hI⟩:=h.inv
 exact madeE_two hI.hx (hI.sites i hil) (by have:=hI.len;omega) hid hb
theorem PldSt.ok (h:PldSt w0 b sv gs l0 no k l wr) (hil:i < l.length):SiteOk l[i]:=by
 obtain⟨H,hI⟩:=h.inv;exact (hI.sites i hil).ok
end
def PldPost (w0:World) (b:Nat) (sv:Value) (gs:List Nat) (l0:List SiteS) (no:Prop) (k:Nat) (e:Ending) (w':World):Prop:=
 ∃(ok large:Bool) (l:List SiteS),e= .returned (.tuple #[.bool ok, .bool large])∧(ok=false→large=true)∧PldSt w0 b sv gs l0 no k l w'
end Go.Proofs.YtgkgdedhicnohaaGreat
