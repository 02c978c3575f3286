/- Towards what desk.Run answers. -/
import Derived.Test.YtajgndoiddmbmaaGreatDoorMClone
import Derived.Test.YtajgndoiddmbmaaGreatDoorMSort
import Derived.Test.YtajgndoiddmbmaaGreatDoorMKnow3
namespace Go.Proofs.YtajgndoiddmbmaaGreatDoor
set_option maxRecDepth 100000
set_option maxHeartbeats 40000000
open Go.RowKit
def sP:BC (List Int) where
 size:=1
 El w a cs:= ∃u,cs=[u]∧l9 w u a
 len:=by rintro w a cs ⟨u,rfl, -⟩;rfl
 one:=by
  rintro w a cs ⟨u,rfl,h⟩ z hz;simp only[List.mem_singleton] at hz;subst hz;obtain⟨x,c,rfl⟩:=h.shape;rfl
 sub:=by rintro w w' a cs ⟨u,rfl,h⟩ hs;exact ⟨u,rfl,h.sub hs⟩
 pos:=by decide
def jA (vs:List (List Int)) (s:Int):Int:=vs.foldl (fun m l=>max m (aQ l s)) 0
theorem AZ (vs:List (List Int)) (l:List Int) (s:Int):jA (vs++[l]) s=max (jA vs s) (aQ l s):=by simp[jA]
theorem I3 {w:World} {base e g n:Nat} {xs:List Value} (h:w.ownsRow base e 1 (.slice (some ⟨g,0,none⟩) n n) n xs) (_hn:0 < n):w.heap[g]? =some (Obj.cells xs.toArray e (0,0)):=by
 rcases h.2 with⟨h0, -⟩ | ⟨g',cap,cur,hv, -,hg, -, -,hs,ht⟩
 ·simp at h0
 ·simp only[Value.slice.injEq,Option.some.injEq,Addr.mk.injEq,true_and,and_true] at hv;obtain⟨rfl,rfl⟩:=hv;rw[hg];congr 2;rw[←ht,List.take_of_length_le (by rw[Array.length_toList];omega)]
theorem zn {v:List Int} {j:Nat} (h:j < v.length):(cV v).toArray[j]? =some (.int .i64 v[j]):=by simp[cV,h]
theorem Gb (v:List Int) (j:Nat) (x:Int):(cV v).toArray.setIfInBounds j (.int .i64 x)=(cV (v.set j x)).toArray:=by
 apply Array.ext';simp[cV,List.map_set]
theorem yJ {v:List Int} {j:Nat} (h:j < v.length):aQ v (j:Int)=v[j]:=by
 unfold aQ;rw [Int.toNat_natCast,List.getD_eq_getElem?_getD,List.getElem?_eq_getElem h];rfl
theorem Fy {v:List Int} {s:Int} (h:v.length≤s):aQ v s=0:=by
 unfold aQ;rw [List.getD_eq_getElem?_getD,List.getElem?_eq_none (by omega)];rfl
structure V5 (v:List Int):Prop where
 len:v.length=5
 bd: ∀n∈v,0≤n∧n≤1000
theorem V5.set {v:List Int} (h:V5 v) (j:Nat) {x:Int} (h0:0≤x) (h1:x≤1000):V5 (v.set j x):=
 ⟨by simp[h.len],fun n hn=>by rcases List.mem_or_eq_of_mem_set hn with hn | rfl;exact h.bd n hn;exact ⟨h0,h1⟩⟩
structure bI (w:World) (base:Nat) (u v:Value) (k:Kn):Prop where
 vec:w.ownsRow base 3 1 u k.vec.length (cV k.vec)
 more:w.ownsRow base 103 2 v k.more.length (az k.more)
theorem bI.at_ {w:World} {base:Nat} {u v:Value} {k:Kn} (h:bI w base u v k) (h1:k.vec.length≤5) (h2:k.more.length≤1000000):dB w u v k:=⟨aF.fZ h.vec (by omega),aF.fZ h.more (by omega)⟩
theorem bI.below {w w':World} {base:Nat} {u v:Value} {k:Kn} (h:bI w base u v k) (hb:Below w.heap.size w w'):bI w' base u v k:=⟨aI h.vec hb,aI h.more hb⟩
theorem bI.mono {w:World} {base base':Nat} {u v:Value} {k:Kn} (h:bI w base u v k) (hb:base'≤base):bI w base' u v k:=⟨bV h.vec hb,bV h.more hb⟩
theorem DG {w:World} {G n c:Nat} {v:List Int} (h:w.heap[G]? =some (Obj.cells (cV v).toArray 3 (0,0))) (hn:n≤v.length) (hc:v.length≤c) (hm:v.length≤1000):aF w (.slice (some ⟨G,0,none⟩) n c) n (cV (v.take n)):=by
 refine⟨_,_,rfl,by omega,by omega,fun h=>by simp at h, .inr ⟨G,0,rfl,ai h,fun j x hj=> ?_⟩⟩;rw[Nat.zero_add];refine aD h ?_;have hj2:j < n∧j < v.length:=by have:=(List.getElem?_eq_some_iff.1 hj).1;rw [pZ,List.length_take] at this;omega
 simp only[cV,List.getElem?_map,List.getElem?_take,hj2.1,if_true] at hj;simpa[cV] using hj
def Ia (l:List Int):Prop:=l.length≤5∧ ∀n∈l,0≤n∧n≤1000
theorem F6 {w:World} {base e size n:Nat} {v:Value} {xs:List Value} (h:w.ownsRow base e size v n xs) (k:Nat):(w.drewN k).ownsRow base e size v n xs:=h
theorem VJ (a b c d:Int) (w:World):(Op.equalIn 10000 103 (.agg #[.int .i64 a, .int .i64 b]) (.agg #[.int .i64 c, .int .i64 d])).run Tryz.prog w= .ok (a==c&&b==d) w:=by
 have u3:=Tryz.underlying3;have a3:=Tryz.isAgg3;have z3:=Tryz.sizeOf3;rw[show(10000:Nat)=9999+1 from rfl,run_equalIn_agg w 9999 103 _ _ (by kernel_rfl) (by kernel_rfl)];simp only[Program.fieldsOf,Tryz.underlying103];go_simp
 by_cases h1:a=c <;> by_cases h2:b=d <;> simp[h1,h2]
theorem Dv:Tryz.prog.eqGuardType Tryz.prog.depth 103=false:=by kernel_rfl
structure uJ (w wr:World) (base B3 G R O:Nat) (v:List Int) (more es:dN) (mv v3:Value):Prop where
 g:wr.heap[G]? =some (Obj.cells (cV v).toArray 3 (0,0))
 r:wr.heap[R]? =some (Obj.cells #[.slice none 0 0, .slice none 0 0] 118 (0,0))
 o:wr.heap[O]? =some (Obj.cells #[.slice none 0 0,mv] 118 (0,0))
 own:wr.ownsRow B3 103 2 mv more.length (az more)
 row:wr.ownsRow base 103 2 v3 es.length (az es)
 low: ∀k,v3.ownBlock=some k→k < B3
 aW:Below w.heap.size w wr
 sz:B3≤wr.heap.size
section
variable {w wr:World} {base B3 G R O:Nat} {v:List Int} {more es:dN} {mv v3:Value}
theorem uJ.drewN (h:uJ w wr base B3 G R O v more es mv v3) (n:Nat):uJ w (wr.drewN n) base B3 G R O v more es mv v3:=
 ⟨h.g,h.r,h.o,F6 h.own n,F6 h.row n,h.low,below_drewN h.aW n,h.sz⟩
theorem uJ.alloc (h:uJ w wr base B3 G R O v more es mv v3) (o:Obj):uJ w (wr.alloc o) base B3 G R O v more es mv v3:=
 ⟨aO _ h.g,aO _ h.r,aO _ h.o,h.own.alloc _,h.row.alloc _,h.low,h.aW.alloc h.aW.size _,by have:=h.sz;simp;omega⟩
theorem uJ.aeN (h:uJ w wr base B3 G R O v more es mv v3) (hGR:G≠R) (ZE:G≠O) (hG:w.heap.size≤G) (j:Nat) (x:Int):uJ w (wr.setCell ⟨G,j,none⟩ (.int .i64 x)) base B3 G R O (v.set j x) more es mv v3:=
 ⟨by rw[ax h.g,Gb],(aC hGR.symm).trans h.r,(aC ZE.symm).trans h.o,cG h.own h.g (by decide),cG h.row h.g (by decide),h.low,h.aW.setCell hG _,by have:=h.sz;simp;omega⟩
theorem uJ.push {w2:World} {YJ:Value} {d:Int×Int} (h:uJ w wr base B3 G R O v more es mv v3) (hRO:R≠O) (ZE:G≠O) (hO:w.heap.size≤O) (hB:w.heap.size≤B3) (ho:w2.ownsRow B3 103 2 YJ (more.length+1) (az more++[.int .i64 d.1, .int .i64 d.2])) (hg:wr.grownBy w2 mv.ownBlock):
  uJ w (w2.setCell ⟨O,1,none⟩ YJ) base B3 G R O v (more++[d]) es YJ v3:=by
 have g2:=fB h.own hg h.g (by decide);have r2:=fB h.own hg h.r (by decide);have o2:=fB h.own hg h.o (by decide);have aeO:w2.ownsRow base 103 2 v3 es.length (az es):=h.row.kept hg (by
  cases hv:v3.ownBlock with
  | none=>exact .inl rfl
  | some k=>right;intro e;have h1:=h.low k hv;have h2:=(h.own.lt k e.symm).1;omega)
 refine⟨(aC ZE).trans g2,(aC hRO).trans r2,by rw[ax o2];rfl, ?_,cG aeO o2 (by decide),h.low,(h.aW.grown hg h.aW.size fun k hk=>by have:=(h.own.lt k hk).1;omega).setCell hO _,by have:=hg.size;have:=h.sz;simp;omega⟩;rw[List.length_append,fC];exact cG ho o2 (by decide)
theorem IP {W:World} {bs:Nat} {l:dN} {u:Value} (h:W.ownsRow bs 103 2 u l.length (az l)) {q:Nat} (hq:q < l.length): ∃b cap,u= .slice (some ⟨b,0,none⟩) l.length cap∧W.cell? ⟨b,q*2,none⟩=some (.int .i64 l[q].1)∧W.cell? ⟨b,q*2+1,none⟩=some (.int .i64 l[q].2):=by
 rcases h.2 with⟨-,h0⟩ | ⟨b,cap,cur,hv, -, -, -⟩
 ·omega
 ·obtain⟨g1,g2⟩:=kN l q hq;subst hv;exact⟨b,cap,rfl,by have:=h.cells (g:=b) rfl _ _ g1;rwa [Addr.add_lit,Nat.zero_add] at this,by have:=h.cells (g:=b) rfl _ _ g2;rwa [Addr.add_lit,Nat.zero_add] at this⟩
end
theorem made_c (vv dv:Value) (vs:List (List Int)) (ds:dN) (w:World) (hv:bK sP w vv vs) (hd:mg w dv ds) (hvs: ∀l∈vs,Ia l) (hds: ∀d∈ds,bX d=true) (hlen:ds.length≤1000000):
  Calls Tryz.prog 162 #[vv,dv] w fun e w'=> ∃(k:Kn) (u v:Value),e= .returned (.agg #[u,v])∧bI w' w.heap.size u v k∧gz k∧k.more.length≤ds.length∧(∀s c:Int,0≤s→s < 5→1≤c→aU k s c=(decide (c≤jA vs s) || decide ((s,c)∈ds)))∧Below w.heap.size w w':=by
 obtain⟨xa,xc,rfl, -,hvm, -,hvl⟩:=hv.open_;obtain⟨ya,yc,hyv⟩:=hd.shape;subst hyv;obtain⟨w2,hmk,hown,s8⟩:=xC (P:=Tryz.prog) (w.alloc (.cells #[.slice none 0 0, .slice none 0 0] 118)) 115 3 (.int .i64 0) 1 8 Tryz.underlying115 OQ.info 5 (by omega) (by unfold maxLen;omega);rw[oN _ rfl] at hown;have ZG:=I3 hown (by decide);rw[World.size_alloc] at ZG;have hR0:=ag s8 (au w #[.slice none 0 0, .slice none 0 0] 118 _ rfl);have ae6:(Instr.makeSlice 115 (.int .i64 5) (.int .i64 5)).run Tryz.prog (w.alloc (.cells #[.slice none 0 0, .slice none 0 0] 118))= .ok (.slice (some ⟨w.heap.size+1,0,none⟩) 5 5) w2:=by rw[World.size_alloc] at hmk;exact hmk
 have hG:w2.heap[w.heap.size+1]? =some (Obj.cells (cV [0,0,0,0,0]).toArray 3 (0,0)):=ZG;have HG:=jD hG;have HR:=jD hR0;have cw:=jD (zO s8);have HD:=jD hd;clear hown ZG hR0 hmk hG s8 hv hd;go_enter Tryz.func162,Tryz.ntmps162;go_wp2;clear ae6;go_loopw [16] (fun i wr=> ∃(q:Nat) (v:List Int),q≤vs.length∧i= .int .i64 q∧V5 v∧(∀s:Int,0≤s→s < 5→aQ v s=jA (vs.take q) s)∧wr.heap[w.heap.size+1]? =some (Obj.cells (cV v).toArray 3 (0,0))∧wr.heap[w.heap.size]? =some (Obj.cells #[.slice none 0 0, .slice none 0 0] 118 (0,0))∧Below w.heap.size w wr) (fun i _=>vs.length - (intOf i).toNat)
 case atStart=>
  refine⟨0,[0,0,0,0,0],Nat.zero_le _,rfl,⟨rfl,by simp⟩,fun s h0 h5=> ?_,HG.o,HR.o,cw.o⟩;have:s=0∨s=1∨s=2∨s=3∨s=4:=by omega
  rcases this with rfl | rfl | rfl | rfl | rfl <;> rfl
 case round=>
  clear HG HR cw;obtain⟨q,v0,hq,rfl,h5,hm,hG,hR,hbl⟩:=hrel;obtain⟨wo,hwo⟩: ∃wo,wo=wr:=⟨_,rfl⟩
  subst hwo;have HM:=jD hm;have H5:=jD h5;have HG:=jD hG;have HR:=jD hR;clear hm h5 hG hR;by_cases hlt:q < vs.length
  ·rcases hvl with hnil | ⟨b,off,rfl,hb,hc⟩
   ·rw[hnil] at hlt;simp at hlt
   obtain⟨c,⟨u,rfl,hu⟩,hcc⟩:=hc q hlt;have c1:wo.cell? ⟨b,off+q,none⟩=some u:=(hbl.cell (p:=⟨b,off+q,none⟩) hb).trans (by have:=hcc 0 u rfl;simpa [sP] using this);obtain⟨Vp,hlb⟩:=hvs _ (List.getElem_mem hlt);have HT:=jD (show ∀s,jA (vs.take (q+1)) s=max (jA (vs.take q) s) (aQ vs[q] s) from fun s=>by rw[List.take_succ_eq_append_getElem hlt,AZ]);have mG:=jD hlb;clear hc hcc hlb;generalize vs[q]=l at*;obtain⟨ua,uc,rfl, -,hum, -,qA⟩:=hu.open_;clear hu;go_wp2;clear c1;go_loopw [22] (fun i wr=> ∃(j:Nat) (v:List Int),j≤l.length∧i= .int .i64 j∧V5 v∧(∀s:Int,0≤s→s < 5→aQ v s=if s < j then max (aQ v0 s) (aQ l s) else aQ v0 s)∧wr.heap[w.heap.size+1]? =some (Obj.cells (cV v).toArray 3 (0,0))∧wr.heap[w.heap.size]? =some (Obj.cells #[.slice none 0 0, .slice none 0 0] 118 (0,0))∧Below w.heap.size w wr) (fun i _=>l.length - (intOf i).toNat)
   case atStart=>exact ⟨0,v0,Nat.zero_le _,rfl,H5.o,fun s h0 h5=>by rw[if_neg (by omega)],HG.o,HR.o,hbl⟩
   case round=>
    clear hbl;obtain⟨j,v,hj,rfl,h5,hm,hG,hR,hbl⟩:=hrel;have HMJ:=jD hm;have Ri:=jD h5;have Wf:=jD hG;have HRJ:=jD hR;clear hm h5 hG hR;by_cases hlj:j < l.length
    ·rcases qA with hnil | ⟨b2,off2,rfl,hb2,hc2⟩
     ·rw[hnil] at hlj;simp at hlj
     have c1:=(hbl.cell (p:=⟨b2,off2+j,none⟩) hb2).trans (hc2 j hlj);have Zl:j < v.length:=by rw[Ri.o.len];omega
     have g1:=aD (j:=j) Wf.o (zn Zl);have f1:=dS (j:=j) Wf.o;have HLJ:=jD (show aQ l (j:Int)=l[j] from yJ hlj);have HVJ:=jD (show aQ v (j:Int)=v[j] from yJ Zl);obtain⟨x0,x1⟩:=mG.o _ (List.getElem_mem hlj);obtain⟨y0,y1⟩:=Ri.o.bd _ (List.getElem_mem Zl);have hjj:(j:Int) < 5:=by omega
     clear hc2;generalize l[j]=x at*;generalize v[j]=y at*;go_wp2;go_roundw
     case rel=>
      have hM:(if y < x then x else y)=max y x:=by by_cases hyx:y < x;rw [if_pos hyx];omega;rw [if_neg hyx];omega
      try rw[hM]
      refine⟨j+1,v.set j (max y x),by omega,by go_num,Ri.o.set j (by omega) (by omega),fun s h0 h5=> ?_,by rw[ax Wf.o,Gb],(aC (by omega)).trans HRJ.o,hbl.setCell (by exact Nat.le_succ _) _⟩;have e:=Fx (v:=v) (s:=(j:Int)) (r:=s) (x:=max y x) (by omega) (by have:=Ri.o.len;omega) h0;rw[Int.toNat_natCast] at e;rw[e];by_cases e1:s=j
      ·subst e1;rw[if_pos rfl,if_pos (by omega),HLJ.o];have:=HMJ.o (j:Int) (by omega) (by omega);rw[if_neg (by omega),HVJ.o] at this;rw[←this]
      ·rw[if_neg e1,HMJ.o s h0 h5];by_cases e2:s < j
       ·rw[if_pos e2,if_pos (by omega)]
       ·rw[if_neg e2,if_neg (by omega)]
     case measure=>simp [intOf];omega
    ·obtain rfl:j=l.length:=by omega
     have HF:=jD (show ∀s:Int,0≤s→s < 5→aQ v s=max (jA (vs.take q) s) (aQ l s) from fun s h0 h5=>by
      rw[HMJ.o s h0 h5,HM.o s h0 h5];split
      ·rfl
      ·rw[Fy (v:=l) (by omega)];have:=H5.o;have hp:0≤aQ v0 s:=by
        by_cases hs:s.toNat < v0.length
        ·unfold aQ;rw [List.getD_eq_getElem?_getD,List.getElem?_eq_getElem hs];exact (this.bd _ (List.getElem_mem hs)).1
        ·rw[Fy (by omega)];omega
       rw[HM.o s h0 h5] at hp;omega)
     go_wp2;go_roundw
     case rel=>exact ⟨q+1,v,by omega,by go_num,Ri.o,fun s h0 h5=>by rw[HT.o];exact HF.o s h0 h5,Wf.o,HRJ.o,hbl⟩
     case measure=>simp [intOf];omega
  ·obtain rfl:q=vs.length:=by omega
   rw[List.take_length] at HM;clear hvl;have hdx:aF wo (.slice ya ds.length yc) ds.length (az ds):=HD.o.below hbl;have HDX:=jD hdx;clear hdx;have hpost:ds.length*16≤140737488355328:=by omega
   go_wp2_with fail
   (with_reducible refine(Hl _ ds.length (az ds) _ HDX.o (cC ds) (kM ds) hpost).mono ?_);rintro e w3 ⟨v3,rfl,Vo,hb3⟩;obtain⟨za,zc,hz3⟩:=ay Vo;subst hz3;have kZ:=jD (ag hb3 HG.o);have sH:=jD (ag hb3 HR.o);have eH:=jD (hbl.trans (hb3.mono hbl.size));have hws:w.heap.size+1 < wo.heap.size:=ai HG.o;have ae4:=bV Vo (base':=w.heap.size) (by omega);have MG:=jD Vo;clear hb3 Vo ae4 hbl HG HR HDX;go_wp2_with fail
   (with_reducible refine(XD _ ds _ _ MG.o hds hlen).mono ?_);rintro e w4 ⟨rfl,es,hel,hem,hes,Gf,hg4⟩;have hoff: ∀k,Value.ownBlock (.slice za ds.length zc)=some k→wo.heap.size≤k:=fun k hk=>(MG.o.lt k hk).1;have tF:=jD (show w4.heap[w.heap.size+1]? =some (Obj.cells (cV v0).toArray 3 (0,0)) by rw[hg4.block _ (ai kZ.o) (fun e=>by have:=hoff _ e.symm;omega)];exact kZ.o);have mV:=jD (show w4.heap[w.heap.size]? =some (Obj.cells #[.slice none 0 0, .slice none 0 0] 118 (0,0)) by rw[hg4.block _ (ai sH.o) (fun e=>by have:=hoff _ e.symm;omega)];exact sH.o);have gp:=jD (eH.o.grown hg4 eH.o.size (fun k hk=>by have:=hoff k hk;omega));have Aa:=jD Gf;have MN:=jD hes;have RS:=jD hem;have MQ:=H5;have HVM:=HM;have TH:=hel;clear hg4 Gf hes hem kZ sH eH MG hoff;go_wp2;have hla:=Aa.o.lt;have wM:w.heap.size+1 < w4.heap.size:=ai tF.o;have M0:=jD (show uJ w (w4.alloc (.cells #[.slice none 0 0, .slice none 0 0] 118)) wo.heap.size (w4.heap.size+1) (w.heap.size+1) w.heap.size w4.heap.size v0 [] es (.slice none 0 0) (.slice za ds.length zc) from
    ⟨aO _ tF.o,aO _ mV.o,au _ _ _ _ rfl,World.ownsRow_nil _ _ _ _,by rw[TH];exact Aa.o.alloc _,fun k hk=>by have:=(hla k hk).2;omega,gp.o.alloc gp.o.size _,by simp⟩)
   clear tF mV gp Aa hla;generalize hO:w4.heap.size=O at*;go_loopw [44] (fun i wr=> ∃(q:Nat) (mv:Value),q≤ds.length∧i= .int .i64 q∧V5 (eU v0 (es.take q)).1∧uJ w wr wo.heap.size (O+1) (w.heap.size+1) w.heap.size O (eU v0 (es.take q)).1 (eU v0 (es.take q)).2 es mv (.slice za ds.length zc)) (fun i _=>ds.length - (intOf i).toNat)
   case atStart=>exact ⟨0, .slice none 0 0,Nat.zero_le _,rfl,H5.o,M0.o⟩
   case round=>
    clear M0;obtain⟨q,mv,hq,rfl,h5,hM⟩:=hrel;have HM:=jD hM;have H5:=jD h5;clear hM h5;by_cases hlt:q < ds.length
    ·have Jt:q < es.length:=by omega
     obtain⟨b,cap,YY,c1,c2⟩:=IP HM.o.row Jt;rw[TH] at YY;simp only[Value.slice.injEq,true_and] at YY;obtain⟨rfl,rfl⟩:=YY;have HT:=jD (show eU v0 (es.take (q+1))=fU (eU v0 (es.take q)) es[q] by rw[List.take_succ_eq_append_getElem Jt,zj]);have acj:(eU v0 (es.take q)).2.length≤q:=by
      have:=(EL (v0:=v0) MQ.o.len MQ.o.bd (es.take q) (fun d hd=>hds d ((RS.o d).1 (List.mem_of_mem_take hd))) (MN.o.sublist (List.take_sublist _ _))).EH;simp at this;omega
     obtain⟨⟨d0,d5⟩,d1,d2⟩:=jx.1 (hds es[q] ((RS.o _).1 (List.getElem_mem Jt)));generalize es[q]=d at*;obtain⟨s,c⟩:=d;simp only at c1 c2 d0 d5 d1 d2;obtain⟨s,rfl⟩:=Int.eq_ofNat_of_zero_le d0;generalize eU v0 (es.take q)=st at*;obtain⟨v,more⟩:=st;simp only at HM H5 acj;have hs5:s < v.length:=by rw[H5.o.len];omega
     have HVA:=jD (yJ hs5);obtain⟨y0,y1⟩:=H5.o.bd _ (List.getElem_mem hs5);have g1:=Ii (.cells #[.int .i64 s, .int .i64 c] 103) (aD (j:=s) HM.o.g (zn hs5));have x0:=cat wr #[.int .i64 (s:Int), .int .i64 c] 103 0 _ rfl _ rfl;have x1:=cat wr #[.int .i64 (s:Int), .int .i64 c] 103 1 _ rfl _ rfl;have MA:=jD (HM.o.alloc (.cells #[.int .i64 s, .int .i64 c] 103));have X0:=jD x0;have X1:=jD x1;have hbnd:wr.heap.size < (wr.alloc (.cells #[.int .i64 s, .int .i64 c] 103)).heap.size:=by simp
     have hGl:w.heap.size+1 < (wr.alloc (.cells #[.int .i64 s, .int .i64 c] 103)).heap.size:=ai MA.o.g;have hGl2:w.heap.size+1 < wr.heap.size:=ai HM.o.g;have hs5':(s:Int) < 5:=by omega
     clear x0 x1;generalize hY:v[s]=y at*;clear hY;by_cases hA:c≤y
     ·have HA:=jD (show fU (v,more) ((s:Int),c)=(v,more) by unfold fU;simp only;rw [HVA.o,if_pos hA]);go_wp2;go_quiet (fail);go_wp2;go_roundw
      case rel=>
       refine⟨q+1,mv,by omega,by go_num, ?_, ?_⟩
       ·rw[HT.o,HA.o];exact H5.o
       ·rw[HT.o,HA.o];exact MA.o.drewN _
      case measure=>simp [intOf];omega
     have hsum:IntKind.i64.wrap (y+1)=y+1:=IntWalk.i64_in _ (by omega);by_cases hB:c=y+1
     ·have HA:=jD (show fU (v,more) ((s:Int),c)=(v.set s (y+1),more) by unfold fU;simp only;rw [HVA.o,if_neg hA,if_pos hB,Int.toNat_natCast]);have hB':(c==y+1)=true:=by simp[hB]
      have cK:=jD hB;have f1:=dS (j:=s) MA.o.g;clear hB;go_wp2;go_quiet (fail);go_wp2;go_quiet (fail);go_wp2;go_roundw
      case rel=>
       refine⟨q+1,mv,by omega,by go_num, ?_, ?_⟩
       ·rw[HT.o,HA.o];exact H5.o.set s (by omega) (by have:=cK.o;omega)
       ·rw[HT.o,HA.o];exact ((MA.o.drewN _).aeN (by omega) (by omega) (by omega) s (y+1))
      case measure=>simp [intOf];omega
     have hB':(c==y+1)=false:=by simp[hB]
     have OT:=jD (show fU (v,more) ((s:Int),c)=if more.getLast? =some ((s:Int),c) then(v,more) else(v,more++[((s:Int),c)]) by unfold fU;simp only;rw [HVA.o,if_neg hA,if_neg hB]);have o1:=cq 1 MA.o.o rfl;have o1f:=fq 1 MA.o.o;have hOl:O < (wr.alloc (.cells #[.int .i64 s, .int .i64 c] 103)).heap.size:=ai MA.o.o;obtain⟨ma,mc,hmv⟩:=ay MA.o.own;clear hB;rcases List.eq_nil_or_concat more with hnil | ⟨l,z,hcc⟩
     focus
      have HST:=jD (show fU (v,more) ((s:Int),c)=(v,more++[((s:Int),c)]) by rw[OT.o,if_neg (by rw[hnil];simp)]);rw[hnil] at hmv;simp only[List.length_nil] at hmv;subst hmv;have dF:=jD (show more.length=0 by rw[hnil];rfl);clear hnil;go_wp2;go_quiet (fail);go_wp2;go_quiet (fail);go_wp2;go_quiet (fail)
     rotate_left
     focus
      rw[List.concat_eq_append] at hcc;clear hmv;obtain⟨bm,aeS,YZ,z1,z2⟩:=IP (q:=l.length) MA.o.own (by rw[hcc];simp);have hz:more[l.length]'(by rw[hcc];simp)=z:=by simp[hcc]
      rw[hz] at z1 z2;have hml:more.length=l.length+1:=by rw[hcc];simp
      rw[hml] at YZ;have hlb:l.length≤1000000:=by omega
      have HML:=jD hml;clear hml;subst YZ;have heqs:=VJ;have afd:=Dv;have hml0:((l.length:Int)+1==0)=false:=by simp;omega
      have hw1:IntKind.i64.wrap (l.length:Int)=l.length:=IntWalk.i64_in _ (by omega);have hll:(l.length:Int) < (l.length:Int)+1:=by omega
      by_cases hzd:z=((s:Int),c)
      ·have HST:=jD (show fU (v,more) ((s:Int),c)=(v,more) by rw[OT.o,if_pos (by rw[hcc,hzd];simp)]);rw[hzd] at z1 z2;clear hz hcc;go_wp2;go_quiet (fail);go_wp2;go_quiet (fail);go_wp2;go_quiet (fail);go_wp2;go_roundw
       case rel=>
        refine⟨q+1, .slice (some ⟨bm,0,none⟩) (l.length+1) aeS,by omega,by go_num, ?_, ?_⟩
        ·rw[HT.o,HST.o];exact H5.o
        ·rw[HT.o,HST.o];exact MA.o.drewN _
       case measure=>simp [intOf];omega
      have HST:=jD (show fU (v,more) ((s:Int),c)=(v,more++[((s:Int),c)]) by rw[OT.o,if_neg (by rw[hcc];simpa using hzd)]);have hzb:(z.1==(s:Int)&&z.2==c)=false:=by
       rw[Bool.eq_false_iff];intro h;apply hzd;simp at h;exact Prod.ext h.1 h.2
      clear hz hcc hzd;go_wp2;go_quiet (fail);go_wp2;go_quiet (fail);go_wp2;go_quiet (fail)
     all_goals
      have HOWN:=jD (fun n=>((MA.o.drewN n).alloc (.cells #[.int .i64 s, .int .i64 c] 103)).own);have ROW:=jD (fun n=>aF.mk (w:=((wr.alloc (.cells #[.int .i64 s, .int .i64 c] 103)).drewN n).alloc (.cells #[.int .i64 s, .int .i64 c] 103)) (b:=wr.heap.size+1) (off:=0) (n:=1) (cap:=1) (xs:=[.int .i64 s, .int .i64 c]) (Nat.le_refl _) (by decide) (by simp) (fun j z hj=>by rw[Nat.zero_add,World.cell?_alloc_at _ _ _ _ (by simp)];simpa using hj));have hsz:=MA.o.sz;simp only[World.size_alloc] at hsz;go_wp2_with (at_builtin;refine bM rfl (.tmp 92) (.tmp 94) 116 rfl (O+1) 103 _ 2 16 Tryz.underlying116 K2.info rfl (by decide) _ more.length _ rfl (HOWN.o _) _ 1 _ rfl (ROW.o _) rfl (by intro u hu;simp at hu;rcases hu with rfl | rfl <;> rfl) (by simp;omega) (by unfold maxLen;omega) (by omega) ?_)
      intro v' w2 ho hgr;obtain⟨qa,qc,hq⟩:=ay ho;subst hq;have HP:=jD (uJ.push (d:=((s:Int),c)) ((MA.o.drewN _).alloc _) (by omega) (by omega) (by omega) (by omega) ho hgr);have o2:=fB (HOWN.o _) hgr ((MA.o.drewN _).alloc _).o (by decide);have o3:=cq 1 o2 rfl;have o3f:=fq 1 o2;have hO2:=ai o2;clear o2 ho hgr HOWN ROW o1 o1f g1 c1 c2;go_wp2;go_roundw
      case rel=>
       refine⟨q+1, .slice qa (more.length+1) qc,by omega,by go_num, ?_, ?_⟩
       ·rw[HT.o,HST.o];exact H5.o
       ·rw[HT.o,HST.o];exact HP.o
      case measure=>simp [intOf];omega
    ·obtain rfl:q=ds.length:=by omega
     rw[show es.take ds.length=es by rw[←TH,List.take_length]] at HM H5;generalize hst:eU v0 es=st at*;obtain⟨v,more⟩:=st;simp only at HM H5;have HST:=jD hst;have h55:=H5.o.len;clear hst;go_wp2;go_loop [5] (fun t=> ∃n:Nat,n≤5∧t= .slice (some ⟨w.heap.size+1,0,none⟩) n 5∧dR (v.take n)=dR v) (fun t=>match t with | .slice _ n _=>n | _=>0)
     case atStart=>exact ⟨5,Nat.le_refl _,rfl,by rw[List.take_of_length_le (by omega)]⟩
     case round=>
      obtain⟨n,hn,rfl,htr⟩:=hrel;have Rk:=jD htr;clear htr;have hG:=HM.o.g;have hGl:=ai HM.o.g;rcases n with - | n
      rotate_left
      focus
       have hnl:n < v.length:=by omega
       have g1:=aD (j:=n) HM.o.g (zn hnl);have HTS:=jD (show dR (v.take (n+1))=if v[n]=0 then dR (v.take n) else v.take (n+1) by rw[List.take_succ_eq_append_getElem hnl,wY]);have hw1:IntKind.i64.wrap (n:Int)=n:=IntWalk.i64_in _ (by omega);have hn5:(n:Int) < 5:=by omega
       generalize v[n]=x at*;by_cases hx:x=0
       ·have HX:=jD hx;have hx':(x==0)=true:=by simp[hx]
        clear hx hG;go_wp2;go_roundw
        case rel=>exact ⟨n,by omega,rfl,by rw[←Rk.o,HTS.o,if_pos HX.o]⟩
        case measure=>simp
       have gV:=jD (show v.take (n+1)=dR v by rw[←Rk.o,HTS.o,if_neg hx]);have hx':(x==0)=false:=by simp[hx]
       have HG:=jD hG;have sI:=jD (rfl:n+1=n+1);have lu:=jD (show aF wr (.slice (some ⟨w.heap.size+1,0,none⟩) (n+1) 5) (n+1) (cV (dR v)) by rw[←gV.o];exact DG hG (by omega) (by omega) (by omega));have iU:=jD (show(cV (dR v)).length=(n+1)*1 by rw[←gV.o,pZ,List.length_take];omega);clear hx hG hnl Rk HTS;go_wp2_with fail
      rotate_left
      focus
       have gV:=jD (show v.take 0=dR v by rw[←Rk.o];simp [dR]);have HG:=jD hG;have lu:=jD (show aF wr (.slice (some ⟨w.heap.size+1,0,none⟩) 0 5) 0 (cV (dR v)) by rw[←gV.o];exact DG hG (by omega) (by omega) (by omega));have iU:=jD (show(cV (dR v)).length=0*1 by rw[←gV.o];rfl);clear hG Rk;go_wp2_with fail
      all_goals
       (with_reducible refine(GM _ _ (cV (dR v)) _ lu.o iU.o (Gc _) (by omega)).mono ?_);rintro e w5 ⟨u,rfl,Ze,bR⟩;obtain⟨ua,uc,hu⟩:=ay Ze;subst hu;have Mh:=ag bR HM.o.o;have JI:=ag bR HM.o.r;have o0:=cq 0 Mh rfl;have o1:=cq 1 Mh rfl;have o0f:=fq 0 Mh;have r0:=cq 0 JI rfl;have r1:=cq 1 JI rfl;have r0f:=fq 0 JI;have r1f:=fq 1 JI;have hOl:=ai Mh;have r8:=ai JI;have hne:O≠w.heap.size:=by omega
       have Tz:w.heap.size≠O:=by omega
       obtain⟨ma,mc,hmv⟩:=ay HM.o.own;have vS:=jD Mh;have mF:=jD JI;have HOW:=jD (aI HM.o.own bR);have HU5:=jD Ze;have aP:=jD (HM.o.aW.trans (bR.mono HM.o.aW.size));have hws:=HM.o.aW.size;subst hmv;clear Mh JI Ze bR;go_wp2;refine bodyPost_ret (v:= .agg #[_,_]) (by simp[results,Tryz.results162,go_sem, *];exact ⟨rfl,rfl⟩) rfl ⟨⟨dR v,more⟩,_,_,rfl, ?_⟩;have hlen:(dR v).length*1=(cV (dR v)).length:=by rw[pZ];omega
       rw[iU.o] at hlen;have e5: ∀x,(w5.setCell ⟨O,0,none⟩ x).heap[w.heap.size]? =some (Obj.cells #[.slice none 0 0, .slice none 0 0] 118 (0,0)):=fun x=>(aC Tz).trans mF.o;have mk:=Xn (v0:=v0) MQ.o.len MQ.o.bd (ds:=es) (fun d hd=>hds d ((RS.o d).1 hd)) MN.o;have ms:=EL (v0:=v0) MQ.o.len MQ.o.bd es (fun d hd=>hds d ((RS.o d).1 hd)) MN.o;rw[HST.o] at mk ms;refine⟨⟨?_, ?_⟩,mk.1,by have:=ms.EH;simp only at this ⊢;omega,fun s c h0 h5 h1=> ?_, ?_⟩
       ·have q:=fun x y z=>cG (j:=1) (u:=z) (cG (j:=0) (u:=y) (cG (j:=0) (u:=x) HU5.o vS.o (by decide)) (e5 x) (by decide)) (ax (e5 x)) (by decide);simp only;rw[show(dR v).length=_ from by rw[←Nat.mul_one (dR v).length,hlen,Nat.mul_one]];exact bV (q _ _ _) hws
       ·exact bV (cG (j:=1) (cG (j:=0) (cG (j:=0) HOW.o vS.o (by decide)) (e5 _) (by decide)) (ax (e5 _)) (by decide)) (by omega)
       ·rw[mk.2 s c h0 h5 h1,HVM.o s h0 h5];congr 1;simp only[RS.o]
       ·exact((aP.o.setCell (p:=⟨O,0,none⟩) (by simp only;omega) _).setCell (p:=⟨w.heap.size,0,none⟩) (Nat.le_refl _) _).setCell (p:=⟨w.heap.size,1,none⟩) (Nat.le_refl _) _
theorem T4 {w:World} {base:Nat} {u v:Value} {P:j4} (h:bI w base u v (cA P)):dB w u v (cA P):=h.at_ (Cm P).len (by have:=vF P;omega)
theorem PN (vv dv:Value) (vs:List (List Int)) (ds:dN) (P:j4) (w:World) (hv:bK sP w vv vs) (hd:mg w dv ds) (hvs: ∀l∈vs,Ia l) (hds: ∀d∈ds,bX d=true) (hlen:ds.length≤1000000)
  (hP:DEq (fun s c=>decide (c≤jA vs s) || decide ((s,c)∈ds)) P):
  Calls Tryz.prog 162 #[vv,dv] w fun e w'=> ∃(u v:Value),e= .returned (.agg #[u,v])∧bI w' w.heap.size u v (cA P)∧Below w.heap.size w w':=by
 refine(made_c vv dv vs ds w hv hd hvs hds hlen).mono ?_;rintro e w' ⟨k,u,v,rfl,ho,hok, -,hm,hb⟩;have:k=cA P:=Ob hok fun s c h0 h5 h1 h2=>by rw[hm s c h0 h5 h1];exact hP s c h0 h5 h1 h2
 subst this;exact⟨u,v,rfl,ho,hb⟩
def jL (w:World) (base:Nat) (u v:Value) (E:Int) (k:Kn):Prop:=(E=0∧bI w base u v k)∨(E≠0∧u= .slice none 0 0∧v= .slice none 0 0)
theorem jL.below {w w':World} {base:Nat} {u v:Value} {E:Int} {k:Kn} (h:jL w base u v E k) (hb:Below w.heap.size w w'):jL w' base u v E k:=h.imp (fun h=>⟨h.1,h.2.below hb⟩) id
theorem jL.shape {w:World} {base:Nat} {u v:Value} {E:Int} {k:Kn} (h:jL w base u v E k): ∃a n c b m d,u= .slice a n c∧v= .slice b m d:=by
 rcases h with⟨-,h⟩ | ⟨-,rfl,rfl⟩
 ·obtain⟨a,c,rfl⟩:=ay h.vec;obtain ⟨b,d,rfl⟩:=ay h.more;exact ⟨_,_,_,_,_,_,rfl,rfl⟩
 ·exact⟨none,0,0,none,0,0,rfl,rfl⟩
theorem jL.set {w:World} {base g j:Nat} {u v x:Value} {E:Int} {k:Kn} {cs:Array Value} (h:jL w base u v E k) (hg:w.heap[g]? =some (Obj.cells cs 118 (0,0))):jL (w.setCell ⟨g,j,none⟩ x) base u v E k:=
 h.imp (fun h=>⟨h.1,cG h.2.vec hg (by decide),cG h.2.more hg (by decide)⟩) id
theorem Xt (u v:Value) (k:Kn) (base:Nat) (w:World) (hk:bI w base u v k) (hl:k.more.length≤1000000):
  Calls Tryz.prog 235 #[.agg #[u,v]] w fun e w'=> ∃(x y:Value),e= .returned (.tuple #[.agg #[x,y], .int .i64 (kE k)])∧jL w' base x y (kE k) k∧Below w.heap.size w w':=by
 obtain⟨va,vc,rfl⟩:=ay hk.more;obtain⟨ua,uc,rfl⟩:=ay hk.vec;have HK:=jD hk;have dm:Below w.heap.size w (w.alloc (.cells #[.slice ua k.vec.length uc, .slice va k.more.length vc] 118)):=aG _;clear hk;by_cases h:60 < k.more.length
 ·have H:=jD (show kE k=2 by unfold kE;rw [if_pos h]);go_enter Tryz.func235,Tryz.ntmps235;go_wp2;refine bodyPost_ret (v:= .tuple #[.agg #[_,_],_]) (by simp[results,Tryz.results235,go_sem, *];exact ⟨⟨rfl,rfl⟩,rfl⟩) rfl ?_;refine⟨_,_,by rw[H.o], .inr ⟨by rw[H.o];decide,rfl,rfl⟩,(dm.alloc (by simp) _)⟩
 ·have H:=jD (show kE k=0 by unfold kE;rw [if_neg h]);go_enter Tryz.func235,Tryz.ntmps235;go_wp2;refine bodyPost_ret (v:= .tuple #[.agg #[_,_],_]) (by simp[results,Tryz.results235,go_sem, *];exact ⟨⟨rfl,rfl⟩,rfl⟩) rfl ?_;refine⟨_,_,by rw[H.o], .inl ⟨H.o, ?_⟩,(dm.alloc (by simp) _)⟩;exact(HK.o.below (aG _)).below (aG _)
theorem Si (a b:List Int) (s:Int):jA [a,b] s=max (max 0 (aQ a s)) (aQ b s):=rfl
def gB (P Q:j4):j4:=fun s c=>P s c || Q s c
theorem Tj (a b:Kn):DEq (fun s c=>decide (c≤jA [a.vec,b.vec] s) || decide ((s,c)∈a.more++b.more)) (gB (aU a) (aU b)):=by
 intro s c _ _ h1 _;rw[Bool.eq_iff_iff];simp only[gB,aU,Bool.or_eq_true,decide_eq_true_eq,List.mem_append];rw[Si];have e:(c≤max (max 0 (aQ a.vec s)) (aQ b.vec s))↔(c≤aQ a.vec s∨c≤aQ b.vec s):=by omega
 rw[e,or_or_or_comm]
def yS (E0:Int) (P:j4):Int:=if E0=0 then kE (cA P) else E0
theorem QY {w w1 w2:World} (h:Below w.heap.size w w1) (k:Below w1.heap.size w1 w2):Below w.heap.size w w2:=aj h k
theorem WT (w:World) (u1 u2:Value) (l1 l2:List Int) (t:TypeId) {g:Nat} (hg:g=w.heap.size) (h1:l9 (w.alloc (.cells #[u1,u2] t)) u1 l1) (h2:l9 (w.alloc (.cells #[u1,u2] t)) u2 l2):bK sP (w.alloc (.cells #[u1,u2] t)) (.slice (some ⟨g,0,none⟩) 2 2) [l1,l2]:=by
 subst hg;refine⟨[[u1],[u2]],⟨⟨_,rfl,h1⟩,⟨_,rfl,h2⟩,trivial⟩,aF.mk (Nat.le_refl _) (by decide) (by simp) fun j x hj=> ?_⟩;rw[Nat.zero_add,World.cell?_alloc_at _ _ _ _ rfl];simpa using hj
theorem SN (w:World) (u1 u2:Value) (n1 n2:Nat) (l1 l2:List Value) (t:TypeId) (g:Nat) (hg:g=w.heap.size) (h1:aF (w.alloc (.cells #[u1,u2] t)) u1 n1 l1) (h2:aF (w.alloc (.cells #[u1,u2] t)) u2 n2 l2):qo (w.alloc (.cells #[u1,u2] t)) (.slice (some ⟨g,0,none⟩) 2 2) [(u1,n1,l1),(u2,n2,l2)]:=by
 subst hg;refine⟨aF.mk (Nat.le_refl _) (by decide) (by simp) fun j x hj=> ?_,fun r hr=> ?_⟩
 ·rw[Nat.zero_add,World.cell?_alloc_at _ _ _ _ rfl];simpa using hj
 ·simp only[List.mem_cons,List.not_mem_nil,or_false] at hr;rcases hr with rfl | rfl
  ·exact h1
  ·exact h2
theorem Pq {w w':World} {v:Value} {rs:rP} (h:qo w v rs) (hb:Below w.heap.size w w'):qo w' v rs:=⟨h.1.below hb,fun r hr=>(h.2 r hr).below hb⟩
theorem Ww {a b:Kn} (ha:gz a) (hb:gz b): ∀l∈[a.vec,b.vec],Ia l:=by
 intro l hl;simp only[List.mem_cons,List.not_mem_nil,or_false] at hl;rcases hl with rfl | rfl
 ·exact⟨ha.len,ha.bd⟩
 ·exact⟨hb.len,hb.bd⟩
theorem XJ {a b:Kn} (ha:gz a) (hb:gz b): ∀d∈a.more++b.more,bX d=true:=by
 intro d hd;rcases List.mem_append.1 hd with h | h
 ·exact(ha.nH d h).1
 ·exact(hb.nH d h).1
theorem XR (x u1 u2:Value) (a b:Kn) (w:World) (h:qo w x [(u1,a.more.length,az a.more),(u2,b.more.length,az b.more)]) (ha:gz a∧a.more.length≤60) (hb:gz b∧b.more.length≤60):
  Calls Tryz.prog 236 #[x] w fun e w'=> ∃v,e= .returned v∧mg w' v (a.more++b.more)∧Below w.heap.size w w':=by
 refine(O0 x _ w h ?_ ?_ ?_).mono ?_
 ·intro r hr;simp only[List.mem_cons,List.not_mem_nil,or_false] at hr;rcases hr with rfl | rfl <;> exact cC _
 ·intro r hr;simp only[List.mem_cons,List.not_mem_nil,or_false] at hr;rcases hr with rfl | rfl <;> exact kM _
 ·simp[tot];omega
 ·rintro e w' ⟨v,rfl,ho,hbl⟩;refine⟨v,rfl, ?_,hbl⟩;have e1:tot [(u1,a.more.length,az a.more),(u2,b.more.length,az b.more)]=(a.more++b.more).length:=by simp[tot]
  have e2:flat [(u1,a.more.length,az a.more),(u2,b.more.length,az b.more)]=az (a.more++b.more):=by simp[flat,fC]
  rw[e1,e2] at ho;exact aF.fZ ho (by simp;omega)
theorem kjoin_c (ua va ub vb:Value) (a b:Kn) (w:World) (ha:dB w ua va a) (hb:dB w ub vb b):
  Calls Tryz.prog 227 #[.agg #[ua,va], .agg #[ub,vb]] w fun e w'=> ∃(x y:Value),e= .returned (.tuple #[.agg #[x,y], .int .i64 (yS (gy a b) (gB (aU a) (aU b)))])∧jL w' w.heap.size x y (yS (gy a b) (gB (aU a) (aU b))) (cA (gB (aU a) (aU b)))∧Below w.heap.size w w':=by
 obtain⟨xa,ca,hua⟩:=ha.vec.shape;obtain⟨ya,da,vk⟩:=ha.more.shape;obtain⟨xb,cb,hub⟩:=hb.vec.shape;obtain⟨yb,db,hvb⟩:=hb.more.shape;subst hua vk hub hvb;obtain⟨W,hW⟩: ∃W,W=((w.alloc (.cells #[.slice xa a.vec.length ca, .slice ya a.more.length da] 118)).alloc (.cells #[.slice xb b.vec.length cb, .slice yb b.more.length db] 118)).alloc (.cells #[.slice none 0 0, .slice none 0 0] 118):=⟨_,rfl⟩
 have hbW:Below w.heap.size w W:=by rw[hW];exact ((aG _).alloc (by simp) _).alloc (by simp;omega) _
 have A:=jD (show W.heap[w.heap.size]? =some (Obj.cells #[.slice xa a.vec.length ca, .slice ya a.more.length da] 118 (0,0)) by rw[hW];exact aO _ (aO _ (au _ _ _ _ rfl)));have B:=jD (show W.heap[w.heap.size+1]? =some (Obj.cells #[.slice xb b.vec.length cb, .slice yb b.more.length db] 118 (0,0)) by rw[hW];exact aO _ (au _ _ _ _ (by simp)));have R:=jD (show W.heap[w.heap.size+2]? =some (Obj.cells #[.slice none 0 0, .slice none 0 0] 118 (0,0)) by rw[hW];exact au _ _ _ _ (by simp));have HA:=jD (ha.below hbW);have HB:=jD (hb.below hbW);have ek:=jD hbW;clear hbW ha hb;go_enter Tryz.func227,Tryz.ntmps227;go_wp2_with fail
 rw[show w.heap.size+1+1=w.heap.size+2 from rfl,←hW];clear hW;(with_reducible refine(PW _ _ _ _ a b _ HA.o HB.o).mono ?_);rintro e w1 ⟨rfl,hb1⟩;have A1:=jD (ag hb1 A.o);have B1:=jD (ag hb1 B.o);have R1:=jD (ag hb1 R.o);have Wp:=jD (HA.o.below hb1);have bh:=jD (HB.o.below hb1);have hbl:=ek.o.trans (hb1.mono ek.o.size);clear hb1 A B R HA HB ek;cases hx:(gy a b==0)
 ·have H0:=jD (show gy a b≠0 by simpa using hx);have H:=jD (show yS (gy a b) (gB (aU a) (aU b))=gy a b by unfold yS;rw [if_neg H0.o]);have h':(gy a b != 0)=true:=by simp[bne,hx]
  have r0:=cq 0 R1.o rfl;have r1:=cq 1 R1.o rfl;have f0:=fq 0 R1.o;have f1:=fq 1 R1.o;have r8:=ai R1.o;clear hx;go_wp2;refine bodyPost_ret (v:= .tuple #[.agg #[_,_],_]) (by simp[results,Tryz.results227,go_sem, *];exact ⟨⟨rfl,rfl⟩,rfl⟩) rfl ?_;exact⟨_,_,by rw[H.o], .inr ⟨by rw[H.o];exact H0.o,rfl,rfl⟩,(hbl.setCell (by simp) _).setCell (by simp) _⟩
 have h0:gy a b=0:=by simpa using hx
 have HE:=jD (show yS (gy a b) (gB (aU a) (aU b))=kE (cA (gB (aU a) (aU b))) by unfold yS;rw [if_pos h0]);obtain⟨c1,c2⟩:=tM.1 h0;have OA:=jD (di.1 c1);have OB:=jD (di.1 c2);rw[h0];clear hx h0 c1 c2;go_wp2_with fail
 have CA0:=jD (cq 0 A1.o rfl);have CA1:=jD (cq 1 A1.o rfl);have CB0:=jD (cq 0 B1.o rfl);have CB1:=jD (cq 1 B1.o rfl);refine Cl.aV 29 rfl [15] (fun ww=>Below w1.heap.size w1 ww) (fun jq=>match jq with | 4=>[15] | 9=>[15] | 10=>[15] | 11=>[15] | 12=>[15] | 13=>[15] | _=>[]) (fun jq v ww=>match jq with | 0=>v= .pointer (some ⟨w.heap.size,0,none⟩) | 1=>v= .slice xa a.vec.length ca | 2=>v= .pointer (some ⟨w.heap.size+1,0,none⟩) | 3=>v= .slice xb b.vec.length cb | 4=>bK sP ww v [a.vec,b.vec] | 5=>v= .pointer (some ⟨w.heap.size,1,none⟩) | 6=>v= .slice ya a.more.length da | 7=>v= .pointer (some ⟨w.heap.size+1,1,none⟩) | 8=>v= .slice yb b.more.length db | 9=>qo ww v [(.slice ya a.more.length da,a.more.length,az a.more),(.slice yb b.more.length db,b.more.length,az b.more)] | 10=>mg ww v (a.more++b.more) | 11=> ∃X Y,v= .agg #[X,Y]∧bI ww w.heap.size X Y (cA (gB (aU a) (aU b))) | 12=> ∃X Y,v= .tuple #[.agg #[X,Y], .int .i64 (kE (cA (gB (aU a) (aU b))))]∧jL ww w.heap.size X Y (kE (cA (gB (aU a) (aU b)))) (cA (gB (aU a) (aU b))) | 13=> ∃X Y,v= .agg #[X,Y]∧jL ww w.heap.size X Y (kE (cA (gB (aU a) (aU b)))) (cA (gB (aU a) (aU b))) | 14=>v= .int .i64 (kE (cA (gB (aU a) (aU b)))) | 15=> ∃X Y,ww.heap[w.heap.size+2]? =some (Obj.cells #[X,Y] 118 (0,0))∧jL ww w.heap.size X Y (kE (cA (gB (aU a) (aU b)))) (cA (gB (aU a) (aU b)))∧Below w.heap.size w ww | 16=>v= .int .i64 (kE (cA (gB (aU a) (aU b)))) | _=>True) (fun ww=>True) (fun jq ww aR=>jq≠15→Below ww.heap.size ww aR) Tryz.mixed (by decide+kernel) trivial ((br).drew) ?_ (fun jq ww aR hk h hR=>aj h (hR (by simpa using hk))) ?_ ?_
 ·intro q r v w w' hne hk hlt h hR;match r,hk,hlt,h,hne with
  | 0,_,_,h,_=>exact h
  | 1,_,_,h,_=>exact h
  | 2,_,_,h,_=>exact h
  | 3,_,_,h,_=>exact h
  | 4,hk,_,h,_=>exact h.below (hR (by simpa using hk))
  | 5,_,_,h,_=>exact h
  | 6,_,_,h,_=>exact h
  | 7,_,_,h,_=>exact h
  | 8,_,_,h,_=>exact h
  | 9,hk,_,h,_=>exact Pq h (hR (by simpa using hk))
  | 10,hk,_,h,_=>exact h.below (hR (by simpa using hk))
  | 11,hk,_,h,_=>exact (fun hb=>let ⟨x,y,h1,h2⟩:=h;⟨x,y,h1,h2.below hb⟩) (hR (by simpa using hk))
  | 12,hk,_,h,_=>exact (fun hb=>let ⟨x,y,h1,h2⟩:=h;⟨x,y,h1,h2.below hb⟩) (hR (by simpa using hk))
  | 13,hk,_,h,_=>exact (fun hb=>let ⟨x,y,h1,h2⟩:=h;⟨x,y,h1,h2.below hb⟩) (hR (by simpa using hk))
  | 14,_,_,h,_=>exact h
  | 15,_,_,h,hne=>exact (fun hb=>let ⟨x,y,h1,h2,h3⟩:=h;⟨x,y,ag hb h1,h2.below hb,QY h3 hb⟩) (hR (by exact hne))
  | 16,_,_,h,_=>exact h
  | _+17,_,_,_,_=>trivial
 ·refine⟨?_, ?_, ?_, ?_, ?_, ?_, ?_, ?_, ?_, ?_, ?_, ?_, ?_, ?_, ?_, ?_, ?_,trivial⟩
  ·intro x wx hG;have f2:=hG.o 2;have hp:=hG.p 0;replace hG:=hG.g;have hG:=hp;go_wp2;exact⟨_,rfl,rfl,trivial,fun _=>br⟩
  ·intro x wx hG;have g0:=gr 14 (hG.c 0 _ rfl);have hp:=hG.p 0;replace hG:=hG.g;have hG:=hp;have acK:=ah hG CA0.o;go_wp2;exact⟨_,rfl,rfl,trivial,fun _=>br⟩
  ·intro x wx hG;have f3:=hG.o 3;have hp:=hG.p 0;replace hG:=hG.g;have hG:=hp;go_wp2;exact⟨_,rfl,rfl,trivial,fun _=>br⟩
  ·intro x wx hG;have g2:=gr 16 (hG.c 2 _ rfl);have hp:=hG.p 0;replace hG:=hG.g;have hG:=hp;have c_CB0:=ah hG CB0.o;go_wp2;exact⟨_,rfl,rfl,trivial,fun _=>br⟩
  ·intro x wx hG;have⟨g1,tq⟩:=gs 15 (hG.c 1 _ rfl);have⟨g3,qF⟩:=gs 17 (hG.c 3 _ rfl);have hp:=hG.p 0;replace hG:=hG.g;have hG:=hp;go_wp2;exact⟨_,rfl,WT _ _ _ _ _ _ rfl (Wp.o.below (hG.alloc hG.size _)).vec (bh.o.below (hG.alloc hG.size _)).vec,trivial,fun _=>aG _⟩
  ·intro x wx hG;have f2:=hG.o 2;have hp:=hG.p 0;replace hG:=hG.g;have hG:=hp;go_wp2;exact⟨_,rfl,rfl,trivial,fun _=>br⟩
  ·intro x wx hG;have g5:=gr 19 (hG.c 5 _ rfl);have hp:=hG.p 0;replace hG:=hG.g;have hG:=hp;have acJ:=ah hG CA1.o;go_wp2;exact⟨_,rfl,rfl,trivial,fun _=>br⟩
  ·intro x wx hG;have f3:=hG.o 3;have hp:=hG.p 0;replace hG:=hG.g;have hG:=hp;go_wp2;exact⟨_,rfl,rfl,trivial,fun _=>br⟩
  ·intro x wx hG;have g7:=gr 21 (hG.c 7 _ rfl);have hp:=hG.p 0;replace hG:=hG.g;have hG:=hp;have c_CB1:=ah hG CB1.o;go_wp2;exact⟨_,rfl,rfl,trivial,fun _=>br⟩
  ·intro x wx hG;have⟨g6,uy⟩:=gs 20 (hG.c 6 _ rfl);have⟨g8,Bb⟩:=gs 22 (hG.c 8 _ rfl);have hp:=hG.p 0;replace hG:=hG.g;have hG:=hp;go_wp2;exact⟨_,rfl,SN _ _ _ _ _ _ _ _ _ rfl (Wp.o.below (hG.alloc hG.size _)).more (bh.o.below (hG.alloc hG.size _)).more,trivial,fun _=>aG _⟩
  ·intro x wx hG;have g9:qo wx (x.tmps.getD 23 undef) [(.slice ya a.more.length da,a.more.length,az a.more),(.slice yb b.more.length db,b.more.length,az b.more)]:=hG.c 9 _ rfl;have hp:=hG.p 0;replace hG:=hG.g;have hG:=hp;generalize hx:x.tmps.getD 23 undef=x23 at*;have G9:=jD g9;clear g9;go_wp2_with fail
   skip;(with_reducible refine(XR _ _ _ _ _ _ G9.o OA.o OB.o).mono ?_);rintro e wq ⟨v9,rfl,h9,hb⟩;obtain⟨za,zc,hz⟩:=h9.shape;generalize (a.more++b.more).length=ln at hz;subst hz;have H9:=jD h9;clear h9;go_wp2;exact⟨_,rfl,H9.o,trivial,fun _=>hb⟩
  ·intro x wx hG;have g4:bK sP wx (x.tmps.getD 18 undef) [a.vec,b.vec]:=hG.c 4 _ rfl;have g10:mg wx (x.tmps.getD 24 undef) (a.more++b.more):=hG.c 10 _ rfl;have hp:=hG.p 0;replace hG:=hG.g;have hG:=hp;generalize hx:x.tmps.getD 24 undef=x24 at*;generalize hy:x.tmps.getD 18 undef=x18 at*;have G10:=jD g10;have G4:=jD g4;clear g10 g4;go_wp2_with fail
   (with_reducible refine(PN _ _ _ _ (gB (aU a) (aU b)) _ G4.o G10.o (Ww OA.o.1 OB.o.1) (XJ OA.o.1 OB.o.1) (by have:=OA.o.2;have:=OB.o.2;simp only[List.length_append];omega) (Tj a b)).mono ?_);rintro e wq ⟨u9,v9,rfl,h9,hb⟩;have H9:=jD (h9.mono (base':=w.heap.size) (by have:=hbl.size;have:=hG.size;omega));clear h9;go_wp2;exact⟨_,rfl,⟨_,_,rfl,H9.o⟩,trivial,fun _=>hb⟩
  ·intro x wx hG;have g11: ∃X Y,(x.tmps.getD 25 undef)= .agg #[X,Y]∧bI wx w.heap.size X Y (cA (gB (aU a) (aU b))):=hG.c 11 _ rfl;have hp:=hG.p 0;replace hG:=hG.g;have hG:=hp;obtain⟨x9,y9,Vi,h9⟩:=g11;have H9:=jD h9;clear h9;go_wp2_with fail
   (with_reducible refine(Xt _ _ _ _ _ H9.o (by have:=vF (gB (aU a) (aU b));omega)).mono ?_);rintro e wq ⟨u9,v9,rfl,h8,hb⟩;have H8:=jD h8;clear h8;go_wp2;exact⟨_,rfl,⟨_,_,rfl,H8.o⟩,trivial,fun _=>hb⟩
  ·intro x wx hG;have g12: ∃X Y,(x.tmps.getD 26 undef)= .tuple #[.agg #[X,Y], .int .i64 (kE (cA (gB (aU a) (aU b))))]∧jL wx w.heap.size X Y (kE (cA (gB (aU a) (aU b)))) (cA (gB (aU a) (aU b))):=hG.c 12 _ rfl;have hp:=hG.p 0;replace hG:=hG.g;have hG:=hp;obtain⟨x9,y9,Vi,h9⟩:=g12;have H9:=jD h9;clear h9;go_wp2;exact⟨_,rfl,⟨_,_,rfl,H9.o⟩,trivial,fun _=>br⟩
  ·intro x wx hG;have g12: ∃X Y,(x.tmps.getD 26 undef)= .tuple #[.agg #[X,Y], .int .i64 (kE (cA (gB (aU a) (aU b))))]∧jL wx w.heap.size X Y (kE (cA (gB (aU a) (aU b)))) (cA (gB (aU a) (aU b))):=hG.c 12 _ rfl;have hp:=hG.p 0;replace hG:=hG.g;have hG:=hp;obtain⟨x9,y9,Vi,h9⟩:=g12;clear h9;go_wp2;exact⟨_,rfl,rfl,trivial,fun _=>br⟩
  ·intro x wx hG;have f4:=hG.o 4;have g13: ∃X Y,(x.tmps.getD 27 undef)= .agg #[X,Y]∧jL wx w.heap.size X Y (kE (cA (gB (aU a) (aU b)))) (cA (gB (aU a) (aU b))):=hG.c 13 _ rfl;have hp:=hG.p 0;replace hG:=hG.g;have hG:=hp;obtain⟨x9,y9,Vi,h9⟩:=g13;obtain⟨qa,qn,qc,qb,qm,qd,hq1,hq2⟩:=h9.shape;subst hq1 hq2;have H9:=jD h9;have hR:=ag hp R1.o;have HR:=jD hR;have r0:=cq 0 hR rfl;have r1:=cq 1 hR rfl;have f0:=fq 0 hR;have f1:=fq 1 hR;have r8:=ai hR;have afW:=jD (hbl.trans (hp.mono hbl.size));clear h9 hR;go_wp2;exact⟨undef,rfl,⟨_,_,by rw[ax (ax HR.o)];rfl,(H9.o.set HR.o).set (ax HR.o),(afW.o.setCell (by simp) _).setCell (by simp) _⟩,trivial,fun h=>absurd rfl h⟩
  ·intro x wx hG;have g14:=gr 28 (hG.c 14 _ rfl);replace hG:=hG.g;go_wp2;exact⟨_,rfl,rfl,trivial,fun _=>br⟩
 ·intro af w2 hg hF;obtain⟨g0,g1,g2,g3,g4,g5,g6,g7,g8,g9,g10,g11,g12,g13,g14,g15,g16, -⟩:=hF;replace g15: ∃X Y,w2.heap[w.heap.size+2]? =some (Obj.cells #[X,Y] 118 (0,0))∧jL w2 w.heap.size X Y (kE (cA (gB (aU a) (aU b)))) (cA (gB (aU a) (aU b)))∧Below w.heap.size w w2:=g15 rfl;simp only[Cl3.puts,gq (af 0) g0,gq (af 1) g1,gq (af 2) g2,gq (af 3) g3,gq (af 5) g5,gq (af 6) g6,gq (af 7) g7,gq (af 8) g8,gq (af 14) g14,gq (af 16) g16];clear g0 g1 g2 g3 g4 g5 g6 g7 g8 g9 g10 g11 g12 g13 g14 g16;go_simp
  obtain⟨x9,y9,h1,h2,h3⟩:=g15;obtain⟨qa,qn,qc,qb,qm,qd,hq1,hq2⟩:=h2.shape;subst hq1 hq2;have r0:=cq 0 h1 rfl;have r1:=cq 1 h1 rfl;have H2:=jD h2;clear h1 h2;go_wp2;refine bodyPost_ret (v:= .tuple #[.agg #[_,_],_]) (by simp[results,Tryz.results227,go_sem, *];exact ⟨⟨rfl,rfl⟩,rfl⟩) rfl ?_;exact⟨_,_,by rw[HE.o],by rw[HE.o];exact H2.o,h3⟩
theorem Ud (va vb:Value) (a b:List Int) (w:World) (ha:l9 w va a) (hb:l9 w vb b):
  Calls Tryz.prog 228 #[va,vb] w fun e w'=>e= .returned (.bool (a==b))∧Below w.heap.size w w':=by
 obtain⟨xa,ca,rfl,hcap,hm, -,hla⟩:=ha.open_;obtain⟨xb,cb,rfl,N3,hmb, -,hlb⟩:=hb.open_;clear ha hb;go_enter Tryz.func228,Tryz.ntmps228;by_cases hlen:a.length=b.length
 ·rw[←hlen];rw[←hlen] at N3 hmb;have HL:=jD hlen;clear hlen;go_wp2;go_loopw [13] (fun i wr=> ∃k:Nat,k≤a.length∧i= .int .i64 k∧a.take k=b.take k∧Below w.heap.size w wr) (fun i _=>a.length - (intOf i).toNat)
  case atStart=>exact ⟨0,Nat.zero_le _,rfl,rfl,br⟩
  case round=>
   obtain⟨k,hk,rfl,heq,hbl⟩:=hrel;have HE:=jD heq;clear heq;by_cases hlt:k < a.length
   ·rcases hla with rfl | ⟨b0,off,rfl,hb0,hc⟩
    ·simp at hlt
    rcases hlb with rfl | ⟨b1,off1,rfl,hb1,hc1⟩
    ·have:=HL.o;simp at this;rw [this] at hlt;simp at hlt
    have lV:k < b.length:=by have:=HL.o;omega
    have d1:=(hbl.cell (p:=⟨b0,off+k,none⟩) hb0).trans (hc k hlt);have d2:=(hbl.cell (p:=⟨b1,off1+k,none⟩) hb1).trans (hc1 k lV);have zY:=jD (List.take_succ_eq_append_getElem hlt);have Rn:=jD (List.take_succ_eq_append_getElem lV);have HGA:=jD (fun h:a=b=>show a[k]=b[k] by subst h;rfl);clear hc hc1;generalize a[k]=x at*;generalize b[k]=y at*;by_cases hxy:x=y
    ·have hx:(x != y)=false:=by simp[hxy]
     have Kk:=jD hxy;clear hxy;go_wp2;go_quiet (fail);go_wp2;go_roundw
     case rel=>exact ⟨k+1,by omega,by go_num,by rw[zY.o,Rn.o,HE.o,Kk.o],below_drewN hbl _⟩
     case measure=>simp [intOf];omega
    ·have hx:(x != y)=true:=by simp[hxy]
     have Kk:=jD hxy;clear hxy;go_wp2;go_quiet (fail);go_wp2;go_ret;exact⟨dU (by symm;rw [beq_eq_false_iff_ne];intro e;exact Kk.o (HGA.o e)),below_drewN hbl _⟩
   ·go_wp2;go_ret;have:k=a.length:=by omega
    subst this;exact⟨dU (by have h:=HE.o;rw [List.take_length,HL.o,List.take_length] at h;simp [h]),hbl⟩
 ·have H:=jD hlen;have h':((a.length:Int) != b.length)=true:=by simp;omega
  clear hlen;go_wp2;go_ret;exact⟨dU (by symm;simpa using fun h=>H.o (by rw[h])),br⟩
theorem Ue (va vb:Value) (a b:dN) (w:World) (ha:mg w va a) (hb:mg w vb b):
  Calls Tryz.prog 229 #[va,vb] w fun e w'=>e= .returned (.bool (a==b))∧Below w.heap.size w w':=by
 obtain⟨xa,ca,rfl,hcap,hm, -,hla⟩:=ha.open_;obtain⟨xb,cb,rfl,N3,hmb, -,hlb⟩:=hb.open_;clear ha hb;go_enter Tryz.func229,Tryz.ntmps229;by_cases hlen:a.length=b.length
 ·rw[←hlen];rw[←hlen] at N3 hmb;have HL:=jD hlen;clear hlen;go_wp2;go_loopw [13] (fun i wr=> ∃k:Nat,k≤a.length∧i= .int .i64 k∧a.take k=b.take k∧Below w.heap.size w wr) (fun i _=>a.length - (intOf i).toNat)
  case atStart=>exact ⟨0,Nat.zero_le _,rfl,rfl,br⟩
  case round=>
   obtain⟨k,hk,rfl,heq,hbl⟩:=hrel;have HE:=jD heq;clear heq;by_cases hlt:k < a.length
   ·rcases hla with rfl | ⟨b0,off,rfl,hb0,hc⟩
    ·simp at hlt
    rcases hlb with rfl | ⟨b1,off1,rfl,hb1,hc1⟩
    ·have:=HL.o;simp at this;rw [this] at hlt;simp at hlt
    have lV:k < b.length:=by have:=HL.o;omega
    obtain⟨c1,c2⟩:=hc k hlt;obtain⟨c3,c4⟩:=hc1 k lV;have d1:=(hbl.cell (p:=⟨b0,off+k*2,none⟩) hb0).trans c1;have d2:=(hbl.cell (p:=⟨b0,off+k*2+1,none⟩) hb0).trans c2;have d3:=(hbl.cell (p:=⟨b1,off1+k*2,none⟩) hb1).trans c3;have d4:=(hbl.cell (p:=⟨b1,off1+k*2+1,none⟩) hb1).trans c4;have zY:=jD (List.take_succ_eq_append_getElem hlt);have Rn:=jD (List.take_succ_eq_append_getElem lV);have HGA:=jD (fun h:a=b=>show a[k]=b[k] by subst h;rfl);clear c1 c2 c3 c4 hc hc1;generalize a[k]=x at*;generalize b[k]=y at*;have heqs:=VJ;have afd:=Dv;by_cases hxy:x=y
    ·have hx:(x.1==y.1&&x.2==y.2)=true:=by simp[hxy]
     have Kk:=jD hxy;clear hxy;go_wp2;go_quiet (fail);go_wp2;go_roundw
     case rel=>exact ⟨k+1,by omega,by go_num,by rw[zY.o,Rn.o,HE.o,Kk.o],below_drewN hbl _⟩
     case measure=>simp [intOf];omega
    ·have hx:(x.1==y.1&&x.2==y.2)=false:=by rw[Bool.eq_false_iff];intro h;apply hxy;simp at h;exact Prod.ext h.1 h.2
     have Kk:=jD hxy;clear hxy;go_wp2;go_quiet (fail);go_wp2;go_ret;exact⟨dU (by symm;rw [beq_eq_false_iff_ne];intro e;exact Kk.o (HGA.o e)),below_drewN hbl _⟩
   ·go_wp2;go_ret;have:k=a.length:=by omega
    subst this;exact⟨dU (by have h:=HE.o;rw [List.take_length,HL.o,List.take_length] at h;simp [h]),hbl⟩
 ·have H:=jD hlen;have h':((a.length:Int) != b.length)=true:=by simp;omega
  clear hlen;go_wp2;go_ret;exact⟨dU (by symm;simpa using fun h=>H.o (by rw[h])),br⟩
theorem ab8 (a b:Kn):decide (a=b)=((a.vec==b.vec)&&(a.more==b.more)):=by
 cases a;cases b
 rw[Bool.eq_iff_iff];simp
def Ca (a b:Kn):Bool:=decide (cA (gB (aU a) (aU b))=b)
def jt (a b:Kn):Bool:=if gy a b=0 then Ca a b else false
theorem PV (ua va ub vb:Value) (a b:Kn) (w:World) (ha:dB w ua va a) (hb:dB w ub vb b):
  Calls Tryz.prog 214 #[.agg #[ua,va], .agg #[ub,vb]] w fun e w'=>e= .returned (.tuple #[.bool (jt a b), .int .i64 (gy a b)])∧Below w.heap.size w w':=by
 obtain⟨xa,ca,rfl⟩:=ha.vec.shape;obtain⟨ya,da,rfl⟩:=ha.more.shape;obtain⟨xb,cb,rfl⟩:=hb.vec.shape;obtain⟨yb,db,rfl⟩:=hb.more.shape;obtain⟨W,hW⟩: ∃W,W=(w.alloc (.cells #[.slice xa a.vec.length ca, .slice ya a.more.length da] 118)).alloc (.cells #[.slice xb b.vec.length cb, .slice yb b.more.length db] 118):=⟨_,rfl⟩
 have hbW:Below w.heap.size w W:=by rw[hW];exact (aG _).alloc (by simp) _
 have A:=jD (show W.heap[w.heap.size]? =some (Obj.cells #[.slice xa a.vec.length ca, .slice ya a.more.length da] 118 (0,0)) by rw[hW];exact aO _ (au _ _ _ _ rfl));have B:=jD (show W.heap[w.heap.size+1]? =some (Obj.cells #[.slice xb b.vec.length cb, .slice yb b.more.length db] 118 (0,0)) by rw[hW];exact au _ _ _ _ (by simp));have HA:=jD (ha.below hbW);have HB:=jD (hb.below hbW);have ek:=jD hbW;clear hbW ha hb;go_enter Tryz.func214,Tryz.ntmps214;go_wp2_with fail
 rw[←hW];clear hW;(with_reducible refine(PW _ _ _ _ a b _ HA.o HB.o).mono ?_);rintro e w1 ⟨rfl,hb1⟩;have A1:=jD (ag hb1 A.o);have B1:=jD (ag hb1 B.o);have Wp:=jD (HA.o.below hb1);have bh:=jD (HB.o.below hb1);have hbl:=ek.o.trans (hb1.mono ek.o.size);clear hb1 A B HA HB ek;cases hx:(gy a b==0)
 ·have H:=jD (show jt a b=false by unfold jt;rw [if_neg (by simpa using hx)]);have h':(gy a b != 0)=true:=by simp[bne,hx]
  clear hx;go_wp2;go_ret2;exact⟨gZ H.o.symm rfl,hbl⟩
 have h0:gy a b=0:=by simpa using hx
 have H0:=jD h0;have H:=jD (show jt a b=decide (cA (gB (aU a) (aU b))=b) by unfold jt Ca;rw [if_pos h0]);have HE:=jD (show yS (gy a b) (gB (aU a) (aU b))=kE (cA (gB (aU a) (aU b))) by unfold yS;rw [if_pos h0]);have Bz:=jD (di.1 (tM.1 h0).2).2;rw[h0];have a0:=cq 0 A1.o rfl;have a1:=cq 1 A1.o rfl;have b0:=cq 0 B1.o rfl;have b1:=cq 1 B1.o rfl;clear hx h0;go_wp2_with fail
 (with_reducible refine(kjoin_c _ _ _ _ a b _ Wp.o bh.o).mono ?_);rintro e w2 ⟨x,y,rfl,hr,hb2⟩;rw[HE.o] at hr ⊢;have hB:=ag hb2 B1.o;have cw:=jD (bh.o.below hb2);replace hbl:=aj hbl hb2;clear hb2 a0 a1 b0 b1;by_cases hl:60 < (cA (gB (aU a) (aU b))).more.length
 ·have hk:kE (cA (gB (aU a) (aU b)))=2:=by unfold kE;rw [if_pos hl]
  rw[hk] at hr ⊢;obtain⟨h, -⟩ | ⟨-,rfl,rfl⟩:=hr
  ·exact absurd h (by decide)
  have HF:=jD (show decide (cA (gB (aU a) (aU b))=b)=false by
   rw[decide_eq_false_iff_not];intro e;rw [e] at hl;have:=Bz.o;omega)
  clear hl hk hB;go_wp2;go_ret2;exact⟨gZ (by rw[H.o,HF.o]) H0.o.symm,hbl.alloc hbl.size _⟩
 have hk:kE (cA (gB (aU a) (aU b)))=0:=by unfold kE;rw [if_neg hl]
 rw[hk] at hr ⊢;obtain⟨-,ho⟩ | ⟨h, -, -⟩:=hr;rotate_left
 ·exact absurd rfl h
 have hat:=T4 ho;generalize hKK:cA (gB (aU a) (aU b))=K at*;obtain⟨xk,ck,rfl⟩:=hat.vec.shape;obtain⟨yk,dk,rfl⟩:=hat.more.shape;have HK:=jD (hat.below (aG (.cells #[.slice xk K.vec.length ck, .slice yk K.more.length dk] 118)));have eH:=jD (cw.o.below (aG (.cells #[.slice xk K.vec.length ck, .slice yk K.more.length dk] 118)));have kb:=au w2 #[.slice xk K.vec.length ck, .slice yk K.more.length dk] 118 _ rfl;have KB:=jD kb;have BB:=jD (aO (.cells #[.slice xk K.vec.length ck, .slice yk K.more.length dk] 118) hB);have b0:=cq 0 BB.o rfl;have x6:=jD (hbl.alloc hbl.size (.cells #[.slice xk K.vec.length ck, .slice yk K.more.length dk] 118));have HQ:=jD (ab8 K b);clear hKK hat ho hl hk hB kb hbl;go_wp2_with fail
 (with_reducible refine(Ud _ _ _ _ _ HK.o.vec eH.o.vec).mono ?_);rintro e w3 ⟨rfl,hb3⟩;have hK3:=ag hb3 KB.o;have ux:=ag hb3 BB.o;have a1:=cq 1 hK3 rfl;have b1:=cq 1 ux rfl;have lJ:=jD (HK.o.below hb3);have gp:=jD (eH.o.below hb3);have hbl:=aj x6.o hb3;clear hb3 hK3 ux b0;cases hx:(K.vec==b.vec)
 ·rw[hx] at HQ;have H2:=jD (show jt a b=false by rw[H.o,HQ.o];rfl);clear hx;go_wp2;go_ret2;exact⟨gZ H2.o.symm H0.o.symm,hbl⟩
 rw[hx] at HQ;have H2:=jD (show jt a b=(K.more==b.more) by rw[H.o,HQ.o];rfl);clear hx;go_wp2_with fail
 (with_reducible refine(Ue _ _ _ _ _ lJ.o.more gp.o.more).mono ?_);rintro e w4 ⟨rfl,hb4⟩;replace hbl:=aj hbl hb4;clear hb4 a1 b1;go_wp2;go_ret2;exact⟨gZ H2.o.symm H0.o.symm,hbl⟩
end Go.Proofs.YtajgndoiddmbmaaGreatDoor
