/- Filters with room behind their lists: what memory holds. No walk here. What the laws' room, kept and waste do to a filter. -/
import Derived.Test.YtgkgdedhicnohaaGreatMRoom
import Derived.Test.YtgkgdedhicnohaaGreatMSameB
namespace Go.Proofs.YtgkgdedhicnohaaGreat
set_option maxRecDepth 100000
set_option maxHeartbeats 40000000
open Go.RowKit
def spB:List Value:=(List.replicate 3 [Value.int .i64 77, .int .i64 0, .slice none 0 0]).flatten
def spS:List Value:=(List.replicate 3 [Value.int .i64 78, .int .i64 0]).flatten
def RoomF (w:World) (base:Nat) (v:Value) (l:Bxs):Prop:=
 ∃us:List Value,us.length=l.length∧Roomy w base 124 3 v l.length (bxCells l us) spB∧ ∀i (h:i < l.length) (h':i < us.length),Roomy w base 119 2 us[i] l[i].sp.length (spansCells l[i].sp) spS
theorem RoomF.below {w w':World} {base:Nat} {v:Value} {l:Bxs} (h:RoomF w base v l) (hb:Below w.heap.size w w'):RoomF w' base v l:=by
 obtain⟨us,h1,h2,h3⟩:=h
 exact⟨us,h1,h2.below hb,fun i hi hi'=>(h3 i hi hi').below hb⟩
theorem RoomF.own {w:World} {base:Nat} {v:Value} {l:Bxs} (h:RoomF w base v l):BxsOwn w base 124 119 v l:=by
 obtain⟨us,h1,h2,h3⟩:=h
 exact⟨us,h1,h2.owns,fun i hi hi'=>(h3 i hi hi').owns⟩
theorem RoomF.at_ {w:World} {base:Nat} {v:Value} {l:Bxs} (h:RoomF w base v l) (hl:l.length≤140737488355328) (hs: ∀b∈l,b.sp.length≤140737488355328):BxsAt w v l:=by
 obtain⟨us,h1,h2,h3⟩:=h
 exact⟨us,h1,CellsAt.of_owns h2.owns hl,fun i hi hi'=>CellsAt.of_owns (h3 i hi hi').owns (hs _ (List.getElem_mem hi))⟩
structure SzF (l:Bxs):Prop where
 len:l.length*40≤140737488355328
 sp: ∀b∈l,b.sp.length*16≤140737488355328
theorem SzF.l {l:Bxs} (h:SzF l):l.length≤140737488355328:=by have:=h.len;omega
theorem SzF.s {l:Bxs} (h:SzF l): ∀b∈l,b.sp.length≤140737488355328:=fun b hb=>by have:=h.sp b hb;omega
theorem bxCells_at {l:Bxs} {us:List Value} (hu:us.length=l.length) {k:Nat} (hk:k < l.length):(bxCells l us)[k*3]? =some (.int .i64 l[k].y)∧(bxCells l us)[k*3+1]? =some (.int .i64 l[k].n)∧(bxCells l us)[k*3+2]? =us[k]? :=by
 induction l generalizing us k with
 | nil=>simp at hk
 | cons b l ih=>
  cases us with
  | nil=>simp at hu
  | cons u us=>
   cases k with
   | zero=>exact ⟨rfl,rfl,rfl⟩
   | succ k=>
    obtain⟨a1,a2,a3⟩:=ih (us:=us) (by simpa using hu) (k:=k) (by simpa using hk)
    rw[show(k+1)*3=k*3+3 by omega]
    exact⟨a1,a2,a3⟩
theorem bxCells_set {l:Bxs} {us:List Value} (hu:us.length=l.length) {k:Nat} (hk:k < l.length) (u:Value):bxCells l (us.set k u)=(bxCells l us).set (k*3+2) u:=by
 induction l generalizing us k with
 | nil=>simp at hk
 | cons b l ih=>
  cases us with
  | nil=>simp at hu
  | cons u' us=>
   cases k with
   | zero=>rfl
   | succ k=>
    have:=ih (us:=us) (by simpa using hu) (k:=k) (by simpa using hk)
    rw[show(k+1)*3+2=(k*3+2)+3 by omega]
    show Value.int .i64 b.y:: .int .i64 b.n::u'::bxCells l (us.set k u)=_
    rw[this];rfl
structure RmSt (w0 w:World) (v:Value) (l:Bxs) (us0:List Value) (k:Nat) (us:List Value):Prop where
 bel:Below w0.heap.size w0 w
 len:us.length=l.length
 row:Roomy w w0.heap.size 124 3 v l.length (bxCells l us) spB
 new: ∀i (h:i < l.length) (h':i < us.length),i < k→Roomy w w0.heap.size 119 2 us[i] l[i].sp.length (spansCells l[i].sp) spS
 old: ∀i,k≤i→us[i]? =us0[i]?
theorem RmSt.step {w0 w w2:World} {l:Bxs} {us0 us:List Value} {k g c:Nat} {u:Value} (h:RmSt w0 w (.slice (some ⟨g,0,none⟩) l.length c) l us0 k us) (hk:k < l.length) (hb:Below w.heap.size w w2) (hu:Roomy w2 w.heap.size 119 2 u l[k].sp.length (spansCells l[k].sp) spS):RmSt w0 (w2.setCell ⟨g,k*3+2,none⟩ u) (.slice (some ⟨g,0,none⟩) l.length c) l us0 (k+1) (us.set k u):=by
 obtain⟨g',h1,h2,h3⟩:=(h.row.below hb).row
 have h1':=h1
 simp only[Value.slice.injEq,Option.some.injEq,Addr.mk.injEq,and_true] at h1'
 obtain⟨rfl,hc⟩:=h1'
 refine⟨(bstep h.bel hb).setCell h2 _,by rw[List.length_set];exact h.len, ?_, ?_, ?_⟩
 ·refine⟨by rw[bxCells_length _ _ (by rw[List.length_set];exact h.len)],h.row.ls,h.row.mx,g,h1,h2, ?_⟩
  rw[heap_set_same h3,List.setIfInBounds_toArray,List.set_append,if_pos (by rw[bxCells_length _ _ h.len];omega),bxCells_set h.len hk]
 ·intro i hi hi' hik
  rw[List.length_set] at hi'
  by_cases he:i=k
  ·subst he
   simp only[List.getElem_set_self]
   exact(hu.mono (h.bel.size)).setOther h3 (by decide)
  ·rw[List.getElem_set_ne (by omega)]
   exact((h.new i hi hi' (by omega)).below hb).setOther h3 (by decide)
 ·intro i hi
  rw[List.getElem?_set_ne (by omega)]
  exact h.old i (by omega)
theorem RmSt.done {w0 w:World} {v:Value} {l:Bxs} {us0 us:List Value} (h:RmSt w0 w v l us0 l.length us):RoomF w w0.heap.size v l:=⟨us,h.len,h.row,fun i hi hi'=>h.new i hi hi' hi⟩
structure OwnF (w:World) (lo hi:Nat) (v:Value) (l:Bxs):Prop where
 own: ∃us:List Value,us.length=l.length∧w.ownsRow lo 124 3 v l.length (bxCells l us)∧(∀i (h:i < l.length) (h':i < us.length),w.ownsRow lo 119 2 us[i] l[i].sp.length (spansCells l[i].sp))∧InR lo hi v∧ ∀u∈us,InR lo hi u
theorem OwnF.of_own {w:World} {base:Nat} {v:Value} {l:Bxs} (h:BxsOwn w base 124 119 v l):OwnF w base w.heap.size v l:=by
 obtain⟨us,h1,h2,h3⟩:=h
 refine⟨us,h1,h2,h3,inR_owns h2,fun u hu=> ?_⟩
 obtain⟨i,hi,rfl⟩:=List.mem_iff_getElem.1 hu
 exact inR_owns (h3 i (by omega) hi)
theorem OwnF.sp {S:Nat→Prop} {w w':World} {lo hi:Nat} {v:Value} {l:Bxs} (h:OwnF w lo hi v l) (hs:Sp S w w') (hd: ∀k,lo≤k→k < hi→ ¬S k):OwnF w' lo hi v l:=by
 obtain⟨us,h1,h2,h3,h4,h5⟩:=h
 exact⟨us,h1,owns_sp h2 hs fun k hk=>hd k (h4 k hk).1 (h4 k hk).2,fun i hi hi'=>owns_sp (h3 i hi hi') hs fun k hk=>hd k (h5 _ (List.getElem_mem hi') k hk).1 (h5 _ (List.getElem_mem hi') k hk).2,h4,h5⟩
theorem OwnF.below {w w':World} {lo hi:Nat} {v:Value} {l:Bxs} (h:OwnF w lo hi v l) (hb:Below w.heap.size w w'):OwnF w' lo hi v l:=h.sp (S:=fun _=>False) (Sp.of_below hb) fun _ _ _ h=>h
theorem bxCells_one (l:Bxs) (us:List Value) (h: ∀u∈us,u.oneCell'=true): ∀u∈bxCells l us,u.oneCell'=true:=by
 induction l generalizing us with
 | nil=>simp [bxCells]
 | cons b l ih=>
  cases us with
  | nil=>simp [bxCells]
  | cons u us=>
   intro x hx
   simp only[bxCells,List.mem_cons] at hx
   rcases hx with rfl | rfl | rfl | hx
   ·rfl
   ·rfl
   ·exact h _ List.mem_cons_self
   ·exact ih us (fun y hy=>h y (List.mem_cons_of_mem _ hy)) x hx
theorem room_c (v:Value) (l:Bxs) (w:World) (hv:BxsAt w v l) (hz:SzF l):
  Calls Tryz.prog 49 #[v] w fun e w'=> ∃v',e= .returned v'∧RoomF w' w.heap.size v' l∧Below w.heap.size w w':=by
 obtain⟨us0,hu0,hc0,hs0⟩:=hv
 obtain⟨a,cap,rfl⟩:=hc0.shape
 have hone: ∀u∈us0,u.oneCell'=true:=by
  intro u hu
  obtain⟨i,hi,rfl⟩:=List.mem_iff_getElem.1 hu
  obtain⟨a,c,h⟩:=(hs0 i (by omega) hi).shape
  rw[h];rfl
 have HR:=jD (roomy_box (.slice a l.length cap) l.length (bxCells l us0) 77 0 w hc0 (bxCells_length l us0 hu0) (bxCells_one l us0 hone) hz.len)
 have HU0:=jD hu0
 have HS0:=jD hs0
 have hl9:=hz.l
 have HZ:=jD hz
 clear hu0 hc0 hs0 hone hz
 go_enter Tryz.func49,Tryz.ntmps49
 go_wp2_with fail
 (with_reducible refine(HR.out).mono ?_)
 rintro e w1 ⟨v1,rfl,hr,hb⟩
 obtain⟨g,rfl,hg1,hg0⟩:=hr.shape
 have M0:=jD (show RmSt w w1 (.slice (some ⟨g,0,none⟩) l.length (l.length+3)) l us0 0 us0 from⟨hb,HU0.out,hr,fun _ _ _ h=>absurd h (Nat.not_lt_zero _),fun _ _=>rfl⟩)
 clear hr hb HR hg1
 go_wp2
 go_loopw [11] (fun i wr=> ∃(k:Nat) (us:List Value),k≤l.length∧i= .int .i64 k∧RmSt w wr (.slice (some ⟨g,0,none⟩) l.length (l.length+3)) l us0 k us) (fun i _=>l.length - (intOf i).toNat)
 case atStart=>exact ⟨0,us0,Nat.zero_le _,rfl,M0.out⟩
 case round=>
  obtain⟨k,us,hk,rfl,hM⟩:=hrel
  have M:=jD hM
  clear M0 hM
  by_cases hlt:k < l.length
  ·have hltb:decide ((k:Int) < (l.length:Int))=true:=by simp;omega
   have hul:=M.out.len
   have hku:k < us.length:=by omega
   have hku0:k < us0.length:=by have:=HU0.out;omega
   obtain⟨g',e1,e2,e3⟩:=M.out.row.row
   simp only[Value.slice.injEq,Option.some.injEq,Addr.mk.injEq,and_true] at e1
   obtain⟨rfl, -⟩:=e1
   have huk:us[k]? =some us0[k]:=by rw[M.out.old k (Nat.le_refl _),List.getElem?_eq_getElem hku0]
   have d2:=cell_of_block (j:=k*3+2) e3 (by rw[List.getElem?_toArray,List.getElem?_append_left (by rw[bxCells_length _ _ hul];omega),(bxCells_at hul hlt).2.2];exact huk)
   have hgw:=hlt_of e3
   have hsp:=(HS0.out k hlt hku0).below M.out.bel
   have HRS:=jD (roomy_span us0[k] l[k].sp.length (spansCells l[k].sp) 78 0 wr hsp (spansCells_length _) (spansCells_one _) (HZ.out.sp _ (List.getElem_mem hlt)))
   have HST:=jD (fun w2 (hb:Below wr.heap.size wr w2) u (hu:Roomy w2 wr.heap.size 119 2 u l[k].sp.length (spansCells l[k].sp) spS)=>M.out.step hlt hb hu)
   obtain⟨sa,sc,hss⟩:=hsp.shape
   clear e3 e2 hul hku hsp
   generalize us0[k]=u0 at*
   subst hss
   go_wp2_with fail
   (with_reducible refine(HRS.out).mono ?_)
   rintro e w2 ⟨u',rfl,hu',hb2⟩
   have HN:=jD (HST.out w2 hb2 u' hu')
   obtain⟨gu,rfl, -, -⟩:=hu'.shape
   obtain⟨g',e1,e2,e3⟩:=(M.out.row.below hb2).row
   simp only[Value.slice.injEq,Option.some.injEq,Addr.mk.injEq,and_true] at e1
   obtain⟨rfl, -⟩:=e1
   have d2':=ckeep hb2 d2
   have hf:=free_of_block (j:=k*3+2) e3
   have hgw2:=hlt_of e3
   clear e3 e2 hu' hb2 HRS HST d2 huk M
   go_wp2
   go_roundw
   case rel=>exact ⟨k+1,_,by omega,by go_num,HN.out⟩
   case measure=>simp [intOf] <;> omega
  ·obtain rfl:k=l.length:=by omega
   have HF:=jD M.out.done
   have HB:=jD M.out.bel
   clear M
   go_wp2
   go_ret
   exact⟨_,rfl,HF.out,HB.out⟩
theorem kept_c (v v2:Value) (base:Nat) (l:Bxs) (w:World) (hv:RoomF w base v l) (hv2:BxsAt w v2 l) (hz:SzF l):
  Calls Tryz.prog 50 #[v,v2] w fun e w'=>e= .returned (.bool true)∧Below w.heap.size w w':=by
 have HA:=jD (hv.at_ hz.l hz.s)
 obtain⟨us,hu,hr,hs⟩:=hv
 obtain⟨g,rfl,hg, -⟩:=hr.shape
 obtain⟨a2,c2,rfl⟩:=hv2.shape
 have HR:=jD hr
 have HU:=jD hu
 have HS:=jD hs
 have H2:=jD hv2
 have HZ:=jD hz
 have hl9:=hz.l
 clear hv2 hr hu hs hz
 go_enter Tryz.func50,Tryz.ntmps50
 go_wp2
 go_loopw [11] (fun i wr=> ∃k:Nat,k≤l.length∧i= .int .i64 k∧Below w.heap.size w wr) (fun i _=>l.length - (intOf i).toNat)
 case atStart=>exact ⟨0,Nat.zero_le _,rfl,Below.refl _ _⟩
 case round=>
  obtain⟨k,hk,rfl,hb⟩:=hrel
  have HB:=jD hb
  clear hb
  by_cases hlt:k < l.length
  ·have hltb:decide ((k:Int) < (l.length:Int))=true:=by simp;omega
   have hku:k < us.length:=by have:=HU.out;omega
   obtain⟨g',e1,e2,e3⟩:=(HR.out.below HB.out).row
   simp only[Value.slice.injEq,Option.some.injEq,Addr.mk.injEq,and_true] at e1
   obtain⟨rfl, -⟩:=e1
   obtain⟨b0,b1,b2⟩:=bxCells_at HU.out hlt
   have hbl:=bxCells_length _ _ HU.out
   have d0:=cell_of_block (j:=k*3) e3 (by rw[List.getElem?_toArray,List.getElem?_append_left (by rw[hbl];omega)];exact b0)
   have d1:=cell_of_block (j:=k*3+1) e3 (by rw[List.getElem?_toArray,List.getElem?_append_left (by rw[hbl];omega)];exact b1)
   have d2:=cell_of_block (j:=k*3+2) e3 (by rw[List.getElem?_toArray,List.getElem?_append_left (by rw[hbl];omega),b2];exact List.getElem?_eq_getElem hku)
   have hgw:=hlt_of e3
   have HSK:=jD ((HS.out k hlt hku).below HB.out)
   obtain⟨gu,hgu, -, -⟩:=HSK.out.shape
   have hsl:=HZ.out.s _ (List.getElem_mem hlt)
   clear e3 e2 b0 b1 b2 hbl
   generalize us[k]=uk at*
   subst hgu
   generalize l[k]=bk at*
   have HB1:=jD (show Below wr.heap.size wr (wr.alloc (.cells #[.int .i64 bk.y, .int .i64 bk.n, .slice (some ⟨gu,0,none⟩) bk.sp.length (bk.sp.length+3)] 124)) from bal _)
   have HMK:=jD (marked_span _ base bk.sp.length (spansCells bk.sp) 78 0 _ (HSK.out.below HB1.out) hsl)
   go_wp2_with fail
   (with_reducible refine(HMK.out).mono ?_)
   rintro e w2 ⟨rfl,hb2⟩
   have HN:=jD (bstep (bstep HB.out HB1.out) hb2)
   clear hb2 HMK HB1 HSK d0 d1 d2 HB
   go_wp2
   go_roundw
   case rel=>exact ⟨k+1,by omega,by go_num,HN.out⟩
   case measure=>simp [intOf] <;> omega
  ·obtain rfl:k=l.length:=by omega
   have hq3:(l.length:Int)+3 - l.length=3:=by omega
   have hq4:l.length+3 - l.length=3:=by omega
   obtain⟨w3,hw3⟩: ∃w3,w3=wr:=⟨_,rfl⟩
   rw[←hw3] at HB ⊢
   clear hw3 hlt hk
   go_wp2
   go_loopw [28] (fun v wr=> ∃i:Nat,i≤3∧v= .int .i64 i∧Below w.heap.size w wr) (fun v _=>3 - (intOf v).toNat)
   case atStart=>exact ⟨0,by omega,rfl,HB.out⟩
   case round=>
    obtain⟨i,hi,rfl,hb⟩:=hrel
    clear HB
    have HB:=jD hb
    clear hb
    by_cases hlt:i < 3
    ·have hltb:decide ((i:Int) < 3)=true:=by simp;omega
     have HRW:=HR.out.below HB.out
     unfold spB at HRW
     have c0:=HRW.spare rfl hlt (j:=0) (by decide) rfl
     have c1:=HRW.spare rfl hlt (j:=1) (by decide) rfl
     have c2:=HRW.spare rfl hlt (j:=2) (by decide) rfl
     have hgw:g < wr.heap.size:=Nat.lt_of_lt_of_le hg HB.out.size
     clear HRW
     simp only[Nat.add_zero,←Nat.add_assoc] at c0 c1 c2
     go_wp2
     go_roundw
     case rel=>exact ⟨i+1,by omega,by go_num,bstep HB.out (bal _)⟩
     case measure=>simp [intOf] <;> omega
    ·obtain rfl:i=3:=by omega
     have HSM:=jD (sameFil_c _ _ l l wr (HA.out.below HB.out) (H2.out.below HB.out))
     go_wp2_with fail
     (with_reducible refine(HSM.out).mono ?_)
     rintro e w4 ⟨q,rfl,hq,hb4⟩
     obtain rfl:q=true:=by simpa using hq
     have HN:=jD (bstep HB.out hb4)
     clear hb4 HSM hq
     go_wp2
     go_ret
     exact⟨rfl,HN.out⟩
theorem waste_c (v:Value) (lo hi:Nat) (l:Bxs) (w:World) (hv:OwnF w lo hi v l) (hz:SzF l):
  Calls Tryz.prog 51 #[v] w fun e w'=>e= .returned (.tuple #[])∧Sp (fun k=>lo≤k∧k < hi) w w':=by
 obtain⟨us,hu,hr,hs,hiv,hiu⟩:=hv
 obtain⟨a,c,hva⟩:=owns_slice hr
 have HC:=jD (CellsAt.of_owns hr hz.l)
 have HR:=jD hr
 have HU:=jD hu
 have HS:=jD hs
 have HIV:=jD hiv
 have HIU:=jD hiu
 have hl9:=hz.l
 subst hva
 clear hr hu hs hiv hiu hz
 go_enter Tryz.func51,Tryz.ntmps51
 go_wp2
 go_loopw [6] (fun i wr=> ∃k:Nat,k≤l.length∧i= .int .i64 k∧Sp (fun k=>(lo≤k∧k < hi)∧(Value.slice a l.length c).ownBlock≠some k) w wr) (fun i _=>l.length - (intOf i).toNat)
 case atStart=>exact ⟨0,Nat.zero_le _,rfl,Sp.refl _ _⟩
 case round=>
  obtain⟨k,hk,rfl,hb⟩:=hrel
  have HB:=jD hb
  clear hb
  by_cases hlt:k < l.length
  ·have hltb:decide ((k:Int) < (l.length:Int))=true:=by simp;omega
   have hku:k < us.length:=by have:=HU.out;omega
   obtain⟨a',c',e1, -, -, -,e2⟩:=HC.out
   simp only[Value.slice.injEq,true_and] at e1
   obtain⟨rfl,rfl⟩:=e1
   rcases e2 with hnil | ⟨b,off,rfl,hbw,hcc⟩
   ·have:=bxCells_length _ _ HU.out;rw [hnil] at this;simp at this;omega
   obtain⟨b0,b1,b2⟩:=bxCells_at HU.out hlt
   have hkeep:=fun j x (h:(bxCells l us)[j]? =some x)=>(show wr.cell? ⟨b,off+j,none⟩=some x from(HB.out.cell (p:=⟨b,off+j,none⟩) hbw (by simp[Value.ownBlock])).trans (hcc j x h))
   have d0:=hkeep _ _ b0
   have d1:=hkeep _ _ b1
   have d2:=hkeep _ _ (b2.trans (List.getElem?_eq_getElem hku))
   have hgw:b < wr.heap.size:=Nat.lt_of_lt_of_le hbw HB.out.size
   rw[←Nat.add_assoc] at d1 d2
   have HSK:=jD ((ShRow.of_owns (HS.out k hlt hku)).sp HB.out)
   have HNE:=jD (show ∀q,us[k].ownBlock=some q→(lo≤q∧q < hi)∧(Value.slice (some ⟨b,off,none⟩) l.length c).ownBlock≠some q from fun q hq=>⟨HIU.out _ (List.getElem_mem hku) q hq,fun h=>by
    obtain⟨cs,h1⟩:=owns_type HR.out h
    obtain⟨cs2,h2⟩:=owns_type (HS.out k hlt hku) hq
    rw[h1] at h2
    simp only[Option.some.injEq,Obj.cells.injEq] at h2
    exact absurd h2.2.1 (by decide)⟩)
   obtain⟨ua,uc,hus⟩:=owns_slice (HS.out k hlt hku)
   clear hcc b0 b1 b2 hkeep
   generalize us[k]=uk at*
   subst hus
   generalize l[k]=bk at*
   have HB1:=jD (show Below wr.heap.size wr (wr.alloc (.cells #[.int .i64 bk.y, .int .i64 bk.n, .slice ua bk.sp.length uc] 124)) from bal _)
   have HMK:=jD (spoil_span _ 5 0 _ (HSK.out.sp (S:=fun _=>False) (Sp.of_below HB1.out)))
   go_wp2_with fail
   (with_reducible refine(HMK.out).mono ?_)
   rintro e w2 ⟨rfl,hs2⟩
   have HN:=jD (HB.out.trans ((Sp.of_below HB1.out).trans (hs2.mono HNE.out)))
   clear hs2 HMK HB1 HSK d0 d1 d2 HB
   go_wp2
   go_roundw
   case rel=>exact ⟨k+1,by omega,by go_num,HN.out⟩
   case measure=>simp [intOf] <;> omega
  ·obtain rfl:k=l.length:=by omega
   have HSB:=jD (spoil_box _ 0 5 wr ((ShRow.of_owns HR.out).sp HB.out))
   go_wp2_with fail
   (with_reducible refine(HSB.out).mono ?_)
   rintro e w2 ⟨rfl,hs2⟩
   have HN:=jD ((HB.out.mono fun _ h=>h.1).trans (hs2.mono fun q hq=>HIV.out q hq))
   clear hs2 HSB HB
   go_wp2
   refine bodyPost_end (v:= .tuple #[]) ?_ rfl ?_
   ·simp[results,Tryz.results51,go_sem]
   ·exact⟨rfl,HN.out⟩
end Go.Proofs.YtgkgdedhicnohaaGreat
