/- The reader of a text: one sentence (the function that calls itself). -/
import Derived.Test.YtajgndoiddmbmaaGreatDoorText3
namespace Go.Proofs.YtajgndoiddmbmaaGreatDoor
open Go.RowKit
variable {s:ByteArray} {f i:Nat} {ns:Nds}
theorem oneP_all (h:chr s i=42):oneP s (f+1) i ns=some (i+1,ns++[⟨1,0,0⟩]):=by rw[oneP,if_pos h]
theorem oneP_tag (h:chr s i=35):oneP s (f+1) i ns=(numP s (i+1)).bind fun p=>some (p.1,ns++[⟨2,p.2,0⟩]):=by rw[oneP,if_neg (by omega),if_pos h]
theorem oneP_in (h:chr s i=91):oneP s (f+1) i ns=(numP s (i+1)).bind fun p=>if chr s p.1=44 then(numP s (p.1+1)).bind fun q=>if chr s q.1=41 then some (q.1+1,ns++[⟨3,p.2,q.2⟩]) else none else none:=by rw[oneP,if_neg (by omega),if_neg (by omega),if_pos h]
theorem oneP_not (h:chr s i=33):oneP s (f+1) i ns=(oneP s f (i+1) ns).bind fun p=>some (p.1,p.2++[⟨4,(p.2.length:Int) - 1,0⟩]):=by rw[oneP,if_neg (by omega),if_neg (by omega),if_neg (by omega),if_pos h]
theorem oneP_two (h:chr s i=40):oneP s (f+1) i ns=(oneP s f (i+1) ns).bind fun p=>
   if chr s p.1=124∨chr s p.1=38 then(oneP s f (p.1+1) p.2).bind fun q=>
    if chr s q.1=41 then some (q.1+1,q.2++[⟨if chr s p.1=124 then 6 else 5,(p.2.length:Int) - 1,(q.2.length:Int) - 1⟩]) else none
   else none:=by rw[oneP,if_neg (by omega),if_neg (by omega),if_neg (by omega),if_neg (by omega),if_pos h]
theorem oneP_bad (h1:chr s i≠42) (h2:chr s i≠35) (h3:chr s i≠91) (h4:chr s i≠33) (h5:chr s i≠40):oneP s (f+1) i ns=none:=by rw[oneP,if_neg h1,if_neg h2,if_neg h3,if_neg h4,if_neg h5]
theorem numP_ok {j v:Nat} (h:numP s i=some (j,v)):i < j∧j≤s.size∧v < 100:=by
 unfold numP at h
 split at h
 ·cases h
 ·rename_i h0
  have d0:isDig (chr s i)=true:=by cases hq:isDig (chr s i) <;> simp_all
  have l0:=isDig_lt d0
  have e0:=isDig_iff.1 d0
  split at h
  ·simp only[Option.some.injEq,Prod.mk.injEq] at h;omega
  ·rename_i h1
   have d1:isDig (chr s (i+1))=true:=by cases hq:isDig (chr s (i+1)) <;> simp_all
   have l1:=isDig_lt d1
   have e1:=isDig_iff.1 d1
   split at h
   ·cases h
   ·simp only[Option.some.injEq,Prod.mk.injEq] at h;omega
theorem oneP_ok: ∀ {f i:Nat} {ns ns2:Nds} {j:Nat},oneP s f i ns=some (j,ns2)→i < j∧j≤s.size∧ns.length < ns2.length∧ns2.length+i≤ns.length+j
 | 0,_,_,_,_,h=>by simp[oneP] at h
 | f+1,i,ns,ns2,j,h=>by
  by_cases c1:chr s i=42
  ·rw[oneP_all c1] at h
   simp only[Option.some.injEq,Prod.mk.injEq] at h
   obtain⟨rfl,rfl⟩:=h
   have:=chr_ne (s:=s) (i:=i) (by omega)
   simp;omega
  by_cases c2:chr s i=35
  ·rw[oneP_tag c2] at h
   cases hn:numP s (i+1) with
   | none=>simp [hn] at h
   | some p=>
    obtain⟨k,v⟩:=p
    have:=numP_ok hn
    simp only[hn,Option.bind_some,Option.some.injEq,Prod.mk.injEq] at h
    obtain⟨rfl,rfl⟩:=h
    simp;omega
  by_cases c3:chr s i=91
  ·rw[oneP_in c3] at h
   cases hn:numP s (i+1) with
   | none=>simp [hn] at h
   | some p=>
    obtain⟨k,v⟩:=p
    have:=numP_ok hn
    simp only[hn,Option.bind_some] at h
    split at h
    ·cases hm:numP s (k+1) with
     | none=>simp [hm] at h
     | some q=>
      obtain⟨l,u⟩:=q
      have:=numP_ok hm
      simp only[hm,Option.bind_some] at h
      split at h
      ·rename_i c
       have:=chr_ne (s:=s) (i:=l) (by omega)
       simp only[Option.some.injEq,Prod.mk.injEq] at h
       obtain⟨rfl,rfl⟩:=h
       simp;omega
      ·cases h
    ·cases h
  by_cases c4:chr s i=33
  ·rw[oneP_not c4] at h
   cases hn:oneP s f (i+1) ns with
   | none=>simp [hn] at h
   | some p=>
    obtain⟨k,l⟩:=p
    have:=oneP_ok hn
    simp only[hn,Option.bind_some,Option.some.injEq,Prod.mk.injEq] at h
    obtain⟨rfl,rfl⟩:=h
    simp;omega
  by_cases c5:chr s i=40
  ·rw[oneP_two c5] at h
   cases hn:oneP s f (i+1) ns with
   | none=>simp [hn] at h
   | some p=>
    obtain⟨k,l⟩:=p
    have:=oneP_ok hn
    simp only[hn,Option.bind_some] at h
    split at h
    ·cases hm:oneP s f (k+1) l with
     | none=>simp [hm] at h
     | some q=>
      obtain⟨k2,l2⟩:=q
      have:=oneP_ok hm
      simp only[hm,Option.bind_some] at h
      split at h
      ·rename_i c
       have:=chr_ne (s:=s) (i:=k2) (by omega)
       simp only[Option.some.injEq,Prod.mk.injEq] at h
       obtain⟨rfl,rfl⟩:=h
       simp;omega
      ·cases h
    ·cases h
  ·rw[oneP_bad c1 c2 c3 c4 c5] at h;cases h
def OneR (R:Nat) (s:ByteArray) (nv:Value) (w:World) (e:Ending) (w':World):Option (Nat×Nds)→Prop
 | some p=>e= .returned (.int .i64 ((p.2.length:Int) - 1))∧ ∃nv',Rd w' R s p.1 nv' p.2∧Kp R nv nv' w w'
 | none=>e=fl9∧ ∃nv',Kp R nv nv' w w'
theorem Kp.block {R N:Nat} {v v':Value} {w w':World} {o:Obj} (h:Kp R v v' w w') (hN:w.heap[N]? =some o) (hR:N≠R) (hv:v.ownBlock≠some N):w'.heap[N]? =some o:=by
 refine(h.keep N ?_ hR hv).trans hN
 by_cases hl:N < w.heap.size
 ·exact hl
 ·rw[Array.getElem?_eq_none (by omega)] at hN;cases hN
theorem Kp.far {R N j:Nat} {v v' u:Value} {w w':World} (h:Kp R v v' w w') (hN:w.heap.size≤N):Kp R v v' w (w'.setCell ⟨N,j,none⟩ u):=
 ⟨h.os,h.tape,h.output,by simpa[World.setCell] using h.size,fun k hk hR hv=>(setCell_out (by omega)).trans (h.keep k hk hR hv),h.loc⟩
theorem Rd.far {w:World} {R N j:Nat} {s:ByteArray} {i:Nat} {nv u:Value} {ns:Nds} (h:Rd w R s i nv ns) (hR:N≠R) (hv:nv.ownBlock≠some N):Rd (w.setCell ⟨N,j,none⟩ u) R s i nv ns:=
 ⟨(setCell_out (Ne.symm hR)).trans h.blk,owns_keep h.own fun k hk=>setCell_out fun e=>hv (by rw[hk,e])⟩
theorem Gl.kp {w w':World} {R i:Nat} {nv nv':Value} {ns:Nds} {s:ByteArray} (h:Gl w R) (hr:Rd w R s i nv ns) (hk:Kp R nv nv' w w'):Gl w' R:=
 h.below (hk.toBelow (fun q hq=>(hr.row q hq).1) (Nat.le_refl _) hr.lt)
theorem Gl.far {w:World} {R N j:Nat} {u:Value} (h:Gl w R) (hN:R≤N):Gl (w.setCell ⟨N,j,none⟩ u) R:=by
 obtain⟨e1,h1,k1⟩:=h.syn
 obtain⟨e2,h2,k2⟩:=h.ran
 have:=h.ltS
 have:=h.ltR
 exact⟨⟨e1,(World.cell?_of_block (setCell_out (by simp only[];omega))).trans h1,k1⟩,⟨e2,(World.cell?_of_block (setCell_out (by simp only[];omega))).trans h2,k2⟩,h.ltS,h.ltR⟩
set_option maxRecDepth 100000 in
set_option maxHeartbeats 8000000 in
theorem one_c (R:Nat) (s:ByteArray) (hsz:s.size≤400): ∀(f i:Nat) (nv:Value) (ns:Nds) (w:World),Rd w R s i nv ns→Gl w R→i≤s.size→s.size - i < f→ns.length≤i→
  Calls Tryz.prog 19 #[.pointer (some ⟨R,0,none⟩)] w fun e w'=>OneR R s nv w e w' (oneP s f i ns):=by
 intro f
 induction f with
 | zero=>intro i nv ns w _ _ _ h _;exact absurd h (by omega)
 | succ f ih=>
  intro i nv ns w h hg hi hf hn
  have IH:=Lib.hid ih
  clear ih
  go_enter Tryz.func19,Tryz.ntmps19
  have HR:=Lib.hid h
  have HG:=Lib.hid hg
  clear h hg
  go_wp2_with fail
  refine(take_c R s i 42 nv ns _ (by decide) HR.out hsz).mono ?_
  rintro e w1 ⟨h1,h2,k1⟩
  by_cases c1:chr s i=42
  ·obtain⟨rfl,r1⟩:=h1 c1
   have HR1:=Lib.hid r1
   have HK1:=Lib.hid k1
   clear h1 h2 r1 k1
   go_wp2_with fail
   refine(add_c R s (i+1) nv ns ⟨1,0,0⟩ _ HR1.out (by omega)).mono ?_
   rintro e w2 ⟨rfl,nv2,r2,k2⟩
   have HR2:=Lib.hid r2
   have HK2:=Lib.hid k2
   clear r2 k2
   go_wp2
   go_ret
   rw[oneP_all c1]
   exact⟨ret_int (by simp),_,HR2.out,HK1.out.trans HK2.out⟩
  obtain⟨rfl,r1⟩:=h2 c1
  have HR1:=Lib.hid r1
  have HK1:=Lib.hid k1
  have HG1:=Lib.hid (HG.out.kp HR.out k1)
  clear h1 h2 r1 k1 HR HG
  go_wp2_with fail
  refine(take_c R s i 35 nv ns _ (by decide) HR1.out hsz).mono ?_
  rintro e w2 ⟨h1,h2,k1⟩
  by_cases c2:chr s i=35
  ·obtain⟨rfl,r1⟩:=h1 c2
   have HR2:=Lib.hid r1
   have HK2:=Lib.hid (HK1.out.trans k1)
   have HG2:=Lib.hid (HG1.out.kp HR1.out k1)
   clear h1 h2 r1 k1
   go_wp2_with fail
   refine(number_c R s (i+1) nv ns _ HR2.out HG2.out hsz (by have:=chr_ne (s:=s) (i:=(i+1) - 1) (by first | omega | (rw[Nat.add_sub_cancel];omega));omega)).mono ?_
   rintro e w3 ⟨h1,h2,k1⟩
   cases hna:numP s (i+1) with
   | none=>
    have hk:=Lib.hid (HK2.out.trans k1)
    obtain rfl:=h2 hna
    clear h1 h2 k1
    unfold fl9
    go_wp2
    refine⟨rfl, ?_⟩
    rw[oneP_tag c2,hna]
    exact⟨rfl,_,hk.out⟩
   | some pa=>
    obtain⟨ka,va⟩:=pa
    have hba:=numP_ok hna
    obtain⟨rfl,r1⟩:=h1 ka va hna
    have HR3:=Lib.hid r1
    have HK3:=Lib.hid (HK2.out.trans k1)
    have HG3:=Lib.hid (HG2.out.kp HR2.out k1)
    clear h1 h2 r1 k1
    go_wp2_with fail
    refine(add_c R s ka nv ns ⟨2,va,0⟩ _ HR3.out (by omega)).mono ?_
    rintro e wz ⟨rfl,nvz,rz,kz⟩
    have HRz:=Lib.hid rz
    have HKz:=Lib.hid (HK3.out.trans kz)
    clear rz kz
    go_wp2
    go_ret
    rw[oneP_tag c2,hna]
    exact⟨ret_int (by simp),_,HRz.out,HKz.out⟩
  obtain⟨rfl,r1⟩:=h2 c2
  have HR2:=Lib.hid r1
  have HK2:=Lib.hid (HK1.out.trans k1)
  have HG2:=Lib.hid (HG1.out.kp HR1.out k1)
  clear h1 h2 r1 k1
  go_wp2_with fail
  refine(take_c R s i 91 nv ns _ (by decide) HR2.out hsz).mono ?_
  rintro e w3 ⟨h1,h2,k1⟩
  by_cases c3:chr s i=91
  ·obtain⟨rfl,r1⟩:=h1 c3
   have HR3:=Lib.hid r1
   have HK3:=Lib.hid (HK2.out.trans k1)
   have HG3:=Lib.hid (HG2.out.kp HR2.out k1)
   clear h1 h2 r1 k1
   go_wp2_with fail
   refine(number_c R s (i+1) nv ns _ HR3.out HG3.out hsz (by have:=chr_ne (s:=s) (i:=(i+1) - 1) (by first | omega | (rw[Nat.add_sub_cancel];omega));omega)).mono ?_
   rintro e w4 ⟨h1,h2,k1⟩
   cases hna:numP s (i+1) with
   | none=>
    have hk:=Lib.hid (HK3.out.trans k1)
    obtain rfl:=h2 hna
    clear h1 h2 k1
    unfold fl9
    go_wp2
    refine⟨rfl, ?_⟩
    rw[oneP_in c3,hna]
    exact⟨rfl,_,hk.out⟩
   | some pa=>
    obtain⟨ka,va⟩:=pa
    have hba:=numP_ok hna
    obtain⟨rfl,r1⟩:=h1 ka va hna
    have HR4:=Lib.hid r1
    have HK4:=Lib.hid (HK3.out.trans k1)
    have HG4:=Lib.hid (HG3.out.kp HR3.out k1)
    clear h1 h2 r1 k1
    go_wp2_with fail
    refine(must_c R s ka 44 nv ns _ (by decide) HR4.out hsz).mono ?_
    rintro e w5 ⟨h1,h2,k1⟩
    by_cases d1:chr s ka=44
    rotate_left
    ·have hk:=Lib.hid (HK4.out.trans k1)
     obtain rfl:=h2 d1
     clear h1 h2 k1
     unfold fl9
     go_wp2
     refine⟨rfl, ?_⟩
     rw[oneP_in c3,hna,Option.bind_some,if_neg d1]
     exact⟨rfl,_,hk.out⟩
    obtain⟨rfl,r1⟩:=h1 d1
    have HR5:=Lib.hid r1
    have HK5:=Lib.hid (HK4.out.trans k1)
    have HG5:=Lib.hid (HG4.out.kp HR4.out k1)
    clear h1 h2 r1 k1
    go_wp2_with fail
    refine(number_c R s (ka+1) nv ns _ HR5.out HG5.out hsz (by have:=chr_ne (s:=s) (i:=(ka+1) - 1) (by first | omega | (rw[Nat.add_sub_cancel];omega));omega)).mono ?_
    rintro e w6 ⟨h1,h2,k1⟩
    cases hnb:numP s (ka+1) with
    | none=>
     have hk:=Lib.hid (HK5.out.trans k1)
     obtain rfl:=h2 hnb
     clear h1 h2 k1
     unfold fl9
     go_wp2
     refine⟨rfl, ?_⟩
     rw[oneP_in c3,hna,Option.bind_some,if_pos d1,hnb]
     exact⟨rfl,_,hk.out⟩
    | some pb=>
     obtain⟨kb,vb⟩:=pb
     have hbb:=numP_ok hnb
     obtain⟨rfl,r1⟩:=h1 kb vb hnb
     have HR6:=Lib.hid r1
     have HK6:=Lib.hid (HK5.out.trans k1)
     have HG6:=Lib.hid (HG5.out.kp HR5.out k1)
     clear h1 h2 r1 k1
     go_wp2_with fail
     refine(must_c R s kb 41 nv ns _ (by decide) HR6.out hsz).mono ?_
     rintro e w7 ⟨h1,h2,k1⟩
     by_cases d2:chr s kb=41
     rotate_left
     ·have hk:=Lib.hid (HK6.out.trans k1)
      obtain rfl:=h2 d2
      clear h1 h2 k1
      unfold fl9
      go_wp2
      refine⟨rfl, ?_⟩
      rw[oneP_in c3,hna,Option.bind_some,if_pos d1,hnb,Option.bind_some,if_neg d2]
      exact⟨rfl,_,hk.out⟩
     obtain⟨rfl,r1⟩:=h1 d2
     have HR7:=Lib.hid r1
     have HK7:=Lib.hid (HK6.out.trans k1)
     have HG7:=Lib.hid (HG6.out.kp HR6.out k1)
     clear h1 h2 r1 k1
     go_wp2_with fail
     refine(add_c R s (kb+1) nv ns ⟨3,va,vb⟩ _ HR7.out (by omega)).mono ?_
     rintro e wz ⟨rfl,nvz,rz,kz⟩
     have HRz:=Lib.hid rz
     have HKz:=Lib.hid (HK7.out.trans kz)
     clear rz kz
     go_wp2
     go_ret
     rw[oneP_in c3,hna,Option.bind_some,if_pos d1,hnb,Option.bind_some,if_pos d2]
     exact⟨ret_int (by simp),_,HRz.out,HKz.out⟩
  obtain⟨rfl,r1⟩:=h2 c3
  have HR3:=Lib.hid r1
  have HK3:=Lib.hid (HK2.out.trans k1)
  have HG3:=Lib.hid (HG2.out.kp HR2.out k1)
  clear h1 h2 r1 k1
  go_wp2_with fail
  refine(take_c R s i 33 nv ns _ (by decide) HR3.out hsz).mono ?_
  rintro e w4 ⟨h1,h2,k1⟩
  by_cases c4:chr s i=33
  ·obtain⟨rfl,r1⟩:=h1 c4
   have HR4:=Lib.hid r1
   have HK4:=Lib.hid (HK3.out.trans k1)
   have HG4:=Lib.hid (HG3.out.kp HR3.out k1)
   clear h1 h2 r1 k1
   go_wp2_with fail
   refine(IH.out (i+1) nv ns _ HR4.out HG4.out (by have:=chr_ne (s:=s) (i:=i) (by omega);omega) (by have:=chr_ne (s:=s) (i:=i) (by omega);omega) (by omega)).mono ?_
   rintro e w5 h1
   cases hoa:oneP s f (i+1) ns with
   | none=>
    rw[hoa] at h1
    obtain⟨rfl,nvq,k1⟩:=h1
    have hk:=Lib.hid (HK4.out.trans k1)
    clear k1
    unfold fl9
    go_wp2
    refine⟨rfl, ?_⟩
    rw[oneP_not c4,hoa]
    exact⟨rfl,_,hk.out⟩
   | some pa=>
    obtain⟨ka,la⟩:=pa
    have hba:=oneP_ok hoa
    rw[hoa] at h1
    obtain⟨rfl,nva,r1,k1⟩:=h1
    have HR5:=Lib.hid r1
    have HK5:=Lib.hid (HK4.out.trans k1)
    have HG5:=Lib.hid (HG4.out.kp HR4.out k1)
    clear r1 k1
    go_wp2_with fail
    refine(add_c R s ka nva la ⟨4,(la.length:Int) - 1,0⟩ _ HR5.out (by omega)).mono ?_
    rintro e wz ⟨rfl,nvz,rz,kz⟩
    have HRz:=Lib.hid rz
    have HKz:=Lib.hid (HK5.out.trans kz)
    clear rz kz
    go_wp2
    go_ret
    rw[oneP_not c4,hoa]
    exact⟨ret_int (by simp),_,HRz.out,HKz.out⟩
  obtain⟨rfl,r1⟩:=h2 c4
  have HR4:=Lib.hid r1
  have HK4:=Lib.hid (HK3.out.trans k1)
  have HG4:=Lib.hid (HG3.out.kp HR3.out k1)
  clear h1 h2 r1 k1
  go_wp2_with fail
  refine(must_c R s i 40 nv ns _ (by decide) HR4.out hsz).mono ?_
  rintro e w5 ⟨h1,h2,k1⟩
  by_cases c5:chr s i=40
  rotate_left
  ·have hk:=Lib.hid (HK4.out.trans k1)
   obtain rfl:=h2 c5
   clear h1 h2 k1
   unfold fl9
   go_wp2
   refine⟨rfl, ?_⟩
   rw[oneP_bad c1 c2 c3 c4 c5]
   exact⟨rfl,_,hk.out⟩
  obtain⟨rfl,r1⟩:=h1 c5
  have HR5:=Lib.hid r1
  have HK5:=Lib.hid (HK4.out.trans k1)
  have HG5:=Lib.hid (HG4.out.kp HR4.out k1)
  clear h1 h2 r1 k1
  go_wp2_with fail
  refine(IH.out (i+1) nv ns _ HR5.out HG5.out (by have:=chr_ne (s:=s) (i:=i) (by omega);omega) (by have:=chr_ne (s:=s) (i:=i) (by omega);omega) (by omega)).mono ?_
  rintro e w6 h1
  cases hoa:oneP s f (i+1) ns with
  | none=>
   rw[hoa] at h1
   obtain⟨rfl,nvq,k1⟩:=h1
   have hk:=Lib.hid (HK5.out.trans k1)
   clear k1
   unfold fl9
   go_wp2
   refine⟨rfl, ?_⟩
   rw[oneP_two c5,hoa]
   exact⟨rfl,_,hk.out⟩
  | some pa=>
   obtain⟨ka,la⟩:=pa
   have hba:=oneP_ok hoa
   rw[hoa] at h1
   obtain⟨rfl,nva,r1,k1⟩:=h1
   have HR6:=Lib.hid r1
   have HK6:=Lib.hid (HK5.out.trans k1)
   have HG6:=Lib.hid (HG5.out.kp HR5.out k1)
   have KN:=Lib.hid (show nva.ownBlock≠some w6.heap.size from fun e=>absurd (r1.row _ e).2 (Nat.lt_irrefl _))
   have hNR:w6.heap.size≠R:=by have:=r1.lt;omega
   have hRN:R≤w6.heap.size:=Nat.le_of_lt r1.lt
   have hwN:w.heap.size≤w6.heap.size:=Nat.le_trans HK5.out.size k1.size
   clear r1 k1
   have HR7:=Lib.hid (HR6.out.below (bal (Obj.cells #[Value.int IntKind.i64 5,Value.int IntKind.i64 ((la.length:Int) - 1),Value.int IntKind.i64 0] 80)))
   have HK7:=Lib.hid (HK6.out.trans (Kp.of_below (bal (Obj.cells #[Value.int IntKind.i64 5,Value.int IntKind.i64 ((la.length:Int) - 1),Value.int IntKind.i64 0] 80))))
   have HG7:=Lib.hid (HG6.out.kp HR6.out (Kp.of_below (bal (Obj.cells #[Value.int IntKind.i64 5,Value.int IntKind.i64 ((la.length:Int) - 1),Value.int IntKind.i64 0] 80))))
   have HB7:=Lib.hid (alloc_new w6 #[Value.int IntKind.i64 5,Value.int IntKind.i64 ((la.length:Int) - 1),Value.int IntKind.i64 0] 80 _ rfl)
   have hN7:w6.heap.size < (w6.alloc (Obj.cells #[Value.int IntKind.i64 5,Value.int IntKind.i64 ((la.length:Int) - 1),Value.int IntKind.i64 0] 80)).heap.size:=by simp
   clear HR6 HK6 HG6
   go_wp2_with fail
   refine(take_c R s ka 124 nva la _ (by decide) HR7.out hsz).mono ?_
   rintro e w8 ⟨h1,h2,k1⟩
   by_cases d1:chr s ka=124
   ·obtain⟨rfl,r1⟩:=h1 d1
    have HR8:=Lib.hid r1
    have HK8:=Lib.hid (HK7.out.trans k1)
    have HG8:=Lib.hid (HG7.out.kp HR7.out k1)
    have hN8:=Nat.lt_of_lt_of_le hN7 k1.size
    have HB8:=Lib.hid (k1.block HB7.out hNR KN.out)
    clear h1 h2 r1 k1
    have x0:=cell_of_block (j:=0) HB8.out rfl
    have z0:=free_of_block (j:=0) HB8.out
    have HR9:=Lib.hid (HR8.out.far (j:=0) (u:= .int .i64 6) hNR KN.out)
    have HK9:=Lib.hid (HK8.out.far (j:=0) (u:= .int .i64 6) hwN)
    have HG9:=Lib.hid (HG8.out.far (j:=0) (u:= .int .i64 6) hRN)
    have HB9:=Lib.hid (setCell_blk (j:=0) (v:= .int .i64 6) HB8.out)
    have hN9:w6.heap.size < (w8.setCell ⟨w6.heap.size,0,none⟩ (.int .i64 6)).heap.size:=by simpa[World.setCell] using hN8
    clear HB8 HR8 HK8 HG8
    go_wp2_with fail
    refine(IH.out (ka+1) nva la _ HR9.out HG9.out (by have:=chr_ne (s:=s) (i:=ka) (by omega);omega) (by have:=chr_ne (s:=s) (i:=ka) (by omega);omega) (by omega)).mono ?_
    rintro e wb h1
    cases hob:oneP s f (ka+1) la with
    | none=>
     rw[hob] at h1
     obtain⟨rfl,nvq,k1⟩:=h1
     have hk:=Lib.hid (HK9.out.trans k1)
     clear k1
     unfold fl9
     go_wp2
     refine⟨rfl, ?_⟩
     rw[oneP_two c5,hoa,Option.bind_some,if_pos (.inl d1),hob]
     exact⟨rfl,_,hk.out⟩
    | some pb=>
     obtain⟨kb,lb⟩:=pb
     have hbb:=oneP_ok hob
     rw[hob] at h1
     obtain⟨rfl,nvb,r1,k1⟩:=h1
     have HRb:=Lib.hid r1
     have HKb:=Lib.hid (HK9.out.trans k1)
     have HGb:=Lib.hid (HG9.out.kp HR9.out k1)
     have HBb:=Lib.hid (k1.block HB9.out hNR KN.out)
     have hNb:=Nat.lt_of_lt_of_le hN9 k1.size
     have KNb:=Lib.hid (show nvb.ownBlock≠some w6.heap.size from by
      rcases k1.loc with e | ⟨g,e,hg⟩
      ·rw[e];exact KN.out
      ·rw[e];intro e2;injection e2 with e2;omega)
     clear r1 k1
     have x2:=cell_of_block (j:=2) HBb.out rfl
     have z2:=free_of_block (j:=2) HBb.out
     have HR20:=Lib.hid (HRb.out.far (j:=2) (u:= .int .i64 ((lb.length:Int) - 1)) hNR KNb.out)
     have HK20:=Lib.hid (HKb.out.far (j:=2) (u:= .int .i64 ((lb.length:Int) - 1)) hwN)
     have HG20:=Lib.hid (HGb.out.far (j:=2) (u:= .int .i64 ((lb.length:Int) - 1)) hRN)
     have HB20:=Lib.hid (setCell_blk (j:=2) (v:= .int .i64 ((lb.length:Int) - 1)) HBb.out)
     clear HBb HRb HKb HGb
     go_wp2_with fail
     refine(must_c R s kb 41 nvb lb _ (by decide) HR20.out hsz).mono ?_
     rintro e w21 ⟨h1,h2,k1⟩
     by_cases d3:chr s kb=41
     rotate_left
     ·have hk:=Lib.hid (HK20.out.trans k1)
      obtain rfl:=h2 d3
      clear h1 h2 k1
      unfold fl9
      go_wp2
      refine⟨rfl, ?_⟩
      rw[oneP_two c5,hoa,Option.bind_some,if_pos (.inl d1),hob,Option.bind_some,if_neg d3]
      exact⟨rfl,_,hk.out⟩
     obtain⟨rfl,r1⟩:=h1 d3
     have HR21:=Lib.hid r1
     have HK21:=Lib.hid (HK20.out.trans k1)
     have HG21:=Lib.hid (HG20.out.kp HR20.out k1)
     have HB21:=Lib.hid (k1.block HB20.out hNR KNb.out)
     clear h1 h2 r1 k1
     clear x2 z2
     have x0:=cell_of_block (j:=0) HB21.out rfl
     have x1:=cell_of_block (j:=1) HB21.out rfl
     have x2:=cell_of_block (j:=2) HB21.out rfl
     go_wp2_with fail
     refine(add_c R s (kb+1) nvb lb ⟨6,(la.length:Int) - 1,(lb.length:Int) - 1⟩ _ HR21.out (by omega)).mono ?_
     rintro e wz ⟨rfl,nvz,rz,kz⟩
     have HRz:=Lib.hid rz
     have HKz:=Lib.hid (HK21.out.trans kz)
     clear rz kz
     go_wp2
     go_ret
     rw[oneP_two c5,hoa,Option.bind_some,if_pos (.inl d1),hob,Option.bind_some,if_pos d3,if_pos d1]
     exact⟨ret_int (by simp),_,HRz.out,HKz.out⟩
   obtain⟨rfl,r1⟩:=h2 d1
   have HR8:=Lib.hid r1
   have HK8:=Lib.hid (HK7.out.trans k1)
   have HG8:=Lib.hid (HG7.out.kp HR7.out k1)
   have hN8:=Nat.lt_of_lt_of_le hN7 k1.size
   have HB8:=Lib.hid (k1.block HB7.out hNR KN.out)
   clear h1 h2 r1 k1
   go_wp2_with fail
   refine(must_c R s ka 38 nva la _ (by decide) HR8.out hsz).mono ?_
   rintro e w9 ⟨h1,h2,k1⟩
   by_cases d2:chr s ka=38
   rotate_left
   ·have hk:=Lib.hid (HK8.out.trans k1)
    obtain rfl:=h2 d2
    clear h1 h2 k1
    unfold fl9
    go_wp2
    refine⟨rfl, ?_⟩
    rw[oneP_two c5,hoa,Option.bind_some,if_neg (by rintro(e | e);exact d1 e;exact d2 e)]
    exact⟨rfl,_,hk.out⟩
   obtain⟨rfl,r1⟩:=h1 d2
   have HR9:=Lib.hid r1
   have HK9:=Lib.hid (HK8.out.trans k1)
   have HG9:=Lib.hid (HG8.out.kp HR8.out k1)
   have hN9:=Nat.lt_of_lt_of_le hN8 k1.size
   have HB9:=Lib.hid (k1.block HB8.out hNR KN.out)
   clear h1 h2 r1 k1
   go_wp2_with fail
   refine(IH.out (ka+1) nva la _ HR9.out HG9.out (by have:=chr_ne (s:=s) (i:=ka) (by omega);omega) (by have:=chr_ne (s:=s) (i:=ka) (by omega);omega) (by omega)).mono ?_
   rintro e wb h1
   cases hob:oneP s f (ka+1) la with
   | none=>
    rw[hob] at h1
    obtain⟨rfl,nvq,k1⟩:=h1
    have hk:=Lib.hid (HK9.out.trans k1)
    clear k1
    unfold fl9
    go_wp2
    refine⟨rfl, ?_⟩
    rw[oneP_two c5,hoa,Option.bind_some,if_pos (.inr d2),hob]
    exact⟨rfl,_,hk.out⟩
   | some pb=>
    obtain⟨kb,lb⟩:=pb
    have hbb:=oneP_ok hob
    rw[hob] at h1
    obtain⟨rfl,nvb,r1,k1⟩:=h1
    have HRb:=Lib.hid r1
    have HKb:=Lib.hid (HK9.out.trans k1)
    have HGb:=Lib.hid (HG9.out.kp HR9.out k1)
    have HBb:=Lib.hid (k1.block HB9.out hNR KN.out)
    have hNb:=Nat.lt_of_lt_of_le hN9 k1.size
    have KNb:=Lib.hid (show nvb.ownBlock≠some w6.heap.size from by
     rcases k1.loc with e | ⟨g,e,hg⟩
     ·rw[e];exact KN.out
     ·rw[e];intro e2;injection e2 with e2;omega)
    clear r1 k1
    have x2:=cell_of_block (j:=2) HBb.out rfl
    have z2:=free_of_block (j:=2) HBb.out
    have HR20:=Lib.hid (HRb.out.far (j:=2) (u:= .int .i64 ((lb.length:Int) - 1)) hNR KNb.out)
    have HK20:=Lib.hid (HKb.out.far (j:=2) (u:= .int .i64 ((lb.length:Int) - 1)) hwN)
    have HG20:=Lib.hid (HGb.out.far (j:=2) (u:= .int .i64 ((lb.length:Int) - 1)) hRN)
    have HB20:=Lib.hid (setCell_blk (j:=2) (v:= .int .i64 ((lb.length:Int) - 1)) HBb.out)
    clear HBb HRb HKb HGb
    go_wp2_with fail
    refine(must_c R s kb 41 nvb lb _ (by decide) HR20.out hsz).mono ?_
    rintro e w21 ⟨h1,h2,k1⟩
    by_cases d3:chr s kb=41
    rotate_left
    ·have hk:=Lib.hid (HK20.out.trans k1)
     obtain rfl:=h2 d3
     clear h1 h2 k1
     unfold fl9
     go_wp2
     refine⟨rfl, ?_⟩
     rw[oneP_two c5,hoa,Option.bind_some,if_pos (.inr d2),hob,Option.bind_some,if_neg d3]
     exact⟨rfl,_,hk.out⟩
    obtain⟨rfl,r1⟩:=h1 d3
    have HR21:=Lib.hid r1
    have HK21:=Lib.hid (HK20.out.trans k1)
    have HG21:=Lib.hid (HG20.out.kp HR20.out k1)
    have HB21:=Lib.hid (k1.block HB20.out hNR KNb.out)
    clear h1 h2 r1 k1
    clear x2 z2
    have x0:=cell_of_block (j:=0) HB21.out rfl
    have x1:=cell_of_block (j:=1) HB21.out rfl
    have x2:=cell_of_block (j:=2) HB21.out rfl
    go_wp2_with fail
    refine(add_c R s (kb+1) nvb lb ⟨5,(la.length:Int) - 1,(lb.length:Int) - 1⟩ _ HR21.out (by omega)).mono ?_
    rintro e wz ⟨rfl,nvz,rz,kz⟩
    have HRz:=Lib.hid rz
    have HKz:=Lib.hid (HK21.out.trans kz)
    clear rz kz
    go_wp2
    go_ret
    rw[oneP_two c5,hoa,Option.bind_some,if_pos (.inr d2),hob,Option.bind_some,if_pos d3,if_neg d1]
    exact⟨ret_int (by simp),_,HRz.out,HKz.out⟩
end Go.Proofs.YtajgndoiddmbmaaGreatDoor
