/- Sentences shown as text: what was read is shown as it was. No program in sight. -/
import Derived.Test.YtajgndoiddmbmaaGreatDoorText10
namespace Go.Proofs.YtajgndoiddmbmaaGreatDoor
open Go.RowKit
theorem ba_ext {a b:ByteArray} (h:a.data.toList=b.data.toList):a=b:=by
 cases a;cases b
 simp only at h
 congr 1
 exact Array.ext' h
theorem app_list (a b:ByteArray):(a++b).data.toList=a.data.toList++b.data.toList:=by rw[ByteArray.data_append,Array.toList_append]
theorem seg_add (s:ByteArray) {i k j:Nat} (h1:i≤k) (h2:k≤j):s.extract i k++s.extract k j=s.extract i j:=by
 apply ba_ext
 rw[app_list,ext_list,ext_list,ext_list,show j - i=(k - i)+(j - k) by omega,List.take_add,List.drop_drop,show i+(k - i)=k by omega]
theorem seg_one {s:ByteArray} {i:Nat} {c:UInt8} (h:chr s i=c.toNat):s.extract i (i+1)=⟨#[c]⟩:=by
 have hi:i < s.size:=chr_lt' h c.toNat_lt
 apply ba_ext
 rw[ext1 hi]
 rw[chr_lt hi] at h
 rw[UInt8.toNat_inj.1 h]
theorem num_seg {s:ByteArray} {i j v:Nat} (h:numP s i=some (j,v)):itB v=s.extract i j:=by
 apply ba_ext
 rw[itB]
 unfold numP at h
 split at h
 ·cases h
 ·rename_i h0
  have d0:isDig (chr s i)=true:=by cases hq:isDig (chr s i) <;> simp_all
  have l0:=isDig_lt d0
  have e0:=isDig_iff.1 d0
  rw[chr_lt l0] at e0
  split at h
  ·simp only[Option.some.injEq,Prod.mk.injEq] at h
   obtain⟨rfl,rfl⟩:=h
   rw[ext1 l0,chr_lt l0]
   exact(num1 s[i] e0).2
  ·rename_i h1
   have d1:isDig (chr s (i+1))=true:=by cases hq:isDig (chr s (i+1)) <;> simp_all
   have l1:=isDig_lt d1
   have e1:=isDig_iff.1 d1
   rw[chr_lt l1] at e1
   split at h
   ·cases h
   ·rename_i h2
    simp only[Option.some.injEq,Prod.mk.injEq] at h
    obtain⟨rfl,rfl⟩:=h
    rw[ext2 l1,chr_lt l0,chr_lt l1]
    exact(num2 s[i] s[i+1] e0 e1).2.2 fun e=>h2 (.inr (by rw[chr_lt l0];exact e))
theorem txts_pre {l r:Nds} {k:Nat} (h:k < l.length):(txts (l++r)).getD k ByteArray.empty=(txts l).getD k ByteArray.empty:=by
 rw[txts,txts,txtsK_get _ k _ (by rw[List.length_append];omega),txtsK_get l k _ h,txtsK_app _ _ _ (by omega)]
 congr 2
 simp[List.getD,List.getElem?_append_left h]
theorem last_snoc (m:Nds) (n:Nd):lastS (m++[n])=cutS (rawS (txts m) n):=by
 rw[lastS,txts,List.length_append,List.length_singleton,Nat.add_sub_cancel,txtsK_get _ _ _ (Nat.lt_succ_self _),txtsK_app _ _ _ (Nat.le_refl _)]
 simp[txts,List.getD]
theorem cut_ext {s:ByteArray} (h:s.size≤400) (i j:Nat):cutS (s.extract i j)=s.extract i j:=by
 unfold cutS
 rw[if_neg (by rw[ByteArray.size_extract];omega)]
theorem lastS_pre {l r:Nds} {x:Int} (hl:0 < l.length) (hx:x=(l.length:Int) - 1):(txts (l++r)).getD x.toNat ByteArray.empty=lastS l:=by
 have:x.toNat=l.length - 1:=by omega
 rw[this,txts_pre (by omega)];rfl
theorem one_shown {s:ByteArray} (hs:s.size≤400): ∀ {f i:Nat} {ns l:Nds} {j:Nat},oneP s f i ns=some (j,l)→lastS l=s.extract i j
 | 0,_,_,_,_,e=>by simp[oneP] at e
 | f+1,i,ns,l,j,e=>by
  by_cases c1:chr s i=42
  ·rw[oneP_all c1] at e
   simp only[Option.some.injEq,Prod.mk.injEq] at e
   obtain⟨rfl,rfl⟩:=e
   rw[last_snoc,←cut_ext hs,seg_one (c:=42) c1];rfl
  by_cases c2:chr s i=35
  ·rw[oneP_tag c2] at e
   cases hn:numP s (i+1) with
   | none=>simp [hn] at e
   | some q=>
    obtain⟨k,v⟩:=q
    have hk:=numP_ok hn
    simp only[hn,Option.bind_some,Option.some.injEq,Prod.mk.injEq] at e
    obtain⟨rfl,rfl⟩:=e
    rw[last_snoc,←cut_ext hs,←seg_add s (show i≤i+1 by omega) (show i+1≤k by omega),seg_one (c:=35) c2,←num_seg hn];rfl
  by_cases c3:chr s i=91
  ·rw[oneP_in c3] at e
   cases hn:numP s (i+1) with
   | none=>simp [hn] at e
   | some q=>
    obtain⟨k,v⟩:=q
    have hk:=numP_ok hn
    simp only[hn,Option.bind_some] at e
    split at e
    ·rename_i d1
     cases hm:numP s (k+1) with
     | none=>simp [hm] at e
     | some r=>
      obtain⟨k2,v2⟩:=r
      have hk2:=numP_ok hm
      simp only[hm,Option.bind_some] at e
      split at e
      ·rename_i d2
       simp only[Option.some.injEq,Prod.mk.injEq] at e
       obtain⟨rfl,rfl⟩:=e
       rw[last_snoc,←cut_ext hs,←seg_add s (show i≤k2 by omega) (show k2≤k2+1 by omega),←seg_add s (show i≤k+1 by omega) (show k+1≤k2 by omega),←seg_add s (show i≤k by omega) (show k≤k+1 by omega),
        ←seg_add s (show i≤i+1 by omega) (show i+1≤k by omega),seg_one (c:=91) c3,←num_seg hn,seg_one (c:=44) d1,←num_seg hm,seg_one (c:=41) d2];rfl
      ·cases e
    ·cases e
  by_cases c4:chr s i=33
  ·rw[oneP_not c4] at e
   cases hn:oneP s f (i+1) ns with
   | none=>simp [hn] at e
   | some q=>
    obtain⟨k,m⟩:=q
    have hk:=oneP_ok hn
    have ih:=one_shown hs hn
    simp only[hn,Option.bind_some,Option.some.injEq,Prod.mk.injEq] at e
    obtain⟨rfl,rfl⟩:=e
    rw[last_snoc,←cut_ext hs,←seg_add s (show i≤i+1 by omega) (show i+1≤k by omega),seg_one (c:=33) c4,←ih]
    have:=lastS_pre (l:=m) (r:=[]) (x:=(m.length:Int) - 1) (by omega) rfl
    rw[List.append_nil] at this
    rw[←this];rfl
  by_cases c5:chr s i=40
  ·rw[oneP_two c5] at e
   cases hn:oneP s f (i+1) ns with
   | none=>simp [hn] at e
   | some q=>
    obtain⟨k,m⟩:=q
    have hk:=oneP_ok hn
    have ih:=one_shown hs hn
    simp only[hn,Option.bind_some] at e
    split at e
    ·rename_i d1
     cases ho:oneP s f (k+1) m with
     | none=>simp [ho] at e
     | some r=>
      obtain⟨k2,m2⟩:=r
      have hk2:=oneP_ok ho
      have ih2:=one_shown hs ho
      obtain⟨r,rfl⟩:=oneP_pre ho
      simp only[ho,Option.bind_some] at e
      split at e
      ·rename_i d2
       simp only[Option.some.injEq,Prod.mk.injEq] at e
       obtain⟨rfl,rfl⟩:=e
       have p1:=lastS_pre (l:=m) (r:=r) (x:=(m.length:Int) - 1) (by omega) rfl
       have p2:=lastS_pre (l:=m++r) (r:=[]) (x:=((m++r).length:Int) - 1) (by omega) rfl
       rw[List.append_nil] at p2
       rw[last_snoc,←cut_ext hs,←seg_add s (show i≤k2 by omega) (show k2≤k2+1 by omega),←seg_add s (show i≤k+1 by omega) (show k+1≤k2 by omega),←seg_add s (show i≤k by omega) (show k≤k+1 by omega),
        ←seg_add s (show i≤i+1 by omega) (show i+1≤k by omega),seg_one (c:=40) c5,←ih,←ih2,seg_one (c:=41) d2,←p1,←p2]
       by_cases d:chr s k=124
       ·rw[if_pos d,seg_one (c:=124) d];rfl
       ·rw[if_neg d,seg_one (c:=38) (by rcases d1 with d1 | d1;exact absurd d1 d;exact d1)];rfl
      ·cases e
    ·cases e
  ·rw[oneP_bad c1 c2 c3 c4 c5] at e;cases e
theorem read_shown {s:ByteArray} (h:readE s=0):showE (readL s)=0∧lastS (readL s)=s:=by
 obtain⟨h4,l,ho,hf,hl⟩:=readE_zero h
 have e:lastS l=s:=by
  rw[one_shown h4 ho]
  apply ba_ext
  rw[ext_list]
  simp only[List.drop_zero,Nat.sub_zero]
  exact List.take_of_length_le (by simp)
 rw[hl]
 exact⟨by rw[showE,if_pos hf,if_neg (by rw[e];omega)],e⟩
end Go.Proofs.YtajgndoiddmbmaaGreatDoor
