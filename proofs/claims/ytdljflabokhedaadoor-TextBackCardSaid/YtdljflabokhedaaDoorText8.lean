/- Two sentences with a sign and brackets; one with a ! ahead: what is read, and what it says. No program in sight. -/
import Derived.Test.YtdljflabokhedaaDoorText7
namespace Go.Proofs.YtdljflabokhedaaDoor
open Go.RowKit
def wellN (i:Nat) (n:Nd):Prop:=n.k=1∨n.k=2∨n.k=3∨(n.k=4∧0≤n.a∧n.a < i)∨((n.k=5∨n.k=6)∧0≤n.a∧n.a < i∧0≤n.b∧n.b < i)
def wellL (l:Nds):Prop:= ∀k (h:k < l.length),wellN k l[k]
theorem wellL.nil:wellL []:=fun k h=>absurd h (by simp)
theorem wellL.snoc {l:Nds} {n:Nd} (h:wellL l) (hn:wellN l.length n):wellL (l++[n]):=by
 intro k hk
 rw[List.getElem_append]
 split
 ·exact h k _
 ·have:k=l.length:=by simp at hk;omega
  subst this;simpa using hn
theorem ndChk_sh {i b:Nat} {n:Nd} (h:wellN i n):ndChk (b+i) (shN b n)=ndChk i n:=by
 rcases h with h | h | h | ⟨h,h1,h2⟩ | ⟨h,h1,h2,h3,h4⟩
 ·simp[shN,ndChk,h]
 ·simp[shN,ndChk,h]
 ·simp[shN,ndChk,h]
 ·simp only[shN,ndChk,h]
  simp
  rw[if_neg (by omega),if_neg (by omega)]
 ·rcases h with h | h
  ·simp only[shN,ndChk,h]
   simp
   rw[if_neg (by omega),if_neg (by omega)]
  ·simp only[shN,ndChk,h]
   simp
   rw[if_neg (by omega),if_neg (by omega)]
theorem ctx_get {c l:Nds} {k:Nat} (hk:k < l.length):(ctx c l)[c.length+k]'(by rw[ctx_len];omega)=shN c.length l[k]:=by
 simp[ctx,List.getElem_append]
theorem ctx_get_lt {c l:Nds} {k:Nat} (hk:k < c.length):(ctx c l)[k]'(by rw[ctx_len];omega)=c[k]:=by
 simp[ctx,List.getElem_append,hk]
theorem ndVal_sh {vs ws:List Bool} {t n:Int} {k:Nat} {x:Nd} (h:wellN k x) (hw:ws.length=k):ndVal (vs++ws) t n (shN vs.length x)=ndVal ws t n x:=by
 have g: ∀a:Int,0≤a→a < k→(vs++ws)[(a+vs.length).toNat]?.getD false=ws[a.toNat]?.getD false:=fun a h0 h1=>by
  have:(a+vs.length).toNat=vs.length+a.toNat:=by omega
  rw[this]
  simp[List.getElem?_append_right]
 rcases h with h | h | h | ⟨h,h1,h2⟩ | ⟨h,h1,h2,h3,h4⟩
 ·simp[shN,ndVal,h]
 ·simp[shN,ndVal,h]
 ·simp[shN,ndVal,h]
 ·simp[shN,ndVal,h]
  rw[g x.a h1 h2]
 ·rcases h with h | h
  ·simp[shN,ndVal,h]
   rw[g x.a h1 h2,g x.b h3 h4]
  ·simp[shN,ndVal,h]
   rw[g x.a h1 h2,g x.b h3 h4]
theorem valsK_ctx {c l:Nds} (hw:wellL l) (t n:Int): ∀k,k≤l.length→valsK (ctx c l) t n (c.length+k)=valsK c t n c.length++valsK l t n k
 | 0,_=>by rw[Nat.add_zero,ctx,valsK_app _ _ _ _ _ (Nat.le_refl _)];simp [valsK]
 | k+1,hk=>by
  have e:c.length+(k+1)=(c.length+k)+1:=by omega
  rw[e]
  simp only[valsK]
  rw[valsK_ctx hw t n k (by omega),List.append_assoc]
  congr 2
  have g1:(ctx c l).getD (c.length+k) ⟨0,0,0⟩=shN c.length l[k]:=by
   rw[List.getD,List.getElem?_eq_getElem (by rw[ctx_len];omega),ctx_get (by omega)];rfl
  have g2:l.getD k ⟨0,0,0⟩=l[k]:=by rw[List.getD,List.getElem?_eq_getElem (by omega)];rfl
  rw[g1,g2]
  have hv:(valsK c t n c.length).length=c.length:=valsK_length _ _ _ _
  have:=ndVal_sh (vs:=valsK c t n c.length) (ws:=valsK l t n k) (t:=t) (n:=n) (hw k (by omega)) (valsK_length _ _ _ _)
  rw[hv] at this
  rw[this]
theorem getD_app_lt' {V W:List Bool} {i:Nat} (h:i < V.length):(V++W).getD i false=V.getD i false:=by simp[List.getD,List.getElem?_append_left h]
theorem nd5 (vs:List Bool) (t n a b:Int):ndVal vs t n ⟨5,a,b⟩=(vs.getD a.toNat false&&vs.getD b.toNat false):=rfl
theorem nd6 (vs:List Bool) (t n a b:Int):ndVal vs t n ⟨6,a,b⟩=(vs.getD a.toNat false || vs.getD b.toNat false):=rfl
theorem nd4 (vs:List Bool) (t n a b:Int):ndVal vs t n ⟨4,a,b⟩= !vs.getD a.toNat false:=rfl
theorem formVal_two {c l:Nds} (hc:0 < c.length) (hl:0 < l.length) (hw:wellL l) (t n:Int) (K:Int) (hK:K=5∨K=6):
  formVal (ctx c l++[⟨K,(c.length:Int) - 1,((ctx c l).length:Int) - 1⟩]) t n=if K=5 then(formVal c t n&&formVal l t n) else(formVal c t n || formVal l t n):=by
 rw[formVal_snoc,ctx_len,valsK_ctx hw t n l.length (Nat.le_refl _)]
 have hv:(valsK c t n c.length).length=c.length:=valsK_length _ _ _ _
 have e1:((c.length:Int) - 1).toNat=c.length - 1:=by omega
 have e2:(((c.length+l.length:Nat):Int) - 1).toNat=c.length+(l.length - 1):=by omega
 have g1:(valsK c t n c.length++valsK l t n l.length).getD (c.length - 1) false=formVal c t n:=by
  rw[getD_app_lt' (by omega)];rfl
 have g2:(valsK c t n c.length++valsK l t n l.length).getD (c.length+(l.length - 1)) false=formVal l t n:=by
  simp only[List.getD]
  rw[List.getElem?_append_right (by omega),hv,Nat.add_sub_cancel_left];rfl
 rcases hK with rfl | rfl
 ·rw[nd5,e1,e2,g1,g2,if_pos rfl]
 ·rw[nd6,e1,e2,g1,g2,if_neg (by decide)]
end Go.Proofs.YtdljflabokhedaaDoor
