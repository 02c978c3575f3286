/- Sets of numbers as lists of spans: the plain functions that the program's package span computes. No program in sight. -/
import Derived.Test.YtdljflabokhedaaDoorMBase
namespace Go.Proofs.YtdljflabokhedaaDoor
abbrev Spans:=List (Int×Int)
def spansCells (l:Spans):List Value:=l.flatMap fun s=>[.int .i64 s.1, .int .i64 s.2]
theorem spansCells_length (l:Spans):(spansCells l).length=l.length*2:=by
 induction l with
 | nil=>rfl
 | cons s l ih=>simp only[spansCells,List.flatMap_cons,List.length_append,List.length_cons,List.length_nil] at*;omega
theorem spansCells_one (l:Spans): ∀u∈spansCells l,u.oneCell'=true:=by
 intro u hu;simp only[spansCells,List.mem_flatMap,List.mem_cons,List.not_mem_nil,or_false] at hu
 obtain⟨s, -,rfl | rfl⟩:=hu <;> rfl
theorem spansCells_append (l m:Spans):spansCells (l++m)=spansCells l++spansCells m:=by simp[spansCells]
theorem spansCells_get (l:Spans) (i:Nat) (h:i < l.length):(spansCells l)[i*2]? =some (.int .i64 l[i].1)∧(spansCells l)[i*2+1]? =some (.int .i64 l[i].2):=by
 induction l generalizing i with
 | nil=>simp at h
 | cons s l ih=>
  cases i with
  | zero=>simp [spansCells]
  | succ i=>
   have:=ih i (by simpa using h)
   have e:spansCells (s::l)= .int .i64 s.1:: .int .i64 s.2::spansCells l:=rfl
   rw[e,show(i+1)*2=i*2+1+1 from by omega]
   simpa using this
def SpansAt (w:World) (v:Value) (l:Spans):Prop:=CellsAt w v l.length (spansCells l)
theorem SpansAt.below {w w':World} {v:Value} {l:Spans} (h:SpansAt w v l) (hb:RowKit.Below w.heap.size w w'):SpansAt w' v l:=CellsAt.below h hb
theorem SpansAt.shape {w:World} {v:Value} {l:Spans} (h:SpansAt w v l): ∃a cap,v= .slice a l.length cap:=by
 obtain⟨a,cap,hv,_⟩:=h;exact ⟨a,cap,hv⟩
theorem SpansAt.open_ {w:World} {v:Value} {l:Spans} (h:SpansAt w v l): ∃a cap,v= .slice a l.length cap∧l.length≤cap∧l.length≤140737488355328∧
  (l=[]∨ ∃b off,a=some ⟨b,off,none⟩∧b < w.heap.size∧ ∀i (h:i < l.length),w.cell? ⟨b,off+i*2,none⟩=some (.int .i64 l[i].1)∧w.cell? ⟨b,off+i*2+1,none⟩=some (.int .i64 l[i].2)):=by
 obtain⟨a,cap,hv,hn,hm,h0,h⟩:=h
 refine⟨a,cap,hv,hn,hm, ?_⟩
 rcases h with h | ⟨b,off,ha,hlt,hc⟩
 ·left
  cases l with
  | nil=>rfl
  | cons s l=>simp [spansCells] at h
 ·exact .inr ⟨b,off,ha,hlt,fun i hi=>⟨hc _ _ (spansCells_get l i hi).1,by rw[Nat.add_assoc];exact hc _ _ (spansCells_get l i hi).2⟩⟩
def inB (l:Spans) (n:Int):Bool:=l.any fun s=>decide (s.1≤n)&&decide (n < s.2)
def chkFrom:Int→Spans→Int
 | _,[]=>0
 | last,s::l=>if s.1 < 0∨32 < s.2∨s.2≤s.1 then 1 else if s.1≤last then 3 else chkFrom s.2 l
def spansChk (l:Spans):Int:=if 16 < l.length then 2 else chkFrom (-1) l
def put1 (out:Spans) (n:Int):Spans:=
 match out.getLast? with
 | some s=>if s.2=n then out.dropLast++[(s.1,n+1)] else out++[(n,n+1)]
 | none=>[(n,n+1)]
def mk (p:Nat→Bool):Nat→Spans
 | 0=>[]
 | k+1=>if p k then put1 (mk p k) k else mk p k
def make (p:Nat→Bool):Spans:=mk p 32
end Go.Proofs.YtdljflabokhedaaDoor
