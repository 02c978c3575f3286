/- What the functions of package cube do, one contract a function: Tags, Check, In, Has, two, Within. What filter.Point and formula.Is do. -/
import Derived.Test.YtgkgdedhicnohaaGreatChecked
import Derived.Test.YtgkgdedhicnohaaGreatMBase
import Derived.Deep.QuietTactic
import Derived.BigQuiet
import Derived.WalkSmall
import Derived.Laws.OwnMore
namespace Go.Proofs.YtgkgdedhicnohaaGreat
set_option maxRecDepth 100000
set_option maxHeartbeats 40000000
open Go.RowKit
def tagsB (n:Int):Bool:=decide (0≤n)&&decide (n≤15)
def cubeChk (y n:Int):Int:=if tagsB y&&tagsB n then(if bits .and .i64 y n==0 then 0 else 3) else 1
def cubeIn (y n t:Int):Bool:=(bits .and .i64 t y==y)&&(bits .and .i64 t n==0)
theorem tags_c (n:Int) (w:World):
  Calls Tryz.prog 88 #[.int .i64 n] w fun e w'=>e= .returned (.bool (tagsB n))∧w'=w:=by
 go_enter Tryz.func88,Tryz.ntmps88
 go_wp2
 all_goals go_ret
 all_goals exact⟨ret_bool (by simp[tagsB];try omega),rfl⟩
theorem cubeChk_c (y n:Int) (w:World):
  Calls Tryz.prog 79 #[.agg #[.int .i64 y, .int .i64 n]] w fun e w'=>e= .returned (.int .i64 (cubeChk y n))∧Below w.heap.size w w':=by
 have hb:Below w.heap.size w (w.alloc (.cells #[.int .i64 y, .int .i64 n] 122)):=bal _
 go_enter Tryz.func79,Tryz.ntmps79
 go_wp2_with fail
 refine(tags_c _ _).mono ?_
 rintro e w1 ⟨rfl,rfl⟩
 cases hy:tagsB y
 ·have H:=jD (show cubeChk y n=1 by simp[cubeChk,hy])
  go_wp2
  go_ret
  exact⟨ret_int H.out.symm,hb⟩
 go_wp2_with fail
 refine(tags_c _ _).mono ?_
 rintro e w1 ⟨rfl,rfl⟩
 cases hn:tagsB n
 ·have H:=jD (show cubeChk y n=1 by simp[cubeChk,hn])
  go_wp2
  go_ret
  exact⟨ret_int H.out.symm,hb⟩
 cases ha:(bits .and .i64 y n==0)
 ·have H:=jD (show cubeChk y n=3 by simp only[cubeChk,hy,hn,ha];rfl)
  clear hy hn
  go_wp2
  go_ret
  exact⟨ret_int H.out.symm,hb⟩
 ·have H:=jD (show cubeChk y n=0 by simp only[cubeChk,hy,hn,ha];rfl)
  clear hy hn
  go_wp2
  go_ret
  exact⟨ret_int H.out.symm,hb⟩
theorem cubeIn_c (y n t:Int) (w:World):
  Calls Tryz.prog 123 #[.agg #[.int .i64 y, .int .i64 n], .int .i64 t] w fun e w'=>e= .returned (.bool (cubeIn y n t))∧Below w.heap.size w w':=by
 go_enter Tryz.func123,Tryz.ntmps123
 go_wp2
 all_goals go_ret
 all_goals exact⟨ret_bool (by simp[cubeIn, *]),bal _⟩
def ptOk (t n:Int):Bool:=tagsB t&&decide (0≤n)&&decide (n < 32)
theorem point_c (t n:Int) (w:World):Calls Tryz.prog 38 #[.agg #[.int .i64 t, .int .i64 n]] w fun e w'=>e= .returned (.bool (ptOk t n))∧Below w.heap.size w w':=by
 cases ht:tagsB t
 ·have H:=jD (show ptOk t n=false by simp[ptOk,ht])
  have HT:=jD ht
  clear ht
  go_enter Tryz.func38,Tryz.ntmps38
  go_wp2_with fail
  (with_reducible refine(tags_c t _).mono ?_)
  rintro e w1 ⟨rfl,rfl⟩
  rw[HT.out]
  go_wp2
  go_ret
  exact⟨ret_bool H.out.symm,bal _⟩
 by_cases h0:0≤n
 ·have H:=jD (show ptOk t n=decide (n < 32) by simp[ptOk,ht,h0])
  have HT:=jD ht
  clear ht
  go_enter Tryz.func38,Tryz.ntmps38
  go_wp2_with fail
  (with_reducible refine(tags_c t _).mono ?_)
  rintro e w1 ⟨rfl,rfl⟩
  rw[HT.out]
  go_wp2
  go_ret
  exact⟨ret_bool H.out.symm,bal _⟩
 ·have H:=jD (show ptOk t n=false by simp[ptOk,h0])
  have HT:=jD ht
  have hd:decide (0≤n)=false:=by simpa using h0
  clear ht
  go_enter Tryz.func38,Tryz.ntmps38
  go_wp2_with fail
  (with_reducible refine(tags_c t _).mono ?_)
  rintro e w1 ⟨rfl,rfl⟩
  rw[HT.out]
  go_wp2
  go_ret
  exact⟨ret_bool H.out.symm,bal _⟩
theorem BoolTy.info:(Tryz.prog.info? 4).map (fun i=>(i.zero,i.size,i.bytes))=some (some (.bool false),1,1):=by kernel_rfl
end Go.Proofs.YtgkgdedhicnohaaGreat
