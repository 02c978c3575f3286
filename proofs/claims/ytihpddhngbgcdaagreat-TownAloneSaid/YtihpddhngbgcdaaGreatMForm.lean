/- What the functions of package cube do, one contract a function: Tags, Check, In, Has, two, Within. What filter.Point and formula.Is do. -/
import Derived.Test.YtihpddhngbgcdaaGreatChecked
import Derived.Test.YtihpddhngbgcdaaGreatBase
import Derived.Deep.QuietTactic
import Derived.BigQuiet
import Derived.WalkSmall
import Derived.Test.YtihpddhngbgcdaaGreatBase2
import Derived.Laws.OwnMore
namespace Go.Proofs.YtihpddhngbgcdaaGreat
open Go.RowKit
def tagsB (n:Int):Bool:=decide (0≤n)&&decide (n≤15)
def cubeChk (y n:Int):Int:=if tagsB y&&tagsB n then(if bits .and .i64 y n==0 then 0 else 3) else 1
def cubeIn (y n t:Int):Bool:=(bits .and .i64 t y==y)&&(bits .and .i64 t n==0)
set_option maxRecDepth 100000 in
set_option maxHeartbeats 400000 in
theorem tags_c (n:Int) (w:World):
  Calls Tryz.prog 107 #[.int .i64 n] w fun e w'=>e= .returned (.bool (tagsB n))∧w'=w:=by
 go_enter Tryz.func107,Tryz.ntmps107
 go_wp2
 all_goals go_ret
 all_goals exact⟨ret_bool (by simp[tagsB];try omega),rfl⟩
set_option maxRecDepth 100000 in
set_option maxHeartbeats 400000 in
theorem cubeChk_c (y n:Int) (w:World):
  Calls Tryz.prog 98 #[.agg #[.int .i64 y, .int .i64 n]] w fun e w'=>e= .returned (.int .i64 (cubeChk y n))∧Below w.heap.size w w':=by
 have hb:Below w.heap.size w (w.alloc (.cells #[.int .i64 y, .int .i64 n] 132)):=bal _
 go_enter Tryz.func98,Tryz.ntmps98
 go_wp2_with fail
 refine(tags_c _ _).mono ?_
 rintro e w1 ⟨rfl,rfl⟩
 cases hy:tagsB y
 ·have H:=Lib.hid (show cubeChk y n=1 by simp[cubeChk,hy])
  go_wp2
  go_ret
  exact⟨ret_int H.out.symm,hb⟩
 go_wp2_with fail
 refine(tags_c _ _).mono ?_
 rintro e w1 ⟨rfl,rfl⟩
 cases hn:tagsB n
 ·have H:=Lib.hid (show cubeChk y n=1 by simp[cubeChk,hn])
  go_wp2
  go_ret
  exact⟨ret_int H.out.symm,hb⟩
 cases ha:(bits .and .i64 y n==0)
 ·have H:=Lib.hid (show cubeChk y n=3 by simp only[cubeChk,hy,hn,ha];rfl)
  clear hy hn
  go_wp2
  go_ret
  exact⟨ret_int H.out.symm,hb⟩
 ·have H:=Lib.hid (show cubeChk y n=0 by simp only[cubeChk,hy,hn,ha];rfl)
  clear hy hn
  go_wp2
  go_ret
  exact⟨ret_int H.out.symm,hb⟩
set_option maxRecDepth 100000 in
set_option maxHeartbeats 400000 in
theorem cubeIn_c (y n t:Int) (w:World):
  Calls Tryz.prog 145 #[.agg #[.int .i64 y, .int .i64 n], .int .i64 t] w fun e w'=>e= .returned (.bool (cubeIn y n t))∧Below w.heap.size w w':=by
 go_enter Tryz.func145,Tryz.ntmps145
 go_wp2
 all_goals go_ret
 all_goals exact⟨ret_bool (by simp[cubeIn, *]),bal _⟩
end Go.Proofs.YtihpddhngbgcdaaGreat
namespace Go.Proofs.YtihpddhngbgcdaaGreat
open Go.RowKit
def ptOk (t n:Int):Bool:=tagsB t&&decide (0≤n)&&decide (n < 32)
set_option maxRecDepth 100000 in
set_option maxHeartbeats 400000 in
theorem point_c (t n:Int) (w:World):Calls Tryz.prog 43 #[.agg #[.int .i64 t, .int .i64 n]] w fun e w'=>e= .returned (.bool (ptOk t n))∧Below w.heap.size w w':=by
 cases ht:tagsB t
 ·have H:=Lib.hid (show ptOk t n=false by simp[ptOk,ht])
  have HT:=Lib.hid ht
  clear ht
  go_enter Tryz.func43,Tryz.ntmps43
  go_wp2_with fail
  (with_reducible refine(tags_c t _).mono ?_)
  rintro e w1 ⟨rfl,rfl⟩
  rw[HT.out]
  go_wp2
  go_ret
  exact⟨ret_bool H.out.symm,bal _⟩
 by_cases h0:0≤n
 ·have H:=Lib.hid (show ptOk t n=decide (n < 32) by simp[ptOk,ht,h0])
  have HT:=Lib.hid ht
  clear ht
  go_enter Tryz.func43,Tryz.ntmps43
  go_wp2_with fail
  (with_reducible refine(tags_c t _).mono ?_)
  rintro e w1 ⟨rfl,rfl⟩
  rw[HT.out]
  go_wp2
  go_ret
  exact⟨ret_bool H.out.symm,bal _⟩
 ·have H:=Lib.hid (show ptOk t n=false by simp[ptOk,h0])
  have HT:=Lib.hid ht
  have hd:decide (0≤n)=false:=by simpa using h0
  clear ht
  go_enter Tryz.func43,Tryz.ntmps43
  go_wp2_with fail
  (with_reducible refine(tags_c t _).mono ?_)
  rintro e w1 ⟨rfl,rfl⟩
  rw[HT.out]
  go_wp2
  go_ret
  exact⟨ret_bool H.out.symm,bal _⟩
set_option maxRecDepth 100000 in
theorem BoolTy.info:(Tryz.prog.info? 4).map (fun i=>(i.zero,i.size,i.bytes))=some (some (.bool false),1,1):=by kernel_rfl
end Go.Proofs.YtihpddhngbgcdaaGreat
