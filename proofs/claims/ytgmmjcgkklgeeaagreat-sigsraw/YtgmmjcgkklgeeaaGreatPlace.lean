/- The place of no name: what the program's place does. No condition. -/
import Derived.Test.YtgmmjcgkklgeeaaGreatRows
import Derived.Test.YtgmmjcgkklgeeaaGreatShelf
import Derived.WalkKit
import Derived.Test.YtgmmjcgkklgeeaaGreatP3
import Derived.RangeFuncBox
import Derived.RangeFuncNested
import Derived.RangeFuncCalls
import Derived.RangeFuncLeaves
import Derived.Shelf.Abstract
import Derived.OwnWalkIn
import Derived.TacticsInMore
import Derived.LoopNIn
import Derived.LoopIn
namespace Go.Proofs.YtgmmjcgkklgeeaaGreat
open Go Go.RowKit Go.Shelf Eva
set_option linter.unusedVariables false
set_option maxRecDepth 100000 in
set_option maxHeartbeats 2000000 in
theorem Jl7 (F:Fence)(n:Nat)(h4:F.fn 169)(h6:F.fn 142)(hro:F.round=none)(hn:3<=n)(w:World)(d:Int)(a:Option Addr)(k cap:Nat)(b:Option Addr)(m cap2:Nat)(s:ByteArray)(hs0:s.size=0):
  CallsIn F n Tryz.prog 169 #[.agg #[.int .i64 d, .slice a k cap, .slice b m cap2], .string s] w fun e w'=>Below w.heap.size w w'/\e= .returned (.tuple #[.int .i64 (-1), .bool true]):=by
 have h1:1<=n:=by omega
 refine callsIn_of_wp_marks Tryz.func169 rfl h4 ?_ hro;simp only[Tryz.ntmps169,List.size_toArray,List.length_cons,List.length_nil,Nat.reduceAdd,Nat.reduceSub,Array.replicate_succ,Array.replicate_zero,List.push_toArray,List.append_toArray,List.nil_append,List.cons_append];have hs:s.toList.isEmpty=true:=by
  rw[ByteArray.toList_eq,List.isEmpty_iff,<-List.length_eq_zero_iff,Array.length_toList,ByteArray.size_data];exact hs0
 gi_wp2
 have b2:=Boxed.new ((w.alloc (Obj.cells #[Value.int IntKind.i64 d,Value.slice a k cap,Value.slice b m cap2] 163)).alloc (Obj.cells #[Value.string s] 9)) 3 (.int .i64 (-1));have b3:=Boxed.new (((w.alloc (Obj.cells #[Value.int IntKind.i64 d,Value.slice a k cap,Value.slice b m cap2] 163)).alloc (Obj.cells #[Value.string s] 9)).alloc (Obj.cells #[Value.int IntKind.i64 (-1)] 3)) 4 (.bool true);rw[World.size_alloc,World.size_alloc]at b2;rw[World.size_alloc,World.size_alloc,World.size_alloc]at b3;have h2:=(b2.alloc (.cells #[Value.bool true] 4)).cell;have h3:=b3.cell;simp only[bodyPostM,LeavesInM,LeavesIn];refine⟨.tuple #[.int .i64 (-1), .bool true],by simp[results,Tryz.f169,go_sem,h2,h3], ?_,rfl⟩;exact((((Below.refl _ w).alloc (Nat.le_refl _) _).alloc (by simp) _).alloc (by simp;omega) _).alloc (by simp;omega) _
theorem JiX (w:World)(d:Int)(a:Option Addr)(k cap:Nat)(b:Option Addr)(m cap2:Nat)(s:ByteArray)(hs:s.size=0):Calls Tryz.prog 169 #[.agg #[.int .i64 d, .slice a k cap, .slice b m cap2], .string s] w fun e w'=>Below w.heap.size w w'/\e= .returned (.tuple #[.int .i64 (-1), .bool true]):=
 callsIn_wide.1 (Jl7 Fence.wide 3 trivial trivial rfl (Nat.le_refl _) w d a k cap b m cap2 s hs)
end Go.Proofs.YtgmmjcgkklgeeaaGreat
