/- The code of functions, as the evaluator has it; a table of them. No condition. -/
import Derived.Test.YtajifckdgaoncaaRows
import Derived.Test.YtajifckdgaoncaaShelf
import Derived.WalkKit
import Derived.Test.YtajifckdgaoncaaEvd9
namespace Go.Proofs.Ytajifckdgaoncaa
open Eva Go.RowKit
set_option maxRecDepth 100000
/- sprue/spruelaw5.ConsShares -/
def cf_spruelaw5_ConsShares : Eva.Fn := { ntmps := 97, res := [(.s 4)], body :=
 (.seq
 (.reg [⟨(some 2), (.box (.s 0)), none, none⟩,
  ⟨(some 4), (.mv (.c (.bool false))), none, none⟩])
 (.seqj [1, 2]
 (.seq
 (.reg [⟨(some 16), (.call 9 []), none, none⟩,
  ⟨(some 17), (.not (.s 16)), none, none⟩])
 (.cond (.s 17)
 (.seq
 (.reg [⟨(some 4), (.mv (.c (.bool false))), none, none⟩])
 .ret)
 .skip))
 (.seqj [1, 2]
 (.seq
 (.reg [⟨(some 18), (.loadn 4 (.s 2)), none, none⟩,
  ⟨(some 19), (.call 15 [(.s 18), (.c (.int .i64 (30)))]), none, none⟩,
  ⟨(some 20), (.eq (.one .i) false (.s 19) (.c (.int .i64 (0)))), none, none⟩])
 (.cond (.s 20)
 (.seq
 (.reg [⟨(some 4), (.mv (.c (.bool true))), none, none⟩])
 .ret)
 .skip))
 (.seq
 (.reg [⟨(some 21), (.loadn 4 (.s 2)), none, none⟩,
  ⟨(some 22), (.call 16 [(.s 21), (.c (.int .i64 (4))), (.c .snil)]), none, none⟩,
  ⟨(some 5), (.alloc [(.int .i64 (0)), (ofL []), .snil, .snil]), none, none⟩,
  ⟨none, (.store 4 (.s 5) (.s 22)), none, none⟩])
 (.seqj [1, 5]
 (.seq
 (.reg [⟨(some 23), (.faddr 0 (.s 5)), none, none⟩,
  ⟨(some 24), (.load1 (.s 23)), none, none⟩,
  ⟨(some 25), (.eq (.one .i) false (.s 24) (.c (.int .i64 (6)))), none, none⟩])
 (.cond (.s 25)
 (.seq
 (.reg [⟨(some 4), (.mv (.c (.bool true))), none, none⟩])
 .ret)
 .skip))
 (.seq
 (.reg [⟨(some 27), (.loadn 4 (.s 5)), none, none⟩,
  ⟨(some 28), (.build [(.int .i64 (0)), (ofL []), .snil, .snil, .snil, .snil] [(0, 4, (.s 27))]), none, none⟩,
  ⟨(some 29), (.call 10 [(.s 28)]), none, none⟩,
  ⟨(some 26), (.mv (.s 29)), none, none⟩,
  ⟨(some 30), (.ext 0 (.s 26)), none, none⟩,
  ⟨(some 31), (.ext 1 (.s 26)), none, none⟩,
  ⟨(some 6), (.mv (.s 30)), none, none⟩,
  ⟨(some 7), (.mv (.s 31)), none, none⟩])
 (.seqj [1, 5, 6]
 (.seq
 (.reg [⟨(some 32), (.mv (.s 7)), none, none⟩,
  ⟨(some 33), (.eq (.one .i) true (.s 32) (.c (.int .i64 (0)))), none, none⟩])
 (.cond (.s 33)
 (.seq
 (.reg [⟨(some 4), (.mv (.c (.bool true))), none, none⟩])
 .ret)
 .skip))
 (.seq
 (.reg [⟨(some 34), (.mv (.s 6)), none, none⟩,
  ⟨(some 35), (.call 14 [(.s 34)]), none, none⟩,
  ⟨(some 8), (.mv (.s 35)), none, none⟩])
 (.seq
 (.reg [⟨(some 36), (.loadn 4 (.s 5)), none, none⟩,
  ⟨(some 9), (.alloc [(.int .i64 (0)), (ofL []), .snil, .snil]), none, none⟩,
  ⟨none, (.store 4 (.s 9) (.s 36)), none, none⟩])
 (.seq
 (.reg [⟨(some 37), (.mv (.s 1)), none, none⟩,
  ⟨(some 38), (.call 11 [(.s 37), (.c (.int .i64 (6)))]), none, none⟩,
  ⟨(some 1), (.mv (.s 38)), none, none⟩])
 (.seqj [1, 6, 8, 9]
 (.seq
 (.reg [⟨(some 10), (.mv (.c (.int .i64 (0)))), none, none⟩])
 (.block 0
 (.loop [1, 6, 8, 9, 10]
 (.seqj [1, 6, 8, 9, 10]
 (.seq
 (.reg [⟨(some 39), (.mv (.s 10)), none, none⟩,
  ⟨(some 40), (.mv (.s 1)), none, none⟩,
  ⟨(some 41), (.bin .lss (.s 39) (.s 40)), none, none⟩])
 (.cond (.s 41)
 .skip
 (.exit 0)))
 (.seqj [1, 6, 8, 9, 10]
 (.block 1
 (.drw [⟨(some 44), (.bsl 1 2 [(.int .i64 (0)), (.int .i64 (0))] [(0, 1, (.c (.int .i64 (4)))), (1, 1, (.c (.int .i64 (5))))]), none, none⟩,
  ⟨(some 45), (.mv (.s 10)), none, none⟩,
  ⟨(some 46), (.bin .rem (.s 45) (.c (.int .i64 (2)))), none, none⟩,
  ⟨(some 47), (.iaddrS 1 (.s 44) (.s 46)), none, none⟩,
  ⟨(some 48), (.load1 (.s 47)), none, none⟩,
  ⟨(some 49), (.loadn 4 (.s 9)), none, none⟩,
  ⟨(some 50), (.bsl 4 1 [(.int .i64 (0)), (ofL []), .snil, .snil] [(0, 4, (.s 49))]), none, none⟩,
  ⟨(some 51), (.build [(.int .i64 (0)), (ofL []), .snil, .snil] [(0, 1, (.s 48)), (3, 1, (.s 50))]), none, none⟩,
  ⟨none, (.store 4 (.s 9) (.s 51)), none, none⟩] []))
 (.reg [⟨(some 42), (.mv (.s 10)), none, none⟩,
  ⟨(some 43), (.bin .add (.s 42) (.c (.int .i64 (1)))), none, none⟩,
  ⟨(some 10), (.mv (.s 43)), none, none⟩]))))))
 (.seq
 (.reg [⟨(some 53), (.mv (.s 6)), none, none⟩,
  ⟨(some 54), (.loadn 4 (.s 9)), none, none⟩,
  ⟨(some 55), (.call 12 [(.s 53), (.s 54)]), none, none⟩,
  ⟨(some 52), (.mv (.s 55)), none, none⟩,
  ⟨(some 56), (.ext 0 (.s 52)), none, none⟩,
  ⟨(some 57), (.ext 1 (.s 52)), none, none⟩,
  ⟨(some 11), (.mv (.s 56)), none, none⟩,
  ⟨(some 12), (.mv (.s 57)), none, none⟩])
 (.seqj [1, 6, 8, 11]
 (.seq
 (.reg [⟨(some 58), (.mv (.s 12)), none, none⟩,
  ⟨(some 59), (.eq (.one .i) true (.s 58) (.c (.int .i64 (0)))), none, none⟩])
 (.cond (.s 59)
 (.seq
 (.reg [⟨(some 60), (.mv (.s 12)), none, none⟩,
  ⟨(some 61), (.eq (.one .i) false (.s 60) (.c (.int .i64 (20)))), none, none⟩,
  ⟨(some 4), (.mv (.s 61)), none, none⟩])
 .ret)
 .skip))
 (.seqj [1, 6, 8, 11]
 (.seq
 (.reg [⟨(some 62), (.mv (.s 1)), none, none⟩,
  ⟨(some 13), (.mv (.s 62)), none, none⟩])
 (.block 2
 (.loop [1, 6, 8, 11, 13]
 (.seqj [1, 6, 8, 11, 13]
 (.seq
 (.reg [⟨(some 63), (.mv (.s 13)), none, none⟩,
  ⟨(some 64), (.bin .gtr (.s 63) (.c (.int .i64 (0)))), none, none⟩])
 (.cond (.s 64)
 .skip
 (.exit 2)))
 (.seqj [1, 6, 8, 11, 13]
 (.block 3
 (.seq
 (.reg [⟨(some 68), (.mv (.s 6)), none, none⟩,
  ⟨(some 69), (.mv (.s 11)), none, none⟩,
  ⟨(some 70), (.call 17 [(.s 68), (.s 69)]), none, none⟩,
  ⟨(some 67), (.mv (.s 70)), none, none⟩,
  ⟨(some 71), (.ext 0 (.s 67)), none, none⟩,
  ⟨(some 72), (.ext 1 (.s 67)), none, none⟩,
  ⟨(some 14), (.alloc [(.int .i64 (0)), (ofL []), .snil, .snil]), none, none⟩,
  ⟨none, (.store 4 (.s 14) (.s 71)), none, none⟩,
  ⟨(some 15), (.mv (.s 72)), none, none⟩])
 (.seqj [1, 6, 8, 13, 14]
 (.seq
 (.reg [⟨(some 73), (.mv (.s 15)), none, none⟩,
  ⟨(some 74), (.not (.s 73)), none, none⟩,
  ⟨(some 75), (.mv (.s 74)), none, none⟩,
  ⟨(some 76), (.faddr 3 (.s 14)), (some (75, false)), none⟩,
  ⟨(some 77), (.load1 (.s 76)), (some (75, false)), none⟩,
  ⟨(some 78), (.lenL (.s 77)), (some (75, false)), none⟩,
  ⟨(some 79), (.eq (.one .i) true (.s 78) (.c (.int .i64 (1)))), (some (75, false)), none⟩,
  ⟨(some 80), (.pick (.s 75) (.c (.bool true)) (.s 79)), none, none⟩])
 (.cond (.s 80)
 (.seq
 (.reg [⟨(some 4), (.mv (.c (.bool false))), none, none⟩])
 .ret)
 .skip))
 (.reg [⟨(some 81), (.faddr 3 (.s 14)), none, none⟩,
  ⟨(some 82), (.load1 (.s 81)), none, none⟩,
  ⟨(some 83), (.iaddrS 1 (.s 82) (.c (.int .i64 (0)))), none, none⟩,
  ⟨(some 84), (.load1 (.s 83)), none, none⟩,
  ⟨(some 11), (.mv (.s 84)), none, none⟩]))))
 (.reg [⟨(some 65), (.mv (.s 13)), none, none⟩,
  ⟨(some 66), (.bin .sub (.s 65) (.c (.int .i64 (1)))), none, none⟩,
  ⟨(some 13), (.mv (.s 66)), none, none⟩]))))))
 (.seq
 (.reg [⟨(some 85), (.mv (.s 11)), none, none⟩,
  ⟨(some 86), (.mv (.s 6)), none, none⟩,
  ⟨(some 87), (.call 18 [(.s 86)]), none, none⟩,
  ⟨(some 88), (.eq (.one .i) false (.s 85) (.s 87)), none, none⟩,
  ⟨(some 89), (.mv (.s 88)), none, none⟩,
  ⟨(some 90), (.mv (.s 6)), (some (89, true)), none⟩,
  ⟨(some 91), (.call 14 [(.s 90)]), (some (89, true)), none⟩,
  ⟨(some 92), (.mv (.s 8)), (some (89, true)), none⟩,
  ⟨(some 93), (.mv (.s 1)), (some (89, true)), none⟩,
  ⟨(some 94), (.bin .add (.s 92) (.s 93)), (some (89, true)), none⟩,
  ⟨(some 95), (.bin .leq (.s 91) (.s 94)), (some (89, true)), none⟩,
  ⟨(some 96), (.pick (.s 89) (.s 95) (.c (.bool false))), none, none⟩,
  ⟨(some 4), (.mv (.s 96)), none, none⟩])
 .ret))))))))))))))) }
theorem cf4_ok : compFn Try.prog Try.f4 [[1, 2], [1, 2], [1, 5], [1, 5, 6], [1, 6, 8, 9], [1, 6, 8, 9, 10], [1, 6, 8, 9, 10], [1, 6, 8, 9, 10], [1, 6, 8, 11], [1, 6, 8, 11], [1, 6, 8, 11, 13], [1, 6, 8, 11, 13], [1, 6, 8, 11, 13], [1, 6, 8, 13, 14]] = some cf_spruelaw5_ConsShares := by kernel_rfl
/- sprue/spruelaw5.known -/
def cf_spruelaw5_known : Eva.Fn := { ntmps := 25, res := [(.s 0)], body :=
 (.seq
 (.reg [⟨(some 0), (.mv (.c (.bool false))), none, none⟩])
 (.seq
 (.reg [⟨(some 4), (.build [(.int .i64 (0)), (ofL []), .snil, .snil] [(0, 1, (.c (.int .i64 (2))))]), none, none⟩,
  ⟨(some 5), (.build [(.int .i64 (0)), (ofL []), .snil, .snil, .snil, .snil] [(0, 4, (.s 4))]), none, none⟩,
  ⟨(some 6), (.call 10 [(.s 5)]), none, none⟩,
  ⟨(some 3), (.mv (.s 6)), none, none⟩,
  ⟨(some 7), (.ext 0 (.s 3)), none, none⟩,
  ⟨(some 8), (.ext 1 (.s 3)), none, none⟩,
  ⟨(some 1), (.mv (.s 7)), none, none⟩,
  ⟨(some 2), (.mv (.s 8)), none, none⟩])
 (.seq
 (.reg [⟨(some 9), (.mv (.s 2)), none, none⟩,
  ⟨(some 10), (.eq (.one .i) false (.s 9) (.c (.int .i64 (0)))), none, none⟩,
  ⟨(some 11), (.mv (.s 10)), none, none⟩,
  ⟨(some 12), (.mv (.s 1)), (some (11, true)), none⟩,
  ⟨(some 13), (.eq (.one .p) true (.s 12) (.c .pnil)), (some (11, true)), none⟩,
  ⟨(some 14), (.pick (.s 11) (.s 13) (.c (.bool false))), none, none⟩,
  ⟨(some 15), (.mv (.s 14)), none, none⟩,
  ⟨(some 16), (.mv (.s 1)), (some (15, true)), none⟩,
  ⟨(some 17), (.call 14 [(.s 16)]), (some (15, true)), none⟩,
  ⟨(some 18), (.eq (.one .i) false (.s 17) (.c (.int .i64 (1)))), (some (15, true)), none⟩,
  ⟨(some 19), (.pick (.s 15) (.s 18) (.c (.bool false))), none, none⟩,
  ⟨(some 20), (.mv (.s 19)), none, none⟩,
  ⟨(some 21), (.mv (.s 1)), (some (20, true)), none⟩,
  ⟨(some 22), (.call 18 [(.s 21)]), (some (20, true)), none⟩,
  ⟨(some 23), (.eq (.one .i) false (.s 22) (.c (.int .i64 (0)))), (some (20, true)), none⟩,
  ⟨(some 24), (.pick (.s 20) (.s 23) (.c (.bool false))), none, none⟩,
  ⟨(some 0), (.mv (.s 24)), none, none⟩])
 .ret))) }
theorem cf9_ok : compFn Try.prog Try.f9 [] = some cf_spruelaw5_known := by kernel_rfl
/- sprue/cons.New -/
def cf_cons_New : Eva.Fn := { ntmps := 115, res := [(.s 2), (.s 3)], body :=
 (.seq
 (.reg [⟨(some 1), (.box (.s 0)), none, none⟩,
  ⟨(some 2), (.mv (.c .pnil)), none, none⟩,
  ⟨(some 3), (.mv (.c (.int .i64 (0)))), none, none⟩])
 (.seqj [1]
 (.seq
 (.reg [⟨(some 19), (.loadn 6 (.s 1)), none, none⟩,
  ⟨(some 20), (.call 25 [(.s 19)]), none, none⟩,
  ⟨(some 4), (.mv (.s 20)), none, none⟩])
 (.seq
 (.reg [⟨(some 21), (.mv (.s 4)), none, none⟩,
  ⟨(some 22), (.eq (.one .i) true (.s 21) (.c (.int .i64 (0)))), none, none⟩])
 (.cond (.s 22)
 (.seq
 (.reg [⟨(some 23), (.mv (.s 4)), none, none⟩,
  ⟨(some 2), (.mv (.c .pnil)), none, none⟩,
  ⟨(some 3), (.mv (.s 23)), none, none⟩])
 .ret)
 .skip)))
 (.seq
 (.reg [⟨(some 24), .mkmap, none, none⟩,
  ⟨(some 25), .mkmap, none, none⟩,
  ⟨(some 26), .mkmap, none, none⟩,
  ⟨(some 27), (.build [.snil, .mnil, .mnil, (.int .i64 (0)), .mnil] [(1, 1, (.s 24)), (2, 1, (.s 25)), (4, 1, (.s 26))]), none, none⟩,
  ⟨(some 28), (.box (.s 27)), none, none⟩,
  ⟨(some 5), (.mv (.s 28)), none, none⟩])
 (.seqj [1, 5]
 (.seq
 (.reg [⟨(some 29), (.faddr 4 (.s 1)), none, none⟩,
  ⟨(some 30), (.load1 (.s 29)), none, none⟩,
  ⟨(some 31), (.lenL (.s 30)), none, none⟩,
  ⟨(some 32), (.mv (.c (.int .i64 (0)))), none, none⟩])
 (.block 0
 (.loop [1, 5, 30, 31, 32]
 (.seq
 (.reg [⟨(some 33), (.bin .lss (.s 32) (.s 31)), none, none⟩])
 (.seqj [1, 5, 30, 31, 32]
 (.cond (.s 33)
 .skip
 (.exit 0))
 (.seqj [1, 5, 30, 31, 32]
 (.block 1
 (.seq
 (.reg [⟨(some 34), (.iaddrS 5 (.s 30) (.s 32)), none, none⟩,
  ⟨(some 35), (.loadn 5 (.s 34)), none, none⟩,
  ⟨(some 7), (.alloc [(ofL []), (.int .i64 (0)), (ofL []), .snil, .snil]), none, none⟩,
  ⟨none, (.store 5 (.s 7) (.s 35)), none, none⟩])
 (.seq
 (.reg [⟨(some 37), (.mv (.s 5)), none, none⟩,
  ⟨(some 38), (.faddr 1 (.s 7)), none, none⟩,
  ⟨(some 39), (.loadn 4 (.s 38)), none, none⟩,
  ⟨(some 40), (.call 12 [(.s 37), (.s 39)]), none, none⟩,
  ⟨(some 36), (.mv (.s 40)), none, none⟩,
  ⟨(some 41), (.ext 0 (.s 36)), none, none⟩,
  ⟨(some 42), (.ext 1 (.s 36)), none, none⟩,
  ⟨(some 8), (.mv (.s 41)), none, none⟩,
  ⟨(some 9), (.mv (.s 42)), none, none⟩])
 (.seqj [1, 5, 7, 8, 30, 31, 32]
 (.seq
 (.reg [⟨(some 43), (.mv (.s 9)), none, none⟩,
  ⟨(some 44), (.eq (.one .i) true (.s 43) (.c (.int .i64 (0)))), none, none⟩])
 (.cond (.s 44)
 (.seq
 (.reg [⟨(some 45), (.mv (.s 9)), none, none⟩,
  ⟨(some 2), (.mv (.c .pnil)), none, none⟩,
  ⟨(some 3), (.mv (.s 45)), none, none⟩])
 .ret)
 .skip))
 (.drw [⟨(some 46), (.mv (.s 5)), none, none⟩,
  ⟨(some 47), (.nilck (.s 46)), none, none⟩,
  ⟨(some 48), (.faddr 2 (.s 47)), none, none⟩,
  ⟨(some 49), (.load1 (.s 48)), none, none⟩,
  ⟨(some 50), (.faddr 0 (.s 7)), none, none⟩,
  ⟨(some 51), (.load1 (.s 50)), none, none⟩,
  ⟨(some 52), (.mv (.s 8)), none, none⟩,
  ⟨none, (.mupd (.one .s) (.s 49) (.s 51) (.s 52)), none, none⟩] [])))))
 (.reg [⟨(some 53), (.bin .add (.s 32) (.c (.int .i64 (1)))), none, none⟩,
  ⟨(some 32), (.mv (.s 53)), none, none⟩])))))))
 (.seq
 (.reg [⟨(some 55), (.mv (.s 5)), none, none⟩,
  ⟨(some 56), (.faddr 0 (.s 1)), none, none⟩,
  ⟨(some 57), (.loadn 4 (.s 56)), none, none⟩,
  ⟨(some 58), (.call 12 [(.s 55), (.s 57)]), none, none⟩,
  ⟨(some 54), (.mv (.s 58)), none, none⟩,
  ⟨(some 59), (.ext 0 (.s 54)), none, none⟩,
  ⟨(some 60), (.ext 1 (.s 54)), none, none⟩,
  ⟨(some 10), (.mv (.s 59)), none, none⟩,
  ⟨(some 11), (.mv (.s 60)), none, none⟩])
 (.seqj [1, 5, 10]
 (.seq
 (.reg [⟨(some 61), (.mv (.s 11)), none, none⟩,
  ⟨(some 62), (.eq (.one .i) true (.s 61) (.c (.int .i64 (0)))), none, none⟩])
 (.cond (.s 62)
 (.seq
 (.reg [⟨(some 63), (.mv (.s 11)), none, none⟩,
  ⟨(some 2), (.mv (.c .pnil)), none, none⟩,
  ⟨(some 3), (.mv (.s 63)), none, none⟩])
 .ret)
 .skip))
 (.seq
 (.reg [⟨(some 64), (.mv (.s 5)), none, none⟩,
  ⟨(some 65), (.mv (.s 10)), none, none⟩,
  ⟨(some 66), (.nilck (.s 64)), none, none⟩,
  ⟨(some 67), (.faddr 3 (.s 66)), none, none⟩,
  ⟨none, (.store 1 (.s 67) (.s 65)), none, none⟩])
 (.seqj [5]
 (.seq
 (.reg [⟨(some 68), (.faddr 5 (.s 1)), none, none⟩,
  ⟨(some 69), (.load1 (.s 68)), none, none⟩,
  ⟨(some 70), (.lenL (.s 69)), none, none⟩,
  ⟨(some 71), (.mv (.c (.int .i64 (0)))), none, none⟩])
 (.block 2
 (.loop [5, 69, 70, 71]
 (.seq
 (.reg [⟨(some 72), (.bin .lss (.s 71) (.s 70)), none, none⟩])
 (.seqj [5, 69, 70, 71]
 (.cond (.s 72)
 .skip
 (.exit 2))
 (.seqj [5, 69, 70, 71]
 (.block 3
 (.seq
 (.reg [⟨(some 73), (.iaddrS 6 (.s 69) (.s 71)), none, none⟩,
  ⟨(some 74), (.loadn 6 (.s 73)), none, none⟩,
  ⟨(some 13), (.alloc [(ofL []), .snil, (.int .i64 (0)), (ofL []), .snil, .snil]), none, none⟩,
  ⟨none, (.store 6 (.s 13) (.s 74)), none, none⟩])
 (.seq
 (.reg [⟨(some 75), (.faddr 1 (.s 13)), none, none⟩,
  ⟨(some 76), (.load1 (.s 75)), none, none⟩,
  ⟨(some 77), (.lenL (.s 76)), none, none⟩,
  ⟨(some 78), (.bin .add (.s 77) (.c (.int .i64 (1)))), none, none⟩,
  ⟨(some 79), (.mksl 1 [(.int .i64 (0))] (.c (.int .i64 (0))) (.s 78)), none, none⟩,
  ⟨(some 14), (.mv (.s 79)), none, none⟩])
 (.seqj [5, 13, 14, 69, 70, 71]
 (.seq
 (.drw [⟨(some 80), (.faddr 1 (.s 13)), none, none⟩,
  ⟨(some 81), (.load1 (.s 80)), none, none⟩,
  ⟨(some 82), (.call 26 [(.s 81)]), none, none⟩,
  ⟨(some 83), (.faddr 2 (.s 13)), none, none⟩,
  ⟨(some 84), (.loadn 4 (.s 83)), none, none⟩,
  ⟨(some 85), (.bsl 4 1 [(.int .i64 (0)), (ofL []), .snil, .snil] [(0, 4, (.s 84))]), none, none⟩,
  ⟨(some 86), (.app 4 (.s 82) (.s 85)), none, none⟩,
  ⟨(some 87), (.lenL (.s 86)), none, none⟩,
  ⟨(some 88), (.mv (.c (.int .i64 (0)))), none, none⟩] [])
 (.block 4
 (.loop [5, 13, 14, 69, 70, 71, 86, 87, 88]
 (.seq
 (.reg [⟨(some 89), (.bin .lss (.s 88) (.s 87)), none, none⟩])
 (.seqj [5, 13, 14, 69, 70, 71, 86, 87, 88]
 (.cond (.s 89)
 .skip
 (.exit 4))
 (.seqj [5, 13, 14, 69, 70, 71, 86, 87, 88]
 (.block 5
 (.seq
 (.reg [⟨(some 90), (.iaddrS 4 (.s 86) (.s 88)), none, none⟩,
  ⟨(some 91), (.loadn 4 (.s 90)), none, none⟩,
  ⟨(some 16), (.alloc [(.int .i64 (0)), (ofL []), .snil, .snil]), none, none⟩,
  ⟨none, (.store 4 (.s 16) (.s 91)), none, none⟩])
 (.seq
 (.reg [⟨(some 93), (.mv (.s 5)), none, none⟩,
  ⟨(some 94), (.loadn 4 (.s 16)), none, none⟩,
  ⟨(some 95), (.call 12 [(.s 93), (.s 94)]), none, none⟩,
  ⟨(some 92), (.mv (.s 95)), none, none⟩,
  ⟨(some 96), (.ext 0 (.s 92)), none, none⟩,
  ⟨(some 97), (.ext 1 (.s 92)), none, none⟩,
  ⟨(some 17), (.mv (.s 96)), none, none⟩,
  ⟨(some 18), (.mv (.s 97)), none, none⟩])
 (.seqj [5, 13, 14, 17, 69, 70, 71, 86, 87, 88]
 (.seq
 (.reg [⟨(some 98), (.mv (.s 18)), none, none⟩,
  ⟨(some 99), (.eq (.one .i) true (.s 98) (.c (.int .i64 (0)))), none, none⟩])
 (.cond (.s 99)
 (.seq
 (.reg [⟨(some 100), (.mv (.s 18)), none, none⟩,
  ⟨(some 2), (.mv (.c .pnil)), none, none⟩,
  ⟨(some 3), (.mv (.s 100)), none, none⟩])
 .ret)
 .skip))
 (.reg [⟨(some 101), (.mv (.s 14)), none, none⟩,
  ⟨(some 102), (.mv (.s 17)), none, none⟩,
  ⟨(some 103), (.bsl 1 1 [(.int .i64 (0))] [(0, 1, (.s 102))]), none, none⟩,
  ⟨(some 104), (.app 1 (.s 101) (.s 103)), none, none⟩,
  ⟨(some 14), (.mv (.s 104)), none, none⟩])))))
 (.reg [⟨(some 105), (.bin .add (.s 88) (.c (.int .i64 (1)))), none, none⟩,
  ⟨(some 88), (.mv (.s 105)), none, none⟩])))))))
 (.drw [⟨(some 106), (.mv (.s 5)), none, none⟩,
  ⟨(some 107), (.nilck (.s 106)), none, none⟩,
  ⟨(some 108), (.faddr 4 (.s 107)), none, none⟩,
  ⟨(some 109), (.load1 (.s 108)), none, none⟩,
  ⟨(some 110), (.faddr 0 (.s 13)), none, none⟩,
  ⟨(some 111), (.load1 (.s 110)), none, none⟩,
  ⟨(some 112), (.mv (.s 14)), none, none⟩,
  ⟨none, (.mupd (.one .s) (.s 109) (.s 111) (.s 112)), none, none⟩] [])))))
 (.reg [⟨(some 113), (.bin .add (.s 71) (.c (.int .i64 (1)))), none, none⟩,
  ⟨(some 71), (.mv (.s 113)), none, none⟩])))))))
 (.seq
 (.reg [⟨(some 114), (.mv (.s 5)), none, none⟩,
  ⟨(some 2), (.mv (.s 114)), none, none⟩,
  ⟨(some 3), (.mv (.c (.int .i64 (0)))), none, none⟩])
 .ret))))))))) }
theorem cf10_ok : compFn Try.prog Try.f10 [[1], [1, 5], [1, 5, 30, 31, 32], [1, 5, 30, 31, 32], [1, 5, 30, 31, 32], [1, 5, 7, 8, 30, 31, 32], [1, 5, 10], [5], [5, 69, 70, 71], [5, 69, 70, 71], [5, 69, 70, 71], [5, 13, 14, 69, 70, 71], [5, 13, 14, 69, 70, 71, 86, 87, 88], [5, 13, 14, 69, 70, 71, 86, 87, 88], [5, 13, 14, 69, 70, 71, 86, 87, 88], [5, 13, 14, 17, 69, 70, 71, 86, 87, 88]] = some cf_cons_New := by kernel_rfl
/- sprue/shape.Check -/
def cf_shape_Check : Eva.Fn := { ntmps := 79, res := [(.s 2)], body :=
 (.seq
 (.reg [⟨(some 1), (.box (.s 0)), none, none⟩,
  ⟨(some 2), (.mv (.c (.int .i64 (0)))), none, none⟩])
 (.seqj [1]
 (.seq
 (.reg [⟨(some 12), (.faddr 4 (.s 1)), none, none⟩,
  ⟨(some 13), (.load1 (.s 12)), none, none⟩,
  ⟨(some 14), (.lenL (.s 13)), none, none⟩,
  ⟨(some 15), (.bin .gtr (.s 14) (.c (.int .i64 (12)))), none, none⟩,
  ⟨(some 16), (.mv (.s 15)), none, none⟩,
  ⟨(some 17), (.faddr 5 (.s 1)), (some (16, false)), none⟩,
  ⟨(some 18), (.load1 (.s 17)), (some (16, false)), none⟩,
  ⟨(some 19), (.lenL (.s 18)), (some (16, false)), none⟩,
  ⟨(some 20), (.bin .gtr (.s 19) (.c (.int .i64 (12)))), (some (16, false)), none⟩,
  ⟨(some 21), (.pick (.s 16) (.c (.bool true)) (.s 20)), none, none⟩])
 (.cond (.s 21)
 (.seq
 (.reg [⟨(some 2), (.mv (.c (.int .i64 (3)))), none, none⟩])
 .ret)
 .skip))
 (.seqj [1]
 (.seq
 (.reg [⟨(some 22), (.faddr 4 (.s 1)), none, none⟩,
  ⟨(some 23), (.load1 (.s 22)), none, none⟩,
  ⟨(some 24), (.call 37 [(.s 23)]), none, none⟩,
  ⟨(some 3), (.mv (.s 24)), none, none⟩])
 (.seq
 (.reg [⟨(some 25), (.mv (.s 3)), none, none⟩,
  ⟨(some 26), (.eq (.one .i) true (.s 25) (.c (.int .i64 (0)))), none, none⟩])
 (.cond (.s 26)
 (.seq
 (.reg [⟨(some 27), (.mv (.s 3)), none, none⟩,
  ⟨(some 2), (.mv (.s 27)), none, none⟩])
 .ret)
 .skip)))
 (.seq
 (.reg [⟨(some 28), (.loadn 6 (.s 1)), none, none⟩,
  ⟨(some 29), (.call 38 [(.s 28)]), none, none⟩,
  ⟨(some 30), (.build [.mnil, (.int .i64 (0))] [(0, 1, (.s 29))]), none, none⟩,
  ⟨(some 31), (.box (.s 30)), none, none⟩,
  ⟨(some 4), (.mv (.s 31)), none, none⟩])
 (.seqj [1, 4]
 (.seq
 (.reg [⟨(some 32), (.faddr 4 (.s 1)), none, none⟩,
  ⟨(some 33), (.load1 (.s 32)), none, none⟩,
  ⟨(some 34), (.lenL (.s 33)), none, none⟩,
  ⟨(some 35), (.mv (.c (.int .i64 (0)))), none, none⟩])
 (.block 0
 (.loop [1, 4, 33, 34, 35]
 (.seq
 (.reg [⟨(some 36), (.bin .lss (.s 35) (.s 34)), none, none⟩])
 (.seqj [1, 4, 33, 34, 35]
 (.cond (.s 36)
 .skip
 (.exit 0))
 (.seqj [1, 4, 33, 34, 35]
 (.block 1
 (.seq
 (.reg [⟨(some 37), (.iaddrS 5 (.s 33) (.s 35)), none, none⟩,
  ⟨(some 38), (.loadn 5 (.s 37)), none, none⟩,
  ⟨(some 6), (.alloc [(ofL []), (.int .i64 (0)), (ofL []), .snil, .snil]), none, none⟩,
  ⟨none, (.store 5 (.s 6) (.s 38)), none, none⟩])
 (.seq
 (.reg [⟨(some 39), (.mv (.s 4)), none, none⟩,
  ⟨(some 40), (.faddr 1 (.s 6)), none, none⟩,
  ⟨(some 41), (.loadn 4 (.s 40)), none, none⟩,
  ⟨(some 42), (.call 39 [(.s 39), (.s 41), (.c (.int .i64 (1)))]), none, none⟩,
  ⟨(some 7), (.mv (.s 42)), none, none⟩])
 (.seq
 (.reg [⟨(some 43), (.mv (.s 7)), none, none⟩,
  ⟨(some 44), (.eq (.one .i) true (.s 43) (.c (.int .i64 (0)))), none, none⟩])
 (.cond (.s 44)
 (.seq
 (.reg [⟨(some 45), (.mv (.s 7)), none, none⟩,
  ⟨(some 2), (.mv (.s 45)), none, none⟩])
 .ret)
 .skip)))))
 (.reg [⟨(some 46), (.bin .add (.s 35) (.c (.int .i64 (1)))), none, none⟩,
  ⟨(some 35), (.mv (.s 46)), none, none⟩])))))))
 (.seqj [1, 4]
 (.seq
 (.reg [⟨(some 47), (.mv (.s 4)), none, none⟩,
  ⟨(some 48), (.faddr 0 (.s 1)), none, none⟩,
  ⟨(some 49), (.loadn 4 (.s 48)), none, none⟩,
  ⟨(some 50), (.call 39 [(.s 47), (.s 49), (.c (.int .i64 (1)))]), none, none⟩,
  ⟨(some 8), (.mv (.s 50)), none, none⟩])
 (.seq
 (.reg [⟨(some 51), (.mv (.s 8)), none, none⟩,
  ⟨(some 52), (.eq (.one .i) true (.s 51) (.c (.int .i64 (0)))), none, none⟩])
 (.cond (.s 52)
 (.seq
 (.reg [⟨(some 53), (.mv (.s 8)), none, none⟩,
  ⟨(some 2), (.mv (.s 53)), none, none⟩])
 .ret)
 .skip)))
 (.seqj [1, 4]
 (.seq
 (.reg [⟨(some 54), (.mv (.s 4)), none, none⟩,
  ⟨(some 55), (.faddr 5 (.s 1)), none, none⟩,
  ⟨(some 56), (.load1 (.s 55)), none, none⟩,
  ⟨(some 57), (.call 40 [(.s 54), (.s 56)]), none, none⟩,
  ⟨(some 9), (.mv (.s 57)), none, none⟩])
 (.seq
 (.reg [⟨(some 58), (.mv (.s 9)), none, none⟩,
  ⟨(some 59), (.eq (.one .i) true (.s 58) (.c (.int .i64 (0)))), none, none⟩])
 (.cond (.s 59)
 (.seq
 (.reg [⟨(some 60), (.mv (.s 9)), none, none⟩,
  ⟨(some 2), (.mv (.s 60)), none, none⟩])
 .ret)
 .skip)))
 (.seqj [1, 4]
 (.seq
 (.reg [⟨(some 61), (.faddr 4 (.s 1)), none, none⟩,
  ⟨(some 62), (.load1 (.s 61)), none, none⟩,
  ⟨(some 63), (.lenL (.s 62)), none, none⟩,
  ⟨(some 64), (.mv (.c (.int .i64 (0)))), none, none⟩])
 (.block 2
 (.loop [1, 4, 62, 63, 64]
 (.seq
 (.reg [⟨(some 65), (.bin .lss (.s 64) (.s 63)), none, none⟩])
 (.seqj [1, 4, 62, 63, 64]
 (.cond (.s 65)
 .skip
 (.exit 2))
 (.seqj [1, 4, 62, 63, 64]
 (.block 3
 (.seq
 (.reg [⟨(some 66), (.iaddrS 5 (.s 62) (.s 64)), none, none⟩,
  ⟨(some 67), (.loadn 5 (.s 66)), none, none⟩,
  ⟨(some 11), (.alloc [(ofL []), (.int .i64 (0)), (ofL []), .snil, .snil]), none, none⟩,
  ⟨none, (.store 5 (.s 11) (.s 67)), none, none⟩])
 (.seq
 (.reg [⟨(some 68), (.loadn 6 (.s 1)), none, none⟩,
  ⟨(some 69), (.faddr 1 (.s 11)), none, none⟩,
  ⟨(some 70), (.loadn 4 (.s 69)), none, none⟩,
  ⟨(some 71), (.call 41 [(.s 68), (.s 70)]), none, none⟩,
  ⟨(some 72), (.not (.s 71)), none, none⟩])
 (.cond (.s 72)
 (.seq
 (.reg [⟨(some 2), (.mv (.c (.int .i64 (14)))), none, none⟩])
 .ret)
 .skip))))
 (.reg [⟨(some 73), (.bin .add (.s 64) (.c (.int .i64 (1)))), none, none⟩,
  ⟨(some 64), (.mv (.s 73)), none, none⟩])))))))
 (.seqj []
 (.seq
 (.reg [⟨(some 74), (.loadn 6 (.s 1)), none, none⟩,
  ⟨(some 75), (.call 43 [(.s 74)]), none, none⟩,
  ⟨(some 76), (.mv (.s 4)), none, none⟩,
  ⟨(some 77), (.mkfn 44 [(.s 76)] []), none, none⟩,
  ⟨(some 78), (.call 42 [(.s 75), (.s 77)]), none, none⟩])
 (.cond (.s 78)
 (.seq
 (.reg [⟨(some 2), (.mv (.c (.int .i64 (17)))), none, none⟩])
 .ret)
 .skip))
 (.seq
 (.reg [⟨(some 2), (.mv (.c (.int .i64 (0)))), none, none⟩])
 .ret)))))))))) }
theorem cf25_ok : compFn Try.prog Try.f25 [[1], [1], [1, 4], [1, 4, 33, 34, 35], [1, 4, 33, 34, 35], [1, 4, 33, 34, 35], [1, 4], [1, 4], [1, 4], [1, 4, 62, 63, 64], [1, 4, 62, 63, 64], [1, 4, 62, 63, 64], []] = some cf_shape_Check := by kernel_rfl
/- sprue/shape.types -/
def cf_shape_types : Eva.Fn := { ntmps := 39, res := [(.s 2)], body :=
 (.seq
 (.reg [⟨(some 2), (.mv (.c (.int .i64 (0)))), none, none⟩])
 (.seqj []
 (.seq
 (.reg [⟨(some 5), (.mv (.s 0)), none, none⟩,
  ⟨(some 6), (.lenL (.s 5)), none, none⟩,
  ⟨(some 7), (.mv (.c (.int .i64 (0)))), none, none⟩])
 (.block 0
 (.loop [0, 5, 6, 7]
 (.seq
 (.reg [⟨(some 8), (.bin .lss (.s 7) (.s 6)), none, none⟩])
 (.seqj [0, 5, 6, 7]
 (.cond (.s 8)
 .skip
 (.exit 0))
 (.seqj [0, 5, 6, 7]
 (.block 1
 (.seq
 (.reg [⟨(some 9), (.mv (.s 7)), none, none⟩,
  ⟨(some 10), (.iaddrS 5 (.s 5) (.s 7)), none, none⟩,
  ⟨(some 11), (.loadn 5 (.s 10)), none, none⟩,
  ⟨(some 4), (.alloc [(ofL []), (.int .i64 (0)), (ofL []), .snil, .snil]), none, none⟩,
  ⟨(some 3), (.mv (.s 9)), none, none⟩,
  ⟨none, (.store 5 (.s 4) (.s 11)), none, none⟩])
 (.block 2
 (.seq
 (.reg [⟨(some 13), (.faddr 0 (.s 4)), none, none⟩,
  ⟨(some 14), (.load1 (.s 13)), none, none⟩,
  ⟨(some 15), (.call 53 [(.s 14)]), none, none⟩,
  ⟨(some 16), (.not (.s 15)), none, none⟩,
  ⟨(some 17), (.mv (.s 16)), none, none⟩,
  ⟨(some 18), (.faddr 0 (.s 4)), (some (17, false)), none⟩,
  ⟨(some 19), (.load1 (.s 18)), (some (17, false)), none⟩,
  ⟨(some 20), (.bin .add (.c (ofL [32])) (.s 19)), (some (17, false)), none⟩,
  ⟨(some 21), (.bin .add (.s 20) (.c (ofL [32]))), (some (17, false)), none⟩,
  ⟨(some 22), (.call 54 [(.c (ofL [32, 66, 111, 111, 108, 32, 73, 110, 116, 32, 84, 101, 120, 116, 32, 76, 105, 115, 116, 32, 77, 97, 112, 32, 79, 112, 116, 32, 85, 110, 105, 111, 110, 32])), (.s 21)]), (some (17, false)), none⟩,
  ⟨(some 23), (.pick (.s 17) (.c (.bool true)) (.s 22)), none, none⟩,
  ⟨(some 12), (.mv (.s 23)), none, none⟩])
 (.cond (.s 12)
 (.seq
 (.reg [⟨(some 2), (.mv (.c (.int .i64 (15)))), none, none⟩])
 .ret)
 (.seq
 (.drw [⟨(some 25), (.mv (.s 3)), none, none⟩,
  ⟨(some 26), (.bin .gtr (.s 25) (.c (.int .i64 (0)))), none, none⟩,
  ⟨(some 27), (.mv (.s 26)), none, none⟩,
  ⟨(some 28), (.mv (.s 0)), (some (27, true)), none⟩,
  ⟨(some 29), (.mv (.s 3)), (some (27, true)), none⟩,
  ⟨(some 30), (.bin .sub (.s 29) (.c (.int .i64 (1)))), (some (27, true)), none⟩,
  ⟨(some 31), (.iaddrS 5 (.s 28) (.s 30)), (some (27, true)), none⟩,
  ⟨(some 32), (.faddr 0 (.s 31)), (some (27, true)), none⟩,
  ⟨(some 33), (.load1 (.s 32)), (some (27, true)), none⟩,
  ⟨(some 34), (.faddr 0 (.s 4)), (some (27, true)), none⟩,
  ⟨(some 35), (.load1 (.s 34)), (some (27, true)), none⟩,
  ⟨(some 36), (.bin .geq (.s 33) (.s 35)), (some (27, true)), none⟩,
  ⟨(some 37), (.pick (.s 27) (.s 36) (.c (.bool false))), none, none⟩,
  ⟨(some 24), (.mv (.s 37)), none, none⟩] [])
 (.cond (.s 24)
 (.seq
 (.reg [⟨(some 2), (.mv (.c (.int .i64 (6)))), none, none⟩])
 .ret)
 .skip)))))))
 (.reg [⟨(some 38), (.bin .add (.s 7) (.c (.int .i64 (1)))), none, none⟩,
  ⟨(some 7), (.mv (.s 38)), none, none⟩])))))))
 (.seq
 (.reg [⟨(some 2), (.mv (.c (.int .i64 (0)))), none, none⟩])
 .ret))) }
theorem cf37_ok : compFn Try.prog Try.f37 [[], [0, 5, 6, 7], [0, 5, 6, 7], [0, 5, 6, 7]] = some cf_shape_types := by kernel_rfl
/- sprue/scan.Ident -/
def cf_scan_Ident : Eva.Fn := { ntmps := 23, res := [(.s 2)], body :=
 (.seq
 (.reg [⟨(some 2), (.mv (.c (.bool false))), none, none⟩])
 (.seq
 (.reg [⟨(some 3), (.mv (.s 0)), none, none⟩,
  ⟨(some 4), (.eq (.one .s) true (.s 3) (.c (ofL []))), none, none⟩,
  ⟨(some 5), (.mv (.s 4)), none, none⟩,
  ⟨(some 6), (.mv (.s 0)), (some (5, true)), none⟩,
  ⟨(some 7), (.lenS (.s 6)), (some (5, true)), none⟩,
  ⟨(some 8), (.bin .leq (.s 7) (.c (.int .i64 (16)))), (some (5, true)), none⟩,
  ⟨(some 9), (.pick (.s 5) (.s 8) (.c (.bool false))), none, none⟩,
  ⟨(some 10), (.mv (.s 9)), none, none⟩,
  ⟨(some 11), (.mv (.s 0)), (some (10, true)), none⟩,
  ⟨(some 12), (.idxS (.s 11) (.c (.int .i64 (0)))), (some (10, true)), none⟩,
  ⟨(some 13), (.call 66 [(.s 12)]), (some (10, true)), none⟩,
  ⟨(some 14), (.not (.s 13)), (some (10, true)), none⟩,
  ⟨(some 15), (.pick (.s 10) (.s 14) (.c (.bool false))), none, none⟩,
  ⟨(some 16), (.mv (.s 15)), none, none⟩,
  ⟨(some 17), (.mv (.s 0)), (some (16, true)), none⟩,
  ⟨(some 18), (.call 67 [(.s 17)]), (some (16, true)), none⟩,
  ⟨(some 19), (.mv (.s 0)), (some (16, true)), none⟩,
  ⟨(some 20), (.lenS (.s 19)), (some (16, true)), none⟩,
  ⟨(some 21), (.eq (.one .i) false (.s 18) (.s 20)), (some (16, true)), none⟩,
  ⟨(some 22), (.pick (.s 16) (.s 21) (.c (.bool false))), none, none⟩,
  ⟨(some 2), (.mv (.s 22)), none, none⟩])
 .ret)) }
theorem cf53_ok : compFn Try.prog Try.f53 [] = some cf_scan_Ident := by kernel_rfl
/- sprue/scan.digit -/
def cf_scan_digit : Eva.Fn := { ntmps := 9, res := [(.s 2)], body :=
 (.seq
 (.reg [⟨(some 2), (.mv (.c (.bool false))), none, none⟩])
 (.seq
 (.reg [⟨(some 3), (.mv (.s 0)), none, none⟩,
  ⟨(some 4), (.bin .geq (.s 3) (.c (.int .u8 (48)))), none, none⟩,
  ⟨(some 5), (.mv (.s 4)), none, none⟩,
  ⟨(some 6), (.mv (.s 0)), (some (5, true)), none⟩,
  ⟨(some 7), (.bin .leq (.s 6) (.c (.int .u8 (57)))), (some (5, true)), none⟩,
  ⟨(some 8), (.pick (.s 5) (.s 7) (.c (.bool false))), none, none⟩,
  ⟨(some 2), (.mv (.s 8)), none, none⟩])
 .ret)) }
theorem cf66_ok : compFn Try.prog Try.f66 [] = some cf_scan_digit := by kernel_rfl
/- sprue/scan.row -/
def cf_scan_row : Eva.Fn := { ntmps := 5, res := [(.s 2)], body :=
 (.seq
 (.reg [⟨(some 2), (.mv (.c (.int .i64 (0)))), none, none⟩])
 (.seq
 (.reg [⟨(some 3), (.mv (.s 0)), none, none⟩,
  ⟨(some 4), (.call 73 [(.s 3), (.c (.fn 74 [] []))]), none, none⟩,
  ⟨(some 2), (.mv (.s 4)), none, none⟩])
 .ret)) }
theorem cf67_ok : compFn Try.prog Try.f67 [] = some cf_scan_row := by kernel_rfl
/- sprue/scan.front -/
def cf_scan_front : Eva.Fn := { ntmps := 20, res := [(.s 4)], body :=
 (.seq
 (.reg [⟨(some 4), (.mv (.c (.int .i64 (0)))), none, none⟩])
 (.seqj [0]
 (.seq
 (.reg [⟨(some 6), (.mv (.s 0)), none, none⟩,
  ⟨(some 7), (.rngS (.s 6)), none, none⟩])
 (.block 0
 (.loop [0, 1, 7]
 (.seq
 (.reg [⟨(some 8), (.nextS (.s 7)), none, none⟩,
  ⟨(some 9), (.ext 0 (.s 8)), none, none⟩])
 (.seqj [0, 1, 7, 8]
 (.cond (.s 9)
 .skip
 (.exit 0))
 (.block 1
 (.seq
 (.reg [⟨(some 10), (.ext 1 (.s 8)), none, none⟩,
  ⟨(some 5), (.mv (.s 10)), none, none⟩])
 (.seq
 (.reg [⟨(some 11), (.mv (.s 1)), none, none⟩,
  ⟨(some 12), (.mv (.s 0)), none, none⟩,
  ⟨(some 13), (.mv (.s 5)), none, none⟩,
  ⟨(some 14), (.idxS (.s 12) (.s 13)), none, none⟩,
  ⟨(some 15), (.callv (.s 11) [(.s 14)]), none, none⟩,
  ⟨(some 16), (.not (.s 15)), none, none⟩])
 (.cond (.s 16)
 (.seq
 (.reg [⟨(some 17), (.mv (.s 5)), none, none⟩,
  ⟨(some 4), (.mv (.s 17)), none, none⟩])
 .ret)
 .skip)))))))))
 (.seq
 (.reg [⟨(some 18), (.mv (.s 0)), none, none⟩,
  ⟨(some 19), (.lenS (.s 18)), none, none⟩,
  ⟨(some 4), (.mv (.s 19)), none, none⟩])
 .ret))) }
theorem cf73_ok : compFn Try.prog Try.f73 [[0], [0, 1, 7], [0, 1, 7, 8]] = some cf_scan_front := by kernel_rfl
/- sprue/scan.row$1 -/
def cf_scan_row_1 : Eva.Fn := { ntmps := 9, res := [(.s 2)], body :=
 (.seq
 (.reg [⟨(some 2), (.mv (.c (.bool false))), none, none⟩])
 (.seq
 (.reg [⟨(some 3), (.mv (.s 0)), none, none⟩,
  ⟨(some 4), (.call 75 [(.s 3)]), none, none⟩,
  ⟨(some 5), (.mv (.s 4)), none, none⟩,
  ⟨(some 6), (.mv (.s 0)), (some (5, false)), none⟩,
  ⟨(some 7), (.call 66 [(.s 6)]), (some (5, false)), none⟩,
  ⟨(some 8), (.pick (.s 5) (.c (.bool true)) (.s 7)), none, none⟩,
  ⟨(some 2), (.mv (.s 8)), none, none⟩])
 .ret)) }
theorem cf74_ok : compFn Try.prog Try.f74 [] = some cf_scan_row_1 := by kernel_rfl
/- sprue/scan.letter -/
def cf_scan_letter : Eva.Fn := { ntmps := 15, res := [(.s 2)], body :=
 (.seq
 (.reg [⟨(some 2), (.mv (.c (.bool false))), none, none⟩])
 (.seq
 (.reg [⟨(some 3), (.mv (.s 0)), none, none⟩,
  ⟨(some 4), (.eq (.one .i) false (.s 3) (.c (.int .u8 (95)))), none, none⟩,
  ⟨(some 5), (.mv (.s 4)), none, none⟩,
  ⟨(some 6), (.mv (.s 0)), (some (5, false)), none⟩,
  ⟨(some 7), (.bin .or (.s 6) (.c (.int .u8 (32)))), (some (5, false)), none⟩,
  ⟨(some 8), (.bin .geq (.s 7) (.c (.int .u8 (97)))), (some (5, false)), none⟩,
  ⟨(some 9), (.mv (.s 8)), (some (5, false)), none⟩,
  ⟨(some 10), (.mv (.s 0)), (some (9, true)), none⟩,
  ⟨(some 11), (.bin .or (.s 10) (.c (.int .u8 (32)))), (some (9, true)), none⟩,
  ⟨(some 12), (.bin .leq (.s 11) (.c (.int .u8 (122)))), (some (9, true)), none⟩,
  ⟨(some 13), (.pick (.s 9) (.s 12) (.c (.bool false))), (some (5, false)), none⟩,
  ⟨(some 14), (.pick (.s 5) (.c (.bool true)) (.s 13)), none, none⟩,
  ⟨(some 2), (.mv (.s 14)), none, none⟩])
 .ret)) }
theorem cf75_ok : compFn Try.prog Try.f75 [] = some cf_scan_letter := by kernel_rfl
/- sprue/shape.named -/
def cf_shape_named : Eva.Fn := { ntmps := 21, res := [(.s 2)], body :=
 (.seq
 (.reg [⟨(some 1), (.box (.s 0)), none, none⟩,
  ⟨(some 2), (.mv (.c .mnil)), none, none⟩])
 (.seq
 (.reg [⟨(some 6), .mkmap, none, none⟩,
  ⟨(some 3), (.mv (.s 6)), none, none⟩])
 (.seqj [3]
 (.seq
 (.reg [⟨(some 7), (.faddr 4 (.s 1)), none, none⟩,
  ⟨(some 8), (.load1 (.s 7)), none, none⟩,
  ⟨(some 9), (.lenL (.s 8)), none, none⟩,
  ⟨(some 10), (.mv (.c (.int .i64 (0)))), none, none⟩])
 (.block 0
 (.loop [3, 8, 9, 10]
 (.seq
 (.reg [⟨(some 11), (.bin .lss (.s 10) (.s 9)), none, none⟩])
 (.seqj [3, 8, 9, 10]
 (.cond (.s 11)
 .skip
 (.exit 0))
 (.seqj [3, 8, 9, 10]
 (.block 1
 (.seq
 (.reg [⟨(some 12), (.iaddrS 5 (.s 8) (.s 10)), none, none⟩,
  ⟨(some 13), (.loadn 5 (.s 12)), none, none⟩,
  ⟨(some 5), (.alloc [(ofL []), (.int .i64 (0)), (ofL []), .snil, .snil]), none, none⟩,
  ⟨none, (.store 5 (.s 5) (.s 13)), none, none⟩])
 (.reg [⟨(some 14), (.mv (.s 3)), none, none⟩,
  ⟨(some 15), (.faddr 0 (.s 5)), none, none⟩,
  ⟨(some 16), (.load1 (.s 15)), none, none⟩,
  ⟨(some 17), (.faddr 1 (.s 5)), none, none⟩,
  ⟨(some 18), (.loadn 4 (.s 17)), none, none⟩,
  ⟨none, (.mupd (.one .s) (.s 14) (.s 16) (.s 18)), none, none⟩])))
 (.reg [⟨(some 19), (.bin .add (.s 10) (.c (.int .i64 (1)))), none, none⟩,
  ⟨(some 10), (.mv (.s 19)), none, none⟩])))))))
 (.seq
 (.reg [⟨(some 20), (.mv (.s 3)), none, none⟩,
  ⟨(some 2), (.mv (.s 20)), none, none⟩])
 .ret)))) }
theorem cf38_ok : compFn Try.prog Try.f38 [[3], [3, 8, 9, 10], [3, 8, 9, 10], [3, 8, 9, 10]] = some cf_shape_named := by kernel_rfl
/- (*sprue/shape.looker).may -/
def cf_shape_looker_may : Eva.Fn := { ntmps := 113, res := [(.s 6)], body :=
 (.seq
 (.reg [⟨(some 4), (.box (.s 1)), none, none⟩,
  ⟨(some 6), (.mv (.c (.int .i64 (0)))), none, none⟩])
 (.seq
 (.reg [⟨(some 14), (.mv (.s 0)), none, none⟩,
  ⟨(some 15), (.nilck (.s 14)), none, none⟩,
  ⟨(some 16), (.faddr 1 (.s 15)), none, none⟩,
  ⟨(some 17), (.load1 (.s 16)), none, none⟩,
  ⟨(some 18), (.bin .add (.s 17) (.c (.int .i64 (1)))), none, none⟩,
  ⟨(some 19), (.nilck (.s 14)), none, none⟩,
  ⟨(some 20), (.faddr 1 (.s 19)), none, none⟩,
  ⟨none, (.store 1 (.s 20) (.s 18)), none, none⟩])
 (.seq
 (.drw [⟨(some 22), (.mv (.s 0)), none, none⟩,
  ⟨(some 23), (.nilck (.s 22)), none, none⟩,
  ⟨(some 24), (.faddr 0 (.s 23)), none, none⟩,
  ⟨(some 25), (.load1 (.s 24)), none, none⟩,
  ⟨(some 26), (.faddr 1 (.s 4)), none, none⟩,
  ⟨(some 27), (.load1 (.s 26)), none, none⟩,
  ⟨(some 28), (.lookup (.one .s) (.agg [(.int .i64 (0)), (ofL []), .snil, .snil]) true (.s 25) (.s 27)), none, none⟩,
  ⟨(some 21), (.mv (.s 28)), none, none⟩,
  ⟨(some 29), (.ext 0 (.s 21)), none, none⟩,
  ⟨(some 30), (.ext 1 (.s 21)), none, none⟩,
  ⟨(some 7), (.alloc [(.int .i64 (0)), (ofL []), .snil, .snil]), none, none⟩,
  ⟨none, (.store 4 (.s 7) (.s 29)), none, none⟩,
  ⟨(some 8), (.mv (.s 30)), none, none⟩] [])
 (.seq
 (.reg [⟨(some 31), (.faddr 0 (.s 4)), none, none⟩,
  ⟨(some 32), (.load1 (.s 31)), none, none⟩,
  ⟨(some 33), (.eq (.one .i) false (.s 32) (.c (.int .i64 (7)))), none, none⟩,
  ⟨(some 34), (.mv (.s 33)), none, none⟩,
  ⟨(some 35), (.faddr 0 (.s 4)), (some (34, false)), none⟩,
  ⟨(some 36), (.load1 (.s 35)), (some (34, false)), none⟩,
  ⟨(some 37), (.eq (.one .i) false (.s 36) (.c (.int .i64 (8)))), (some (34, false)), none⟩,
  ⟨(some 38), (.pick (.s 34) (.c (.bool true)) (.s 37)), none, none⟩,
  ⟨(some 9), (.mv (.s 38)), none, none⟩])
 (.seqj [0, 2, 4]
 (.block 0
 (.seq
 (.reg [⟨(some 40), (.mv (.s 0)), none, none⟩,
  ⟨(some 41), (.nilck (.s 40)), none, none⟩,
  ⟨(some 42), (.faddr 1 (.s 41)), none, none⟩,
  ⟨(some 43), (.load1 (.s 42)), none, none⟩,
  ⟨(some 44), (.bin .gtr (.s 43) (.c (.int .i64 (400)))), none, none⟩,
  ⟨(some 39), (.mv (.s 44)), none, none⟩])
 (.cond (.s 39)
 (.seq
 (.reg [⟨(some 6), (.mv (.c (.int .i64 (3)))), none, none⟩])
 .ret)
 (.seq
 (.reg [⟨(some 46), (.mv (.s 2)), none, none⟩,
  ⟨(some 47), (.bin .gtr (.s 46) (.c (.int .i64 (12)))), none, none⟩,
  ⟨(some 45), (.mv (.s 47)), none, none⟩])
 (.cond (.s 45)
 (.seq
 (.reg [⟨(some 6), (.mv (.c (.int .i64 (13)))), none, none⟩])
 .ret)
 (.seq
 (.reg [⟨(some 49), (.faddr 0 (.s 4)), none, none⟩,
  ⟨(some 50), (.load1 (.s 49)), none, none⟩,
  ⟨(some 51), (.bin .lss (.s 50) (.c (.int .i64 (1)))), none, none⟩,
  ⟨(some 52), (.mv (.s 51)), none, none⟩,
  ⟨(some 53), (.faddr 0 (.s 4)), (some (52, false)), none⟩,
  ⟨(some 54), (.load1 (.s 53)), (some (52, false)), none⟩,
  ⟨(some 55), (.bin .gtr (.s 54) (.c (.int .i64 (9)))), (some (52, false)), none⟩,
  ⟨(some 56), (.pick (.s 52) (.c (.bool true)) (.s 55)), none, none⟩,
  ⟨(some 48), (.mv (.s 56)), none, none⟩])
 (.cond (.s 48)
 (.seq
 (.reg [⟨(some 6), (.mv (.c (.int .i64 (1)))), none, none⟩])
 .ret)
 (.seq
 (.drw [⟨(some 58), (.faddr 3 (.s 4)), none, none⟩,
  ⟨(some 59), (.load1 (.s 58)), none, none⟩,
  ⟨(some 60), (.lenL (.s 59)), none, none⟩,
  ⟨(some 61), (.loadn 4 (.s 4)), none, none⟩,
  ⟨(some 62), (.call 55 [(.s 61)]), none, (some [58])⟩,
  ⟨(some 63), (.eq (.one .i) true (.s 60) (.s 62)), none, none⟩,
  ⟨(some 64), (.mv (.s 63)), none, none⟩,
  ⟨(some 65), (.faddr 1 (.s 4)), (some (64, false)), none⟩,
  ⟨(some 66), (.load1 (.s 65)), (some (64, false)), none⟩,
  ⟨(some 67), (.eq (.one .s) true (.s 66) (.c (ofL []))), (some (64, false)), none⟩,
  ⟨(some 68), (.mv (.s 67)), (some (64, false)), none⟩,
  ⟨(some 69), (.faddr 0 (.s 4)), (some (68, true)), none⟩,
  ⟨(some 70), (.load1 (.s 69)), (some (68, true)), none⟩,
  ⟨(some 71), (.eq (.one .i) true (.s 70) (.c (.int .i64 (9)))), (some (68, true)), none⟩,
  ⟨(some 72), (.pick (.s 68) (.s 71) (.c (.bool false))), (some (64, false)), none⟩,
  ⟨(some 73), (.pick (.s 64) (.c (.bool true)) (.s 72)), none, none⟩,
  ⟨(some 74), (.mv (.s 73)), none, none⟩,
  ⟨(some 75), (.faddr 2 (.s 4)), (some (74, false)), none⟩,
  ⟨(some 76), (.load1 (.s 75)), (some (74, false)), none⟩,
  ⟨(some 77), (.lenL (.s 76)), (some (74, false)), none⟩,
  ⟨(some 78), (.bin .gtr (.s 77) (.c (.int .i64 (0)))), (some (74, false)), none⟩,
  ⟨(some 79), (.mv (.s 78)), (some (74, false)), none⟩,
  ⟨(some 80), (.mv (.s 9)), (some (79, true)), none⟩,
  ⟨(some 81), (.not (.s 80)), (some (79, true)), none⟩,
  ⟨(some 82), (.pick (.s 79) (.s 81) (.c (.bool false))), (some (74, false)), none⟩,
  ⟨(some 83), (.pick (.s 74) (.c (.bool true)) (.s 82)), none, none⟩,
  ⟨(some 57), (.mv (.s 83)), none, none⟩] [])
 (.cond (.s 57)
 (.seq
 (.reg [⟨(some 6), (.mv (.c (.int .i64 (12)))), none, none⟩])
 .ret)
 (.seq
 (.reg [⟨(some 85), (.faddr 0 (.s 4)), none, none⟩,
  ⟨(some 86), (.load1 (.s 85)), none, none⟩,
  ⟨(some 87), (.eq (.one .i) false (.s 86) (.c (.int .i64 (9)))), none, none⟩,
  ⟨(some 88), (.mv (.s 87)), none, none⟩,
  ⟨(some 89), (.mv (.s 8)), (some (88, true)), none⟩,
  ⟨(some 90), (.not (.s 89)), (some (88, true)), none⟩,
  ⟨(some 91), (.pick (.s 88) (.s 90) (.c (.bool false))), none, none⟩,
  ⟨(some 84), (.mv (.s 91)), none, none⟩])
 (.cond (.s 84)
 (.seq
 (.reg [⟨(some 6), (.mv (.c (.int .i64 (15)))), none, none⟩])
 .ret)
 .skip)))))))))))
 (.seqj [0, 2, 4]
 (.seq
 (.reg [⟨(some 92), (.loadn 4 (.s 4)), none, none⟩,
  ⟨(some 93), (.call 56 [(.s 92)]), none, none⟩,
  ⟨(some 10), (.mv (.s 93)), none, none⟩])
 (.seq
 (.reg [⟨(some 94), (.mv (.s 10)), none, none⟩,
  ⟨(some 95), (.eq (.one .i) true (.s 94) (.c (.int .i64 (0)))), none, none⟩])
 (.cond (.s 95)
 (.seq
 (.reg [⟨(some 96), (.mv (.s 10)), none, none⟩,
  ⟨(some 6), (.mv (.s 96)), none, none⟩])
 .ret)
 .skip)))
 (.seqj []
 (.seq
 (.reg [⟨(some 97), (.faddr 3 (.s 4)), none, none⟩,
  ⟨(some 98), (.load1 (.s 97)), none, none⟩,
  ⟨(some 99), (.lenL (.s 98)), none, none⟩,
  ⟨(some 100), (.mv (.c (.int .i64 (0)))), none, none⟩])
 (.block 1
 (.loop [0, 2, 98, 99, 100]
 (.seq
 (.reg [⟨(some 101), (.bin .lss (.s 100) (.s 99)), none, none⟩])
 (.seqj [0, 2, 98, 99, 100]
 (.cond (.s 101)
 .skip
 (.exit 1))
 (.seqj [0, 2, 98, 99, 100]
 (.block 2
 (.seq
 (.reg [⟨(some 102), (.iaddrS 4 (.s 98) (.s 100)), none, none⟩,
  ⟨(some 103), (.loadn 4 (.s 102)), none, none⟩,
  ⟨(some 12), (.alloc [(.int .i64 (0)), (ofL []), .snil, .snil]), none, none⟩,
  ⟨none, (.store 4 (.s 12) (.s 103)), none, none⟩])
 (.seq
 (.reg [⟨(some 104), (.mv (.s 0)), none, none⟩,
  ⟨(some 105), (.loadn 4 (.s 12)), none, none⟩,
  ⟨(some 106), (.mv (.s 2)), none, none⟩,
  ⟨(some 107), (.bin .add (.s 106) (.c (.int .i64 (1)))), none, none⟩,
  ⟨(some 108), (.call 39 [(.s 104), (.s 105), (.s 107)]), none, none⟩,
  ⟨(some 13), (.mv (.s 108)), none, none⟩])
 (.seq
 (.reg [⟨(some 109), (.mv (.s 13)), none, none⟩,
  ⟨(some 110), (.eq (.one .i) true (.s 109) (.c (.int .i64 (0)))), none, none⟩])
 (.cond (.s 110)
 (.seq
 (.reg [⟨(some 111), (.mv (.s 13)), none, none⟩,
  ⟨(some 6), (.mv (.s 111)), none, none⟩])
 .ret)
 .skip)))))
 (.reg [⟨(some 112), (.bin .add (.s 100) (.c (.int .i64 (1)))), none, none⟩,
  ⟨(some 100), (.mv (.s 112)), none, none⟩])))))))
 (.seq
 (.reg [⟨(some 6), (.mv (.c (.int .i64 (0)))), none, none⟩])
 .ret)))))))) }
theorem cf39_ok : compFn Try.prog Try.f39 [[0, 2, 4], [0, 2, 4], [], [0, 2, 98, 99, 100], [0, 2, 98, 99, 100], [0, 2, 98, 99, 100]] = some cf_shape_looker_may := by kernel_rfl
/- sprue/shape.kids -/
def cf_shape_kids : Eva.Fn := { ntmps := 15, res := [(.s 2)], body :=
 (.seq
 (.reg [⟨(some 1), (.box (.s 0)), none, none⟩,
  ⟨(some 2), (.mv (.c (.int .i64 (0)))), none, none⟩])
 (.seqj []
 (.seq
 (.reg [⟨(some 3), (.faddr 0 (.s 1)), none, none⟩,
  ⟨(some 4), (.load1 (.s 3)), none, none⟩])
 (.block 0
 (.seqj [1, 4, 5]
 (.seq
 (.reg [⟨(some 6), (.eq (.one .i) false (.s 4) (.c (.int .i64 (4)))), none, none⟩,
  ⟨(some 5), (.mv (.s 6)), none, none⟩])
 (.cond (.s 5)
 .skip
 (.seq
 (.reg [⟨(some 7), (.eq (.one .i) false (.s 4) (.c (.int .i64 (5)))), none, none⟩,
  ⟨(some 5), (.mv (.s 7)), none, none⟩])
 (.cond (.s 5)
 .skip
 (.reg [⟨(some 8), (.eq (.one .i) false (.s 4) (.c (.int .i64 (6)))), none, none⟩,
  ⟨(some 5), (.mv (.s 8)), none, none⟩])))))
 (.cond (.s 5)
 (.seq
 (.reg [⟨(some 2), (.mv (.c (.int .i64 (1)))), none, none⟩])
 .ret)
 (.seqj [1, 9]
 (.seq
 (.reg [⟨(some 10), (.eq (.one .i) false (.s 4) (.c (.int .i64 (7)))), none, none⟩,
  ⟨(some 9), (.mv (.s 10)), none, none⟩])
 (.cond (.s 9)
 .skip
 (.reg [⟨(some 11), (.eq (.one .i) false (.s 4) (.c (.int .i64 (8)))), none, none⟩,
  ⟨(some 9), (.mv (.s 11)), none, none⟩])))
 (.cond (.s 9)
 (.seq
 (.reg [⟨(some 12), (.faddr 2 (.s 1)), none, none⟩,
  ⟨(some 13), (.load1 (.s 12)), none, none⟩,
  ⟨(some 14), (.lenL (.s 13)), none, none⟩,
  ⟨(some 2), (.mv (.s 14)), none, none⟩])
 .ret)
 .skip))))))
 (.seq
 (.reg [⟨(some 2), (.mv (.c (.int .i64 (0)))), none, none⟩])
 .ret))) }
theorem cf55_ok : compFn Try.prog Try.f55 [[], [1, 4, 5], [1, 9]] = some cf_shape_kids := by kernel_rfl
/- sprue/shape.fields -/
def cf_shape_fields : Eva.Fn := { ntmps := 44, res := [(.s 2)], body :=
 (.seq
 (.reg [⟨(some 1), (.box (.s 0)), none, none⟩,
  ⟨(some 2), (.mv (.c (.int .i64 (0)))), none, none⟩])
 (.seqj [1]
 (.seq
 (.reg [⟨(some 5), (.faddr 2 (.s 1)), none, none⟩,
  ⟨(some 6), (.load1 (.s 5)), none, none⟩,
  ⟨(some 7), (.lenL (.s 6)), none, none⟩,
  ⟨(some 8), (.bin .gtr (.s 7) (.c (.int .i64 (8)))), none, none⟩])
 (.cond (.s 8)
 (.seq
 (.reg [⟨(some 2), (.mv (.c (.int .i64 (3)))), none, none⟩])
 .ret)
 .skip))
 (.seqj [1]
 (.seq
 (.reg [⟨(some 9), (.faddr 2 (.s 1)), none, none⟩,
  ⟨(some 10), (.load1 (.s 9)), none, none⟩,
  ⟨(some 11), (.lenL (.s 10)), none, none⟩,
  ⟨(some 12), (.mv (.c (.int .i64 (0)))), none, none⟩])
 (.block 0
 (.loop [1, 10, 11, 12]
 (.seq
 (.reg [⟨(some 13), (.bin .lss (.s 12) (.s 11)), none, none⟩])
 (.seqj [1, 10, 11, 12]
 (.cond (.s 13)
 .skip
 (.exit 0))
 (.seqj [1, 10, 11, 12]
 (.block 1
 (.seq
 (.reg [⟨(some 14), (.mv (.s 12)), none, none⟩,
  ⟨(some 15), (.iaddrS 1 (.s 10) (.s 12)), none, none⟩,
  ⟨(some 16), (.load1 (.s 15)), none, none⟩,
  ⟨(some 3), (.mv (.s 14)), none, none⟩,
  ⟨(some 4), (.mv (.s 16)), none, none⟩])
 (.block 2
 (.seq
 (.reg [⟨(some 18), (.mv (.s 4)), none, none⟩,
  ⟨(some 19), (.call 53 [(.s 18)]), none, none⟩,
  ⟨(some 20), (.not (.s 19)), none, none⟩,
  ⟨(some 17), (.mv (.s 20)), none, none⟩])
 (.cond (.s 17)
 (.seq
 (.reg [⟨(some 2), (.mv (.c (.int .i64 (15)))), none, none⟩])
 .ret)
 (.seq
 (.reg [⟨(some 22), (.mv (.s 3)), none, none⟩,
  ⟨(some 23), (.bin .gtr (.s 22) (.c (.int .i64 (0)))), none, none⟩,
  ⟨(some 24), (.mv (.s 23)), none, none⟩,
  ⟨(some 25), (.faddr 2 (.s 1)), (some (24, true)), none⟩,
  ⟨(some 26), (.load1 (.s 25)), (some (24, true)), none⟩,
  ⟨(some 27), (.mv (.s 3)), (some (24, true)), none⟩,
  ⟨(some 28), (.bin .sub (.s 27) (.c (.int .i64 (1)))), (some (24, true)), none⟩,
  ⟨(some 29), (.iaddrS 1 (.s 26) (.s 28)), (some (24, true)), none⟩,
  ⟨(some 30), (.load1 (.s 29)), (some (24, true)), none⟩,
  ⟨(some 31), (.mv (.s 4)), (some (24, true)), none⟩,
  ⟨(some 32), (.bin .geq (.s 30) (.s 31)), (some (24, true)), none⟩,
  ⟨(some 33), (.pick (.s 24) (.s 32) (.c (.bool false))), none, none⟩,
  ⟨(some 21), (.mv (.s 33)), none, none⟩])
 (.cond (.s 21)
 (.seq
 (.reg [⟨(some 2), (.mv (.c (.int .i64 (6)))), none, none⟩])
 .ret)
 .skip)))))))
 (.reg [⟨(some 34), (.bin .add (.s 12) (.c (.int .i64 (1)))), none, none⟩,
  ⟨(some 12), (.mv (.s 34)), none, none⟩])))))))
 (.seqj []
 (.seq
 (.reg [⟨(some 35), (.faddr 0 (.s 1)), none, none⟩,
  ⟨(some 36), (.load1 (.s 35)), none, none⟩,
  ⟨(some 37), (.eq (.one .i) false (.s 36) (.c (.int .i64 (8)))), none, none⟩,
  ⟨(some 38), (.mv (.s 37)), none, none⟩,
  ⟨(some 39), (.faddr 2 (.s 1)), (some (38, true)), none⟩,
  ⟨(some 40), (.load1 (.s 39)), (some (38, true)), none⟩,
  ⟨(some 41), (.lenL (.s 40)), (some (38, true)), none⟩,
  ⟨(some 42), (.eq (.one .i) false (.s 41) (.c (.int .i64 (0)))), (some (38, true)), none⟩,
  ⟨(some 43), (.pick (.s 38) (.s 42) (.c (.bool false))), none, none⟩])
 (.cond (.s 43)
 (.seq
 (.reg [⟨(some 2), (.mv (.c (.int .i64 (12)))), none, none⟩])
 .ret)
 .skip))
 (.seq
 (.reg [⟨(some 2), (.mv (.c (.int .i64 (0)))), none, none⟩])
 .ret))))) }
theorem cf56_ok : compFn Try.prog Try.f56 [[1], [1], [1, 10, 11, 12], [1, 10, 11, 12], [1, 10, 11, 12], []] = some cf_shape_fields := by kernel_rfl
/- (*sprue/shape.looker).sigs -/
def cf_shape_looker_sigs : Eva.Fn := { ntmps := 57, res := [(.s 4)], body :=
 (.seq
 (.reg [⟨(some 4), (.mv (.c (.int .i64 (0)))), none, none⟩])
 (.seqj []
 (.seq
 (.reg [⟨(some 8), (.mv (.s 1)), none, none⟩,
  ⟨(some 9), (.lenL (.s 8)), none, none⟩,
  ⟨(some 10), (.mv (.c (.int .i64 (0)))), none, none⟩])
 (.block 0
 (.loop [0, 1, 8, 9, 10]
 (.seq
 (.reg [⟨(some 11), (.bin .lss (.s 10) (.s 9)), none, none⟩])
 (.seqj [0, 1, 8, 9, 10]
 (.cond (.s 11)
 .skip
 (.exit 0))
 (.seqj [0, 1, 8, 9, 10]
 (.block 1
 (.seq
 (.reg [⟨(some 12), (.mv (.s 10)), none, none⟩,
  ⟨(some 13), (.iaddrS 6 (.s 8) (.s 10)), none, none⟩,
  ⟨(some 14), (.loadn 6 (.s 13)), none, none⟩,
  ⟨(some 6), (.alloc [(ofL []), .snil, (.int .i64 (0)), (ofL []), .snil, .snil]), none, none⟩,
  ⟨(some 5), (.mv (.s 12)), none, none⟩,
  ⟨none, (.store 6 (.s 6) (.s 14)), none, none⟩])
 (.seqj [0, 1, 6, 8, 9, 10]
 (.block 2
 (.seq
 (.reg [⟨(some 16), (.faddr 0 (.s 6)), none, none⟩,
  ⟨(some 17), (.load1 (.s 16)), none, none⟩,
  ⟨(some 18), (.call 53 [(.s 17)]), none, none⟩,
  ⟨(some 19), (.not (.s 18)), none, none⟩,
  ⟨(some 20), (.mv (.s 19)), none, none⟩,
  ⟨(some 21), (.faddr 0 (.s 6)), (some (20, false)), none⟩,
  ⟨(some 22), (.load1 (.s 21)), (some (20, false)), none⟩,
  ⟨(some 23), (.call 57 [(.s 22)]), (some (20, false)), none⟩,
  ⟨(some 24), (.pick (.s 20) (.c (.bool true)) (.s 23)), none, none⟩,
  ⟨(some 15), (.mv (.s 24)), none, none⟩])
 (.cond (.s 15)
 (.seq
 (.reg [⟨(some 4), (.mv (.c (.int .i64 (15)))), none, none⟩])
 .ret)
 (.seq
 (.drw [⟨(some 26), (.mv (.s 5)), none, none⟩,
  ⟨(some 27), (.bin .gtr (.s 26) (.c (.int .i64 (0)))), none, none⟩,
  ⟨(some 28), (.mv (.s 27)), none, none⟩,
  ⟨(some 29), (.mv (.s 1)), (some (28, true)), none⟩,
  ⟨(some 30), (.mv (.s 5)), (some (28, true)), none⟩,
  ⟨(some 31), (.bin .sub (.s 30) (.c (.int .i64 (1)))), (some (28, true)), none⟩,
  ⟨(some 32), (.iaddrS 6 (.s 29) (.s 31)), (some (28, true)), none⟩,
  ⟨(some 33), (.faddr 0 (.s 32)), (some (28, true)), none⟩,
  ⟨(some 34), (.load1 (.s 33)), (some (28, true)), none⟩,
  ⟨(some 35), (.faddr 0 (.s 6)), (some (28, true)), none⟩,
  ⟨(some 36), (.load1 (.s 35)), (some (28, true)), none⟩,
  ⟨(some 37), (.bin .geq (.s 34) (.s 36)), (some (28, true)), none⟩,
  ⟨(some 38), (.pick (.s 28) (.s 37) (.c (.bool false))), none, none⟩,
  ⟨(some 25), (.mv (.s 38)), none, none⟩] [])
 (.cond (.s 25)
 (.seq
 (.reg [⟨(some 4), (.mv (.c (.int .i64 (6)))), none, none⟩])
 .ret)
 (.seq
 (.reg [⟨(some 40), (.faddr 1 (.s 6)), none, none⟩,
  ⟨(some 41), (.load1 (.s 40)), none, none⟩,
  ⟨(some 42), (.lenL (.s 41)), none, none⟩,
  ⟨(some 43), (.bin .gtr (.s 42) (.c (.int .i64 (4)))), none, none⟩,
  ⟨(some 39), (.mv (.s 43)), none, none⟩])
 (.cond (.s 39)
 (.seq
 (.reg [⟨(some 4), (.mv (.c (.int .i64 (18)))), none, none⟩])
 .ret)
 .skip)))))))
 (.seq
 (.drw [⟨(some 44), (.mv (.s 0)), none, none⟩,
  ⟨(some 45), (.faddr 1 (.s 6)), none, none⟩,
  ⟨(some 46), (.load1 (.s 45)), none, none⟩,
  ⟨(some 47), (.call 26 [(.s 46)]), none, none⟩,
  ⟨(some 48), (.faddr 2 (.s 6)), none, none⟩,
  ⟨(some 49), (.loadn 4 (.s 48)), none, none⟩,
  ⟨(some 50), (.bsl 4 1 [(.int .i64 (0)), (ofL []), .snil, .snil] [(0, 4, (.s 49))]), none, none⟩,
  ⟨(some 51), (.app 4 (.s 47) (.s 50)), none, none⟩,
  ⟨(some 52), (.call 58 [(.s 44), (.s 51)]), none, (some [])⟩,
  ⟨(some 7), (.mv (.s 52)), none, none⟩] [])
 (.seq
 (.reg [⟨(some 53), (.mv (.s 7)), none, none⟩,
  ⟨(some 54), (.eq (.one .i) true (.s 53) (.c (.int .i64 (0)))), none, none⟩])
 (.cond (.s 54)
 (.seq
 (.reg [⟨(some 55), (.mv (.s 7)), none, none⟩,
  ⟨(some 4), (.mv (.s 55)), none, none⟩])
 .ret)
 .skip))))))
 (.reg [⟨(some 56), (.bin .add (.s 10) (.c (.int .i64 (1)))), none, none⟩,
  ⟨(some 10), (.mv (.s 56)), none, none⟩])))))))
 (.seq
 (.reg [⟨(some 4), (.mv (.c (.int .i64 (0)))), none, none⟩])
 .ret))) }
theorem cf40_ok : compFn Try.prog Try.f40 [[], [0, 1, 8, 9, 10], [0, 1, 8, 9, 10], [0, 1, 8, 9, 10], [0, 1, 6, 8, 9, 10]] = some cf_shape_looker_sigs := by kernel_rfl
/- sprue/shape.Builtin -/
def cf_shape_Builtin : Eva.Fn := { ntmps := 11, res := [(.s 2)], body :=
 (.seq
 (.reg [⟨(some 2), (.mv (.c (.bool false))), none, none⟩])
 (.seq
 (.reg [⟨(some 3), (.mv (.s 0)), none, none⟩,
  ⟨(some 4), (.call 53 [(.s 3)]), none, none⟩,
  ⟨(some 5), (.mv (.s 4)), none, none⟩,
  ⟨(some 6), (.mv (.s 0)), (some (5, true)), none⟩,
  ⟨(some 7), (.bin .add (.c (ofL [32])) (.s 6)), (some (5, true)), none⟩,
  ⟨(some 8), (.bin .add (.s 7) (.c (ofL [32]))), (some (5, true)), none⟩,
  ⟨(some 9), (.call 54 [(.c (ofL [32, 108, 101, 110, 32, 110, 111, 116, 32, 97, 110, 100, 32, 111, 114, 32, 101, 113, 32, 108, 116, 32, 97, 100, 100, 32, 115, 117, 98, 32, 109, 117, 108, 32, 115, 104, 108, 32, 115, 104, 114, 32, 105, 56, 32, 105, 49, 54, 32, 105, 51, 50, 32, 117, 56, 32, 117, 49, 54, 32, 117, 51, 50, 32, 99, 97, 116, 32, 116, 101, 120, 116, 32, 97, 116, 32, 103, 101, 116, 32, 104, 97, 115, 32, 111, 114, 101, 108, 115, 101, 32])), (.s 8)]), (some (5, true)), none⟩,
  ⟨(some 10), (.pick (.s 5) (.s 9) (.c (.bool false))), none, none⟩,
  ⟨(some 2), (.mv (.s 10)), none, none⟩])
 .ret)) }
theorem cf57_ok : compFn Try.prog Try.f57 [] = some cf_shape_Builtin := by kernel_rfl
/- slices.Clone(()sprue/api.Type,sprue/api.Type) -/
def cf_slices_Clone_Type : Eva.Fn := { ntmps := 8, res := [(.s 2)], body :=
 (.seq
 (.reg [⟨(some 2), (.mv (.c .snil)), none, none⟩])
 (.seqj [0]
 (.seq
 (.reg [⟨(some 3), (.mv (.s 0)), none, none⟩,
  ⟨(some 4), (.eq (.one .l) false (.s 3) (.c .snil)), none, none⟩])
 (.cond (.s 4)
 (.seq
 (.reg [⟨(some 2), (.mv (.c .snil)), none, none⟩])
 .ret)
 .skip))
 (.seq
 (.reg [⟨(some 5), (.bsl 4 0 [] []), none, none⟩,
  ⟨(some 6), (.mv (.s 0)), none, none⟩,
  ⟨(some 7), (.app 4 (.s 5) (.s 6)), none, none⟩,
  ⟨(some 2), (.mv (.s 7)), none, none⟩])
 .ret))) }
theorem cf26_ok : compFn Try.prog Try.f26 [[0]] = some cf_slices_Clone_Type := by kernel_rfl
/- (*sprue/shape.looker).all -/
def cf_shape_looker_all : Eva.Fn := { ntmps := 21, res := [(.s 4)], body :=
 (.seq
 (.reg [⟨(some 4), (.mv (.c (.int .i64 (0)))), none, none⟩])
 (.seqj []
 (.seq
 (.reg [⟨(some 8), (.mv (.s 1)), none, none⟩,
  ⟨(some 9), (.lenL (.s 8)), none, none⟩,
  ⟨(some 10), (.mv (.c (.int .i64 (0)))), none, none⟩])
 (.block 0
 (.loop [0, 8, 9, 10]
 (.seq
 (.reg [⟨(some 11), (.bin .lss (.s 10) (.s 9)), none, none⟩])
 (.seqj [0, 8, 9, 10]
 (.cond (.s 11)
 .skip
 (.exit 0))
 (.seqj [0, 8, 9, 10]
 (.block 1
 (.seq
 (.reg [⟨(some 12), (.iaddrS 4 (.s 8) (.s 10)), none, none⟩,
  ⟨(some 13), (.loadn 4 (.s 12)), none, none⟩,
  ⟨(some 6), (.alloc [(.int .i64 (0)), (ofL []), .snil, .snil]), none, none⟩,
  ⟨none, (.store 4 (.s 6) (.s 13)), none, none⟩])
 (.seq
 (.reg [⟨(some 14), (.mv (.s 0)), none, none⟩,
  ⟨(some 15), (.loadn 4 (.s 6)), none, none⟩,
  ⟨(some 16), (.call 39 [(.s 14), (.s 15), (.c (.int .i64 (1)))]), none, none⟩,
  ⟨(some 7), (.mv (.s 16)), none, none⟩])
 (.seq
 (.reg [⟨(some 17), (.mv (.s 7)), none, none⟩,
  ⟨(some 18), (.eq (.one .i) true (.s 17) (.c (.int .i64 (0)))), none, none⟩])
 (.cond (.s 18)
 (.seq
 (.reg [⟨(some 19), (.mv (.s 7)), none, none⟩,
  ⟨(some 4), (.mv (.s 19)), none, none⟩])
 .ret)
 .skip)))))
 (.reg [⟨(some 20), (.bin .add (.s 10) (.c (.int .i64 (1)))), none, none⟩,
  ⟨(some 10), (.mv (.s 20)), none, none⟩])))))))
 (.seq
 (.reg [⟨(some 4), (.mv (.c (.int .i64 (0)))), none, none⟩])
 .ret))) }
theorem cf58_ok : compFn Try.prog Try.f58 [[], [0, 8, 9, 10], [0, 8, 9, 10], [0, 8, 9, 10]] = some cf_shape_looker_all := by kernel_rfl
/- sprue/shape.Finite -/
def cf_shape_Finite : Eva.Fn := { ntmps := 66, res := [(.s 4)], body :=
 (.seq
 (.reg [⟨(some 2), (.box (.s 0)), none, none⟩,
  ⟨(some 3), (.box (.s 1)), none, none⟩,
  ⟨(some 4), (.mv (.c (.bool false))), none, none⟩])
 (.seq
 (.reg [⟨(some 11), (.loadn 6 (.s 2)), none, none⟩,
  ⟨(some 12), (.call 38 [(.s 11)]), none, none⟩,
  ⟨(some 13), (.build [.mnil, (.int .i64 (0))] [(0, 1, (.s 12))]), none, none⟩,
  ⟨(some 14), (.box (.s 13)), none, none⟩,
  ⟨(some 5), (.mv (.s 14)), none, none⟩])
 (.seqj [2, 3, 5]
 (.seq
 (.reg [⟨(some 15), (.faddr 4 (.s 2)), none, none⟩,
  ⟨(some 16), (.load1 (.s 15)), none, none⟩,
  ⟨(some 17), (.lenL (.s 16)), none, none⟩,
  ⟨(some 18), (.mv (.c (.int .i64 (0)))), none, none⟩])
 (.block 0
 (.loop [2, 3, 5, 16, 17, 18]
 (.seq
 (.reg [⟨(some 19), (.bin .lss (.s 18) (.s 17)), none, none⟩])
 (.seqj [2, 3, 5, 16, 17, 18]
 (.cond (.s 19)
 .skip
 (.exit 0))
 (.seqj [2, 3, 5, 16, 17, 18]
 (.block 1
 (.seq
 (.reg [⟨(some 20), (.iaddrS 5 (.s 16) (.s 18)), none, none⟩,
  ⟨(some 21), (.loadn 5 (.s 20)), none, none⟩,
  ⟨(some 7), (.alloc [(ofL []), (.int .i64 (0)), (ofL []), .snil, .snil]), none, none⟩,
  ⟨none, (.store 5 (.s 7) (.s 21)), none, none⟩])
 (.seq
 (.reg [⟨(some 22), (.mv (.s 5)), none, none⟩,
  ⟨(some 23), (.faddr 1 (.s 7)), none, none⟩,
  ⟨(some 24), (.loadn 4 (.s 23)), none, none⟩,
  ⟨(some 25), (.call 39 [(.s 22), (.s 24), (.c (.int .i64 (1)))]), none, none⟩,
  ⟨(some 26), (.eq (.one .i) true (.s 25) (.c (.int .i64 (0)))), none, none⟩])
 (.cond (.s 26)
 (.seq
 (.reg [⟨(some 4), (.mv (.c (.bool false))), none, none⟩])
 .ret)
 .skip))))
 (.reg [⟨(some 27), (.bin .add (.s 18) (.c (.int .i64 (1)))), none, none⟩,
  ⟨(some 18), (.mv (.s 27)), none, none⟩])))))))
 (.seq
 (.reg [⟨(some 28), (.mv (.s 5)), none, none⟩,
  ⟨(some 29), (.nilck (.s 28)), none, none⟩,
  ⟨(some 30), (.faddr 1 (.s 29)), none, none⟩,
  ⟨none, (.store 1 (.s 30) (.c (.int .i64 (0)))), none, none⟩])
 (.seqj [2, 3]
 (.seq
 (.reg [⟨(some 31), (.mv (.s 5)), none, none⟩,
  ⟨(some 32), (.loadn 4 (.s 3)), none, none⟩,
  ⟨(some 33), (.call 39 [(.s 31), (.s 32), (.c (.int .i64 (1)))]), none, none⟩,
  ⟨(some 34), (.eq (.one .i) true (.s 33) (.c (.int .i64 (0)))), none, none⟩])
 (.cond (.s 34)
 (.seq
 (.reg [⟨(some 4), (.mv (.c (.bool false))), none, none⟩])
 .ret)
 .skip))
 (.seq
 (.reg [⟨(some 35), .mkmap, none, none⟩,
  ⟨(some 8), (.mv (.s 35)), none, none⟩])
 (.seqj [3, 8]
 (.seq
 (.reg [⟨(some 36), (.faddr 4 (.s 2)), none, none⟩,
  ⟨(some 37), (.load1 (.s 36)), none, none⟩,
  ⟨(some 38), (.lenL (.s 37)), none, none⟩,
  ⟨(some 39), (.mv (.c (.int .i64 (0)))), none, none⟩])
 (.block 2
 (.loop [2, 3, 8, 38, 39]
 (.seq
 (.reg [⟨(some 40), (.bin .lss (.s 39) (.s 38)), none, none⟩])
 (.seqj [2, 3, 8, 38, 39]
 (.cond (.s 40)
 .skip
 (.exit 2))
 (.seqj [2, 3, 8, 38, 39]
 (.block 3
 (.seq
 (.reg [⟨(some 41), (.faddr 4 (.s 2)), none, none⟩,
  ⟨(some 42), (.load1 (.s 41)), none, none⟩,
  ⟨(some 43), (.lenL (.s 42)), none, none⟩,
  ⟨(some 44), (.mv (.c (.int .i64 (0)))), none, none⟩])
 (.block 4
 (.loop [2, 3, 8, 38, 39, 42, 43, 44]
 (.seq
 (.reg [⟨(some 45), (.bin .lss (.s 44) (.s 43)), none, none⟩])
 (.seqj [2, 3, 8, 38, 39, 42, 43, 44]
 (.cond (.s 45)
 .skip
 (.exit 4))
 (.seqj [2, 3, 8, 38, 39, 42, 43, 44]
 (.block 5
 (.seq
 (.reg [⟨(some 46), (.iaddrS 5 (.s 42) (.s 44)), none, none⟩,
  ⟨(some 47), (.loadn 5 (.s 46)), none, none⟩,
  ⟨(some 10), (.alloc [(ofL []), (.int .i64 (0)), (ofL []), .snil, .snil]), none, none⟩,
  ⟨none, (.store 5 (.s 10) (.s 47)), none, none⟩])
 (.drw [⟨(some 48), (.mv (.s 8)), none, none⟩,
  ⟨(some 49), (.faddr 0 (.s 10)), none, none⟩,
  ⟨(some 50), (.load1 (.s 49)), none, none⟩,
  ⟨(some 51), (.mv (.s 8)), none, none⟩,
  ⟨(some 52), (.faddr 0 (.s 10)), none, none⟩,
  ⟨(some 53), (.load1 (.s 52)), none, none⟩,
  ⟨(some 54), (.lookup (.one .s) (.bool false) false (.s 51) (.s 53)), none, none⟩,
  ⟨(some 55), (.mv (.s 54)), none, none⟩,
  ⟨(some 56), (.faddr 1 (.s 10)), (some (55, false)), none⟩,
  ⟨(some 57), (.loadn 4 (.s 56)), (some (55, false)), none⟩,
  ⟨(some 58), (.mv (.s 8)), (some (55, false)), none⟩,
  ⟨(some 59), (.call 59 [(.s 57), (.s 58), (.c (.int .i64 (1)))]), (some (55, false)), (some [49])⟩,
  ⟨(some 60), (.pick (.s 55) (.c (.bool true)) (.s 59)), none, none⟩,
  ⟨none, (.mupd (.one .s) (.s 48) (.s 50) (.s 60)), none, none⟩] [])))
 (.reg [⟨(some 61), (.bin .add (.s 44) (.c (.int .i64 (1)))), none, none⟩,
  ⟨(some 44), (.mv (.s 61)), none, none⟩]))))))))
 (.reg [⟨(some 62), (.bin .add (.s 39) (.c (.int .i64 (1)))), none, none⟩,
  ⟨(some 39), (.mv (.s 62)), none, none⟩])))))))
 (.seq
 (.reg [⟨(some 63), (.loadn 4 (.s 3)), none, none⟩,
  ⟨(some 64), (.mv (.s 8)), none, none⟩,
  ⟨(some 65), (.call 59 [(.s 63), (.s 64), (.c (.int .i64 (1)))]), none, none⟩,
  ⟨(some 4), (.mv (.s 65)), none, none⟩])
 .ret)))))))) }
theorem cf41_ok : compFn Try.prog Try.f41 [[2, 3, 5], [2, 3, 5, 16, 17, 18], [2, 3, 5, 16, 17, 18], [2, 3, 5, 16, 17, 18], [2, 3], [3, 8], [2, 3, 8, 38, 39], [2, 3, 8, 38, 39], [2, 3, 8, 38, 39], [2, 3, 8, 38, 39, 42, 43, 44], [2, 3, 8, 38, 39, 42, 43, 44], [2, 3, 8, 38, 39, 42, 43, 44]] = some cf_shape_Finite := by kernel_rfl
/- sprue/shape.ends -/
def cf_shape_ends : Eva.Fn := { ntmps := 32, res := [(.s 6)], body :=
 (.seq
 (.reg [⟨(some 3), (.box (.s 0)), none, none⟩,
  ⟨(some 4), (.box (.s 1)), none, none⟩,
  ⟨(some 5), (.box (.s 2)), none, none⟩,
  ⟨(some 6), (.mv (.c (.bool false))), none, none⟩])
 (.seqj [3, 4, 5]
 (.seq
 (.reg [⟨(some 8), (.load1 (.s 5)), none, none⟩,
  ⟨(some 9), (.bin .gtr (.s 8) (.c (.int .i64 (12)))), none, none⟩])
 (.cond (.s 9)
 (.seq
 (.reg [⟨(some 6), (.mv (.c (.bool false))), none, none⟩])
 .ret)
 .skip))
 (.seq
 (.reg [⟨(some 10), (.mkfn 69 [] [(.s 4), (.s 5)]), none, none⟩,
  ⟨(some 7), (.alloc [.fnil]), none, none⟩,
  ⟨none, (.store 1 (.s 7) (.s 10)), none, none⟩])
 (.seqj []
 (.seq
 (.reg [⟨(some 11), (.faddr 0 (.s 3)), none, none⟩,
  ⟨(some 12), (.load1 (.s 11)), none, none⟩])
 (.block 0
 (.seq
 (.reg [⟨(some 14), (.eq (.one .i) false (.s 12) (.c (.int .i64 (9)))), none, none⟩,
  ⟨(some 13), (.mv (.s 14)), none, none⟩])
 (.cond (.s 13)
 (.seq
 (.reg [⟨(some 15), (.load1 (.s 4)), none, none⟩,
  ⟨(some 16), (.faddr 1 (.s 3)), none, none⟩,
  ⟨(some 17), (.load1 (.s 16)), none, none⟩,
  ⟨(some 18), (.lookup (.one .s) (.bool false) false (.s 15) (.s 17)), none, none⟩,
  ⟨(some 6), (.mv (.s 18)), none, none⟩])
 .ret)
 (.seq
 (.reg [⟨(some 20), (.eq (.one .i) false (.s 12) (.c (.int .i64 (8)))), none, none⟩,
  ⟨(some 19), (.mv (.s 20)), none, none⟩])
 (.cond (.s 19)
 (.seq
 (.reg [⟨(some 21), (.faddr 3 (.s 3)), none, none⟩,
  ⟨(some 22), (.load1 (.s 21)), none, none⟩,
  ⟨(some 23), (.load1 (.s 7)), none, none⟩,
  ⟨(some 24), (.call 42 [(.s 22), (.s 23)]), none, none⟩,
  ⟨(some 6), (.mv (.s 24)), none, none⟩])
 .ret)
 (.seq
 (.reg [⟨(some 26), (.eq (.one .i) false (.s 12) (.c (.int .i64 (7)))), none, none⟩,
  ⟨(some 25), (.mv (.s 26)), none, none⟩])
 (.cond (.s 25)
 (.seq
 (.reg [⟨(some 27), (.faddr 3 (.s 3)), none, none⟩,
  ⟨(some 28), (.load1 (.s 27)), none, none⟩,
  ⟨(some 29), (.mkfn 70 [] [(.s 7)]), none, none⟩,
  ⟨(some 30), (.call 42 [(.s 28), (.s 29)]), none, none⟩,
  ⟨(some 31), (.not (.s 30)), none, none⟩,
  ⟨(some 6), (.mv (.s 31)), none, none⟩])
 .ret)
 .skip))))))))
 (.seq
 (.reg [⟨(some 6), (.mv (.c (.bool true))), none, none⟩])
 .ret))))) }
theorem cf59_ok : compFn Try.prog Try.f59 [[3, 4, 5], []] = some cf_shape_ends := by kernel_rfl
/- sprue/shape.ends$1 -/
def cf_shape_ends_1 : Eva.Fn := { ntmps := 10, res := [(.s 4)], body :=
 (.seq
 (.reg [⟨(some 3), (.box (.s 0)), none, none⟩,
  ⟨(some 4), (.mv (.c (.bool false))), none, none⟩])
 (.seq
 (.reg [⟨(some 5), (.loadn 4 (.s 3)), none, none⟩,
  ⟨(some 6), (.load1 (.s 1)), none, none⟩,
  ⟨(some 7), (.load1 (.s 2)), none, none⟩,
  ⟨(some 8), (.bin .add (.s 7) (.c (.int .i64 (1)))), none, none⟩,
  ⟨(some 9), (.call 59 [(.s 5), (.s 6), (.s 8)]), none, none⟩,
  ⟨(some 4), (.mv (.s 9)), none, none⟩])
 .ret)) }
theorem cf69_ok : compFn Try.prog Try.f69 [] = some cf_shape_ends_1 := by kernel_rfl
/- slices.ContainsFunc(()sprue/api.Type,sprue/api.Type) -/
def cf_slices_ContainsFunc_Type : Eva.Fn := { ntmps := 9, res := [(.s 4)], body :=
 (.seq
 (.reg [⟨(some 4), (.mv (.c (.bool false))), none, none⟩])
 (.seq
 (.reg [⟨(some 5), (.mv (.s 0)), none, none⟩,
  ⟨(some 6), (.mv (.s 1)), none, none⟩,
  ⟨(some 7), (.call 60 [(.s 5), (.s 6)]), none, none⟩,
  ⟨(some 8), (.bin .geq (.s 7) (.c (.int .i64 (0)))), none, none⟩,
  ⟨(some 4), (.mv (.s 8)), none, none⟩])
 .ret)) }
theorem cf42_ok : compFn Try.prog Try.f42 [] = some cf_slices_ContainsFunc_Type := by kernel_rfl
/- slices.IndexFunc(()sprue/api.Type,sprue/api.Type) -/
def cf_slices_IndexFunc_Type : Eva.Fn := { ntmps := 19, res := [(.s 4)], body :=
 (.seq
 (.reg [⟨(some 4), (.mv (.c (.int .i64 (0)))), none, none⟩])
 (.seqj []
 (.seq
 (.reg [⟨(some 6), (.mv (.s 0)), none, none⟩,
  ⟨(some 7), (.lenL (.s 6)), none, none⟩,
  ⟨(some 8), (.mv (.c (.int .i64 (0)))), none, none⟩])
 (.block 0
 (.loop [0, 1, 7, 8]
 (.seq
 (.reg [⟨(some 9), (.bin .lss (.s 8) (.s 7)), none, none⟩])
 (.seqj [0, 1, 7, 8]
 (.cond (.s 9)
 .skip
 (.exit 0))
 (.seqj [0, 1, 7, 8]
 (.block 1
 (.seq
 (.reg [⟨(some 10), (.mv (.s 8)), none, none⟩,
  ⟨(some 5), (.mv (.s 10)), none, none⟩])
 (.seq
 (.reg [⟨(some 11), (.mv (.s 1)), none, none⟩,
  ⟨(some 12), (.mv (.s 0)), none, none⟩,
  ⟨(some 13), (.mv (.s 5)), none, none⟩,
  ⟨(some 14), (.iaddrS 4 (.s 12) (.s 13)), none, none⟩,
  ⟨(some 15), (.loadn 4 (.s 14)), none, none⟩,
  ⟨(some 16), (.callv (.s 11) [(.s 15)]), none, none⟩])
 (.cond (.s 16)
 (.seq
 (.reg [⟨(some 17), (.mv (.s 5)), none, none⟩,
  ⟨(some 4), (.mv (.s 17)), none, none⟩])
 .ret)
 .skip))))
 (.reg [⟨(some 18), (.bin .add (.s 8) (.c (.int .i64 (1)))), none, none⟩,
  ⟨(some 8), (.mv (.s 18)), none, none⟩])))))))
 (.seq
 (.reg [⟨(some 4), (.mv (.c (.int .i64 (-1)))), none, none⟩])
 .ret))) }
theorem cf60_ok : compFn Try.prog Try.f60 [[], [0, 1, 7, 8], [0, 1, 7, 8], [0, 1, 7, 8]] = some cf_slices_IndexFunc_Type := by kernel_rfl
/- sprue/shape.ends$2 -/
def cf_shape_ends_2 : Eva.Fn := { ntmps := 8, res := [(.s 3)], body :=
 (.seq
 (.reg [⟨(some 2), (.box (.s 0)), none, none⟩,
  ⟨(some 3), (.mv (.c (.bool false))), none, none⟩])
 (.seq
 (.reg [⟨(some 4), (.load1 (.s 1)), none, none⟩,
  ⟨(some 5), (.loadn 4 (.s 2)), none, none⟩,
  ⟨(some 6), (.callv (.s 4) [(.s 5)]), none, none⟩,
  ⟨(some 7), (.not (.s 6)), none, none⟩,
  ⟨(some 3), (.mv (.s 7)), none, none⟩])
 .ret)) }
theorem cf70_ok : compFn Try.prog Try.f70 [] = some cf_shape_ends_2 := by kernel_rfl
/- sprue/shape.every -/
def cf_shape_every : Eva.Fn := { ntmps := 43, res := [(.s 2)], body :=
 (.seq
 (.reg [⟨(some 1), (.box (.s 0)), none, none⟩,
  ⟨(some 2), (.mv (.c .snil)), none, none⟩])
 (.seq
 (.reg [⟨(some 3), (.mv (.c .snil)), none, none⟩])
 (.seqj [1, 3]
 (.seq
 (.reg [⟨(some 8), (.faddr 4 (.s 1)), none, none⟩,
  ⟨(some 9), (.load1 (.s 8)), none, none⟩,
  ⟨(some 10), (.lenL (.s 9)), none, none⟩,
  ⟨(some 11), (.mv (.c (.int .i64 (0)))), none, none⟩])
 (.block 0
 (.loop [1, 3, 9, 10, 11]
 (.seq
 (.reg [⟨(some 12), (.bin .lss (.s 11) (.s 10)), none, none⟩])
 (.seqj [1, 3, 9, 10, 11]
 (.cond (.s 12)
 .skip
 (.exit 0))
 (.seqj [1, 3, 9, 10, 11]
 (.block 1
 (.seq
 (.reg [⟨(some 13), (.iaddrS 5 (.s 9) (.s 11)), none, none⟩,
  ⟨(some 14), (.loadn 5 (.s 13)), none, none⟩,
  ⟨(some 5), (.alloc [(ofL []), (.int .i64 (0)), (ofL []), .snil, .snil]), none, none⟩,
  ⟨none, (.store 5 (.s 5) (.s 14)), none, none⟩])
 (.reg [⟨(some 15), (.mv (.s 3)), none, none⟩,
  ⟨(some 16), (.faddr 1 (.s 5)), none, none⟩,
  ⟨(some 17), (.loadn 4 (.s 16)), none, none⟩,
  ⟨(some 18), (.bsl 4 1 [(.int .i64 (0)), (ofL []), .snil, .snil] [(0, 4, (.s 17))]), none, none⟩,
  ⟨(some 19), (.app 4 (.s 15) (.s 18)), none, none⟩,
  ⟨(some 3), (.mv (.s 19)), none, none⟩])))
 (.reg [⟨(some 20), (.bin .add (.s 11) (.c (.int .i64 (1)))), none, none⟩,
  ⟨(some 11), (.mv (.s 20)), none, none⟩])))))))
 (.seq
 (.reg [⟨(some 21), (.mv (.s 3)), none, none⟩,
  ⟨(some 22), (.faddr 0 (.s 1)), none, none⟩,
  ⟨(some 23), (.loadn 4 (.s 22)), none, none⟩,
  ⟨(some 24), (.bsl 4 1 [(.int .i64 (0)), (ofL []), .snil, .snil] [(0, 4, (.s 23))]), none, none⟩,
  ⟨(some 25), (.app 4 (.s 21) (.s 24)), none, none⟩,
  ⟨(some 3), (.mv (.s 25)), none, none⟩])
 (.seqj [3]
 (.seq
 (.reg [⟨(some 26), (.faddr 5 (.s 1)), none, none⟩,
  ⟨(some 27), (.load1 (.s 26)), none, none⟩,
  ⟨(some 28), (.lenL (.s 27)), none, none⟩,
  ⟨(some 29), (.mv (.c (.int .i64 (0)))), none, none⟩])
 (.block 2
 (.loop [3, 27, 28, 29]
 (.seq
 (.reg [⟨(some 30), (.bin .lss (.s 29) (.s 28)), none, none⟩])
 (.seqj [3, 27, 28, 29]
 (.cond (.s 30)
 .skip
 (.exit 2))
 (.seqj [3, 27, 28, 29]
 (.block 3
 (.seq
 (.reg [⟨(some 31), (.iaddrS 6 (.s 27) (.s 29)), none, none⟩,
  ⟨(some 32), (.loadn 6 (.s 31)), none, none⟩,
  ⟨(some 7), (.alloc [(ofL []), .snil, (.int .i64 (0)), (ofL []), .snil, .snil]), none, none⟩,
  ⟨none, (.store 6 (.s 7) (.s 32)), none, none⟩])
 (.drw [⟨(some 33), (.mv (.s 3)), none, none⟩,
  ⟨(some 34), (.faddr 1 (.s 7)), none, none⟩,
  ⟨(some 35), (.load1 (.s 34)), none, none⟩,
  ⟨(some 36), (.app 4 (.s 33) (.s 35)), none, none⟩,
  ⟨(some 37), (.faddr 2 (.s 7)), none, none⟩,
  ⟨(some 38), (.loadn 4 (.s 37)), none, none⟩,
  ⟨(some 39), (.bsl 4 1 [(.int .i64 (0)), (ofL []), .snil, .snil] [(0, 4, (.s 38))]), none, none⟩,
  ⟨(some 40), (.app 4 (.s 36) (.s 39)), none, none⟩,
  ⟨(some 3), (.mv (.s 40)), none, none⟩] [([33], [37])])))
 (.reg [⟨(some 41), (.bin .add (.s 29) (.c (.int .i64 (1)))), none, none⟩,
  ⟨(some 29), (.mv (.s 41)), none, none⟩])))))))
 (.seq
 (.reg [⟨(some 42), (.mv (.s 3)), none, none⟩,
  ⟨(some 2), (.mv (.s 42)), none, none⟩])
 .ret)))))) }
theorem cf43_ok : compFn Try.prog Try.f43 [[1, 3], [1, 3, 9, 10, 11], [1, 3, 9, 10, 11], [1, 3, 9, 10, 11], [3], [3, 27, 28, 29], [3, 27, 28, 29], [3, 27, 28, 29]] = some cf_shape_every := by kernel_rfl
/- (*sprue/shape.looker).opts -/
def cf_shape_looker_opts : Eva.Fn := { ntmps := 45, res := [(.s 4)], body :=
 (.seq
 (.reg [⟨(some 3), (.box (.s 1)), none, none⟩,
  ⟨(some 4), (.mv (.c (.bool false))), none, none⟩])
 (.seqj [0, 3]
 (.seq
 (.reg [⟨(some 6), (.faddr 0 (.s 3)), none, none⟩,
  ⟨(some 7), (.load1 (.s 6)), none, none⟩,
  ⟨(some 8), (.eq (.one .i) false (.s 7) (.c (.int .i64 (6)))), none, none⟩,
  ⟨(some 9), (.mv (.s 8)), none, none⟩,
  ⟨(some 10), (.faddr 3 (.s 3)), (some (9, true)), none⟩,
  ⟨(some 11), (.load1 (.s 10)), (some (9, true)), none⟩,
  ⟨(some 12), (.lenL (.s 11)), (some (9, true)), none⟩,
  ⟨(some 13), (.eq (.one .i) false (.s 12) (.c (.int .i64 (1)))), (some (9, true)), none⟩,
  ⟨(some 14), (.pick (.s 9) (.s 13) (.c (.bool false))), none, none⟩])
 (.cond (.s 14)
 (.seq
 (.reg [⟨(some 15), (.faddr 3 (.s 3)), none, none⟩,
  ⟨(some 16), (.load1 (.s 15)), none, none⟩,
  ⟨(some 17), (.iaddrS 4 (.s 16) (.c (.int .i64 (0)))), none, none⟩,
  ⟨(some 18), (.loadn 4 (.s 17)), none, none⟩,
  ⟨(some 5), (.alloc [(.int .i64 (0)), (ofL []), .snil, .snil]), none, none⟩,
  ⟨none, (.store 4 (.s 5) (.s 18)), none, none⟩])
 (.seqj [0, 3, 5]
 (.seq
 (.reg [⟨(some 19), (.mv (.s 0)), none, none⟩,
  ⟨(some 20), (.nilck (.s 19)), none, none⟩,
  ⟨(some 21), (.faddr 0 (.s 20)), none, none⟩,
  ⟨(some 22), (.load1 (.s 21)), none, none⟩,
  ⟨(some 23), (.rngM (.s 22)), none, none⟩])
 (.block 0
 (.loop [0, 3, 5, 23]
 (.seq
 (.reg [⟨(some 24), (.nextM (.s 23)), none, none⟩,
  ⟨(some 25), (.ext 0 (.s 24)), none, none⟩])
 (.seqj [0, 3, 5, 23]
 (.cond (.s 25)
 .skip
 (.exit 0))
 (.block 1
 (.seq
 (.reg [⟨(some 27), (.faddr 0 (.s 5)), none, none⟩,
  ⟨(some 28), (.load1 (.s 27)), none, none⟩,
  ⟨(some 29), (.eq (.one .i) false (.s 28) (.c (.int .i64 (9)))), none, none⟩])
 (.cond (.s 29)
 (.drw [⟨(some 30), (.mv (.s 0)), none, none⟩,
  ⟨(some 31), (.nilck (.s 30)), none, none⟩,
  ⟨(some 32), (.faddr 0 (.s 31)), none, none⟩,
  ⟨(some 33), (.load1 (.s 32)), none, none⟩,
  ⟨(some 34), (.faddr 1 (.s 5)), none, none⟩,
  ⟨(some 35), (.load1 (.s 34)), none, none⟩,
  ⟨(some 36), (.lookup (.one .s) (.agg [(.int .i64 (0)), (ofL []), .snil, .snil]) false (.s 33) (.s 35)), none, none⟩,
  ⟨none, (.store 4 (.s 5) (.s 36)), none, none⟩] [])
 .skip))))))))
 (.seq
 (.reg [⟨(some 37), (.faddr 0 (.s 5)), none, none⟩,
  ⟨(some 38), (.load1 (.s 37)), none, none⟩,
  ⟨(some 39), (.eq (.one .i) false (.s 38) (.c (.int .i64 (6)))), none, none⟩])
 (.cond (.s 39)
 (.seq
 (.reg [⟨(some 4), (.mv (.c (.bool true))), none, none⟩])
 .ret)
 .skip))))
 .skip))
 (.seq
 (.reg [⟨(some 40), (.faddr 3 (.s 3)), none, none⟩,
  ⟨(some 41), (.load1 (.s 40)), none, none⟩,
  ⟨(some 42), (.mv (.s 0)), none, none⟩,
  ⟨(some 43), (.mkfn 44 [(.s 42)] []), none, none⟩,
  ⟨(some 44), (.call 42 [(.s 41), (.s 43)]), none, none⟩,
  ⟨(some 4), (.mv (.s 44)), none, none⟩])
 .ret))) }
theorem cf44_ok : compFn Try.prog Try.f44 [[0, 3], [0, 3, 5], [0, 3, 5, 23], [0, 3, 5, 23]] = some cf_shape_looker_opts := by kernel_rfl
/- (*sprue/cons.Table).Add -/
def cf_cons_Table_Add : Eva.Fn := { ntmps := 12, res := [(.s 4), (.s 5)], body :=
 (.seq
 (.reg [⟨(some 3), (.box (.s 1)), none, none⟩,
  ⟨(some 4), (.mv (.c (.int .i64 (0)))), none, none⟩,
  ⟨(some 5), (.mv (.c (.int .i64 (0)))), none, none⟩])
 (.seq
 (.reg [⟨(some 6), (.alloc [(.int .i64 (0))]), none, none⟩,
  ⟨none, (.store 1 (.s 6) (.c (.int .i64 (400)))), none, none⟩])
 (.seq
 (.reg [⟨(some 7), (.mv (.s 0)), none, none⟩,
  ⟨(some 8), (.loadn 4 (.s 3)), none, none⟩,
  ⟨(some 9), (.call 27 [(.s 7), (.s 8), (.s 6)]), none, none⟩,
  ⟨(some 10), (.ext 0 (.s 9)), none, none⟩,
  ⟨(some 11), (.ext 1 (.s 9)), none, none⟩,
  ⟨(some 4), (.mv (.s 10)), none, none⟩,
  ⟨(some 5), (.mv (.s 11)), none, none⟩])
 .ret))) }
theorem cf12_ok : compFn Try.prog Try.f12 [] = some cf_cons_Table_Add := by kernel_rfl
/- (*sprue/cons.Table).add -/
def cf_cons_Table_add : Eva.Fn := { ntmps := 70, res := [(.s 6), (.s 7)], body :=
 (.seq
 (.reg [⟨(some 4), (.box (.s 1)), none, none⟩,
  ⟨(some 6), (.mv (.c (.int .i64 (0)))), none, none⟩,
  ⟨(some 7), (.mv (.c (.int .i64 (0)))), none, none⟩])
 (.seq
 (.reg [⟨(some 13), (.mv (.s 2)), none, none⟩,
  ⟨(some 14), (.nilck (.s 13)), none, none⟩,
  ⟨(some 15), (.load1 (.s 14)), none, none⟩,
  ⟨(some 16), (.bin .sub (.s 15) (.c (.int .i64 (1)))), none, none⟩,
  ⟨(some 17), (.nilck (.s 13)), none, none⟩,
  ⟨none, (.store 1 (.s 17) (.s 16)), none, none⟩])
 (.seqj [0, 2, 4]
 (.seq
 (.reg [⟨(some 18), (.mv (.s 2)), none, none⟩,
  ⟨(some 19), (.nilck (.s 18)), none, none⟩,
  ⟨(some 20), (.load1 (.s 19)), none, none⟩,
  ⟨(some 21), (.bin .lss (.s 20) (.c (.int .i64 (0)))), none, none⟩,
  ⟨(some 22), (.mv (.s 21)), none, none⟩,
  ⟨(some 23), (.faddr 3 (.s 4)), (some (22, false)), none⟩,
  ⟨(some 24), (.load1 (.s 23)), (some (22, false)), none⟩,
  ⟨(some 25), (.lenL (.s 24)), (some (22, false)), none⟩,
  ⟨(some 26), (.bin .gtr (.s 25) (.c (.int .i64 (8)))), (some (22, false)), none⟩,
  ⟨(some 27), (.pick (.s 22) (.c (.bool true)) (.s 26)), none, none⟩,
  ⟨(some 28), (.mv (.s 27)), none, none⟩,
  ⟨(some 29), (.faddr 2 (.s 4)), (some (28, false)), none⟩,
  ⟨(some 30), (.load1 (.s 29)), (some (28, false)), none⟩,
  ⟨(some 31), (.lenL (.s 30)), (some (28, false)), none⟩,
  ⟨(some 32), (.bin .gtr (.s 31) (.c (.int .i64 (8)))), (some (28, false)), none⟩,
  ⟨(some 33), (.pick (.s 28) (.c (.bool true)) (.s 32)), none, none⟩])
 (.cond (.s 33)
 (.seq
 (.reg [⟨(some 6), (.mv (.c (.int .i64 (0)))), none, none⟩,
  ⟨(some 7), (.mv (.c (.int .i64 (20)))), none, none⟩])
 .ret)
 .skip))
 (.seq
 (.reg [⟨(some 34), (.faddr 0 (.s 4)), none, none⟩,
  ⟨(some 35), (.load1 (.s 34)), none, none⟩,
  ⟨(some 36), (.faddr 1 (.s 4)), none, none⟩,
  ⟨(some 37), (.load1 (.s 36)), none, none⟩,
  ⟨(some 38), (.faddr 2 (.s 4)), none, none⟩,
  ⟨(some 39), (.load1 (.s 38)), none, none⟩,
  ⟨(some 40), (.build [(.int .i64 (0)), (ofL []), .snil, .snil] [(0, 1, (.s 35)), (1, 1, (.s 37)), (2, 1, (.s 39))]), none, none⟩,
  ⟨(some 8), (.alloc [(.int .i64 (0)), (ofL []), .snil, .snil]), none, none⟩,
  ⟨none, (.store 4 (.s 8) (.s 40)), none, none⟩])
 (.seqj [0, 8]
 (.seq
 (.reg [⟨(some 41), (.faddr 3 (.s 4)), none, none⟩,
  ⟨(some 42), (.load1 (.s 41)), none, none⟩,
  ⟨(some 43), (.lenL (.s 42)), none, none⟩,
  ⟨(some 44), (.mv (.c (.int .i64 (0)))), none, none⟩])
 (.block 0
 (.loop [0, 2, 8, 42, 43, 44]
 (.seq
 (.reg [⟨(some 45), (.bin .lss (.s 44) (.s 43)), none, none⟩])
 (.seqj [0, 2, 8, 42, 43, 44]
 (.cond (.s 45)
 .skip
 (.exit 0))
 (.seqj [0, 2, 8, 42, 43, 44]
 (.block 1
 (.seq
 (.reg [⟨(some 46), (.iaddrS 4 (.s 42) (.s 44)), none, none⟩,
  ⟨(some 47), (.loadn 4 (.s 46)), none, none⟩,
  ⟨(some 10), (.alloc [(.int .i64 (0)), (ofL []), .snil, .snil]), none, none⟩,
  ⟨none, (.store 4 (.s 10) (.s 47)), none, none⟩])
 (.seq
 (.reg [⟨(some 49), (.mv (.s 0)), none, none⟩,
  ⟨(some 50), (.loadn 4 (.s 10)), none, none⟩,
  ⟨(some 51), (.mv (.s 2)), none, none⟩,
  ⟨(some 52), (.call 27 [(.s 49), (.s 50), (.s 51)]), none, none⟩,
  ⟨(some 48), (.mv (.s 52)), none, none⟩,
  ⟨(some 53), (.ext 0 (.s 48)), none, none⟩,
  ⟨(some 54), (.ext 1 (.s 48)), none, none⟩,
  ⟨(some 11), (.mv (.s 53)), none, none⟩,
  ⟨(some 12), (.mv (.s 54)), none, none⟩])
 (.seqj [0, 2, 8, 11, 42, 43, 44]
 (.seq
 (.reg [⟨(some 55), (.mv (.s 12)), none, none⟩,
  ⟨(some 56), (.eq (.one .i) true (.s 55) (.c (.int .i64 (0)))), none, none⟩])
 (.cond (.s 56)
 (.seq
 (.reg [⟨(some 57), (.mv (.s 12)), none, none⟩,
  ⟨(some 6), (.mv (.c (.int .i64 (0)))), none, none⟩,
  ⟨(some 7), (.mv (.s 57)), none, none⟩])
 .ret)
 .skip))
 (.reg [⟨(some 58), (.faddr 3 (.s 8)), none, none⟩,
  ⟨(some 59), (.load1 (.s 58)), none, none⟩,
  ⟨(some 60), (.mv (.s 11)), none, none⟩,
  ⟨(some 61), (.bsl 1 1 [(.int .i64 (0))] [(0, 1, (.s 60))]), none, none⟩,
  ⟨(some 62), (.app 1 (.s 59) (.s 61)), none, none⟩,
  ⟨(some 63), (.faddr 3 (.s 8)), none, none⟩,
  ⟨none, (.store 1 (.s 63) (.s 62)), none, none⟩])))))
 (.reg [⟨(some 64), (.bin .add (.s 44) (.c (.int .i64 (1)))), none, none⟩,
  ⟨(some 44), (.mv (.s 64)), none, none⟩])))))))
 (.seq
 (.reg [⟨(some 65), (.mv (.s 0)), none, none⟩,
  ⟨(some 66), (.loadn 4 (.s 8)), none, none⟩,
  ⟨(some 67), (.call 28 [(.s 65), (.s 66)]), none, none⟩,
  ⟨(some 68), (.ext 0 (.s 67)), none, none⟩,
  ⟨(some 69), (.ext 1 (.s 67)), none, none⟩,
  ⟨(some 6), (.mv (.s 68)), none, none⟩,
  ⟨(some 7), (.mv (.s 69)), none, none⟩])
 .ret)))))) }
theorem cf27_ok : compFn Try.prog Try.f27 [[0, 2, 4], [0, 8], [0, 2, 8, 42, 43, 44], [0, 2, 8, 42, 43, 44], [0, 2, 8, 42, 43, 44], [0, 2, 8, 11, 42, 43, 44]] = some cf_cons_Table_add := by kernel_rfl
/- (*sprue/cons.Table).lay -/
def cf_cons_Table_lay : Eva.Fn := { ntmps := 76, res := [(.s 4), (.s 5)], body :=
 (.seq
 (.reg [⟨(some 3), (.box (.s 1)), none, none⟩,
  ⟨(some 4), (.mv (.c (.int .i64 (0)))), none, none⟩,
  ⟨(some 5), (.mv (.c (.int .i64 (0)))), none, none⟩])
 (.seq
 (.reg [⟨(some 9), (.loadn 4 (.s 3)), none, none⟩,
  ⟨(some 10), (.call 45 [(.s 9)]), none, none⟩,
  ⟨(some 6), (.alloc [(.int .i64 (0)), (.int .i64 (0)), (.int .i64 (0)), (ofL []), (ofL []), (ofL []), (ofL []), (ofL []), (ofL []), (ofL []), (ofL []), (ofL []), (.int .i64 (0)), (.int .i64 (0)), (.int .i64 (0)), (.int .i64 (0)), (.int .i64 (0)), (.int .i64 (0)), (.int .i64 (0)), (.int .i64 (0))]), none, none⟩,
  ⟨none, (.store 20 (.s 6) (.s 10)), none, none⟩])
 (.seqj [0, 3, 6]
 (.seq
 (.drw [⟨(some 12), (.mv (.s 0)), none, none⟩,
  ⟨(some 13), (.nilck (.s 12)), none, none⟩,
  ⟨(some 14), (.faddr 1 (.s 13)), none, none⟩,
  ⟨(some 15), (.load1 (.s 14)), none, none⟩,
  ⟨(some 16), (.loadn 20 (.s 6)), none, none⟩,
  ⟨(some 17), (.lookup (.many [.i, .i, .i, .s, .s, .s, .s, .s, .s, .s, .s, .s, .i, .i, .i, .i, .i, .i, .i, .i]) (.int .i64 (0)) true (.s 15) (.s 16)), none, none⟩,
  ⟨(some 11), (.mv (.s 17)), none, none⟩,
  ⟨(some 18), (.ext 0 (.s 11)), none, none⟩,
  ⟨(some 19), (.ext 1 (.s 11)), none, none⟩,
  ⟨(some 7), (.mv (.s 18)), none, none⟩,
  ⟨(some 8), (.mv (.s 19)), none, none⟩] [])
 (.seq
 (.drw [⟨(some 20), (.mv (.s 8)), none, none⟩,
  ⟨(some 21), (.mv (.s 20)), none, none⟩,
  ⟨(some 22), (.mv (.s 0)), (some (21, true)), none⟩,
  ⟨(some 23), (.nilck (.s 22)), (some (21, true)), none⟩,
  ⟨(some 24), (.faddr 0 (.s 23)), (some (21, true)), none⟩,
  ⟨(some 25), (.load1 (.s 24)), (some (21, true)), none⟩,
  ⟨(some 26), (.mv (.s 7)), (some (21, true)), none⟩,
  ⟨(some 27), (.iaddrS 4 (.s 25) (.s 26)), (some (21, true)), none⟩,
  ⟨(some 28), (.loadn 4 (.s 27)), (some (21, true)), none⟩,
  ⟨(some 29), (.call 45 [(.s 28)]), (some (21, true)), none⟩,
  ⟨(some 30), (.fld 12 (some 8) (.s 29)), (some (21, true)), none⟩,
  ⟨(some 31), (.faddr 12 (.s 6)), (some (21, true)), none⟩,
  ⟨(some 32), (.loadn 8 (.s 31)), (some (21, true)), none⟩,
  ⟨(some 33), (.eq (.many [.i, .i, .i, .i, .i, .i, .i, .i]) false (.s 30) (.s 32)), (some (21, true)), none⟩,
  ⟨(some 34), (.pick (.s 21) (.s 33) (.c (.bool false))), none, none⟩] [])
 (.cond (.s 34)
 (.seq
 (.reg [⟨(some 35), (.mv (.s 7)), none, none⟩,
  ⟨(some 4), (.mv (.s 35)), none, none⟩,
  ⟨(some 5), (.mv (.c (.int .i64 (0)))), none, none⟩])
 .ret)
 .skip)))
 (.seqj [0, 3, 6]
 (.seq
 (.reg [⟨(some 36), (.mv (.s 0)), none, none⟩,
  ⟨(some 37), (.nilck (.s 36)), none, none⟩,
  ⟨(some 38), (.faddr 0 (.s 37)), none, none⟩,
  ⟨(some 39), (.load1 (.s 38)), none, none⟩,
  ⟨(some 40), (.lenL (.s 39)), none, none⟩,
  ⟨(some 41), (.bin .geq (.s 40) (.c (.int .i64 (120)))), none, none⟩])
 (.cond (.s 41)
 (.seq
 (.reg [⟨(some 4), (.mv (.c (.int .i64 (0)))), none, none⟩,
  ⟨(some 5), (.mv (.c (.int .i64 (20)))), none, none⟩])
 .ret)
 .skip))
 (.seq
 (.drw [⟨(some 42), (.faddr 2 (.s 3)), none, none⟩,
  ⟨(some 43), (.load1 (.s 42)), none, none⟩,
  ⟨(some 44), (.call 33 [(.s 43)]), none, none⟩,
  ⟨(some 45), (.faddr 3 (.s 3)), none, none⟩,
  ⟨(some 46), (.load1 (.s 45)), none, none⟩,
  ⟨(some 47), (.call 34 [(.s 46)]), none, (some [])⟩,
  ⟨(some 48), (.faddr 2 (.s 3)), none, none⟩,
  ⟨none, (.store 1 (.s 48) (.s 44)), none, none⟩,
  ⟨(some 49), (.faddr 3 (.s 3)), none, none⟩,
  ⟨none, (.store 1 (.s 49) (.s 47)), none, none⟩] [])
 (.seq
 (.drw [⟨(some 50), (.mv (.s 0)), none, none⟩,
  ⟨(some 51), (.nilck (.s 50)), none, none⟩,
  ⟨(some 52), (.faddr 1 (.s 51)), none, none⟩,
  ⟨(some 53), (.load1 (.s 52)), none, none⟩,
  ⟨(some 54), (.loadn 20 (.s 6)), none, none⟩,
  ⟨(some 55), (.mv (.s 0)), none, none⟩,
  ⟨(some 56), (.nilck (.s 55)), none, none⟩,
  ⟨(some 57), (.faddr 0 (.s 56)), none, none⟩,
  ⟨(some 58), (.load1 (.s 57)), none, none⟩,
  ⟨(some 59), (.lenL (.s 58)), none, none⟩,
  ⟨none, (.mupd (.many [.i, .i, .i, .s, .s, .s, .s, .s, .s, .s, .s, .s, .i, .i, .i, .i, .i, .i, .i, .i]) (.s 53) (.s 54) (.s 59)), none, none⟩] [])
 (.seq
 (.drw [⟨(some 60), (.mv (.s 0)), none, none⟩,
  ⟨(some 61), (.mv (.s 0)), none, none⟩,
  ⟨(some 62), (.nilck (.s 61)), none, none⟩,
  ⟨(some 63), (.faddr 0 (.s 62)), none, none⟩,
  ⟨(some 64), (.load1 (.s 63)), none, none⟩,
  ⟨(some 65), (.loadn 4 (.s 3)), none, none⟩,
  ⟨(some 66), (.bsl 4 1 [(.int .i64 (0)), (ofL []), .snil, .snil] [(0, 4, (.s 65))]), none, none⟩,
  ⟨(some 67), (.app 4 (.s 64) (.s 66)), none, none⟩,
  ⟨(some 68), (.nilck (.s 60)), none, none⟩,
  ⟨(some 69), (.faddr 0 (.s 68)), none, none⟩,
  ⟨none, (.store 1 (.s 69) (.s 67)), none, none⟩] [])
 (.seq
 (.reg [⟨(some 70), (.mv (.s 0)), none, none⟩,
  ⟨(some 71), (.nilck (.s 70)), none, none⟩,
  ⟨(some 72), (.faddr 0 (.s 71)), none, none⟩,
  ⟨(some 73), (.load1 (.s 72)), none, none⟩,
  ⟨(some 74), (.lenL (.s 73)), none, none⟩,
  ⟨(some 75), (.bin .sub (.s 74) (.c (.int .i64 (1)))), none, none⟩,
  ⟨(some 4), (.mv (.s 75)), none, none⟩,
  ⟨(some 5), (.mv (.c (.int .i64 (0)))), none, none⟩])
 .ret)))))))) }
theorem cf28_ok : compFn Try.prog Try.f28 [[0, 3, 6], [0, 3, 6]] = some cf_cons_Table_lay := by kernel_rfl
/- sprue/cons.keyed -/
def cf_cons_keyed : Eva.Fn := { ntmps := 26, res := [(.cn 2 20)], body :=
 (.seq
 (.reg [⟨(some 1), (.box (.s 0)), none, none⟩,
  ⟨(some 2), (.alloc [(.int .i64 (0)), (.int .i64 (0)), (.int .i64 (0)), (ofL []), (ofL []), (ofL []), (ofL []), (ofL []), (ofL []), (ofL []), (ofL []), (ofL []), (.int .i64 (0)), (.int .i64 (0)), (.int .i64 (0)), (.int .i64 (0)), (.int .i64 (0)), (.int .i64 (0)), (.int .i64 (0)), (.int .i64 (0))]), none, none⟩])
 (.seq
 (.reg [⟨(some 4), (.faddr 0 (.s 1)), none, none⟩,
  ⟨(some 5), (.load1 (.s 4)), none, none⟩,
  ⟨(some 6), (.faddr 2 (.s 1)), none, none⟩,
  ⟨(some 7), (.load1 (.s 6)), none, none⟩,
  ⟨(some 8), (.lenL (.s 7)), none, none⟩,
  ⟨(some 9), (.faddr 3 (.s 1)), none, none⟩,
  ⟨(some 10), (.load1 (.s 9)), none, none⟩,
  ⟨(some 11), (.lenL (.s 10)), none, none⟩,
  ⟨(some 12), (.faddr 1 (.s 1)), none, none⟩,
  ⟨(some 13), (.load1 (.s 12)), none, none⟩,
  ⟨(some 14), (.build [(.int .i64 (0)), (.int .i64 (0)), (.int .i64 (0)), (ofL []), (ofL []), (ofL []), (ofL []), (ofL []), (ofL []), (ofL []), (ofL []), (ofL []), (.int .i64 (0)), (.int .i64 (0)), (.int .i64 (0)), (.int .i64 (0)), (.int .i64 (0)), (.int .i64 (0)), (.int .i64 (0)), (.int .i64 (0))] [(0, 1, (.s 5)), (1, 1, (.s 8)), (2, 1, (.s 11)), (3, 1, (.s 13))]), none, none⟩,
  ⟨(some 3), (.alloc [(.int .i64 (0)), (.int .i64 (0)), (.int .i64 (0)), (ofL []), (ofL []), (ofL []), (ofL []), (ofL []), (ofL []), (ofL []), (ofL []), (ofL []), (.int .i64 (0)), (.int .i64 (0)), (.int .i64 (0)), (.int .i64 (0)), (.int .i64 (0)), (.int .i64 (0)), (.int .i64 (0)), (.int .i64 (0))]), none, none⟩,
  ⟨none, (.store 20 (.s 3) (.s 14)), none, none⟩])
 (.seq
 (.drw [⟨(some 15), (.faddr 4 (.s 3)), none, none⟩,
  ⟨(some 16), (.cutA 8 1 (.s 15) none none none), none, none⟩,
  ⟨(some 17), (.faddr 2 (.s 1)), none, none⟩,
  ⟨(some 18), (.load1 (.s 17)), none, none⟩,
  ⟨(some 19), (.copy 1 (.s 16) (.s 18)), none, none⟩] [])
 (.seq
 (.drw [⟨(some 20), (.faddr 12 (.s 3)), none, none⟩,
  ⟨(some 21), (.cutA 8 1 (.s 20) none none none), none, none⟩,
  ⟨(some 22), (.faddr 3 (.s 1)), none, none⟩,
  ⟨(some 23), (.load1 (.s 22)), none, none⟩,
  ⟨(some 24), (.copy 1 (.s 21) (.s 23)), none, none⟩] [])
 (.seq
 (.reg [⟨(some 25), (.loadn 20 (.s 3)), none, none⟩,
  ⟨none, (.store 20 (.s 2) (.s 25)), none, none⟩])
 .ret))))) }
theorem cf45_ok : compFn Try.prog Try.f45 [] = some cf_cons_keyed := by kernel_rfl
/- slices.Clone(()string,string) -/
def cf_slices_Clone_string : Eva.Fn := { ntmps := 8, res := [(.s 2)], body :=
 (.seq
 (.reg [⟨(some 2), (.mv (.c .snil)), none, none⟩])
 (.seqj [0]
 (.seq
 (.reg [⟨(some 3), (.mv (.s 0)), none, none⟩,
  ⟨(some 4), (.eq (.one .l) false (.s 3) (.c .snil)), none, none⟩])
 (.cond (.s 4)
 (.seq
 (.reg [⟨(some 2), (.mv (.c .snil)), none, none⟩])
 .ret)
 .skip))
 (.seq
 (.reg [⟨(some 5), (.bsl 1 0 [] []), none, none⟩,
  ⟨(some 6), (.mv (.s 0)), none, none⟩,
  ⟨(some 7), (.app 1 (.s 5) (.s 6)), none, none⟩,
  ⟨(some 2), (.mv (.s 7)), none, none⟩])
 .ret))) }
theorem cf33_ok : compFn Try.prog Try.f33 [[0]] = some cf_slices_Clone_string := by kernel_rfl
/- slices.Clone(()int,int) -/
def cf_slices_Clone_int : Eva.Fn := { ntmps := 8, res := [(.s 2)], body :=
 (.seq
 (.reg [⟨(some 2), (.mv (.c .snil)), none, none⟩])
 (.seqj [0]
 (.seq
 (.reg [⟨(some 3), (.mv (.s 0)), none, none⟩,
  ⟨(some 4), (.eq (.one .l) false (.s 3) (.c .snil)), none, none⟩])
 (.cond (.s 4)
 (.seq
 (.reg [⟨(some 2), (.mv (.c .snil)), none, none⟩])
 .ret)
 .skip))
 (.seq
 (.reg [⟨(some 5), (.bsl 1 0 [] []), none, none⟩,
  ⟨(some 6), (.mv (.s 0)), none, none⟩,
  ⟨(some 7), (.app 1 (.s 5) (.s 6)), none, none⟩,
  ⟨(some 2), (.mv (.s 7)), none, none⟩])
 .ret))) }
theorem cf34_ok : compFn Try.prog Try.f34 [[0]] = some cf_slices_Clone_int := by kernel_rfl
/- (*sprue/cons.Table).Len -/
def cf_cons_Table_Len : Eva.Fn := { ntmps := 8, res := [(.s 2)], body :=
 (.seq
 (.reg [⟨(some 2), (.mv (.c (.int .i64 (0)))), none, none⟩])
 (.seq
 (.reg [⟨(some 3), (.mv (.s 0)), none, none⟩,
  ⟨(some 4), (.nilck (.s 3)), none, none⟩,
  ⟨(some 5), (.faddr 0 (.s 4)), none, none⟩,
  ⟨(some 6), (.load1 (.s 5)), none, none⟩,
  ⟨(some 7), (.lenL (.s 6)), none, none⟩,
  ⟨(some 2), (.mv (.s 7)), none, none⟩])
 .ret)) }
theorem cf14_ok : compFn Try.prog Try.f14 [] = some cf_cons_Table_Len := by kernel_rfl
/- (*sprue/cons.Table).Main -/
def cf_cons_Table_Main : Eva.Fn := { ntmps := 7, res := [(.s 2)], body :=
 (.seq
 (.reg [⟨(some 2), (.mv (.c (.int .i64 (0)))), none, none⟩])
 (.seq
 (.reg [⟨(some 3), (.mv (.s 0)), none, none⟩,
  ⟨(some 4), (.nilck (.s 3)), none, none⟩,
  ⟨(some 5), (.faddr 3 (.s 4)), none, none⟩,
  ⟨(some 6), (.load1 (.s 5)), none, none⟩,
  ⟨(some 2), (.mv (.s 6)), none, none⟩])
 .ret)) }
theorem cf18_ok : compFn Try.prog Try.f18 [] = some cf_cons_Table_Main := by kernel_rfl
/- sprue/spruelaw3.Few -/
def cf_spruelaw3_Few : Eva.Fn := { ntmps := 41, res := [(.s 4)], body :=
 (.seq
 (.reg [⟨(some 2), (.box (.s 0)), none, none⟩,
  ⟨(some 4), (.mv (.c (.int .i64 (0)))), none, none⟩])
 (.seqj [1, 2]
 (.seq
 (.reg [⟨(some 6), (.mv (.s 1)), none, none⟩,
  ⟨(some 7), (.bin .leq (.s 6) (.c (.int .i64 (0)))), none, none⟩,
  ⟨(some 8), (.mv (.s 7)), none, none⟩,
  ⟨(some 9), (.faddr 3 (.s 2)), (some (8, false)), none⟩,
  ⟨(some 10), (.load1 (.s 9)), (some (8, false)), none⟩,
  ⟨(some 11), (.lenL (.s 10)), (some (8, false)), none⟩,
  ⟨(some 12), (.bin .gtr (.s 11) (.c (.int .i64 (10)))), (some (8, false)), none⟩,
  ⟨(some 13), (.pick (.s 8) (.c (.bool true)) (.s 12)), none, none⟩,
  ⟨(some 14), (.mv (.s 13)), none, none⟩,
  ⟨(some 15), (.faddr 2 (.s 2)), (some (14, false)), none⟩,
  ⟨(some 16), (.load1 (.s 15)), (some (14, false)), none⟩,
  ⟨(some 17), (.lenL (.s 16)), (some (14, false)), none⟩,
  ⟨(some 18), (.bin .gtr (.s 17) (.c (.int .i64 (20)))), (some (14, false)), none⟩,
  ⟨(some 19), (.pick (.s 14) (.c (.bool true)) (.s 18)), none, none⟩])
 (.cond (.s 19)
 (.seq
 (.reg [⟨(some 4), (.mv (.c (.int .i64 (0)))), none, none⟩])
 .ret)
 .skip))
 (.seq
 (.reg [⟨(some 20), (.mv (.s 1)), none, none⟩,
  ⟨(some 21), (.bin .sub (.s 20) (.c (.int .i64 (1)))), none, none⟩,
  ⟨(some 1), (.mv (.s 21)), none, none⟩])
 (.seqj [1]
 (.seq
 (.reg [⟨(some 5), (.mv (.c (.int .i64 (0)))), none, none⟩])
 (.block 0
 (.loop [1, 2, 5]
 (.seqj [1, 2, 5]
 (.seq
 (.reg [⟨(some 22), (.mv (.s 5)), none, none⟩,
  ⟨(some 23), (.faddr 3 (.s 2)), none, none⟩,
  ⟨(some 24), (.load1 (.s 23)), none, none⟩,
  ⟨(some 25), (.lenL (.s 24)), none, none⟩,
  ⟨(some 26), (.bin .lss (.s 22) (.s 25)), none, none⟩,
  ⟨(some 27), (.mv (.s 26)), none, none⟩,
  ⟨(some 28), (.mv (.s 1)), (some (27, true)), none⟩,
  ⟨(some 29), (.bin .gtr (.s 28) (.c (.int .i64 (0)))), (some (27, true)), none⟩,
  ⟨(some 30), (.pick (.s 27) (.s 29) (.c (.bool false))), none, none⟩])
 (.cond (.s 30)
 .skip
 (.exit 0)))
 (.seqj [1, 2, 5]
 (.block 1
 (.reg [⟨(some 33), (.faddr 3 (.s 2)), none, none⟩,
  ⟨(some 34), (.load1 (.s 33)), none, none⟩,
  ⟨(some 35), (.mv (.s 5)), none, none⟩,
  ⟨(some 36), (.iaddrS 4 (.s 34) (.s 35)), none, none⟩,
  ⟨(some 37), (.loadn 4 (.s 36)), none, none⟩,
  ⟨(some 38), (.mv (.s 1)), none, none⟩,
  ⟨(some 39), (.call 15 [(.s 37), (.s 38)]), none, none⟩,
  ⟨(some 1), (.mv (.s 39)), none, none⟩]))
 (.reg [⟨(some 31), (.mv (.s 5)), none, none⟩,
  ⟨(some 32), (.bin .add (.s 31) (.c (.int .i64 (1)))), none, none⟩,
  ⟨(some 5), (.mv (.s 32)), none, none⟩]))))))
 (.seq
 (.reg [⟨(some 40), (.mv (.s 1)), none, none⟩,
  ⟨(some 4), (.mv (.s 40)), none, none⟩])
 .ret))))) }
theorem cf15_ok : compFn Try.prog Try.f15 [[1, 2], [1], [1, 2, 5], [1, 2, 5], [1, 2, 5]] = some cf_spruelaw3_Few := by kernel_rfl
/- sprue/spruelaw3.Tree -/
def cf_spruelaw3_Tree : Eva.Fn := { ntmps := 118, res := [(.cn 6 4)], body :=
 (.seq
 (.reg [⟨(some 3), (.box (.s 0)), none, none⟩,
  ⟨(some 6), (.alloc [(.int .i64 (0)), (ofL []), .snil, .snil]), none, none⟩])
 (.seq
 (.reg [⟨(some 11), (.faddr 0 (.s 3)), none, none⟩,
  ⟨(some 12), (.load1 (.s 11)), none, none⟩,
  ⟨(some 13), (.call 29 [(.s 12), (.c (.int .i64 (9)))]), none, none⟩,
  ⟨(some 14), (.bin .add (.c (.int .i64 (1))) (.s 13)), none, none⟩,
  ⟨(some 7), (.mv (.s 14)), none, none⟩])
 (.seqj [1, 2, 3, 6, 7]
 (.seq
 (.reg [⟨(some 15), (.mv (.s 7)), none, none⟩,
  ⟨(some 16), (.eq (.one .i) false (.s 15) (.c (.int .i64 (9)))), none, none⟩,
  ⟨(some 17), (.mv (.s 16)), none, none⟩,
  ⟨(some 18), (.mv (.s 2)), (some (17, true)), none⟩,
  ⟨(some 19), (.lenL (.s 18)), (some (17, true)), none⟩,
  ⟨(some 20), (.eq (.one .i) false (.s 19) (.c (.int .i64 (0)))), (some (17, true)), none⟩,
  ⟨(some 21), (.pick (.s 17) (.s 20) (.c (.bool false))), none, none⟩,
  ⟨(some 22), (.mv (.s 21)), none, none⟩,
  ⟨(some 23), (.mv (.s 1)), (some (22, false)), none⟩,
  ⟨(some 24), (.bin .leq (.s 23) (.c (.int .i64 (1)))), (some (22, false)), none⟩,
  ⟨(some 25), (.mv (.s 24)), (some (22, false)), none⟩,
  ⟨(some 26), (.mv (.s 7)), (some (25, true)), none⟩,
  ⟨(some 27), (.bin .geq (.s 26) (.c (.int .i64 (4)))), (some (25, true)), none⟩,
  ⟨(some 28), (.pick (.s 25) (.s 27) (.c (.bool false))), (some (22, false)), none⟩,
  ⟨(some 29), (.mv (.s 28)), (some (22, false)), none⟩,
  ⟨(some 30), (.mv (.s 7)), (some (29, true)), none⟩,
  ⟨(some 31), (.bin .leq (.s 30) (.c (.int .i64 (8)))), (some (29, true)), none⟩,
  ⟨(some 32), (.pick (.s 29) (.s 31) (.c (.bool false))), (some (22, false)), none⟩,
  ⟨(some 33), (.pick (.s 22) (.c (.bool true)) (.s 32)), none, none⟩])
 (.cond (.s 33)
 (.reg [⟨(some 7), (.mv (.c (.int .i64 (2)))), none, none⟩])
 .skip))
 (.seq
 (.reg [⟨(some 34), (.mv (.s 7)), none, none⟩,
  ⟨(some 35), (.build [(.int .i64 (0)), (ofL []), .snil, .snil] [(0, 1, (.s 34))]), none, none⟩,
  ⟨(some 8), (.alloc [(.int .i64 (0)), (ofL []), .snil, .snil]), none, none⟩,
  ⟨none, (.store 4 (.s 8) (.s 35)), none, none⟩])
 (.seqj [6, 8]
 (.seq
 (.reg [⟨(some 36), (.mv (.s 7)), none, none⟩])
 (.block 0
 (.seq
 (.reg [⟨(some 38), (.eq (.one .i) false (.s 36) (.c (.int .i64 (9)))), none, none⟩,
  ⟨(some 37), (.mv (.s 38)), none, none⟩])
 (.cond (.s 37)
 (.reg [⟨(some 39), (.mv (.s 2)), none, none⟩,
  ⟨(some 40), (.faddr 1 (.s 3)), none, none⟩,
  ⟨(some 41), (.load1 (.s 40)), none, none⟩,
  ⟨(some 42), (.mv (.s 2)), none, none⟩,
  ⟨(some 43), (.lenL (.s 42)), none, none⟩,
  ⟨(some 44), (.call 29 [(.s 41), (.s 43)]), none, none⟩,
  ⟨(some 45), (.iaddrS 1 (.s 39) (.s 44)), none, none⟩,
  ⟨(some 46), (.load1 (.s 45)), none, none⟩,
  ⟨(some 47), (.faddr 1 (.s 8)), none, none⟩,
  ⟨none, (.store 1 (.s 47) (.s 46)), none, none⟩])
 (.seqj [1, 2, 3, 6, 7, 8, 36, 48]
 (.seq
 (.reg [⟨(some 49), (.eq (.one .i) false (.s 36) (.c (.int .i64 (4)))), none, none⟩,
  ⟨(some 48), (.mv (.s 49)), none, none⟩])
 (.cond (.s 48)
 .skip
 (.seq
 (.reg [⟨(some 50), (.eq (.one .i) false (.s 36) (.c (.int .i64 (5)))), none, none⟩,
  ⟨(some 48), (.mv (.s 50)), none, none⟩])
 (.cond (.s 48)
 .skip
 (.reg [⟨(some 51), (.eq (.one .i) false (.s 36) (.c (.int .i64 (6)))), none, none⟩,
  ⟨(some 48), (.mv (.s 51)), none, none⟩])))))
 (.cond (.s 48)
 (.seq
 (.reg [⟨(some 52), (.loadn 4 (.s 3)), none, none⟩,
  ⟨(some 53), (.call 30 [(.s 52), (.c (.int .i64 (0)))]), none, none⟩,
  ⟨(some 54), (.mv (.s 1)), none, none⟩,
  ⟨(some 55), (.bin .sub (.s 54) (.c (.int .i64 (1)))), none, none⟩,
  ⟨(some 56), (.mv (.s 2)), none, none⟩,
  ⟨(some 57), (.call 16 [(.s 53), (.s 55), (.s 56)]), none, none⟩,
  ⟨(some 58), (.bsl 4 1 [(.int .i64 (0)), (ofL []), .snil, .snil] [(0, 4, (.s 57))]), none, none⟩,
  ⟨(some 59), (.faddr 3 (.s 8)), none, none⟩,
  ⟨none, (.store 1 (.s 59) (.s 58)), none, none⟩])
 (.seq
 (.reg [⟨(some 60), (.mv (.s 7)), none, none⟩,
  ⟨(some 61), (.eq (.one .i) false (.s 60) (.c (.int .i64 (6)))), none, none⟩,
  ⟨(some 62), (.mv (.s 61)), none, none⟩,
  ⟨(some 63), (.faddr 3 (.s 8)), (some (62, true)), none⟩,
  ⟨(some 64), (.load1 (.s 63)), (some (62, true)), none⟩,
  ⟨(some 65), (.iaddrS 4 (.s 64) (.c (.int .i64 (0)))), (some (62, true)), none⟩,
  ⟨(some 66), (.faddr 0 (.s 65)), (some (62, true)), none⟩,
  ⟨(some 67), (.load1 (.s 66)), (some (62, true)), none⟩,
  ⟨(some 68), (.eq (.one .i) false (.s 67) (.c (.int .i64 (6)))), (some (62, true)), none⟩,
  ⟨(some 69), (.pick (.s 62) (.s 68) (.c (.bool false))), none, none⟩])
 (.cond (.s 69)
 (.seq
 (.reg [⟨(some 70), (.faddr 3 (.s 8)), none, none⟩,
  ⟨(some 71), (.load1 (.s 70)), none, none⟩,
  ⟨(some 72), (.iaddrS 4 (.s 71) (.c (.int .i64 (0)))), none, none⟩,
  ⟨(some 73), (.loadn 4 (.s 72)), none, none⟩,
  ⟨none, (.store 4 (.s 6) (.s 73)), none, none⟩])
 .ret)
 .skip)))
 (.seqj [1, 2, 3, 6, 7, 8, 74]
 (.seq
 (.reg [⟨(some 75), (.eq (.one .i) false (.s 36) (.c (.int .i64 (7)))), none, none⟩,
  ⟨(some 74), (.mv (.s 75)), none, none⟩])
 (.cond (.s 74)
 .skip
 (.reg [⟨(some 76), (.eq (.one .i) false (.s 36) (.c (.int .i64 (8)))), none, none⟩,
  ⟨(some 74), (.mv (.s 76)), none, none⟩])))
 (.cond (.s 74)
 (.seq
 (.reg [⟨(some 9), (.mv (.c (.int .i64 (0)))), none, none⟩])
 (.block 1
 (.loop [1, 2, 3, 6, 7, 8, 9]
 (.seqj [1, 2, 3, 6, 7, 8, 9]
 (.seq
 (.reg [⟨(some 77), (.mv (.s 9)), none, none⟩,
  ⟨(some 78), (.faddr 2 (.s 3)), none, none⟩,
  ⟨(some 79), (.load1 (.s 78)), none, none⟩,
  ⟨(some 80), (.lenL (.s 79)), none, none⟩,
  ⟨(some 81), (.bin .lss (.s 77) (.s 80)), none, none⟩,
  ⟨(some 82), (.mv (.s 81)), none, none⟩,
  ⟨(some 83), (.mv (.s 9)), (some (82, true)), none⟩,
  ⟨(some 84), (.bin .lss (.s 83) (.c (.int .i64 (4)))), (some (82, true)), none⟩,
  ⟨(some 85), (.pick (.s 82) (.s 84) (.c (.bool false))), none, none⟩,
  ⟨(some 86), (.mv (.s 85)), none, none⟩,
  ⟨(some 87), (.mv (.s 9)), (some (86, false)), none⟩,
  ⟨(some 88), (.eq (.one .i) false (.s 87) (.c (.int .i64 (0)))), (some (86, false)), none⟩,
  ⟨(some 89), (.mv (.s 88)), (some (86, false)), none⟩,
  ⟨(some 90), (.mv (.s 7)), (some (89, true)), none⟩,
  ⟨(some 91), (.eq (.one .i) false (.s 90) (.c (.int .i64 (8)))), (some (89, true)), none⟩,
  ⟨(some 92), (.pick (.s 89) (.s 91) (.c (.bool false))), (some (86, false)), none⟩,
  ⟨(some 93), (.pick (.s 86) (.c (.bool true)) (.s 92)), none, none⟩])
 (.cond (.s 93)
 .skip
 (.exit 1)))
 (.seqj [1, 2, 3, 6, 7, 8, 9]
 (.block 2
 (.seq
 (.reg [⟨(some 10), (.mv (.c (ofL [117]))), none, none⟩])
 (.seqj [1, 2, 3, 6, 7, 8, 9, 10]
 (.seq
 (.reg [⟨(some 96), (.mv (.s 9)), none, none⟩,
  ⟨(some 97), (.faddr 2 (.s 3)), none, none⟩,
  ⟨(some 98), (.load1 (.s 97)), none, none⟩,
  ⟨(some 99), (.lenL (.s 98)), none, none⟩,
  ⟨(some 100), (.bin .lss (.s 96) (.s 99)), none, none⟩])
 (.cond (.s 100)
 (.reg [⟨(some 101), (.faddr 2 (.s 3)), none, none⟩,
  ⟨(some 102), (.load1 (.s 101)), none, none⟩,
  ⟨(some 103), (.mv (.s 9)), none, none⟩,
  ⟨(some 104), (.iaddrS 1 (.s 102) (.s 103)), none, none⟩,
  ⟨(some 105), (.load1 (.s 104)), none, none⟩,
  ⟨(some 106), (.call 31 [(.s 105)]), none, none⟩,
  ⟨(some 10), (.mv (.s 106)), none, none⟩])
 .skip))
 (.drw [⟨(some 107), (.loadn 4 (.s 8)), none, none⟩,
  ⟨(some 108), (.mv (.s 10)), none, none⟩,
  ⟨(some 109), (.loadn 4 (.s 3)), none, none⟩,
  ⟨(some 110), (.mv (.s 9)), none, none⟩,
  ⟨(some 111), (.call 30 [(.s 109), (.s 110)]), none, (some [8])⟩,
  ⟨(some 112), (.mv (.s 1)), none, none⟩,
  ⟨(some 113), (.bin .sub (.s 112) (.c (.int .i64 (1)))), none, none⟩,
  ⟨(some 114), (.mv (.s 2)), none, none⟩,
  ⟨(some 115), (.call 16 [(.s 111), (.s 113), (.s 114)]), none, (some [8])⟩,
  ⟨(some 116), (.call 32 [(.s 107), (.s 108), (.s 115)]), none, (some [])⟩,
  ⟨none, (.store 4 (.s 8) (.s 116)), none, none⟩] []))))
 (.reg [⟨(some 94), (.mv (.s 9)), none, none⟩,
  ⟨(some 95), (.bin .add (.s 94) (.c (.int .i64 (1)))), none, none⟩,
  ⟨(some 9), (.mv (.s 95)), none, none⟩]))))))
 .skip))))))))
 (.seq
 (.reg [⟨(some 117), (.loadn 4 (.s 8)), none, none⟩,
  ⟨none, (.store 4 (.s 6) (.s 117)), none, none⟩])
 .ret)))))) }
theorem cf16_ok : compFn Try.prog Try.f16 [[1, 2, 3, 6, 7], [6, 8], [1, 2, 3, 6, 7, 8, 36, 48], [1, 2, 3, 6, 7, 8, 74], [1, 2, 3, 6, 7, 8, 9], [1, 2, 3, 6, 7, 8, 9], [1, 2, 3, 6, 7, 8, 9], [1, 2, 3, 6, 7, 8, 9, 10]] = some cf_spruelaw3_Tree := by kernel_rfl
/- sprue/spruelaw3.within -/
def cf_spruelaw3_within : Eva.Fn := { ntmps := 15, res := [(.s 4)], body :=
 (.seq
 (.reg [⟨(some 4), (.mv (.c (.int .i64 (0)))), none, none⟩])
 (.seq
 (.reg [⟨(some 6), (.mv (.s 0)), none, none⟩,
  ⟨(some 7), (.mv (.s 1)), none, none⟩,
  ⟨(some 8), (.bin .rem (.s 6) (.s 7)), none, none⟩,
  ⟨(some 5), (.mv (.s 8)), none, none⟩])
 (.seqj [5]
 (.seq
 (.reg [⟨(some 9), (.mv (.s 5)), none, none⟩,
  ⟨(some 10), (.bin .lss (.s 9) (.c (.int .i64 (0)))), none, none⟩])
 (.cond (.s 10)
 (.reg [⟨(some 11), (.mv (.s 5)), none, none⟩,
  ⟨(some 12), (.mv (.s 1)), none, none⟩,
  ⟨(some 13), (.bin .add (.s 11) (.s 12)), none, none⟩,
  ⟨(some 5), (.mv (.s 13)), none, none⟩])
 .skip))
 (.seq
 (.reg [⟨(some 14), (.mv (.s 5)), none, none⟩,
  ⟨(some 4), (.mv (.s 14)), none, none⟩])
 .ret)))) }
theorem cf29_ok : compFn Try.prog Try.f29 [[5]] = some cf_spruelaw3_within := by kernel_rfl
/- sprue/spruelaw3.kid -/
def cf_spruelaw3_kid : Eva.Fn := { ntmps := 25, res := [(.cn 4 4)], body :=
 (.seq
 (.reg [⟨(some 2), (.box (.s 0)), none, none⟩,
  ⟨(some 4), (.alloc [(.int .i64 (0)), (.int .i64 (0)), .snil, .snil]), none, none⟩])
 (.seqj [1, 2, 4]
 (.seq
 (.reg [⟨(some 5), (.faddr 3 (.s 2)), none, none⟩,
  ⟨(some 6), (.load1 (.s 5)), none, none⟩,
  ⟨(some 7), (.lenL (.s 6)), none, none⟩,
  ⟨(some 8), (.eq (.one .i) false (.s 7) (.c (.int .i64 (0)))), none, none⟩])
 (.cond (.s 8)
 (.seq
 (.reg [⟨(some 9), (.faddr 1 (.s 2)), none, none⟩,
  ⟨(some 10), (.load1 (.s 9)), none, none⟩,
  ⟨(some 11), (.mv (.s 1)), none, none⟩,
  ⟨(some 12), (.bin .add (.s 10) (.s 11)), none, none⟩,
  ⟨(some 13), (.faddr 0 (.s 2)), none, none⟩,
  ⟨(some 14), (.load1 (.s 13)), none, none⟩,
  ⟨(some 15), (.build [(.int .i64 (0)), (.int .i64 (0)), .snil, .snil] [(0, 1, (.s 12)), (1, 1, (.s 14))]), none, none⟩,
  ⟨none, (.store 4 (.s 4) (.s 15)), none, none⟩])
 .ret)
 .skip))
 (.seq
 (.drw [⟨(some 16), (.faddr 3 (.s 2)), none, none⟩,
  ⟨(some 17), (.load1 (.s 16)), none, none⟩,
  ⟨(some 18), (.mv (.s 1)), none, none⟩,
  ⟨(some 19), (.faddr 3 (.s 2)), none, none⟩,
  ⟨(some 20), (.load1 (.s 19)), none, none⟩,
  ⟨(some 21), (.lenL (.s 20)), none, none⟩,
  ⟨(some 22), (.bin .rem (.s 18) (.s 21)), none, none⟩,
  ⟨(some 23), (.iaddrS 4 (.s 17) (.s 22)), none, none⟩,
  ⟨(some 24), (.loadn 4 (.s 23)), none, none⟩,
  ⟨none, (.store 4 (.s 4) (.s 24)), none, none⟩] [])
 .ret))) }
theorem cf30_ok : compFn Try.prog Try.f30 [[1, 2, 4]] = some cf_spruelaw3_kid := by kernel_rfl
/- sprue/spruelaw3.Name -/
def cf_spruelaw3_Name : Eva.Fn := { ntmps := 8, res := [(.s 2)], body :=
 (.seq
 (.reg [⟨(some 2), (.mv (.c (ofL []))), none, none⟩])
 (.seq
 (.reg [⟨(some 3), (.bsl 1 7 [(ofL []), (ofL []), (ofL []), (ofL []), (ofL []), (ofL []), (ofL [])] [(0, 1, (.c (ofL [97]))), (1, 1, (.c (ofL [98]))), (2, 1, (.c (ofL [99]))), (3, 1, (.c (ofL [110, 97, 109, 101]))), (4, 1, (.c (ofL [110]))), (5, 1, (.c (ofL [73, 110, 116]))), (6, 1, (.c (ofL [116, 121, 112, 101])))]), none, none⟩,
  ⟨(some 4), (.mv (.s 0)), none, none⟩,
  ⟨(some 5), (.call 29 [(.s 4), (.c (.int .i64 (7)))]), none, none⟩,
  ⟨(some 6), (.iaddrS 1 (.s 3) (.s 5)), none, none⟩,
  ⟨(some 7), (.load1 (.s 6)), none, none⟩,
  ⟨(some 2), (.mv (.s 7)), none, none⟩])
 .ret)) }
theorem cf31_ok : compFn Try.prog Try.f31 [] = some cf_spruelaw3_Name := by kernel_rfl
/- sprue/spruelaw3.put -/
def cf_spruelaw3_put : Eva.Fn := { ntmps := 74, res := [(.cn 6 4)], body :=
 (.seq
 (.reg [⟨(some 3), (.box (.s 0)), none, none⟩,
  ⟨(some 5), (.box (.s 2)), none, none⟩,
  ⟨(some 6), (.alloc [(.int .i64 (0)), (ofL []), .snil, .snil]), none, none⟩])
 (.seq
 (.reg [⟨(some 7), (.mv (.c (.int .i64 (0)))), none, none⟩])
 (.seqj [1, 3, 5, 6, 7]
 (.block 0
 (.loop [1, 3, 5, 6, 7]
 (.seqj [1, 3, 5, 6, 7]
 (.seq
 (.reg [⟨(some 10), (.mv (.s 7)), none, none⟩,
  ⟨(some 11), (.faddr 2 (.s 3)), none, none⟩,
  ⟨(some 12), (.load1 (.s 11)), none, none⟩,
  ⟨(some 13), (.lenL (.s 12)), none, none⟩,
  ⟨(some 14), (.bin .lss (.s 10) (.s 13)), none, none⟩,
  ⟨(some 15), (.mv (.s 14)), none, none⟩,
  ⟨(some 16), (.faddr 2 (.s 3)), (some (15, true)), none⟩,
  ⟨(some 17), (.load1 (.s 16)), (some (15, true)), none⟩,
  ⟨(some 18), (.mv (.s 7)), (some (15, true)), none⟩,
  ⟨(some 19), (.iaddrS 1 (.s 17) (.s 18)), (some (15, true)), none⟩,
  ⟨(some 20), (.load1 (.s 19)), (some (15, true)), none⟩,
  ⟨(some 21), (.mv (.s 1)), (some (15, true)), none⟩,
  ⟨(some 22), (.bin .lss (.s 20) (.s 21)), (some (15, true)), none⟩,
  ⟨(some 23), (.pick (.s 15) (.s 22) (.c (.bool false))), none, none⟩])
 (.cond (.s 23)
 .skip
 (.exit 0)))
 (.block 1
 (.reg [⟨(some 24), (.mv (.s 7)), none, none⟩,
  ⟨(some 25), (.bin .add (.s 24) (.c (.int .i64 (1)))), none, none⟩,
  ⟨(some 7), (.mv (.s 25)), none, none⟩])))))
 (.seqj [1, 3, 5, 6, 7]
 (.seq
 (.reg [⟨(some 26), (.mv (.s 7)), none, none⟩,
  ⟨(some 27), (.faddr 2 (.s 3)), none, none⟩,
  ⟨(some 28), (.load1 (.s 27)), none, none⟩,
  ⟨(some 29), (.lenL (.s 28)), none, none⟩,
  ⟨(some 30), (.bin .lss (.s 26) (.s 29)), none, none⟩,
  ⟨(some 31), (.mv (.s 30)), none, none⟩,
  ⟨(some 32), (.faddr 2 (.s 3)), (some (31, true)), none⟩,
  ⟨(some 33), (.load1 (.s 32)), (some (31, true)), none⟩,
  ⟨(some 34), (.mv (.s 7)), (some (31, true)), none⟩,
  ⟨(some 35), (.iaddrS 1 (.s 33) (.s 34)), (some (31, true)), none⟩,
  ⟨(some 36), (.load1 (.s 35)), (some (31, true)), none⟩,
  ⟨(some 37), (.mv (.s 1)), (some (31, true)), none⟩,
  ⟨(some 38), (.eq (.one .s) false (.s 36) (.s 37)), (some (31, true)), none⟩,
  ⟨(some 39), (.pick (.s 31) (.s 38) (.c (.bool false))), none, none⟩])
 (.cond (.s 39)
 (.seq
 (.reg [⟨(some 40), (.loadn 4 (.s 3)), none, none⟩,
  ⟨none, (.store 4 (.s 6) (.s 40)), none, none⟩])
 .ret)
 .skip))
 (.seq
 (.reg [⟨(some 41), (.bsl 1 0 [] []), none, none⟩,
  ⟨(some 42), (.faddr 2 (.s 3)), none, none⟩,
  ⟨(some 43), (.load1 (.s 42)), none, none⟩,
  ⟨(some 44), (.mv (.s 7)), none, none⟩,
  ⟨(some 45), (.cutL 1 (.s 43) none (some (.s 44)) none), none, none⟩,
  ⟨(some 46), (.app 1 (.s 41) (.s 45)), none, none⟩,
  ⟨(some 8), (.mv (.s 46)), none, none⟩])
 (.seq
 (.reg [⟨(some 47), (.bsl 4 0 [] []), none, none⟩,
  ⟨(some 48), (.faddr 3 (.s 3)), none, none⟩,
  ⟨(some 49), (.load1 (.s 48)), none, none⟩,
  ⟨(some 50), (.mv (.s 7)), none, none⟩,
  ⟨(some 51), (.cutL 4 (.s 49) none (some (.s 50)) none), none, none⟩,
  ⟨(some 52), (.app 4 (.s 47) (.s 51)), none, none⟩,
  ⟨(some 9), (.mv (.s 52)), none, none⟩])
 (.seq
 (.drw [⟨(some 53), (.mv (.s 8)), none, none⟩,
  ⟨(some 54), (.mv (.s 1)), none, none⟩,
  ⟨(some 55), (.bsl 1 1 [(ofL [])] [(0, 1, (.s 54))]), none, none⟩,
  ⟨(some 56), (.app 1 (.s 53) (.s 55)), none, none⟩,
  ⟨(some 57), (.faddr 2 (.s 3)), none, none⟩,
  ⟨(some 58), (.load1 (.s 57)), none, none⟩,
  ⟨(some 59), (.mv (.s 7)), none, none⟩,
  ⟨(some 60), (.cutL 1 (.s 58) (some (.s 59)) none none), none, none⟩,
  ⟨(some 61), (.app 1 (.s 56) (.s 60)), none, none⟩,
  ⟨(some 62), (.mv (.s 9)), none, none⟩,
  ⟨(some 63), (.loadn 4 (.s 5)), none, none⟩,
  ⟨(some 64), (.bsl 4 1 [(.int .i64 (0)), (ofL []), .snil, .snil] [(0, 4, (.s 63))]), none, none⟩,
  ⟨(some 65), (.app 4 (.s 62) (.s 64)), none, none⟩,
  ⟨(some 66), (.faddr 3 (.s 3)), none, none⟩,
  ⟨(some 67), (.load1 (.s 66)), none, none⟩,
  ⟨(some 68), (.mv (.s 7)), none, none⟩,
  ⟨(some 69), (.cutL 4 (.s 67) (some (.s 68)) none none), none, none⟩,
  ⟨(some 70), (.app 4 (.s 65) (.s 69)), none, none⟩,
  ⟨(some 71), (.faddr 2 (.s 3)), none, none⟩,
  ⟨none, (.store 1 (.s 71) (.s 61)), none, none⟩,
  ⟨(some 72), (.faddr 3 (.s 3)), none, none⟩,
  ⟨none, (.store 1 (.s 72) (.s 70)), none, none⟩] [([53], [57]), ([53], [5]), ([53], [66]), ([56], [5]), ([56], [66]), ([62], [66])])
 (.seq
 (.reg [⟨(some 73), (.loadn 4 (.s 3)), none, none⟩,
  ⟨none, (.store 4 (.s 6) (.s 73)), none, none⟩])
 .ret)))))))) }
theorem cf32_ok : compFn Try.prog Try.f32 [[1, 3, 5, 6, 7], [1, 3, 5, 6, 7], [1, 3, 5, 6, 7], [1, 3, 5, 6, 7]] = some cf_spruelaw3_put := by kernel_rfl
/- sprue/spruelaw5.within -/
def cf_spruelaw5_within : Eva.Fn := { ntmps := 15, res := [(.s 4)], body :=
 (.seq
 (.reg [⟨(some 4), (.mv (.c (.int .i64 (0)))), none, none⟩])
 (.seq
 (.reg [⟨(some 6), (.mv (.s 0)), none, none⟩,
  ⟨(some 7), (.mv (.s 1)), none, none⟩,
  ⟨(some 8), (.bin .rem (.s 6) (.s 7)), none, none⟩,
  ⟨(some 5), (.mv (.s 8)), none, none⟩])
 (.seqj [5]
 (.seq
 (.reg [⟨(some 9), (.mv (.s 5)), none, none⟩,
  ⟨(some 10), (.bin .lss (.s 9) (.c (.int .i64 (0)))), none, none⟩])
 (.cond (.s 10)
 (.reg [⟨(some 11), (.mv (.s 5)), none, none⟩,
  ⟨(some 12), (.mv (.s 1)), none, none⟩,
  ⟨(some 13), (.bin .add (.s 11) (.s 12)), none, none⟩,
  ⟨(some 5), (.mv (.s 13)), none, none⟩])
 .skip))
 (.seq
 (.reg [⟨(some 14), (.mv (.s 5)), none, none⟩,
  ⟨(some 4), (.mv (.s 14)), none, none⟩])
 .ret)))) }
theorem cf11_ok : compFn Try.prog Try.f11 [[5]] = some cf_spruelaw5_within := by kernel_rfl
/- (*sprue/cons.Table).Node -/
def cf_cons_Table_Node : Eva.Fn := { ntmps := 35, res := [(.cn 4 4), (.s 5)], body :=
 (.seq
 (.reg [⟨(some 4), (.alloc [(.int .i64 (0)), (ofL []), .snil, .snil]), none, none⟩,
  ⟨(some 5), (.mv (.c (.bool false))), none, none⟩])
 (.seqj [0, 1, 4]
 (.seq
 (.reg [⟨(some 7), (.mv (.s 1)), none, none⟩,
  ⟨(some 8), (.bin .lss (.s 7) (.c (.int .i64 (0)))), none, none⟩,
  ⟨(some 9), (.mv (.s 8)), none, none⟩,
  ⟨(some 10), (.mv (.s 1)), (some (9, false)), none⟩,
  ⟨(some 11), (.mv (.s 0)), (some (9, false)), none⟩,
  ⟨(some 12), (.nilck (.s 11)), (some (9, false)), none⟩,
  ⟨(some 13), (.faddr 0 (.s 12)), (some (9, false)), none⟩,
  ⟨(some 14), (.load1 (.s 13)), (some (9, false)), none⟩,
  ⟨(some 15), (.lenL (.s 14)), (some (9, false)), none⟩,
  ⟨(some 16), (.bin .geq (.s 10) (.s 15)), (some (9, false)), none⟩,
  ⟨(some 17), (.pick (.s 9) (.c (.bool true)) (.s 16)), none, none⟩])
 (.cond (.s 17)
 (.seq
 (.reg [⟨(some 18), (.build [(.int .i64 (0)), (ofL []), .snil, .snil] []), none, none⟩,
  ⟨none, (.store 4 (.s 4) (.s 18)), none, none⟩,
  ⟨(some 5), (.mv (.c (.bool false))), none, none⟩])
 .ret)
 .skip))
 (.seq
 (.reg [⟨(some 19), (.mv (.s 0)), none, none⟩,
  ⟨(some 20), (.nilck (.s 19)), none, none⟩,
  ⟨(some 21), (.faddr 0 (.s 20)), none, none⟩,
  ⟨(some 22), (.load1 (.s 21)), none, none⟩,
  ⟨(some 23), (.mv (.s 1)), none, none⟩,
  ⟨(some 24), (.iaddrS 4 (.s 22) (.s 23)), none, none⟩,
  ⟨(some 25), (.loadn 4 (.s 24)), none, none⟩,
  ⟨(some 6), (.alloc [(.int .i64 (0)), (ofL []), .snil, .snil]), none, none⟩,
  ⟨none, (.store 4 (.s 6) (.s 25)), none, none⟩])
 (.seq
 (.drw [⟨(some 26), (.faddr 2 (.s 6)), none, none⟩,
  ⟨(some 27), (.load1 (.s 26)), none, none⟩,
  ⟨(some 28), (.call 33 [(.s 27)]), none, none⟩,
  ⟨(some 29), (.faddr 3 (.s 6)), none, none⟩,
  ⟨(some 30), (.load1 (.s 29)), none, none⟩,
  ⟨(some 31), (.call 34 [(.s 30)]), none, (some [])⟩,
  ⟨(some 32), (.faddr 2 (.s 6)), none, none⟩,
  ⟨none, (.store 1 (.s 32) (.s 28)), none, none⟩,
  ⟨(some 33), (.faddr 3 (.s 6)), none, none⟩,
  ⟨none, (.store 1 (.s 33) (.s 31)), none, none⟩] [])
 (.seq
 (.reg [⟨(some 34), (.loadn 4 (.s 6)), none, none⟩,
  ⟨none, (.store 4 (.s 4) (.s 34)), none, none⟩,
  ⟨(some 5), (.mv (.c (.bool true))), none, none⟩])
 .ret))))) }
theorem cf17_ok : compFn Try.prog Try.f17 [[0, 1, 4]] = some cf_cons_Table_Node := by kernel_rfl
noncomputable def tabD : BT :=
  (.node 38 (.node 25 (.node 12 (.node 9 (.node 4 (.leaf 4 (fnD 1000000 cf_spruelaw5_ConsShares))
  (.leaf 9 (fnD 1000000 cf_spruelaw5_known)))
  (.node 10 (.leaf 10 (fnD 1000000 cf_cons_New))
  (.node 11 (.leaf 11 (fnD 1000000 cf_spruelaw5_within))
  (.leaf 12 (fnD 1000000 cf_cons_Table_Add)))))
  (.node 16 (.node 14 (.leaf 14 (fnD 1000000 cf_cons_Table_Len))
  (.node 15 (.leaf 15 (fnD 1000000 cf_spruelaw3_Few))
  (.leaf 16 (fnD 1000000 cf_spruelaw3_Tree))))
  (.node 17 (.leaf 17 (fnD 1000000 cf_cons_Table_Node))
  (.node 18 (.leaf 18 (fnD 1000000 cf_cons_Table_Main))
  (.leaf 25 (fnD 1000000 cf_shape_Check))))))
  (.node 30 (.node 27 (.node 26 (.leaf 26 (fnD 1000000 cf_slices_Clone_Type))
  (.leaf 27 (fnD 1000000 cf_cons_Table_add)))
  (.node 28 (.leaf 28 (fnD 1000000 cf_cons_Table_lay))
  (.node 29 (.leaf 29 (fnD 1000000 cf_spruelaw3_within))
  (.leaf 30 (fnD 1000000 cf_spruelaw3_kid)))))
  (.node 33 (.node 31 (.leaf 31 (fnD 1000000 cf_spruelaw3_Name))
  (.node 32 (.leaf 32 (fnD 1000000 cf_spruelaw3_put))
  (.leaf 33 (fnD 1000000 cf_slices_Clone_string))))
  (.node 34 (.leaf 34 (fnD 1000000 cf_slices_Clone_int))
  (.node 37 (.leaf 37 (fnD 1000000 cf_shape_types))
  (.leaf 38 (fnD 1000000 cf_shape_named)))))))
  (.node 56 (.node 43 (.node 40 (.node 39 (.leaf 39 (fnD 1000000 cf_shape_looker_may))
  (.leaf 40 (fnD 1000000 cf_shape_looker_sigs)))
  (.node 41 (.leaf 41 (fnD 1000000 cf_shape_Finite))
  (.node 42 (.leaf 42 (fnD 1000000 cf_slices_ContainsFunc_Type))
  (.leaf 43 (fnD 1000000 cf_shape_every)))))
  (.node 53 (.node 44 (.leaf 44 (fnD 1000000 cf_shape_looker_opts))
  (.node 45 (.leaf 45 (fnD 1000000 cf_cons_keyed))
  (.leaf 53 (fnD 1000000 cf_scan_Ident))))
  (.node 54 (.leaf 54 (hookE containsG))
  (.node 55 (.leaf 55 (fnD 1000000 cf_shape_kids))
  (.leaf 56 (fnD 1000000 cf_shape_fields))))))
  (.node 66 (.node 58 (.node 57 (.leaf 57 (fnD 1000000 cf_shape_Builtin))
  (.leaf 58 (fnD 1000000 cf_shape_looker_all)))
  (.node 59 (.leaf 59 (fnD 1000000 cf_shape_ends))
  (.node 60 (.leaf 60 (fnD 1000000 cf_slices_IndexFunc_Type))
  (.leaf 66 (fnD 1000000 cf_scan_digit)))))
  (.node 70 (.node 67 (.leaf 67 (fnD 1000000 cf_scan_row))
  (.node 69 (.leaf 69 (fnD 1000000 cf_shape_ends_1))
  (.leaf 70 (fnD 1000000 cf_shape_ends_2))))
  (.node 73 (.leaf 73 (fnD 1000000 cf_scan_front))
  (.node 74 (.leaf 74 (fnD 1000000 cf_scan_row_1))
  (.leaf 75 (fnD 1000000 cf_scan_letter))))))))
abbrev n_spruelaw5_ConsShares : Nat := 4
theorem at_spruelaw5_ConsShares : tabT tabD 4 = some (evFn 1000000 cf_spruelaw5_ConsShares) := by kernel_rfl
abbrev n_spruelaw5_known : Nat := 9
theorem at_spruelaw5_known : tabT tabD 9 = some (evFn 1000000 cf_spruelaw5_known) := by kernel_rfl
abbrev n_cons_New : Nat := 10
theorem at_cons_New : tabT tabD 10 = some (evFn 1000000 cf_cons_New) := by kernel_rfl
abbrev n_spruelaw5_within : Nat := 11
theorem at_spruelaw5_within : tabT tabD 11 = some (evFn 1000000 cf_spruelaw5_within) := by kernel_rfl
abbrev n_cons_Table_Add : Nat := 12
theorem at_cons_Table_Add : tabT tabD 12 = some (evFn 1000000 cf_cons_Table_Add) := by kernel_rfl
abbrev n_cons_Table_Len : Nat := 14
theorem at_cons_Table_Len : tabT tabD 14 = some (evFn 1000000 cf_cons_Table_Len) := by kernel_rfl
abbrev n_spruelaw3_Few : Nat := 15
theorem at_spruelaw3_Few : tabT tabD 15 = some (evFn 1000000 cf_spruelaw3_Few) := by kernel_rfl
abbrev n_spruelaw3_Tree : Nat := 16
theorem at_spruelaw3_Tree : tabT tabD 16 = some (evFn 1000000 cf_spruelaw3_Tree) := by kernel_rfl
abbrev n_cons_Table_Node : Nat := 17
theorem at_cons_Table_Node : tabT tabD 17 = some (evFn 1000000 cf_cons_Table_Node) := by kernel_rfl
abbrev n_cons_Table_Main : Nat := 18
theorem at_cons_Table_Main : tabT tabD 18 = some (evFn 1000000 cf_cons_Table_Main) := by kernel_rfl
abbrev n_shape_Check : Nat := 25
theorem at_shape_Check : tabT tabD 25 = some (evFn 1000000 cf_shape_Check) := by kernel_rfl
abbrev n_slices_Clone_Type : Nat := 26
theorem at_slices_Clone_Type : tabT tabD 26 = some (evFn 1000000 cf_slices_Clone_Type) := by kernel_rfl
abbrev n_cons_Table_add : Nat := 27
theorem at_cons_Table_add : tabT tabD 27 = some (evFn 1000000 cf_cons_Table_add) := by kernel_rfl
abbrev n_cons_Table_lay : Nat := 28
theorem at_cons_Table_lay : tabT tabD 28 = some (evFn 1000000 cf_cons_Table_lay) := by kernel_rfl
abbrev n_spruelaw3_within : Nat := 29
theorem at_spruelaw3_within : tabT tabD 29 = some (evFn 1000000 cf_spruelaw3_within) := by kernel_rfl
abbrev n_spruelaw3_kid : Nat := 30
theorem at_spruelaw3_kid : tabT tabD 30 = some (evFn 1000000 cf_spruelaw3_kid) := by kernel_rfl
abbrev n_spruelaw3_Name : Nat := 31
theorem at_spruelaw3_Name : tabT tabD 31 = some (evFn 1000000 cf_spruelaw3_Name) := by kernel_rfl
abbrev n_spruelaw3_put : Nat := 32
theorem at_spruelaw3_put : tabT tabD 32 = some (evFn 1000000 cf_spruelaw3_put) := by kernel_rfl
abbrev n_slices_Clone_string : Nat := 33
theorem at_slices_Clone_string : tabT tabD 33 = some (evFn 1000000 cf_slices_Clone_string) := by kernel_rfl
abbrev n_slices_Clone_int : Nat := 34
theorem at_slices_Clone_int : tabT tabD 34 = some (evFn 1000000 cf_slices_Clone_int) := by kernel_rfl
abbrev n_shape_types : Nat := 37
theorem at_shape_types : tabT tabD 37 = some (evFn 1000000 cf_shape_types) := by kernel_rfl
abbrev n_shape_named : Nat := 38
theorem at_shape_named : tabT tabD 38 = some (evFn 1000000 cf_shape_named) := by kernel_rfl
abbrev n_shape_looker_may : Nat := 39
theorem at_shape_looker_may : tabT tabD 39 = some (evFn 1000000 cf_shape_looker_may) := by kernel_rfl
abbrev n_shape_looker_sigs : Nat := 40
theorem at_shape_looker_sigs : tabT tabD 40 = some (evFn 1000000 cf_shape_looker_sigs) := by kernel_rfl
abbrev n_shape_Finite : Nat := 41
theorem at_shape_Finite : tabT tabD 41 = some (evFn 1000000 cf_shape_Finite) := by kernel_rfl
abbrev n_slices_ContainsFunc_Type : Nat := 42
theorem at_slices_ContainsFunc_Type : tabT tabD 42 = some (evFn 1000000 cf_slices_ContainsFunc_Type) := by kernel_rfl
abbrev n_shape_every : Nat := 43
theorem at_shape_every : tabT tabD 43 = some (evFn 1000000 cf_shape_every) := by kernel_rfl
abbrev n_shape_looker_opts : Nat := 44
theorem at_shape_looker_opts : tabT tabD 44 = some (evFn 1000000 cf_shape_looker_opts) := by kernel_rfl
abbrev n_cons_keyed : Nat := 45
theorem at_cons_keyed : tabT tabD 45 = some (evFn 1000000 cf_cons_keyed) := by kernel_rfl
abbrev n_scan_Ident : Nat := 53
theorem at_scan_Ident : tabT tabD 53 = some (evFn 1000000 cf_scan_Ident) := by kernel_rfl
abbrev n_strings_Contains : Nat := 54
theorem at_strings_Contains : tabT tabD 54 = some (hookE containsG).b := by kernel_rfl
abbrev n_shape_kids : Nat := 55
theorem at_shape_kids : tabT tabD 55 = some (evFn 1000000 cf_shape_kids) := by kernel_rfl
abbrev n_shape_fields : Nat := 56
theorem at_shape_fields : tabT tabD 56 = some (evFn 1000000 cf_shape_fields) := by kernel_rfl
abbrev n_shape_Builtin : Nat := 57
theorem at_shape_Builtin : tabT tabD 57 = some (evFn 1000000 cf_shape_Builtin) := by kernel_rfl
abbrev n_shape_looker_all : Nat := 58
theorem at_shape_looker_all : tabT tabD 58 = some (evFn 1000000 cf_shape_looker_all) := by kernel_rfl
abbrev n_shape_ends : Nat := 59
theorem at_shape_ends : tabT tabD 59 = some (evFn 1000000 cf_shape_ends) := by kernel_rfl
abbrev n_slices_IndexFunc_Type : Nat := 60
theorem at_slices_IndexFunc_Type : tabT tabD 60 = some (evFn 1000000 cf_slices_IndexFunc_Type) := by kernel_rfl
abbrev n_scan_digit : Nat := 66
theorem at_scan_digit : tabT tabD 66 = some (evFn 1000000 cf_scan_digit) := by kernel_rfl
abbrev n_scan_row : Nat := 67
theorem at_scan_row : tabT tabD 67 = some (evFn 1000000 cf_scan_row) := by kernel_rfl
abbrev n_shape_ends_1 : Nat := 69
theorem at_shape_ends_1 : tabT tabD 69 = some (evFn 1000000 cf_shape_ends_1) := by kernel_rfl
abbrev n_shape_ends_2 : Nat := 70
theorem at_shape_ends_2 : tabT tabD 70 = some (evFn 1000000 cf_shape_ends_2) := by kernel_rfl
abbrev n_scan_front : Nat := 73
theorem at_scan_front : tabT tabD 73 = some (evFn 1000000 cf_scan_front) := by kernel_rfl
abbrev n_scan_row_1 : Nat := 74
theorem at_scan_row_1 : tabT tabD 74 = some (evFn 1000000 cf_scan_row_1) := by kernel_rfl
abbrev n_scan_letter : Nat := 75
theorem at_scan_letter : tabT tabD 75 = some (evFn 1000000 cf_scan_letter) := by kernel_rfl
theorem mixed : Try.prog.follows .mixedOrders = true := by kernel_rfl
theorem tabD_B {ρ : Nat → Value} {W : World} (hρ : ∀ i, (ρ i).oneCell' = true) (hm : hasM 0 W) : tabD.all fun i e => BodyOK Try.prog ρ ⟨W.heap.size, W⟩ i e.b :=
  ⟨⟨⟨⟨⟨fnD_B cf4_ok Try.func4 (by decide) hρ mixed, fnD_B cf9_ok Try.func9 (by decide) hρ mixed⟩, ⟨fnD_B cf10_ok Try.func10 (by decide) hρ mixed, ⟨fnD_B cf11_ok Try.func11 (by decide) hρ mixed, fnD_B cf12_ok Try.func12 (by decide) hρ mixed⟩⟩⟩, ⟨⟨fnD_B cf14_ok Try.func14 (by decide) hρ mixed, ⟨fnD_B cf15_ok Try.func15 (by decide) hρ mixed, fnD_B cf16_ok Try.func16 (by decide) hρ mixed⟩⟩, ⟨fnD_B cf17_ok Try.func17 (by decide) hρ mixed, ⟨fnD_B cf18_ok Try.func18 (by decide) hρ mixed, fnD_B cf25_ok Try.func25 (by decide) hρ mixed⟩⟩⟩⟩, ⟨⟨⟨fnD_B cf26_ok Try.func26 (by decide) hρ mixed, fnD_B cf27_ok Try.func27 (by decide) hρ mixed⟩, ⟨fnD_B cf28_ok Try.func28 (by decide) hρ mixed, ⟨fnD_B cf29_ok Try.func29 (by decide) hρ mixed, fnD_B cf30_ok Try.func30 (by decide) hρ mixed⟩⟩⟩, ⟨⟨fnD_B cf31_ok Try.func31 (by decide) hρ mixed, ⟨fnD_B cf32_ok Try.func32 (by decide) hρ mixed, fnD_B cf33_ok Try.func33 (by decide) hρ mixed⟩⟩, ⟨fnD_B cf34_ok Try.func34 (by decide) hρ mixed, ⟨fnD_B cf37_ok Try.func37 (by decide) hρ mixed, fnD_B cf38_ok Try.func38 (by decide) hρ mixed⟩⟩⟩⟩⟩, ⟨⟨⟨⟨fnD_B cf39_ok Try.func39 (by decide) hρ mixed, fnD_B cf40_ok Try.func40 (by decide) hρ mixed⟩, ⟨fnD_B cf41_ok Try.func41 (by decide) hρ mixed, ⟨fnD_B cf42_ok Try.func42 (by decide) hρ mixed, fnD_B cf43_ok Try.func43 (by decide) hρ mixed⟩⟩⟩, ⟨⟨fnD_B cf44_ok Try.func44 (by decide) hρ mixed, ⟨fnD_B cf45_ok Try.func45 (by decide) hρ mixed, fnD_B cf53_ok Try.func53 (by decide) hρ mixed⟩⟩, ⟨containsE_B Try.func54 (by kernel_rfl) (by decide) hm fun s sub m w hs hm => Try.strings_Contains s sub m w hs hm, ⟨fnD_B cf55_ok Try.func55 (by decide) hρ mixed, fnD_B cf56_ok Try.func56 (by decide) hρ mixed⟩⟩⟩⟩, ⟨⟨⟨fnD_B cf57_ok Try.func57 (by decide) hρ mixed, fnD_B cf58_ok Try.func58 (by decide) hρ mixed⟩, ⟨fnD_B cf59_ok Try.func59 (by decide) hρ mixed, ⟨fnD_B cf60_ok Try.func60 (by decide) hρ mixed, fnD_B cf66_ok Try.func66 (by decide) hρ mixed⟩⟩⟩, ⟨⟨fnD_B cf67_ok Try.func67 (by decide) hρ mixed, ⟨fnD_B cf69_ok Try.func69 (by decide) hρ mixed, fnD_B cf70_ok Try.func70 (by decide) hρ mixed⟩⟩, ⟨fnD_B cf73_ok Try.func73 (by decide) hρ mixed, ⟨fnD_B cf74_ok Try.func74 (by decide) hρ mixed, fnD_B cf75_ok Try.func75 (by decide) hρ mixed⟩⟩⟩⟩⟩⟩
end Go.Proofs.Ytajifckdgaoncaa
